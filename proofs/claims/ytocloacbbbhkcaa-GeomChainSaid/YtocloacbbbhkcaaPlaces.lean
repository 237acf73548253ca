/- geom.Places. -/
import Derived.Test.YtocloacbbbhkcaaPlacesB
import Derived.WalkHide
namespace Go.Proofs.Ytocloacbbbhkcaa
open Go.RowKit

/-- The walker at first. -/
def wk0 : Wk := { names := [], places := [], ways := [(⟨0, 0, 0⟩, [])], roots := 0 }
/-- All registers' names and places, or the error. -/
def placesS (l : List RegT) : Except Int Wk := downS 7 1 l wk0
/-- How Places ends. -/
def PlacesPost (w : World) (r : Except Int Wk) (e : Ending) (w' : World) : Prop :=
  Ext w w' ∧ match r with
    | .error x => e = .returned (.tuple #[.slice none 0 0, .slice none 0 0, .int .i64 x])
    | .ok σ => ∃ vN vP, e = .returned (.tuple #[vN, vP, .int .i64 0]) ∧ w'.ownsRow 0 9 1 vN σ.names.length (σ.names.map Value.string) ∧ w'.ownsRow 0 34 3 vP σ.places.length (plCells σ.places) ∧ σ.Good

theorem res7 (w : World) (tm : Array Value) (b2 b3 b4 : Nat) (a2 a3 : Option Addr) (n2 m2 n3 m3 : Nat) (x : Int) (h2 : tm.getD 2 undef = .pointer (some ⟨b2, 0, none⟩)) (h3 : tm.getD 3 undef = .pointer (some ⟨b3, 0, none⟩)) (h4 : tm.getD 4 undef = .pointer (some ⟨b4, 0, none⟩))
    (c2 : w.cell? ⟨b2, 0, none⟩ = some (.slice a2 n2 m2)) (c3 : w.cell? ⟨b3, 0, none⟩ = some (.slice a3 n3 m3)) (c4 : w.cell? ⟨b4, 0, none⟩ = some (.int .i64 x)) :
    (results Try.f7 tm).run Try.prog w = .ok (.tuple #[.slice a2 n2 m2, .slice a3 n3 m3, .int .i64 x]) w := by
  simp only [Array.getD_eq_getD_getElem?] at h2 h3 h4
  simp [results, Try.results7, go_sem, h2, h3, h4, c2, c3, c4]
theorem Ext.keep {S : Nat → Prop} {a b c : World} (h : Ext a b) (k : Keep S b c) (hs : ∀ q, S q → a.heap.size ≤ q) : Ext a c :=
  ⟨k.os.trans (Below.os h), k.tape.trans (Below.tape h), k.output.trans (Below.output h), Nat.le_trans (Below.size h) k.size, fun q hq => (k.block q (Nat.lt_of_lt_of_le hq (Below.size h)) (fun hS => by have := hs q hS; omega)).trans (Below.block h q hq)⟩
/-- Without a panic. -/
def noPanic (Q : Exit → Act → World → Prop) : Exit → Act → World → Prop
  | .panic _, _, _ => False
  | e, a, w => Q e a w
theorem wp_noPanic {P : Program} {c : Code} {Q : Exit → Act → World → Prop} {a : Act} {w : World} (h : c.wp P (noPanic Q) a w) : c.wp P Q a w :=
  wp_mono h (fun e a w h => by cases e <;> first | exact h | exact h.elim)
/-- What lies in memory when the loop begins. -/
structure Laid (w W : World) (a : Option Addr) (len cap : Nat) : Prop where
  ext : Ext w W
  size : W.heap.size = w.heap.size + 8
  b0 : W.heap[w.heap.size]? = some (.cells #[.slice none 0 0] 27 (0, 0))
  b1 : W.heap[w.heap.size + 1]? = some (.cells #[.slice none 0 0] 28 (0, 0))
  b2 : W.heap[w.heap.size + 2]? = some (.cells #[.int .i64 0] 29 (0, 0))
  b3 : W.heap[w.heap.size + 3]? = some (.map #[] 0)
  b4 : W.heap[w.heap.size + 4]? = some (.cells #[.int .i64 0, .int .i64 0, .int .i64 0, .slice none 0 0] 45 (0, 0))
  b5 : W.heap[w.heap.size + 5]? = some (.cells #[.slice none 0 0, .slice none 0 0, .map (some (w.heap.size + 3)), .slice (some ⟨w.heap.size + 4, 0, none⟩) 1 1, .int .i64 0] 48 (0, 0))
  b6 : W.heap[w.heap.size + 6]? = some (.cells #[.pointer (some ⟨w.heap.size + 5, 0, none⟩)] 42 (0, 0))
  b7 : W.heap[w.heap.size + 7]? = some (.cells #[.slice a len cap] 24 (0, 0))
theorem new_at (W : World) (o : Obj) (n : Nat) (h : W.heap.size = n) : (W.alloc o).heap[n]? = some o := by subst h; exact heap_alloc_new W o
theorem laid8 (w : World) (a : Option Addr) (len cap : Nat) : Laid w ((((((((w.alloc (.cells #[.slice none 0 0] 27)).alloc (.cells #[.slice none 0 0] 28)).alloc (.cells #[.int .i64 0] 29)).alloc (.map #[] 0)).alloc (.cells #[.int .i64 0, .int .i64 0, .int .i64 0, .slice none 0 0] 45)).alloc (.cells #[.slice none 0 0, .slice none 0 0, .map (some (w.heap.size + 1 + 1 + 1)), .slice (some ⟨w.heap.size + 1 + 1 + 1 + 1, 0, none⟩) 1 1, .int .i64 0] 48)).alloc (.cells #[.pointer (some ⟨w.heap.size + 1 + 1 + 1 + 1 + 1, 0, none⟩)] 42)).alloc (.cells #[.slice a len cap] 24)) a len cap := by
  refine ⟨?_, by simp, ?_, ?_, ?_, ?_, ?_, ?_, ?_, ?_⟩
  · exact (((((((Ext.alloc _ _).trans (Ext.alloc _ _)).trans (Ext.alloc _ _)).trans (Ext.alloc _ _)).trans (Ext.alloc _ _)).trans (Ext.alloc _ _)).trans (Ext.alloc _ _)).trans (Ext.alloc _ _)
  all_goals repeat (first | exact new_at _ _ _ (by simp) | refine (Ext.alloc _ _).block ?_)

theorem start_wk {w W : World} {a : Option Addr} {len cap : Nat} (h : Laid w W a len cap) : WkIn W (w.heap.size + 5) (w.heap.size + 3) (.slice none 0 0) (.slice none 0 0) (.slice (some ⟨w.heap.size + 4, 0, none⟩) 1 1) [.slice none 0 0] wk0 := by
  refine ⟨h.b5, h.b3, World.ownsRow_nil _ _ _ _, World.ownsRow_nil _ _ _ _, ⟨rfl, Or.inr ⟨_, _, _, rfl, Nat.zero_le _, h.b4, by decide, by decide, rfl, rfl⟩⟩, rfl, rfl, ?_, ?_⟩
  · intro i x v hx hv
    match i, hx, hv with
    | 0, hx, hv => simp [wk0] at hx hv; subst hx; subst hv; exact World.ownsRow_nil _ _ _ _
    | i + 1, hx, _ => simp [wk0] at hx
  · have key : ∀ r k, parts (w.heap.size + 5) (w.heap.size + 3) (.slice none 0 0) (.slice none 0 0) (.slice (some ⟨w.heap.size + 4, 0, none⟩) 1 1) [.slice none 0 0] r = some k → (r = 0 ∧ k = w.heap.size + 5) ∨ (r = 1 ∧ k = w.heap.size + 3) ∨ (r = 4 ∧ k = w.heap.size + 4) := by
      intro r k hk
      match r, hk with
      | 0, hk => cases hk; exact Or.inl ⟨rfl, rfl⟩
      | 1, hk => cases hk; exact Or.inr (Or.inl ⟨rfl, rfl⟩)
      | 2, hk => cases hk
      | 3, hk => cases hk
      | 4, hk => cases hk; exact Or.inr (Or.inr ⟨rfl, rfl⟩)
      | 5, hk => cases hk
      | j + 6, hk => simp [parts] at hk
    intro r r' k h1 h2
    rcases key r k h1 with ⟨rfl, e⟩ | ⟨rfl, e⟩ | ⟨rfl, e⟩ <;> rcases key r' k h2 with ⟨rfl, e'⟩ | ⟨rfl, e'⟩ | ⟨rfl, e'⟩ <;> first | rfl | (exfalso; omega)
theorem start_has {n : Nat} : ∀ k, Has (parts (n + 5) (n + 3) (.slice none 0 0) (.slice none 0 0) (.slice (some ⟨n + 4, 0, none⟩) 1 1) [.slice none 0 0]) k → n + 3 ≤ k ∧ k ≤ n + 5 := by
  rintro k ⟨r, hk⟩
  match r, hk with
  | 0, hk => cases hk; omega
  | 1, hk => cases hk; omega
  | 2, hk => cases hk
  | 3, hk => cases hk
  | 4, hk => cases hk; exact ⟨by show n + 3 ≤ n + 4; omega, by show n + 4 ≤ n + 5; omega⟩
  | 5, hk => cases hk
  | j + 6, hk => simp [parts] at hk
theorem start_good : wk0.Good := by
  refine ⟨rfl, ⟨by decide, by decide⟩, by decide, by decide, ?_, ?_⟩
  · intro j x hx
    match j, hx with
    | 0, hx => simp [wk0] at hx; subst hx; exact ⟨by decide, by decide⟩
    | j + 1, hx => simp [wk0] at hx
  · intro j x hx
    match j, hx with
    | 0, hx => simp [wk0] at hx; subst hx; exact ⟨by decide, fun q hq => by simp at hq⟩
    | j + 1, hx => simp [wk0] at hx

set_option maxRecDepth 100000 in
set_option maxHeartbeats 2000000 in
theorem places_any (l : List RegT) (a : Option Addr) (len cap : Nat) (w : World) (hr : RegsIn w w.heap.size (.slice a len cap) l) : Calls Try.prog 7 #[.slice a len cap] w (PlacesPost w (placesS l)) := by
  refine calls_of_wpAt Try.func7 rfl ?_
  simp only [Try.ntmps7, List.size_toArray, List.length_cons, List.length_nil, Nat.reduceAdd, Nat.reduceSub, Array.replicate_succ, Array.replicate_zero, List.push_toArray, List.append_toArray, List.nil_append, List.cons_append]
  have HR := Lib.hid hr
  clear hr
  have hmm := @run_makeMap Try.prog
  refine wpAt_seq (wpAt_of_wp (wp_hide (fun Q1 hQ1 => ?_)))
  go_wp2
  refine wpAt_seq (wpAt_of_wp (wp_hide (fun Q2 hQ2 => ?_)))
  go_wp2
  refine wpAt_seq (wpAt_of_wp (wp_hide (fun Q3 hQ3 => ?_)))
  go_wp2
  refine wpAt_seq (wpAt_seq (wpAt_of_wp (wp_hide (fun Q4 hQ4 => ?_))))
  go_wp2_with (go_at_call 13; refine (all_any _ rfl _).mono ?_; rintro e w' ⟨rfl, rfl⟩)
  refine wpAt_block ?_
  have hld := laid8 w a len cap
  generalize ((((((((w.alloc (.cells #[.slice none 0 0] 27)).alloc (.cells #[.slice none 0 0] 28)).alloc (.cells #[.int .i64 0] 29)).alloc (.map #[] 0)).alloc (.cells #[.int .i64 0, .int .i64 0, .int .i64 0, .slice none 0 0] 45)).alloc (.cells #[.slice none 0 0, .slice none 0 0, .map (some (w.heap.size + 1 + 1 + 1)), .slice (some ⟨w.heap.size + 1 + 1 + 1 + 1, 0, none⟩) 1 1, .int .i64 0] 48)).alloc (.cells #[.pointer (some ⟨w.heap.size + 1 + 1 + 1 + 1 + 1, 0, none⟩)] 42)).alloc (.cells #[.slice a len cap] 24)) = W8 at hld ⊢
  have hz := hld.size
  refine wpAt_range (n := 9) (gf := 15) (lb := #[.pointer (some ⟨w.heap.size + 1 + 1 + 1 + 1 + 1 + 1 + 1, 0, none⟩)]) rfl (enters_of Try.func15 (by kernel_rfl) rfl) ?_
  have hB : W8.cell? ⟨w.heap.size + 7, 0, none⟩ = some (.slice a len cap) := by simp [World.cell?, hld.b7]
  have hy := places_yield (W8.heap.size + 1) (w.heap.size + 6) (w.heap.size + 5) w.heap.size W8.heap.size (.slice a len cap) undef (.pointer (some ⟨w.heap.size, 0, none⟩)) (.pointer (some ⟨w.heap.size + 1, 0, none⟩)) (.pointer (some ⟨w.heap.size + 2, 0, none⟩)) undef
    (.func (.func 12) #[] #[.pointer (some ⟨w.heap.size, 0, none⟩), .pointer (some ⟨w.heap.size + 1, 0, none⟩), .pointer (some ⟨w.heap.size + 2, 0, none⟩)]) (.map (some (w.heap.size + 3)))
    (.agg #[.int .i64 0, .int .i64 0, .int .i64 0, .slice none 0 0]) (.slice (some ⟨w.heap.size + 4, 0, none⟩) 1 1) (.agg #[.slice none 0 0, .slice none 0 0, .map (some (w.heap.size + 3)), .slice (some ⟨w.heap.size + 4, 0, none⟩) 1 1, .int .i64 0])
    (.pointer (some ⟨w.heap.size + 5, 0, none⟩)) (.slice a len cap) (.func (.func 15) #[] #[.pointer (some ⟨w.heap.size + 7, 0, none⟩)]) undef undef undef undef undef undef undef undef undef undef undef undef
  generalize hrec : recOf 7 _ #[15] plLoop.2.1 plLoop.2.2 W8.heap.size = rec at hy
  obtain ⟨W10, hW10⟩ : ∃ W10, (W8.alloc (.deferred (some []))).alloc (.loop (rec .ready none)) = W10 := ⟨_, rfl⟩
  have x10 : Ext W8 W10 := by rw [← hW10]; exact (Ext.alloc _ _).trans (Ext.alloc _ _)
  have hD : W10.heap[W8.heap.size]? = some (.deferred (some [])) := by rw [← hW10]; exact (Ext.alloc _ _).block (heap_alloc_new W8 _)
  have hL : W10.heap[W8.heap.size + 1]? = some (.loop (rec .ready none)) := by rw [← hW10]; exact new_at _ _ _ (by simp)
  have hst : PSt (W8.heap.size + 1) (w.heap.size + 6) (w.heap.size + 5) w.heap.size rec (fun k => Has (parts (w.heap.size + 5) (w.heap.size + 3) (.slice none 0 0) (.slice none 0 0) (.slice (some ⟨w.heap.size + 4, 0, none⟩) 1 1) [.slice none 0 0]) k ∨ k = W8.heap.size + 1) wk0 W10 :=
    ⟨_, _, _, _, _, (start_wk hld).ext x10, start_good, fun k => Iff.rfl, hL, x10.block hld.b6, fun k hk => by have := start_has k hk; omega, by omega, by omega, fun hk => by have := start_has _ hk; omega, fun hk => by have := start_has _ hk; omega⟩
  have main := all1_in (W8.heap.size + 1) w.heap.size (w.heap.size + 7) (PSt (W8.heap.size + 1) (w.heap.size + 6) (w.heap.size + 5) w.heap.size rec) PSt.ext PSt.lt hy l a len cap _ wk0 W10 9 (x10.cell hB) (HR.out.same (fun k hk => (Below.block x10 k (by omega)).trans (Below.block hld.ext k hk))) hst (by decide)
  have HMAIN := main
  rw [← hW10, ← hrec] at main
  refine main.mono ?_
  clear main hy
  intro e W' hAP
  change rangeEnd _ _ _ _ (recOf 7 _ #[15] plLoop.2.1 plLoop.2.2 W8.heap.size) _ _ _ _
  rw [hrec] at hAP ⊢
  rw [hW10] at hAP
  clear hrec
  obtain ⟨kA, hm⟩ := hAP
  have notin : ∀ k, k < w.heap.size + 3 ∨ k = w.heap.size + 6 ∨ k = W8.heap.size → ¬ (Has (parts (w.heap.size + 5) (w.heap.size + 3) (.slice none 0 0) (.slice none 0 0) (.slice (some ⟨w.heap.size + 4, 0, none⟩) 1 1) [.slice none 0 0]) k ∨ k = W8.heap.size + 1) := by
    rintro k hk (h | h)
    · have := start_has k h; omega
    · omega
  have s10 : W8.heap.size + 1 < W10.heap.size := (Array.getElem?_eq_some_iff.1 hL).1
  have hD' : W'.heap[W8.heap.size]? = some (.deferred (some [])) := by rw [kA.block _ (by omega) (notin _ (Or.inr (Or.inr rfl)))]; exact hD
  have c0 : W'.heap[w.heap.size]? = some (.cells #[.slice none 0 0] 27 (0, 0)) := by rw [kA.block _ (by omega) (notin _ (by omega))]; exact x10.block hld.b0
  have c1 : W'.heap[w.heap.size + 1]? = some (.cells #[.slice none 0 0] 28 (0, 0)) := by rw [kA.block _ (by omega) (notin _ (by omega))]; exact x10.block hld.b1
  have c2 : W'.heap[w.heap.size + 2]? = some (.cells #[.int .i64 0] 29 (0, 0)) := by rw [kA.block _ (by omega) (notin _ (by omega))]; exact x10.block hld.b2
  have ext' : Ext w W' := ⟨by rw [kA.os, Below.os x10, Below.os hld.ext], by rw [kA.tape, Below.tape x10, Below.tape hld.ext], by rw [kA.output, Below.output x10, Below.output hld.ext], by have := kA.size; omega, fun k hk => by
    rw [kA.block k (by omega) (notin _ (by omega)), Below.block x10 k (by omega), Below.block hld.ext k hk]⟩
  have ki : ∀ (c : Array Value) (W : World), (invoke (.fn (.func 12) c) #[]).run Try.prog W = .ok (.enter 12 (#[] ++ c)) W := fun c W => by
    simp [invoke, go_sem]
  cases hp : placesS l with
  | error x =>
    have hm' : e = stopped x := by
      have h : match placesS l with | .error x => e = stopped x | .ok σ' => _ := hm
      rw [hp] at h; exact h
    subst hm'
    show LeavesInM Fence.wide 1 Try.prog Try.f7 _ _ _ _ _
    refine ⟨by simp, Or.inl ⟨W8.heap.size, _, rfl, run_takeDeferred hD', ?_⟩⟩
    have kD := Keep.putLoop (fun k => k = W8.heap.size) W' W8.heap.size (.deferred none) rfl
    have sW : W8.heap.size < W'.heap.size := (Array.getElem?_eq_some_iff.1 hD').1
    refine ⟨by simp, Or.inr ⟨fun h => (by cases h), _, _, 12, _, rfl, ki _ _, fun _ _ => trivial, ?_⟩⟩
    refine (places1_rec w.heap.size (w.heap.size + 1) (w.heap.size + 2) x _ _ _ _ _ (by rw [kD.block _ (by omega) (by show ¬ _ = _; omega)]; exact c0) (by rw [kD.block _ (by omega) (by show ¬ _ = _; omega)]; exact c1) (by rw [kD.block _ (by omega) (by show ¬ _ = _; omega)]; exact c2) (by omega) (by omega) (by omega)).mono ?_
    rintro e' u' w'' ⟨rfl, rfl, kR, t0, t1, t2⟩
    refine ⟨_, res7 w'' _ w.heap.size (w.heap.size + 1) (w.heap.size + 2) _ _ _ _ _ _ _ rfl rfl rfl (cell_of_one t0) (cell_of_one t1) (cell_of_one t2), ?_, rfl⟩
    exact (ext'.keep kD (fun q (e : q = W8.heap.size) => by omega)).keep kR (fun q h => by rcases h with h | h | h <;> omega)
  | ok σ =>
    have hm' : e = .returned (.tuple #[]) ∧ ∃ ρ', PSt (W8.heap.size + 1) (w.heap.size + 6) (w.heap.size + 5) w.heap.size rec ρ' σ W' ∧ ∀ k, ρ' k → (Has (parts (w.heap.size + 5) (w.heap.size + 3) (.slice none 0 0) (.slice none 0 0) (.slice (some ⟨w.heap.size + 4, 0, none⟩) 1 1) [.slice none 0 0]) k ∨ k = W8.heap.size + 1) ∨ W10.heap.size ≤ k := by
      have h : match placesS l with | .error x => e = stopped x | .ok σ' => _ := hm
      rw [hp] at h; exact h
    obtain ⟨rfl, ρ', ⟨bm, vN, vP, vW, ws, hK, hG, hρ, hL', hBP', hn0, hnL, hBL, hLP, hBPP⟩, hgr⟩ := hm'
    obtain ⟨aN, nN, cN, rfl⟩ : ∃ aN nN cN, vN = .slice aN nN cN := by obtain ⟨a, cap, e, _, _⟩ := (Row.of_owns (WkG.nm hK)).shape; exact ⟨a, _, cap, e⟩
    obtain ⟨aP, nP, cP, rfl⟩ : ∃ aN nN cN, vP = .slice aN nN cN := by obtain ⟨a, cap, e, _, _⟩ := (Row.of_owns (WkG.pl hK)).shape; exact ⟨a, _, cap, e⟩
    refine ⟨.ready, none, hL', by simp, ?_⟩
    show wpAt _ _ _ _ _ _ _
    have kL := Keep.putLoop (fun k => k = W8.heap.size + 1) W' (W8.heap.size + 1) (.loop (rec .exhausted none)) rfl
    have sW : W8.heap.size + 1 < W'.heap.size := (Array.getElem?_eq_some_iff.1 hL').1
    have K2 := Lib.hid (hK.put (W8.heap.size + 1) (.loop (rec .exhausted none)) hLP)
    have c0 : (W'.putObj (W8.heap.size + 1) (.loop (rec .exhausted none))).heap[w.heap.size]? = some (.cells #[.slice none 0 0] 27 (0, 0)) := by rw [kL.block _ (by omega) (by show ¬ _ = _; omega)]; exact c0
    have c1 : (W'.putObj (W8.heap.size + 1) (.loop (rec .exhausted none))).heap[w.heap.size + 1]? = some (.cells #[.slice none 0 0] 28 (0, 0)) := by rw [kL.block _ (by omega) (by show ¬ _ = _; omega)]; exact c1
    have c2 : (W'.putObj (W8.heap.size + 1) (.loop (rec .exhausted none))).heap[w.heap.size + 2]? = some (.cells #[.int .i64 0] 29 (0, 0)) := by rw [kL.block _ (by omega) (by show ¬ _ = _; omega)]; exact c2
    have cP6 : (W'.putObj (W8.heap.size + 1) (.loop (rec .exhausted none))).heap[w.heap.size + 6]? = some (.cells #[.pointer (some ⟨w.heap.size + 5, 0, none⟩)] 42 (0, 0)) := by rw [kL.block _ (by omega) (by show ¬ _ = _; omega)]; exact hBP'
    have hD2 : (W'.putObj (W8.heap.size + 1) (.loop (rec .exhausted none))).heap[W8.heap.size]? = some (.deferred (some [])) := by rw [kL.block _ (by omega) (by show ¬ _ = _; omega)]; exact hD'
    have ext2 := ext'.keep kL (fun q (e : q = W8.heap.size + 1) => by omega)
    have nin : ∀ k, k < w.heap.size + 3 ∨ k = w.heap.size + 6 ∨ k = W8.heap.size → ¬ Has (parts (w.heap.size + 5) bm (.slice aN nN cN) (.slice aP nP cP) vW ws) k := fun k hk h => by
      rcases hgr k ((hρ k).2 (Or.inl h)) with h | h
      · exact notin k hk h
      · omega
    have x2 := Lib.hid ext2
    clear hK hρ hL' hBP' hn0 hnL hBL hLP hBPP hgr kA hm kL ext2 ext' hD' hst HMAIN notin hL hD x10 hld hB s10 sW
    clear hW10
    generalize W'.putObj (W8.heap.size + 1) (.loop (rec .exhausted none)) = Wa at K2 c0 c1 c2 cP6 hD2 x2 ⊢
    refine wpAt_seq (wpAt_of_wp (wp_noPanic ?_))
    simp only [Nat.add_assoc, Nat.reduceAdd]
    obtain ⟨w0, w1, _, _, _⟩ := K2.out.cells
    refine wp_region_M (fun w' => w'.cell? ⟨w.heap.size + 6, 0, none⟩ = some (.pointer (some ⟨w.heap.size + 5, 0, none⟩)) ∧ w'.cell? ⟨w.heap.size + 5, 0, none⟩ = some (.slice aN nN cN) ∧ w'.cell? ⟨w.heap.size + 5, 1, none⟩ = some (.slice aP nP cP)) 10 (by kernel_rfl) ⟨cell_of_one cP6, w0, w1⟩ (fun hS => ?_)
    have xd : Ext Wa Wa.drew := Ext.drew Wa
    have K2 := Lib.hid (K2.out.ext xd)
    have x2 := Lib.hid (x2.out.trans xd)
    have c0 := xd.block c0
    have c1 := xd.block c1
    have c2 := xd.block c2
    have hD2 := xd.block hD2
    generalize Wa.drew = Wb at K2 x2 c0 c1 c2 hD2 hS ⊢
    clear xd w0 w1 cP6
    refine wpAnyM_take (v := ?_) 0 rfl (by kernel_rfl) (fun _ _ _ h => h) hS rfl ?_ ?_; rotate_left; · (intro w hSw; (try dsimp only at hSw); go_simp; try with_reducible rfl)
    (try simp only [Act.put, List.setIfInBounds_toArray, List.set_cons_zero, List.set_cons_succ])
    refine wpAnyM_take (v := ?_) 1 rfl (by kernel_rfl) (fun _ _ _ h => h) hS rfl ?_ ?_; rotate_left; · (intro w hSw; (try dsimp only at hSw); go_simp; try with_reducible rfl)
    (try simp only [Act.put, List.setIfInBounds_toArray, List.set_cons_zero, List.set_cons_succ])
    refine wpAnyM_take (v := ?_) 2 rfl (by kernel_rfl) (fun _ _ _ h => h) hS rfl ?_ ?_; rotate_left; · (intro w hSw; (try dsimp only at hSw); go_simp; try with_reducible rfl)
    (try simp only [Act.put, List.setIfInBounds_toArray, List.set_cons_zero, List.set_cons_succ])
    refine wpAnyM_take (v := ?_) 3 rfl (by kernel_rfl) (fun _ _ _ h => h) hS rfl ?_ ?_; rotate_left; · (intro w hSw; (try dsimp only at hSw); go_simp; try with_reducible rfl)
    (try simp only [Act.put, List.setIfInBounds_toArray, List.set_cons_zero, List.set_cons_succ])
    refine wpAnyM_take (v := ?_) 4 rfl (by kernel_rfl) (fun _ _ _ h => h) hS rfl ?_ ?_; rotate_left; · (intro w hSw; (try dsimp only at hSw); go_simp; try with_reducible rfl)
    (try simp only [Act.put, List.setIfInBounds_toArray, List.set_cons_zero, List.set_cons_succ])
    refine wpAnyM_take (v := ?_) 5 rfl (by kernel_rfl) (fun _ _ _ h => h) hS rfl ?_ ?_; rotate_left; · (intro w hSw; (try dsimp only at hSw); go_simp; try with_reducible rfl)
    (try simp only [Act.put, List.setIfInBounds_toArray, List.set_cons_zero, List.set_cons_succ])
    refine wpAnyM_take (v := ?_) 6 rfl (by kernel_rfl) (fun _ _ _ h => h) hS rfl ?_ ?_; rotate_left; · (intro w hSw; (try dsimp only at hSw); go_simp; try with_reducible rfl)
    (try simp only [Act.put, List.setIfInBounds_toArray, List.set_cons_zero, List.set_cons_succ])
    refine wpAnyM_take (v := ?_) 7 rfl (by kernel_rfl) (fun _ _ _ h => h) hS rfl ?_ ?_; rotate_left; · (intro w hSw; (try dsimp only at hSw); go_simp; try with_reducible rfl)
    (try simp only [Act.put, List.setIfInBounds_toArray, List.set_cons_zero, List.set_cons_succ])
    refine wpAnyM_ready [8] (by kernel_rfl) rfl ?_
    refine AllM.cons rfl rfl (fun K hK => ?_) AllM.nil
    have e8 := cell_of_one c0
    have f8 := free_of_one c0
    go_simp
    have k8 := Keep.setCell (fun k => k = w.heap.size) Wb ⟨w.heap.size, 0, none⟩ (.slice aN nN cN) rfl
    have t0 : (Wb.setCell ⟨w.heap.size, 0, none⟩ (.slice aN nN cN)).heap[w.heap.size]? = some (.cells #[.slice aN nN cN] 27 (0, 0)) := heap_set_cells c0 0 _
    have K8 := Lib.hid (WkG.same K2.out (fun r k hk => k8.block k (WkG.lt K2.out r k hk) (fun e => nin k (by omega) ⟨r, hk⟩)))
    have x8 := x2.out.keep k8 (fun q (e : q = w.heap.size) => by omega)
    have D8 : (Wb.setCell ⟨w.heap.size, 0, none⟩ (.slice aN nN cN)).heap[W8.heap.size]? = some (.deferred (some [])) := by rw [k8.block _ (Array.getElem?_eq_some_iff.1 hD2).1 (by show ¬ _ = _; omega)]; exact hD2
    have S8 : (fun w' => w'.cell? ⟨w.heap.size + 6, 0, none⟩ = some (.pointer (some ⟨w.heap.size + 5, 0, none⟩)) ∧ w'.cell? ⟨w.heap.size + 5, 0, none⟩ = some (.slice aN nN cN) ∧ w'.cell? ⟨w.heap.size + 5, 1, none⟩ = some (.slice aP nP cP)) (Wb.setCell ⟨w.heap.size, 0, none⟩ (.slice aN nN cN)) := ⟨k8.cell hS.1 (fun (h : w.heap.size + 6 = w.heap.size) => by omega), k8.cell hS.2.1 (fun (h : w.heap.size + 5 = w.heap.size) => by omega), k8.cell hS.2.2 (fun (h : w.heap.size + 5 = w.heap.size) => by omega)⟩
    refine hK.out _ _ S8 ?_
    (try simp only [Act.put, List.setIfInBounds_toArray, List.set_cons_zero, List.set_cons_succ])
    clear hK K e8 f8 hS
    have hS := S8
    have c1 : (Wb.setCell ⟨w.heap.size, 0, none⟩ (.slice aN nN cN)).heap[w.heap.size + 1]? = some (.cells #[.slice none 0 0] 28 (0, 0)) := by rw [k8.block _ (Array.getElem?_eq_some_iff.1 c1).1 (by show ¬ _ = _; omega)]; exact c1
    have c2 : (Wb.setCell ⟨w.heap.size, 0, none⟩ (.slice aN nN cN)).heap[w.heap.size + 2]? = some (.cells #[.int .i64 0] 29 (0, 0)) := by rw [k8.block _ (Array.getElem?_eq_some_iff.1 c2).1 (by show ¬ _ = _; omega)]; exact c2
    clear K2 x2 hD2
    have K2 := K8
    have x2 := Lib.hid x8
    have hD2 := D8
    clear K8 x8 D8
    generalize Wb.setCell ⟨w.heap.size, 0, none⟩ (.slice aN nN cN) = Wc at K2 x2 hD2 t0 c1 c2 hS S8 k8 ⊢
    refine wpAnyM_ready [9] (by kernel_rfl) rfl ?_
    refine AllM.cons rfl rfl (fun K hK => ?_) AllM.nil
    have e9 := cell_of_one c1
    have f9 := free_of_one c1
    go_simp
    have k9 := Keep.setCell (fun k => k = w.heap.size + 1) Wc ⟨w.heap.size + 1, 0, none⟩ (.slice aP nP cP) rfl
    have t1 : (Wc.setCell ⟨w.heap.size + 1, 0, none⟩ (.slice aP nP cP)).heap[w.heap.size + 1]? = some (.cells #[.slice aP nP cP] 28 (0, 0)) := heap_set_cells c1 0 _
    have K9 := Lib.hid (WkG.same K2.out (fun r k hk => k9.block k (WkG.lt K2.out r k hk) (fun e => nin k (by omega) ⟨r, hk⟩)))
    have x9 := x2.out.keep k9 (fun q (e : q = w.heap.size + 1) => by omega)
    have D9 : (Wc.setCell ⟨w.heap.size + 1, 0, none⟩ (.slice aP nP cP)).heap[W8.heap.size]? = some (.deferred (some [])) := by rw [k9.block _ (Array.getElem?_eq_some_iff.1 hD2).1 (by show ¬ _ = _; omega)]; exact hD2
    have S9 : (fun w' => w'.cell? ⟨w.heap.size + 6, 0, none⟩ = some (.pointer (some ⟨w.heap.size + 5, 0, none⟩)) ∧ w'.cell? ⟨w.heap.size + 5, 0, none⟩ = some (.slice aN nN cN) ∧ w'.cell? ⟨w.heap.size + 5, 1, none⟩ = some (.slice aP nP cP)) (Wc.setCell ⟨w.heap.size + 1, 0, none⟩ (.slice aP nP cP)) := ⟨k9.cell hS.1 (fun (h : w.heap.size + 6 = w.heap.size + 1) => by omega), k9.cell hS.2.1 (fun (h : w.heap.size + 5 = w.heap.size + 1) => by omega), k9.cell hS.2.2 (fun (h : w.heap.size + 5 = w.heap.size + 1) => by omega)⟩
    refine hK.out _ _ S9 ?_
    (try simp only [Act.put, List.setIfInBounds_toArray, List.set_cons_zero, List.set_cons_succ])
    clear hK K e9 f9 hS
    have hS := S9
    have t0 : (Wc.setCell ⟨w.heap.size + 1, 0, none⟩ (.slice aP nP cP)).heap[w.heap.size]? = some (.cells #[.slice aN nN cN] 27 (0, 0)) := by rw [k9.block _ (Array.getElem?_eq_some_iff.1 t0).1 (by show ¬ _ = _; omega)]; exact t0
    have c2 : (Wc.setCell ⟨w.heap.size + 1, 0, none⟩ (.slice aP nP cP)).heap[w.heap.size + 2]? = some (.cells #[.int .i64 0] 29 (0, 0)) := by rw [k9.block _ (Array.getElem?_eq_some_iff.1 c2).1 (by show ¬ _ = _; omega)]; exact c2
    clear K2 x2 hD2
    have K2 := K9
    have x2 := Lib.hid x9
    have hD2 := D9
    clear K9 x9 D9
    generalize Wc.setCell ⟨w.heap.size + 1, 0, none⟩ (.slice aP nP cP) = Wd at K2 x2 hD2 t1 t0 c2 hS S9 k9 ⊢
    refine wpAnyM_ready [10] (by kernel_rfl) rfl ?_
    refine AllM.late rfl rfl (by kernel_rfl) (fun K hK => ?_) AllM.nil
    have e10 := cell_of_one c2
    have f10 := free_of_one c2
    go_simp
    have k10 := Keep.setCell (fun k => k = w.heap.size + 2) Wd ⟨w.heap.size + 2, 0, none⟩ (.int .i64 0) rfl
    have t2 : (Wd.setCell ⟨w.heap.size + 2, 0, none⟩ (.int .i64 0)).heap[w.heap.size + 2]? = some (.cells #[.int .i64 0] 29 (0, 0)) := heap_set_cells c2 0 _
    have K10 := Lib.hid (WkG.same K2.out (fun r k hk => k10.block k (WkG.lt K2.out r k hk) (fun e => nin k (by omega) ⟨r, hk⟩)))
    have x10 := x2.out.keep k10 (fun q (e : q = w.heap.size + 2) => by omega)
    have D10 : (Wd.setCell ⟨w.heap.size + 2, 0, none⟩ (.int .i64 0)).heap[W8.heap.size]? = some (.deferred (some [])) := by rw [k10.block _ (Array.getElem?_eq_some_iff.1 hD2).1 (by show ¬ _ = _; omega)]; exact hD2
    refine hK.out _ _ ?_
    (try simp only [Act.put, List.setIfInBounds_toArray, List.set_cons_zero, List.set_cons_succ])
    clear hK K e10 f10
    have t0 : (Wd.setCell ⟨w.heap.size + 2, 0, none⟩ (.int .i64 0)).heap[w.heap.size]? = some (.cells #[.slice aN nN cN] 27 (0, 0)) := by rw [k10.block _ (Array.getElem?_eq_some_iff.1 t0).1 (by show ¬ _ = _; omega)]; exact t0
    have t1 : (Wd.setCell ⟨w.heap.size + 2, 0, none⟩ (.int .i64 0)).heap[w.heap.size + 1]? = some (.cells #[.slice aP nP cP] 28 (0, 0)) := by rw [k10.block _ (Array.getElem?_eq_some_iff.1 t1).1 (by show ¬ _ = _; omega)]; exact t1
    clear K2 x2 hD2
    have K2 := K10
    have x2 := Lib.hid x10
    have hD2 := D10
    clear K10 x10 D10
    generalize Wd.setCell ⟨w.heap.size + 2, 0, none⟩ (.int .i64 0) = We at K2 x2 hD2 t2 t0 t1 k10 ⊢
    refine wpAnyM_done (by kernel_rfl) ?_ _
    show wpAt _ _ _ _ _ _ _
    refine wpAt_of_wp (wp_ret ?_)
    rw [hz] at hD2
    show LeavesInM Fence.wide 1 Try.prog Try.f7 _ _ _ _ _
    refine ⟨by simp, Or.inl ⟨w.heap.size + 8, _, rfl, run_takeDeferred hD2, ?_⟩⟩
    have kD := Keep.putLoop (fun k => k = w.heap.size + 8) We (w.heap.size + 8) (.deferred none) rfl
    have sW : w.heap.size + 8 < We.heap.size := (Array.getElem?_eq_some_iff.1 hD2).1
    refine ⟨by simp, Or.inr ⟨fun h => (by cases h), _, _, 12, _, rfl, ki _ _, fun _ _ => trivial, ?_⟩⟩
    refine (places1_ret w.heap.size (w.heap.size + 1) (w.heap.size + 2) _ _).mono ?_
    rintro e' u' w'' ⟨rfl, rfl, rfl⟩
    refine ⟨_, res7 _ _ w.heap.size (w.heap.size + 1) (w.heap.size + 2) _ _ _ _ _ _ _ rfl rfl rfl (kD.cell (cell_of_one t0) (fun (h : w.heap.size = w.heap.size + 8) => by omega)) (kD.cell (cell_of_one t1) (fun (h : w.heap.size + 1 = w.heap.size + 8) => by omega)) (kD.cell (cell_of_one t2) (fun (h : w.heap.size + 2 = w.heap.size + 8) => by omega)), x2.out.keep kD (fun q (e : q = w.heap.size + 8) => by omega), _, _, rfl, ?_, ?_, hG⟩
    · exact owns_same (WkG.nm K2.out) (fun k e => kD.block k (WkG.lt K2.out 2 k e) (fun (h : k = w.heap.size + 8) => nin k (Or.inr (Or.inr (by omega))) ⟨2, e⟩))
    · exact owns_same (WkG.pl K2.out) (fun k e => kD.block k (WkG.lt K2.out 3 k e) (fun (h : k = w.heap.size + 8) => nin k (Or.inr (Or.inr (by omega))) ⟨3, e⟩))
end Go.Proofs.Ytocloacbbbhkcaa
