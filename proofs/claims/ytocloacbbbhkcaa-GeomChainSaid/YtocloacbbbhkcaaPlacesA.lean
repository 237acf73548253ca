/- One round of geom.Places' loop. -/
import Derived.Test.YtocloacbbbhkcaaDown
import Derived.Test.YtocloacbbbhkcaaGood
import Derived.RangeFuncCalls
namespace Go.Proofs.Ytocloacbbbhkcaa
open Go.RowKit
attribute [local go_sem] Oper.semAt_some

/-- The loop over a function within a body. -/
def findRF : Code → Option (Array Tmp × Code × Code)
  | .rangeFunc _ ps a b => some (ps, a, b)
  | .seq a b => match findRF a with
    | some x => some x
    | none => findRF b
  | .block _ c => findRF c
  | .loop c => findRF c
  | .cond _ a b => match findRF a with
    | some x => some x
    | none => findRF b
  | _ => none
noncomputable def plLoop : Array Tmp × Code × Code := ((Try.f7.body.bind findRF).getD (#[], .skip, .skip))

/-- The walker, its pointer and the loop's record, between two rounds. -/
def PSt (L BP bw n0 : Nat) (rec : LoopState → Option Code → Loop) (ρ : Nat → Prop) (σ : Wk) (W : World) : Prop :=
  ∃ bm vN vP vW ws, WkIn W bw bm vN vP vW ws σ ∧ σ.Good ∧ (∀ k, ρ k ↔ Has (parts bw bm vN vP vW ws) k ∨ k = L) ∧
    W.heap[L]? = some (.loop (rec .ready none)) ∧ W.heap[BP]? = some (.cells #[.pointer (some ⟨bw, 0, none⟩)] 42 (0, 0)) ∧
    (∀ k, Has (parts bw bm vN vP vW ws) k → n0 ≤ k) ∧ n0 ≤ L ∧ BP ≠ L ∧ ¬ Has (parts bw bm vN vP vW ws) L ∧ ¬ Has (parts bw bm vN vP vW ws) BP

theorem PSt.ext {L BP bw n0 : Nat} {rec : LoopState → Option Code → Loop} : ∀ ρ σ W W', PSt L BP bw n0 rec ρ σ W → Ext W W' → PSt L BP bw n0 rec ρ σ W' := by
  rintro ρ σ W W' ⟨bm, vN, vP, vW, ws, h1, h2, h3, h4, h5, h6, h7⟩ x
  exact ⟨bm, vN, vP, vW, ws, h1.ext x, h2, h3, x.block h4, x.block h5, h6, h7⟩
theorem PSt.lt {L BP bw n0 : Nat} {rec : LoopState → Option Code → Loop} : ∀ ρ σ W, PSt L BP bw n0 rec ρ σ W → n0 ≤ W.heap.size ∧ ∀ k, ρ k → n0 ≤ k ∧ k < W.heap.size := by
  rintro ρ σ W ⟨bm, vN, vP, vW, ws, h1, h2, h3, h4, h5, h6, h7, _⟩
  have hL : L < W.heap.size := (Array.getElem?_eq_some_iff.1 h4).1
  refine ⟨by omega, fun k hk => ?_⟩
  rcases (h3 k).1 hk with h | rfl
  · exact ⟨h6 k h, h1.lt k h⟩
  · exact ⟨h7, hL⟩

theorem Keep.mono {S S' : Nat → Prop} {w w' : World} (h : Keep S w w') (hs : ∀ k, S k → S' k) : Keep S' w w' := ⟨h.os, h.tape, h.output, h.size, fun k hk hn => h.block k hk (fun x => hn (hs k x))⟩
theorem Keep.putLoop (S : Nat → Prop) (w : World) (l : Nat) (o : Obj) (h : S l) : Keep S w (w.putObj l o) := Keep.putObj S w l o h
theorem WkIn.put {W : World} {bw bm : Nat} {vN vP vW : Value} {ws : List Value} {σ : Wk} (h : WkIn W bw bm vN vP vW ws σ) (l : Nat) (o : Obj) (hn : ¬ Has (parts bw bm vN vP vW ws) l) : WkIn (W.putObj l o) bw bm vN vP vW ws σ :=
  WkG.same h fun r k hk => (Keep.putObj (fun q => q = l) W l o rfl).block k (WkG.lt h r k hk) (fun e => hn (e ▸ ⟨r, hk⟩))

set_option maxRecDepth 100000 in
set_option maxHeartbeats 2000000 in
theorem places_yield (L BP bw n0 D : Nat) (u0 u1 u2 u3 u4 u6 u7 u8 u9 u10 u11 u12 u13 u14 u15 u16 u17 u18 u19 u20 u21 u22 u23 u24 u25 u26 : Value) : ∀ (m : Nat) (ρ : Nat → Prop) (σ : Wk) (W : World) (name : ByteArray) (width beg : Int) (ua : Option Addr) (un uc d : Nat),
    PSt L BP bw n0 (recOf 7 #[u0, u1, u2, u3, u4, .pointer (some ⟨BP, 0, none⟩), u6, u7, u8, u9, u10, u11, u12, u13, u14, u15, u16, u17, u18, u19, u20, u21, u22, u23, u24, u25, u26] #[15] plLoop.2.1 plLoop.2.2 D) ρ σ W → fits64 width → fits64 beg → 1 ≤ d → d ≤ 7 → d ≤ σ.ways.length →
    YieldAt Fence.wide m Try.prog L #[.agg #[.string name, .int .i64 width, .int .i64 beg, .slice ua un uc, .int .i64 d]] W (DP (PSt L BP bw n0 (recOf 7 #[u0, u1, u2, u3, u4, .pointer (some ⟨BP, 0, none⟩), u6, u7, u8, u9, u10, u11, u12, u13, u14, u15, u16, u17, u18, u19, u20, u21, u22, u23, u24, u25, u26] #[15] plLoop.2.1 plLoop.2.2 D)) ρ W (d + 1) (oneS σ name width beg d)) := by
  intro m ρ σ W name width beg ua un uc d hst hwid hbeg h1 h7 hdw
  have hstP := Lib.hid hst
  obtain ⟨bm, vN, vP, vW, ws, hK, hG, hρ, hL, hBP, hn0, hnL, hBL, hLP, hBPP⟩ := hst
  obtain ⟨bW, capW, rfl, _, _⟩ := (WkG.wy hK).form (by omega)
  obtain ⟨i, rfl⟩ : ∃ i, d = i + 1 := ⟨d - 1, by omega⟩
  refine yieldAt_of Try.func7 hL (by rfl) ?_
  refine wpAt_of_in (n := 5) ?_
  conv => arg 4; whnf
  generalize hrec : recOf 7 #[u0, u1, u2, u3, u4, .pointer (some ⟨BP, 0, none⟩), u6, u7, u8, u9, u10, u11, u12, u13, u14, u15, u16, u17, u18, u19, u20, u21, u22, u23, u24, u25, u26] #[15] plLoop.2.1 plLoop.2.2 D = rec at *
  refine wpIn_mono (Q := fun e a' w' => e = .normal ∧ a' = { tmps := #[u0, u1, u2, u3, u4, .pointer (some ⟨BP, 0, none⟩), .pointer (some ⟨W.heap.size, 0, none⟩), u7, u8, u9, u10, u11, u12, u13, u14, .agg #[.string name, .int .i64 width, .int .i64 beg, .slice ua un uc, .int .i64 ((i : Int) + 1)], u16, u17, u18, u19, u20, u21, u22, u23, u24, u25, u26], defers := [] } ∧ w' = W.alloc (.cells #[.string name, .int .i64 width, .int .i64 beg, .slice ua un uc, .int .i64 ((i : Int) + 1)] 53)) ?_ ?_
  · clear hK hG hρ hL hBP hn0 hnL hBL hLP hBPP hstP hrec
    gi_wp2
  rintro e a' w' ⟨rfl, rfl, rfl⟩
  have xa : Ext W (W.alloc (.cells #[.string name, .int .i64 width, .int .i64 beg, .slice ua un uc, .int .i64 ((i : Int) + 1)] 53)) := Ext.alloc _ _
  refine ⟨xa.block hL, ?_⟩
  have k1 : Keep (fun q => q = L) W ((W.alloc (.cells #[.string name, .int .i64 width, .int .i64 beg, .slice ua un uc, .int .i64 ((i : Int) + 1)] 53)).putObj L (.loop (rec .busy none))) := (Keep.of_ext xa).trans (Keep.putLoop (fun q => q = L) _ L _ rfl) (fun _ _ h => h)
  have lL : L < W.heap.size := (Array.getElem?_eq_some_iff.1 hL).1
  have K2 := Lib.hid ((hK.ext xa).put L (.loop (rec .busy none)) hLP)
  have L2 : ((W.alloc (.cells #[.string name, .int .i64 width, .int .i64 beg, .slice ua un uc, .int .i64 ((i : Int) + 1)] 53)).putObj L (.loop (rec .busy none))).heap[L]? = some (.loop (rec .busy none)) := by
    show (Array.setIfInBounds _ L _)[L]? = _
    rw [Array.getElem?_setIfInBounds, if_pos rfl, if_pos (Nat.lt_of_lt_of_le lL xa.size)]
  have B2 := k1.block BP (Array.getElem?_eq_some_iff.1 hBP).1 hBL
  rw [hBP] at B2
  have bx : ((W.alloc (.cells #[.string name, .int .i64 width, .int .i64 beg, .slice ua un uc, .int .i64 ((i : Int) + 1)] 53)).putObj L (.loop (rec .busy none))).heap[W.heap.size]? = some (.cells #[.string name, .int .i64 width, .int .i64 beg, .slice ua un uc, .int .i64 ((i : Int) + 1)] 53 (0, 0)) := by
    have hn : ¬ (W.heap.size = L) := by omega
    rw [(Keep.putLoop (fun q => q = L) _ L (.loop (rec .busy none)) rfl).block W.heap.size (by simp) hn]; exact heap_alloc_new W _
  generalize (W.alloc (.cells #[.string name, .int .i64 width, .int .i64 beg, .slice ua un uc, .int .i64 ((i : Int) + 1)] 53)).putObj L (.loop (rec .busy none)) = W2 at k1 K2 L2 B2 bx ⊢
  have p0 : W2.cell? ⟨BP, 0, none⟩ = some (.pointer (some ⟨bw, 0, none⟩)) := by simp [World.cell?, B2]
  have d0 : W2.cell? ⟨W.heap.size, 0, none⟩ = some (.string name) := by simp [World.cell?, bx]
  have d1 : W2.cell? ⟨W.heap.size, 1, none⟩ = some (.int .i64 width) := by simp [World.cell?, bx]
  have d2 : W2.cell? ⟨W.heap.size, 2, none⟩ = some (.int .i64 beg) := by simp [World.cell?, bx]
  have d3 : W2.cell? ⟨W.heap.size, 3, none⟩ = some (.slice ua un uc) := by simp [World.cell?, bx]
  have d4 : W2.cell? ⟨W.heap.size, 4, none⟩ = some (.int .i64 ((i : Int) + 1)) := by simp [World.cell?, bx]
  have hcapW : σ.ways.length ≤ capW := by
    obtain ⟨_, _, e, h, _⟩ := (Row.of_owns (WkG.wy hK)).shape; cases e; exact h
  have one := Lib.hid (one_any bw bm bW capW vN vP ws σ name width beg (.slice ua un uc) i W2 K2.out (by omega) hcapW hwid hbeg (by omega) hG)
  have kk1 := Lib.hid k1
  have HK := Lib.hid hK
  have HG := Lib.hid hG
  have HR := Lib.hid hρ
  have HN := Lib.hid hn0
  have HLP := Lib.hid hLP
  have HBP := Lib.hid hBPP
  have HB := Lib.hid hBP
  have HB2 := Lib.hid B2
  have HL2 := Lib.hid L2
  clear hK hG hρ hL hBP hn0 hLP hBPP hstP k1 B2 L2 bx xa hrec
  refine wpAt_of_in (n := 5) ?_
  conv => arg 4; whnf
  cases hone : oneS σ name width beg (i + 1) with
  | error x =>
    rw [hone] at one
    gi_wp2_with ((try refine ⟨trivial, ?_⟩); (try refine ⟨(fun h => by cases h), ?_⟩); gi_at_call 14; refine (CallsIn.inRound L (callsIn_wide.2 one.out)).mono ?_; clear one; rintro e W3 h3; have k3 := h3.1; have he := h3.2; simp only [] at he; unfold stopped at he; subst he)
    refine ⟨rfl, ?_⟩
    exact ⟨(kk1.out.mono (fun q h => (HR.out q).2 (Or.inr h))).trans k3 (fun q _ h => (HR.out q).2 (Or.inl h)), rfl⟩
  | ok σ' =>
    rw [hone] at one
    obtain ⟨hG', hlen'⟩ := good_one HG.out (by omega) hdw hone
    have HG' := Lib.hid hG'
    have ONE := Lib.hid hone
    clear hG' hone
    gi_wp2_with ((try refine ⟨trivial, ?_⟩); (try refine ⟨(fun h => by cases h), ?_⟩); gi_at_call 14; refine (CallsIn.inRound L (callsIn_wide.2 one.out)).mono ?_; clear one; rintro e W3 h3; obtain ⟨k3, rfl, bm', vN', vP', vW', ws', hK3, hg3⟩ := h3; have HK3 := Lib.hid hK3; have HG3 := Lib.hid hg3; have kk3 := Lib.hid k3; clear hK3 hg3 k3)
    have lL2 : L < W2.heap.size := (Array.getElem?_eq_some_iff.1 HL2.out).1
    have lB2 : BP < W2.heap.size := (Array.getElem?_eq_some_iff.1 HB2.out).1
    have hLP' : ¬ Has (parts bw bm' vN' vP' vW' ws') L := fun h => (HG3.out L h).elim HLP.out (fun h => by omega)
    have hBPP' : ¬ Has (parts bw bm' vN' vP' vW' ws') BP := fun h => (HG3.out BP h).elim HBP.out (fun h => by omega)
    have L3 : W3.heap[L]? = some (.loop (rec .busy none)) := by rw [kk3.out.block L lL2 HLP.out]; exact HL2.out
    have B3 : W3.heap[BP]? = some (.cells #[.pointer (some ⟨bw, 0, none⟩)] 42 (0, 0)) := by rw [kk3.out.block BP lB2 HBP.out]; exact HB2.out
    have kA := (kk1.out.mono (fun q h => (HR.out q).2 (Or.inr h))).trans kk3.out (fun q _ h => (HR.out q).2 (Or.inl h))
    refine ⟨_, _, L3, kA.trans (Keep.putLoop ρ W3 L _ ((HR.out L).2 (Or.inr rfl))) (fun _ _ h => h), rfl, fun k => Has (parts bw bm' vN' vP' vW' ws') k ∨ k = L, ⟨bm', vN', vP', vW', ws', HK3.out.put L _ hLP', HG'.out, fun k => Iff.rfl, ?_, ?_, fun k hk => ?_, hnL, hBL, hLP', hBPP'⟩, fun k hk => ?_, by omega⟩
    · show (Array.setIfInBounds _ L _)[L]? = _
      rw [Array.getElem?_setIfInBounds, if_pos rfl, if_pos (Array.getElem?_eq_some_iff.1 L3).1]
    · rw [(Keep.putLoop (fun q => q = L) W3 L (.loop (rec .ready none)) rfl).block BP (Array.getElem?_eq_some_iff.1 B3).1 hBL]; exact B3
    · rcases HG3.out k hk with h | h
      · exact HN.out k h
      · have := kk1.out.size; omega
    · rcases hk with h | rfl
      · rcases HG3.out k h with h | h
        · exact Or.inl ((HR.out k).2 (Or.inl h))
        · exact Or.inr (Nat.le_trans kk1.out.size h)
      · exact Or.inl ((HR.out k).2 (Or.inr rfl))
end Go.Proofs.Ytocloacbbbhkcaa
