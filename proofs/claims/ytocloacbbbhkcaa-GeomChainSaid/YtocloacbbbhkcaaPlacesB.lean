/- desc.All, and the deferred call of geom.Places. -/
import Derived.Test.YtocloacbbbhkcaaPlacesA
namespace Go.Proofs.Ytocloacbbbhkcaa
open Go.RowKit
attribute [local go_sem] Oper.semAt_some

theorem all_any (v : Value) (hv : v.oneCell' = true) (w : World) : Calls Try.prog 13 #[v] w fun e w' => e = .returned (.func (.func 15) #[] #[.pointer (some ⟨w.heap.size, 0, none⟩)]) ∧ w' = w.alloc (.cells #[v] 24) := by
  go_enter Try.func13, Try.ntmps13
  go_wp2
  go_ret
  exact ⟨rfl, rfl⟩

/-- How going over all ends. -/
def AP (St : (Nat → Prop) → Wk → World → Prop) (ρ : Nat → Prop) (W : World) (r : Except Int Wk) (e : Ending) (W' : World) : Prop :=
  Keep ρ W W' ∧ match r with
    | .error x => e = stopped x
    | .ok σ' => e = .returned (.tuple #[]) ∧ ∃ ρ', St ρ' σ' W' ∧ (∀ k, ρ' k → ρ k ∨ W.heap.size ≤ k)

set_option maxHeartbeats 1000000 in
theorem all1_in (L n0 B : Nat) (St : (Nat → Prop) → Wk → World → Prop) (hext : ∀ ρ σ W W', St ρ σ W → Ext W W' → St ρ σ W') (hlt : ∀ ρ σ W, St ρ σ W → n0 ≤ W.heap.size ∧ ∀ k, ρ k → n0 ≤ k ∧ k < W.heap.size)
    (hY : ∀ m ρ σ W name width beg ua (un uc d : Nat), St ρ σ W → fits64 width → fits64 beg → 1 ≤ d → d ≤ 7 → d ≤ σ.ways.length →
      YieldAt Fence.wide m Try.prog L #[.agg #[.string name, .int .i64 width, .int .i64 beg, .slice ua un uc, .int .i64 d]] W (DP St ρ W (d + 1) (oneS σ name width beg d)))
    (l : List RegT) (a : Option Addr) (len cap : Nat) (ρ : Nat → Prop) (σ : Wk) (W : World) (n : Nat) (hB : W.cell? ⟨B, 0, none⟩ = some (.slice a len cap)) (hr : RegsIn W n0 (.slice a len cap) l) (hst : St ρ σ W) (hw : 1 ≤ σ.ways.length) :
    CallsIn Fence.wide n Try.prog 15 #[.func (.yield L) #[] #[], .pointer (some ⟨B, 0, none⟩)] W (AP St ρ W (downS 7 1 l σ)) := by
  have hd := Lib.hid (down_in L n0 St hext hlt hY 7 1 l (.slice a len cap) ρ σ W (n - 1) rfl (by omega) hr hst hw)
  clear hext hlt hY hr hst hw
  refine callsIn_of_wp Try.func15 rfl trivial ?_
  simp only [Try.ntmps15, List.size_toArray, List.length_cons, List.length_nil, Nat.reduceAdd, Nat.reduceSub, Array.replicate_succ, Array.replicate_zero, List.push_toArray, List.append_toArray, List.nil_append, List.cons_append]
  cases hdn : downS 7 1 l σ with
  | error x =>
    rw [hdn] at hd
    clear hdn
    gi_wp2_with ((try refine ⟨trivial, ?_⟩); (try refine ⟨(fun h => by cases h), ?_⟩); gi_at_call 16; refine hd.out.mono ?_; clear hd; rintro e W3 h3; obtain ⟨k3, he⟩ := DP.err h3; unfold stopped at he; subst he)
    exact ⟨rfl, k3, rfl⟩
  | ok σ' =>
    rw [hdn] at hd
    clear hdn
    gi_wp2_with ((try refine ⟨trivial, ?_⟩); (try refine ⟨(fun h => by cases h), ?_⟩); gi_at_call 16; refine hd.out.mono ?_; clear hd; rintro e W3 h3; obtain ⟨k3, rfl, ρ', st3, hρ', _⟩ := DP.ok h3; have ST3 := Lib.hid st3; have HR := Lib.hid hρ'; clear st3 hρ')
    go_end0
    exact ⟨k3, rfl, ρ', ST3.out, HR.out⟩

/-- The deferred call, where nothing was given up. -/
theorem places1_ret (b2 b3 b4 : Nat) (w : World) (n : Nat) :
    CallsDIn Fence.wide n Try.prog 12 #[.pointer (some ⟨b2, 0, none⟩), .pointer (some ⟨b3, 0, none⟩), .pointer (some ⟨b4, 0, none⟩)] .returning w fun e u' w' => e = .returned (.tuple #[]) ∧ u' = .returning ∧ w' = w := by
  refine callsDIn_of_wpSIn Try.func12 rfl trivial (fun c₀ cs hu => ?_)
  simp only [Try.ntmps12, List.size_toArray, List.length_cons, List.length_nil, Nat.reduceAdd, Nat.reduceSub, Array.replicate_succ, Array.replicate_zero, List.push_toArray, List.append_toArray, List.nil_append, List.cons_append]
  refine wpSIn_seq ?_
  refine wpSIn_region ?_
  simp [wpOpsSIn, go_sem, recoverD, hu]
  show Code.wpSIn _ _ _ _ _ _ _ _
  refine wpSIn_of_wpIn rfl (wpIn_wide.2 ?_)
  go_wp2
  refine ⟨rfl, .returning, ?_, _, results_none rfl _ _ _, rfl, rfl, rfl⟩
  cases c₀
  simp only [] at hu
  subst hu
  rfl
theorem places1_rec (b2 b3 b4 : Nat) (x : Int) (W : World) (n : Nat) (v2 v3 v4 : Value) (c2 : W.heap[b2]? = some (.cells #[v2] 27 (0, 0))) (c3 : W.heap[b3]? = some (.cells #[v3] 28 (0, 0))) (c4 : W.heap[b4]? = some (.cells #[v4] 29 (0, 0)))
    (h23 : b2 ≠ b3) (h24 : b2 ≠ b4) (h34 : b3 ≠ b4) :
    CallsDIn Fence.wide n Try.prog 12 #[.pointer (some ⟨b2, 0, none⟩), .pointer (some ⟨b3, 0, none⟩), .pointer (some ⟨b4, 0, none⟩)] (.panicking [{ v := .iface 40 (.agg #[.int .i64 x]), recovered := false }]) W
      fun e u' w' => e = .returned (.tuple #[]) ∧ u' = .panicking [{ v := .iface 40 (.agg #[.int .i64 x]), recovered := true }] ∧ Keep (fun k => k = b2 ∨ k = b3 ∨ k = b4) W w' ∧
        w'.heap[b2]? = some (.cells #[.slice none 0 0] 27 (0, 0)) ∧ w'.heap[b3]? = some (.cells #[.slice none 0 0] 28 (0, 0)) ∧ w'.heap[b4]? = some (.cells #[.int .i64 x] 29 (0, 0)) := by
  refine callsDIn_of_wpSIn Try.func12 rfl trivial (fun c₀ cs hu => ?_)
  simp only [Try.ntmps12, List.size_toArray, List.length_cons, List.length_nil, Nat.reduceAdd, Nat.reduceSub, Array.replicate_succ, Array.replicate_zero, List.push_toArray, List.append_toArray, List.nil_append, List.cons_append]
  refine wpSIn_seq ?_
  refine wpSIn_region ?_
  simp [wpOpsSIn, go_sem, recoverD, hu]
  show Code.wpSIn _ _ _ _ _ _ _ _
  refine wpSIn_of_wpIn rfl (wpIn_wide.2 ?_)
  have ta : ∀ w : World, (Instr.typeAssert (.iface 40 (.agg #[.int .i64 x])) 20 40 true).run Try.prog w = .ok (.tuple #[.agg #[.int .i64 x], .bool true]) w := fun w => by kernel_rfl
  go_wp2
  have xa : Ext W (W.alloc (.cells #[.int .i64 x] 40)).drew := (Ext.alloc W _).trans (Ext.drew _)
  have l2 : b2 < W.heap.size := (Array.getElem?_eq_some_iff.1 c2).1
  have l3 : b3 < W.heap.size := (Array.getElem?_eq_some_iff.1 c3).1
  have l4 : b4 < W.heap.size := (Array.getElem?_eq_some_iff.1 c4).1
  have c2 := xa.block c2
  have c3 := xa.block c3
  have c4 := xa.block c4
  have kx := Keep.of_ext (S := fun k => k = b2 ∨ k = b3 ∨ k = b4) xa
  have cx : (W.alloc (.cells #[.int .i64 x] 40)).drew.cell? ⟨W.heap.size, 0, none⟩ = some (.int .i64 x) := cell_new W _ _ 0
  refine wp_region_M (fun w' => w'.cell? ⟨W.heap.size, 0, none⟩ = some (.int .i64 x)) 4 (by kernel_rfl) cx (fun hS => ?_)
  generalize (W.alloc (.cells #[.int .i64 x] 40)).drew = W1 at xa c2 c3 c4 kx cx hS ⊢
  obtain ⟨bs, hbs⟩ : ∃ b, W.heap.size = b := ⟨_, rfl⟩
  rw [hbs] at hS cx ⊢
  refine wpAnyM_take (v := ?_) 0 rfl (by kernel_rfl) (fun _ _ _ h => h) hS rfl ?_ ?_; rotate_left; · (intro w hSw; (try dsimp only at hSw); go_simp; try with_reducible rfl)
  (try simp only [Act.put, List.setIfInBounds_toArray, List.set_cons_zero, List.set_cons_succ])
  refine wpAnyM_take (v := ?_) 1 rfl (by kernel_rfl) (fun _ _ _ h => h) hS rfl ?_ ?_; rotate_left; · (intro w hSw; (try dsimp only at hSw); go_simp; try with_reducible rfl)
  (try simp only [Act.put, List.setIfInBounds_toArray, List.set_cons_zero, List.set_cons_succ])
  refine wpAnyM_ready [2] (by kernel_rfl) rfl ?_
  refine AllM.cons rfl rfl (fun K hK => ?_) AllM.nil
  have e2 : W1.cell? ⟨b2, 0, none⟩ = some v2 := by simp [World.cell?, c2]
  have f2 : W1.frozen? ⟨b2, 0, none⟩ = false := by simp [World.frozen?, c2]
  go_simp
  have k2 := Keep.setCell (fun k => k = b2) W1 ⟨b2, 0, none⟩ (.slice none 0 0) rfl
  have s2 : (W1.setCell ⟨b2, 0, none⟩ (.slice none 0 0)).heap[b2]? = some (.cells #[.slice none 0 0] 27 (0, 0)) := heap_set_cells c2 0 _
  have cx2 := k2.cell cx (fun (e : bs = b2) => by omega)
  refine hK.out _ _ cx2 ?_
  (try simp only [Act.put, List.setIfInBounds_toArray, List.set_cons_zero, List.set_cons_succ])
  clear hK K hS e2 f2
  have c3 : (W1.setCell ⟨b2, 0, none⟩ (.slice none 0 0)).heap[b3]? = some (.cells #[v3] 28 (0, 0)) := by rw [k2.block b3 (Array.getElem?_eq_some_iff.1 c3).1 (Ne.symm h23)]; exact c3
  have c4 : (W1.setCell ⟨b2, 0, none⟩ (.slice none 0 0)).heap[b4]? = some (.cells #[v4] 29 (0, 0)) := by rw [k2.block b4 (Array.getElem?_eq_some_iff.1 c4).1 (Ne.symm h24)]; exact c4
  have kx := kx.trans k2 (fun k _ h => Or.inl h)
  generalize W1.setCell ⟨b2, 0, none⟩ (.slice none 0 0) = W2 at c3 c4 cx2 s2 kx k2 ⊢
  refine wpAnyM_ready [3] (by kernel_rfl) rfl ?_
  refine AllM.cons rfl rfl (fun K hK => ?_) AllM.nil
  have e3 : W2.cell? ⟨b3, 0, none⟩ = some v3 := by simp [World.cell?, c3]
  have f3 : W2.frozen? ⟨b3, 0, none⟩ = false := by simp [World.frozen?, c3]
  go_simp
  have k3 := Keep.setCell (fun k => k = b3) W2 ⟨b3, 0, none⟩ (.slice none 0 0) rfl
  have s3 : (W2.setCell ⟨b3, 0, none⟩ (.slice none 0 0)).heap[b3]? = some (.cells #[.slice none 0 0] 28 (0, 0)) := heap_set_cells c3 0 _
  have cx3 := k3.cell cx2 (fun (e : bs = b3) => by omega)
  refine hK.out _ _ cx3 ?_
  (try simp only [Act.put, List.setIfInBounds_toArray, List.set_cons_zero, List.set_cons_succ])
  clear hK K e3 f3
  have c4 : (W2.setCell ⟨b3, 0, none⟩ (.slice none 0 0)).heap[b4]? = some (.cells #[v4] 29 (0, 0)) := by rw [k3.block b4 (Array.getElem?_eq_some_iff.1 c4).1 (Ne.symm h34)]; exact c4
  have s2 : (W2.setCell ⟨b3, 0, none⟩ (.slice none 0 0)).heap[b2]? = some (.cells #[.slice none 0 0] 27 (0, 0)) := by rw [k3.block b2 (Array.getElem?_eq_some_iff.1 s2).1 h23]; exact s2
  have kx := kx.trans k3 (fun k _ h => Or.inr (Or.inl h))
  generalize W2.setCell ⟨b3, 0, none⟩ (.slice none 0 0) = W3 at c4 s2 s3 kx k3 ⊢
  refine wpAnyM_ready [4] (by kernel_rfl) rfl ?_
  refine AllM.late rfl rfl (by kernel_rfl) (fun K hK => ?_) AllM.nil
  have e4 : W3.cell? ⟨b4, 0, none⟩ = some v4 := by simp [World.cell?, c4]
  have f4 : W3.frozen? ⟨b4, 0, none⟩ = false := by simp [World.frozen?, c4]
  go_simp
  have k4 := Keep.setCell (fun k => k = b4) W3 ⟨b4, 0, none⟩ (.int .i64 x) rfl
  have s4 : (W3.setCell ⟨b4, 0, none⟩ (.int .i64 x)).heap[b4]? = some (.cells #[.int .i64 x] 29 (0, 0)) := heap_set_cells c4 0 _
  refine hK.out _ _ ?_
  (try simp only [Act.put, List.setIfInBounds_toArray, List.set_cons_zero, List.set_cons_succ])
  clear hK K e4 f4
  have s2 : (W3.setCell ⟨b4, 0, none⟩ (.int .i64 x)).heap[b2]? = some (.cells #[.slice none 0 0] 27 (0, 0)) := by rw [k4.block b2 (Array.getElem?_eq_some_iff.1 s2).1 h24]; exact s2
  have s3 : (W3.setCell ⟨b4, 0, none⟩ (.int .i64 x)).heap[b3]? = some (.cells #[.slice none 0 0] 28 (0, 0)) := by rw [k4.block b3 (Array.getElem?_eq_some_iff.1 s3).1 h34]; exact s3
  have kx := kx.trans k4 (fun k _ h => Or.inr (Or.inr h))
  refine wpAnyM_done (by kernel_rfl) ?_ _
  refine ⟨rfl, .panicking [{ v := .iface 40 (.agg #[.int .i64 x]), recovered := true }], rfl, _, results_none rfl _ _ _, rfl, rfl, kx, s2, s3, s4⟩
end Go.Proofs.Ytocloacbbbhkcaa
