/- Calls that are told of once. No condition. -/
import Derived.Test.YtbknpfckdnladaaGreatBm
import Derived.Below
set_option linter.unusedVariables false
set_option maxHeartbeats 4000000
namespace Go.Proofs.YtbknpfckdnladaaGreat
section
variable {P : Program} {G G' : Gh} {w w' : World} {M M' : Mem}
/-- The world grows; what is known stays. -/
theorem St.grow (hs : St G w M) (hk : ∀ b, b < w.heap.size → w'.heap[b]? = w.heap[b]?) (hsz : w.heap.size ≤ w'.heap.size) : St G w' M := by
  refine ⟨fun id k b base h1 h2 => (hs.blk id k b base h1 h2).same (hk b (hs.lt _ _ _ h2)), hs.inj, fun id b base h => Nat.lt_of_lt_of_le (hs.lt id b base h) hsz, hs.fresh, fun b i v h => ?_, fun b v h => ?_, hs.sep, hs.sep2⟩
  · have h' := hs.con b i v h
    have hlt : b < w.heap.size := World.block_lt_of_cell? _ _ h'
    unfold World.cell? at h' ⊢
    rw [hk b hlt]
    exact h'
  · obtain ⟨c, h'⟩ := hs.cob b v h
    exact ⟨c, by rw [hk b (Array.getElem?_eq_some_iff.1 h').1]; exact h'⟩
/-- A call that was run without any memory: it brings the same in every memory, if it brings a truth. -/
theorem law_ct {X : Cx} (hP : POk X.P) (hC : CtOK X) {n f : Nat} {args : List AV} (ha : ∀ (G : Gh) (vs : Array Value), RVs G vs args → RVs G0 vs args) (h : law X n f args = 0) (bl : AMode) (M : Mem) : CallS X.P f args false bl M (.ret (.bool true)) bl M := by
  unfold law at h
  rcases all_ok hP hC (fun c => Nat.succ c) n (.call f args false .run M0 lawK) with ⟨c, hc⟩ | ⟨e, bl, M', hc, hS⟩
  · rw [hc] at h; cases h
  · have hc : runJ X (fun c => Nat.succ c) n (.call f args false .run M0 lawK) = lawK e bl M' := hc
    rw [hc] at h
    have he : e = .ret (.bool true) := by
      cases e with
      | pan l => cases h
      | ret v =>
        cases v with
        | bool b =>
          cases b with
          | true => rfl
          | false => cases h
        | _ => cases h
    subst he
    obtain ⟨h1, _, hG⟩ := (show CallS X.P f args false .run M0 _ bl M' from hS)
    refine ⟨h1, AT.refl _ _, fun G w vs c0s cs hs hw hv hb => ?_⟩
    have hb : cs = c0s := hb
    subst hb
    obtain ⟨G', w', cs', E, m', g1, g2, g3, g4, g5, g6, g7⟩ := hG G0 w vs cs cs (st0 w) wf0 (ha G vs hv) rfl
    have g2 : cs' = cs := g2
    subst g2
    have keep : ∀ b, b < w.heap.size → w'.heap[b]? = w.heap[b]? := fun b hb => g6.keep b hb (fun ⟨id, base, ⟨k, hk, _⟩, _⟩ => by rw [show M0.h.get id = none from get_nil id] at hk; cases hk)
    refine ⟨G, w', cs', E, m', g1, rfl, g3, ?_, hs.grow keep g6.size, ⟨GLe.refl G, fun _ _ _ h => .inl h, fun _ _ _ h => .inl h, fun _ _ h => .inl h, fun _ _ => rfl, fun b hb _ => keep b hb, g6.size, g6.os, Nat.le_refl _, fun _ h => .inl h⟩, Ub.refl _ _⟩
    cases E with
    | outgrown => exact g4.elim
    | panicked ch => exact g4.elim
    | returned v =>
      have hvv : v = .bool true := RV.bool_inv g4
      subst hvv
      exact RV.bool _
end
/-- One function without arguments that answers true. -/
def ctT (R : Type) (args : List AV) (M : Mem) : Option ((AEnd → Mem → R) → R) := match args with
  | [] => some (fun k => k (.ret (.bool true)) M)
  | _ => none
def X1 (P : Program) (f0 : Nat) : Cx := { P := P, ct := fun R f args M => bif Nat.beq f f0 then ctT R args M else none }
theorem ct1 {X : Cx} (hP : POk X.P) (hC : CtOK X) {n f0 : Nat} (h : law X n f0 [] = 0) : CtOK (X1 X.P f0) := by
  intro R f args M sp hsp k
  have hs2 : (bif Nat.beq f f0 then ctT R args M else none) = some sp := hsp
  clear hsp
  cases hf : Nat.beq f f0 with
  | false => rw [hf] at hs2; cases hs2
  | true =>
    rw [hf] at hs2
    have hs3 : ctT R args M = some sp := hs2
    have hf : f = f0 := by simpa using hf
    subst hf
    cases args with
    | nil =>
      cases hs3
      exact ⟨_, M, rfl, fun bl => law_ct hP hC (fun G vs h => ⟨h.len, fun j v a h1 h2 => by simp at h2⟩) h bl M⟩
    | cons a as => cases hs3

open Go.RowKit in
theorem law_walk {X : Cx} (hP : POk X.P) (hC : CtOK X) {n f : Nat} {args : List AV} {vs : Array Value} {w : World} (hv : RVs G0 vs args) (h : law X n f args = 0) : Calls X.P f vs w fun e w' => e = .returned (.bool true) ∧ Below w.heap.size w w' := by
  intro cs
  obtain ⟨e, w', fr, ⟨h1, h2, h3, h4, h5, h6⟩, rest⟩ := law_calls hP hC (w := w) hv h cs
  exact ⟨e, w', fr, ⟨h1, h4, h5, h6, h2, h3⟩, rest⟩
end Go.Proofs.YtbknpfckdnladaaGreat
