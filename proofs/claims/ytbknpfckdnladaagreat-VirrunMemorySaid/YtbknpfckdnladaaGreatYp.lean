/- VirrunMemory, in plain numbers. No condition. -/
import Derived.Test.YtbknpfckdnladaaGreatBp
import Derived.Test.YtbknpfckdnladaaGreatWp
set_option linter.unusedVariables false
namespace Go.Proofs.YtbknpfckdnladaaGreat
/-- The law's own function tries both ways of its if at once; alive is told of once. -/
noncomputable abbrev XY : Cx := { P := Tryz.prog, ct := (X1 Tryz.prog 18).ct, mg := fun f => Nat.beq f 8 }
def lgM (ad vl : Nat → Int) : Nat → List (Int × Int)
  | 0 => []
  | k + 1 => (ad k, vl k) :: lgM ad vl k
def wsM (ad vl : Nat → Int) (a : Int) : Nat → Int
  | 0 => 0
  | k + 1 => bif eqI (ad k) a then vl k else wsM ad vl a k
def gcl (ad vl : Nat → Int) (i : Nat) : List AV := [.int .i64 (ad i), .int .i64 (vl i)]
noncomputable def mC1 (a v : Int) (L : List (Int × Int)) (w : Int) : Bool := eqI (c8 (c8 (addU (c8 (c8 (lkV L (c8 a)))) (c8 (c8 (lkV ((c8 a, c8 v) :: L) (c8 a))))))) (and255 (wr .i64 (w + v)))
noncomputable def mT (a v : Int) (L : List (Int × Int)) (w : Int) : Nat := bif mC1 a v L w then (bif eqI (c8 a) (and255 a) then (bif eqI (c8 v) (and255 v) then 0 else 90) else 90) else 90
theorem eqI_comm (a b : Int) : eqI a b = eqI b a := by
  rw [eqI_eq, eqI_eq, Bool.eq_iff_iff]
  simp only [beq_iff_eq]
  exact eq_comm
theorem lk_ws (ad vl : Nat → Int) (a : Int) : ∀ k, lkV (lgM ad vl k) a = wsM ad vl a k
  | 0 => rfl
  | k + 1 => by
    show (bif eqI a (ad k) then vl k else lkV (lgM ad vl k) a) = bif eqI (ad k) a then vl k else wsM ad vl a k
    rw [lk_ws ad vl a k, eqI_comm]
theorem mT_zero (a v : Int) (ad vl : Nat → Int) (k : Nat) : mT a v (lgM ad vl k) (wsM ad vl (and255 a) k) = 0 := by
  have r : ∀ x : Int, 0 ≤ x % 256 ∧ x % 256 < 256 := fun x => by omega
  have e1 : eqI (c8 a) (and255 a) = true := by rw [c8_eq, and255_eq]; exact eqI_self _
  have e2 : eqI (c8 v) (and255 v) = true := by rw [c8_eq, and255_eq]; exact eqI_self _
  have e3 : mC1 a v (lgM ad vl k) (wsM ad vl (and255 a) k) = true := by
    unfold mC1
    have h2 : lkV ((c8 a, c8 v) :: lgM ad vl k) (c8 a) = c8 v := by
      show (bif eqI (c8 a) (c8 a) then c8 v else _) = _
      rw [eqI_self]
      rfl
    rw [h2]
    have h1 : lkV (lgM ad vl k) (c8 a) = wsM ad vl (and255 a) k := by rw [lk_ws, c8_eq, and255_eq]
    rw [h1]
    generalize wsM ad vl (and255 a) k = w
    simp only [c8_eq, and255_eq, Int.emod_emod_of_dvd _ (Int.dvd_refl 256)]
    rw [addU_eq _ _ (r w) (r v), wr_mod]
    rw [show (w % 256 + v % 256) % 256 = (w + v) % 256 by omega]
    exact eqI_self _
  unfold mT
  rw [e1, e2, e3]
  rfl
end Go.Proofs.YtbknpfckdnladaaGreat
