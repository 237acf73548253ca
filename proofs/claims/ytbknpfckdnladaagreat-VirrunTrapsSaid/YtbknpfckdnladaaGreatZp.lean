/- VirrunTraps, in plain numbers. No condition. -/
import Derived.Test.YtbknpfckdnladaaGreatYo
set_option linter.unusedVariables false
namespace Go.Proofs.YtbknpfckdnladaaGreat
noncomputable abbrev XZ : Cx := X1 Tryz.prog 18
noncomputable def tT (a b : Int) : Nat := bif eqI (wr .u64 (c8 (c8 b))) 0 then (bif eqI (and255 b) 0 then 0 else 90) else
  bif !(eqI (wr .u64 (c8 (c8 b))) 0) then (bif eqI (and255 b) 0 then 90 else (bif !(eqI (and255 b) 0) then (bif eqI (c8 (c8 (wr .i64 (wr .u64 ((wr .u64 (c8 (c8 a))).tdiv (wr .u64 (c8 (c8 b)))))))) (wr .i64 ((and255 a).tdiv (and255 b))) then 0 else 90) else 11002)) else 9002
theorem wr_u64_small (x : Int) (h : 0 ≤ x) (h2 : x < 256) : wr .u64 x = x := by
  rw [wr_eq, wrap_u64]
  omega
theorem wr_i64_small (x : Int) (h : 0 ≤ x) (h2 : x < 256) : wr .i64 x = x := by
  rw [wr_eq, wrap_i64]
  split <;> omega
theorem tT_zero (a b : Int) : tT a b = 0 := by
  have r : ∀ x : Int, 0 ≤ x % 256 ∧ x % 256 < 256 := fun x => by omega
  unfold tT
  simp only [c8_eq, and255_eq, Int.emod_emod_of_dvd _ (Int.dvd_refl 256)]
  rw [wr_u64_small _ (r a).1 (r a).2, wr_u64_small _ (r b).1 (r b).2]
  by_cases h : b % 256 = 0
  · rw [h]
    rfl
  · have e : eqI (b % 256) 0 = false := by rw [eqI_eq]; simpa using h
    rw [e]
    have hb := r b
    have ha := r a
    generalize b % 256 = y at *
    generalize a % 256 = x at *
    have q0 : 0 ≤ x.tdiv y := Int.tdiv_nonneg ha.1 hb.1
    have q1 : x.tdiv y < 256 := by
      rw [Int.tdiv_eq_ediv_of_nonneg ha.1]
      exact Int.lt_of_le_of_lt (Int.ediv_le_self y ha.1) ha.2
    rw [wr_u64_small _ q0 q1, wr_i64_small _ q0 q1, Int.emod_eq_of_lt q0 q1, eqI_self]
    rfl
end Go.Proofs.YtbknpfckdnladaaGreat
