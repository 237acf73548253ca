/- Bits of a register: the law. No condition. -/
import Derived.Test.YtjlnokopnpcfoaaGreatPa
set_option linter.unusedVariables false
namespace Go.Proofs.YtjlnokopnpcfoaaGreat
theorem hB_div (x : Int) (n : Nat) : hB ((wr .u64 x).fdiv ((2 : Int) ^ n)) = hB x >>> n := by
  rw [wr_eq]
  apply BitVec.eq_of_toNat_eq
  rw [BitVec.toNat_ushiftRight, BitVec.toNat_ofInt, BitVec.toNat_ofInt, Nat.shiftRight_eq_div_pow]
  have e : IntKind.wrap .u64 x = (((x % ((2 ^ 64 : Nat) : Int)).toNat : Nat) : Int) := by
    simp [IntKind.wrap, IntKind.bits, IntKind.signed]
    omega
  rw [e]
  have hlt : (x % ((2 ^ 64 : Nat) : Int)).toNat < 2 ^ 64 := by omega
  generalize (x % ((2 ^ 64 : Nat) : Int)).toNat = y at hlt
  have e2 : (2 : Int) ^ n = ((2 ^ n : Nat) : Int) := by simp
  rw [e2, Int.fdiv_eq_ediv_of_nonneg _ (Int.natCast_nonneg _), ← Int.natCast_ediv]
  have h3 : y / 2 ^ n ≤ y := Nat.div_le_self _ _
  generalize y / 2 ^ n = q at h3
  omega
theorem bits3 (a b m : BitVec 64) (n : Nat) (hm : ∀ i, i < 64 → 64 ≤ n + i → m.getLsbD i = false) : (((a &&& ~~~(m <<< n)) ||| ((b <<< n) &&& (m <<< n))) >>> n) &&& m = b &&& m := by
  apply BitVec.eq_of_getLsbD_eq
  intro i hi
  by_cases h : n + i < 64
  · have h2 : ¬ (n + i < n) := by omega
    simp only [BitVec.getLsbD_and, BitVec.getLsbD_or, BitVec.getLsbD_ushiftRight, BitVec.getLsbD_not, BitVec.getLsbD_shiftLeft, h, h2, decide_true, decide_false, Bool.not_false, Bool.true_and, Bool.and_true, Nat.add_sub_cancel_left]
    cases m.getLsbD i <;> cases b.getLsbD i <;> simp
  · have := hm i hi (by omega)
    simp only [BitVec.getLsbD_and, this, Bool.and_false]
theorem e34 (s at_ : Nat) (m a b : Int) (h : hB (onU s at_) = hB m <<< at_) (hm : ∀ i, i < 64 → 64 ≤ at_ + i → (hB m).getLsbD i = false) : e3 m s at_ a b = e4 m b := by
  unfold e3 e4
  apply wr_hB
  rw [hB_n, hB_n]
  have e : hB (e1 s at_ a b) = (hB a &&& ~~~(hB m <<< at_)) ||| ((hB b <<< at_) &&& (hB m <<< at_)) := by
    unfold e1
    simp only [hB_u, hB_i, hB_n, hB_mul, hB_c64, h]
  rw [hB_i, hB_div, e]
  exact bits3 _ _ _ _ hm
theorem eqI_same (a : Int) : eqI a a = true := by
  cases a with
  | ofNat n => exact Nat.beq_refl n
  | negSucc n => exact Nat.beq_refl n
theorem tP_zero (s at_ : Nat) (m a b : Int) (h : hB (onU s at_) = hB m <<< at_) (hm : ∀ i, i < 64 → 64 ≤ at_ + i → (hB m).getLsbD i = false) : tP m s at_ a b = 0 := by
  unfold tP
  rw [e12 s at_ m a b h, e34 s at_ m a b h hm, eqI_same, eqI_same]
  rfl
theorem small_bits {m : BitVec 64} (h : m.toNat < 256) (i : Nat) (hi : 8 ≤ i) : m.getLsbD i = false := by
  unfold BitVec.getLsbD
  exact Nat.testBit_lt_two_pow (Nat.lt_of_lt_of_le h (Nat.pow_le_pow_right (n := 2) (by omega) hi))
theorem tP3 (a b : Int) : tP (-1) 0 0 a b = 0 := tP_zero _ _ _ _ _ (by decide) (fun i h1 h2 => by omega)
theorem tP4 (a b : Int) : tP (mk 32) 32 0 a b = 0 := tP_zero _ _ _ _ _ (by decide) (fun i h1 h2 => by omega)
theorem tP5 (a b : Int) : tP (mk 16) 48 0 a b = 0 := tP_zero _ _ _ _ _ (by decide) (fun i h1 h2 => by omega)
theorem tP6 (a b : Int) : tP (mk 8) 56 0 a b = 0 := tP_zero _ _ _ _ _ (by decide) (fun i h1 h2 => by omega)
theorem tP7 (a b : Int) : tP (mk 8) 56 8 a b = 0 := tP_zero _ _ _ _ _ (by decide) (fun i h1 h2 => small_bits (by decide) i (by omega))
end Go.Proofs.YtjlnokopnpcfoaaGreat
