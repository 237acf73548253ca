/- What numbers are, cut to eight bits. No condition. -/
import Derived.Test.YtbknpfckdnladaaGreatBo
set_option linter.unusedVariables false
namespace Go.Proofs.YtbknpfckdnladaaGreat
def c8 (x : Int) : Int := wr .i64 ((wr .u64 (wr .u64 x * (2 : Int) ^ (56 : Nat))).fdiv ((2 : Int) ^ (56 : Nat)))
def addU (a b : Int) : Int := wr .i64 (wr .u64 (wr .u64 a + wr .u64 b))
def and255 (x : Int) : Int := wr .i64 (Int.ofNat (BitVec.ofInt 64 x &&& BitVec.ofInt 64 255).toNat)
def tW (a b c s : Int) : Bool := eqI (c8 (c8 (addU (c8 (c8 (c8 (addU (c8 (c8 a)) (c8 (c8 b)))))) (c8 (c8 c))))) (and255 s)
def gz (z : Nat → Int) (i : Nat) : List AV := [.int .i64 (z i)]
theorem wrap_u64 (n : Int) : IntKind.wrap .u64 n = n % 18446744073709551616 := by
  simp [IntKind.wrap, IntKind.bits, IntKind.signed]
theorem wrap_i64 (n : Int) : IntKind.wrap .i64 n = if n % 18446744073709551616 ≥ 9223372036854775808 then n % 18446744073709551616 - 18446744073709551616 else n % 18446744073709551616 := by
  simp [IntKind.wrap, IntKind.bits, IntKind.signed]
theorem c8_eq (x : Int) : c8 x = x % 256 := by
  unfold c8
  rw [wr_eq, wr_eq, wr_eq, wrap_u64, wrap_u64, Int.fdiv_eq_ediv_of_nonneg _ (by decide), wrap_i64]
  have e : (2 : Int) ^ (56 : Nat) = 72057594037927936 := by decide
  rw [e]
  split <;> omega
theorem addU_eq (a b : Int) (ha : 0 ≤ a ∧ a < 256) (hb : 0 ≤ b ∧ b < 256) : addU a b = a + b := by
  unfold addU
  rw [wr_eq, wr_eq, wr_eq, wr_eq, wrap_u64, wrap_u64, wrap_u64, wrap_i64]
  split <;> omega
theorem and255_eq (x : Int) : and255 x = x % 256 := by
  unfold and255
  have e : (BitVec.ofInt 64 x &&& BitVec.ofInt 64 255).toNat = (x % 18446744073709551616).toNat % 256 := by
    rw [BitVec.toNat_and, BitVec.toNat_ofInt, BitVec.toNat_ofInt]
    have e2 : ((255 : Int) % ((2 ^ 64 : Nat) : Int)).toNat = 2 ^ 8 - 1 := by decide
    rw [e2, Nat.and_two_pow_sub_one_eq_mod]
    rfl
  rw [e, wr_eq, wrap_i64]
  show (if (((x % 18446744073709551616).toNat % 256 : Nat) : Int) % 18446744073709551616 ≥ 9223372036854775808 then _ else (((x % 18446744073709551616).toNat % 256 : Nat) : Int) % 18446744073709551616) = _
  split <;> omega
theorem eqI_self (a : Int) : eqI a a = true := by
  cases a with
  | ofNat n => exact Nat.beq_refl n
  | negSucc n => exact Nat.beq_refl n
theorem wr_mod (x : Int) : wr .i64 x % 256 = x % 256 := by
  rw [wr_eq, wrap_i64]
  split <;> omega
theorem tW_true (a b c s : Int) (h : s % 256 = (a + b + c) % 256) : tW a b c s = true := by
  unfold tW
  have r : ∀ x : Int, 0 ≤ x % 256 ∧ x % 256 < 256 := fun x => by omega
  simp only [c8_eq, and255_eq, Int.emod_emod_of_dvd _ (Int.dvd_refl 256)]
  rw [addU_eq _ _ (r a) (r b), addU_eq _ _ (r _) (r c), h]
  rw [show ((a % 256 + b % 256) % 256 + c % 256) % 256 = (a + b + c) % 256 by omega]
  exact eqI_self _
end Go.Proofs.YtbknpfckdnladaaGreat
