/- Bits of a register, as numbers. No condition. -/
import Derived.Test.YtjlnokopnpcfoaaGreatBo
set_option linter.unusedVariables false
namespace Go.Proofs.YtjlnokopnpcfoaaGreat
abbrev hB (x : Int) : BitVec 64 := BitVec.ofInt 64 x
def c64 (x : Int) : Int := wr .i64 ((wr .u64 (wr .u64 x * (2 : Int) ^ (0 : Nat))).fdiv ((2 : Int) ^ (0 : Nat)))
def onU (s at_ : Nat) : Int := wr .u64 ((18446744073709551615 : Int).fdiv ((2 : Int) ^ s) * (2 : Int) ^ at_)
def e1 (s at_ : Nat) (a b : Int) : Int := wr .i64 (wr .u64 (Int.ofNat (hB (wr .u64 (Int.ofNat (hB (wr .u64 (c64 a)) &&& ~~~ hB (onU s at_)).toNat)) ||| hB (wr .u64 (Int.ofNat (hB (wr .u64 (wr .u64 b * (2 : Int) ^ at_)) &&& hB (onU s at_)).toNat))).toNat))
def e2 (m : Int) (at_ : Nat) (a b : Int) : Int := wr .i64 (Int.ofNat (hB (wr .i64 (Int.ofNat (hB a &&& ~~~ hB (wr .i64 (m * (2 : Int) ^ at_))).toNat)) ||| hB (wr .i64 (wr .i64 (Int.ofNat (hB b &&& hB m).toNat) * (2 : Int) ^ at_))).toNat)
def e4 (m b : Int) : Int := wr .i64 (Int.ofNat (hB b &&& hB m).toNat)
def e3 (m : Int) (s at_ : Nat) (a b : Int) : Int := wr .i64 (Int.ofNat (hB (wr .i64 ((wr .u64 (e1 s at_ a b)).fdiv ((2 : Int) ^ at_))) &&& hB m).toNat)
def mk (W : Nat) : Int := wr .i64 (wr .i64 (1 * (2 : Int) ^ W) - 1)
def tP (m : Int) (s at_ : Nat) (a b : Int) : Nat := bif eqI (e1 s at_ a b) (e2 m at_ a b) then (bif eqI (e3 m s at_ a b) (e4 m b) then 0 else 90) else 90
theorem hB_u (x : Int) : hB (wr .u64 x) = hB x := by
  rw [wr_eq]
  apply BitVec.eq_of_toNat_eq
  rw [BitVec.toNat_ofInt, BitVec.toNat_ofInt]
  congr 1
  simp [IntKind.wrap, IntKind.bits, IntKind.signed]
theorem hB_i (x : Int) : hB (wr .i64 x) = hB x := by
  rw [wr_eq]
  apply BitVec.eq_of_toNat_eq
  rw [BitVec.toNat_ofInt, BitVec.toNat_ofInt]
  congr 1
  simp [IntKind.wrap, IntKind.bits, IntKind.signed]
  split <;> omega
theorem hB_n (b : BitVec 64) : hB (Int.ofNat b.toNat) = b := by
  apply BitVec.eq_of_toNat_eq
  rw [BitVec.toNat_ofInt]
  have := b.isLt
  show ((b.toNat : Int) % ((2 ^ 64 : Nat) : Int)).toNat = _
  omega
theorem hB_mul (x : Int) (n : Nat) : hB (x * (2 : Int) ^ n) = hB x <<< n := by
  rw [BitVec.shiftLeft_eq_mul_twoPow]
  unfold hB
  rw [BitVec.ofInt_mul]
  congr 1
  apply BitVec.eq_of_toNat_eq
  rw [BitVec.toNat_ofInt, BitVec.toNat_twoPow]
  have : (2 : Int) ^ n = ((2 ^ n : Nat) : Int) := by simp
  rw [this]
  omega
theorem wr_hB {x y : Int} (h : hB x = hB y) : wr .i64 x = wr .i64 y := by
  have h2 := congrArg BitVec.toNat h
  rw [BitVec.toNat_ofInt, BitVec.toNat_ofInt] at h2
  rw [wr_eq, wr_eq]
  simp [IntKind.wrap, IntKind.bits, IntKind.signed]
  have : x % 18446744073709551616 = y % 18446744073709551616 := by
    have e : ((2 ^ 64 : Nat) : Int) = 18446744073709551616 := by decide
    rw [e] at h2
    omega
  rw [this]
theorem hB_c64 (x : Int) : hB (c64 x) = hB x := by
  unfold c64
  rw [hB_i, Int.pow_zero, Int.fdiv_one, hB_u, Int.mul_one, hB_u]
theorem e12 (s at_ : Nat) (m a b : Int) (h : hB (onU s at_) = hB m <<< at_) : e1 s at_ a b = e2 m at_ a b := by
  unfold e1 e2
  apply wr_hB
  simp only [hB_u, hB_i, hB_n, hB_mul, hB_c64, h, BitVec.shiftLeft_and_distrib]
end Go.Proofs.YtjlnokopnpcfoaaGreat
