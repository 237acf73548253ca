/- The reference's cuts and operations, plainly. -/
import Derived.Test.YtmffhdijfkcjkaaPlainDo
import Derived.Test.YtmffhdijfkcjkaaLib
namespace Go.Proofs.Ytmffhdijfkcjkaa
open Go.RowKit
theorem cutI_bd (v k : Int) : -9223372036854775808 ≤ cutI v k ∧ cutI v k ≤ 9223372036854775807 := by
  unfold cutI; rw [wrap64_def]; omega
theorem w64_bd (n : Int) : -9223372036854775808 ≤ wrap64 n ∧ wrap64 n ≤ 9223372036854775807 := by rw [wrap64_def]; omega
theorem zo_bd : (-9223372036854775808 : Int) ≤ 1 ∧ (1 : Int) ≤ 9223372036854775807 := by omega
theorem pow64 : (2 : Int) ^ 64 = 18446744073709551616 := by decide
theorem rcut_all (v k : Int) (hv : -9223372036854775808 ≤ v ∧ v ≤ 9223372036854775807) (h : 64 ≤ k) : cutI v k = v := by
  unfold cutI cutU kept
  have : (if k < 1 then 1 else if 64 < k then 64 else k.toNat) = 64 := by split <;> (try split) <;> omega
  rw [this, wrap64_def, pow64]; omega
theorem w64_u64 (n : Int) : wrap64 (IntKind.u64.wrap n) = wrap64 n := by rw [wrap64_def, wrap64_def, u64_def]; omega
theorem u64_w64 (n : Int) : IntKind.u64.wrap (wrap64 n) = IntKind.u64.wrap n := by rw [wrap64_def, u64_def, u64_def]; omega
theorem u64_u64 (n : Int) : IntKind.u64.wrap (IntKind.u64.wrap n) = IntKind.u64.wrap n := by rw [u64_def, u64_def]; omega
theorem ofInt_u (a : Int) : BitVec.ofInt 64 (IntKind.u64.wrap a) = BitVec.ofInt 64 a := by
  apply BitVec.eq_of_toNat_eq
  rw [BitVec.toNat_ofInt, BitVec.toNat_ofInt, u64_def]
  have : ((2 ^ 64 : Nat) : Int) = 18446744073709551616 := by decide
  rw [this]; congr 1; omega
theorem i64_w (n : Int) : IntKind.i64.wrap n = wrap64 n := IntWalk.i64_left n
/-- Bits of two ints are the bits of what they are without a sign. -/
theorem bits_i64 (op : BinOp) (a b : Int) : bits op .i64 a b = wrap64 (bits op .u64 (IntKind.u64.wrap a) (IntKind.u64.wrap b)) := by
  have e : ∀ (x y : BitVec 64), x = y → wrap64 (x.toNat : Int) = wrap64 (IntKind.u64.wrap (y.toNat : Int)) := by rintro x _ rfl; rw [w64_u64]
  cases op
  case and => exact (i64_w _).trans (e (BitVec.ofInt 64 a &&& BitVec.ofInt 64 b) (BitVec.ofInt 64 (IntKind.u64.wrap a) &&& BitVec.ofInt 64 (IntKind.u64.wrap b)) (by rw [ofInt_u, ofInt_u]))
  case or => exact (i64_w _).trans (e (BitVec.ofInt 64 a ||| BitVec.ofInt 64 b) (BitVec.ofInt 64 (IntKind.u64.wrap a) ||| BitVec.ofInt 64 (IntKind.u64.wrap b)) (by rw [ofInt_u, ofInt_u]))
  case xor => exact (i64_w _).trans (e (BitVec.ofInt 64 a ^^^ BitVec.ofInt 64 b) (BitVec.ofInt 64 (IntKind.u64.wrap a) ^^^ BitVec.ofInt 64 (IntKind.u64.wrap b)) (by rw [ofInt_u, ofInt_u]))
  all_goals exact (i64_w _).trans (e (BitVec.ofInt 64 a &&& ~~~BitVec.ofInt 64 b) (BitVec.ofInt 64 (IntKind.u64.wrap a) &&& ~~~BitVec.ofInt 64 (IntKind.u64.wrap b)) (by rw [ofInt_u, ofInt_u]))
theorem bits_bd (op : BinOp) (v u : Int) : -9223372036854775808 ≤ bits op .i64 v u ∧ bits op .i64 v u ≤ 9223372036854775807 := by rw [bits_i64]; exact w64_bd _
theorem u64_bd (n : Int) : 0 ≤ IntKind.u64.wrap n ∧ IntKind.u64.wrap n < 18446744073709551616 := by rw [u64_def]; omega
theorem pow_le64 (n : Nat) (h : n < 64) : (2 : Int) ^ n ≤ 9223372036854775808 := by
  have h1 : (2 : Int) ^ n * 2 ^ (63 - n) = 9223372036854775808 := by rw [← Int.pow_add, show n + (63 - n) = 63 by omega]; rfl
  have h2 := pow_pos' (63 - n)
  have h3 := pow_pos' n
  generalize (2 : Int) ^ n = a at *
  generalize (2 : Int) ^ (63 - n) = b at *
  calc a = a * 1 := by omega
    _ ≤ a * b := Int.mul_le_mul_of_nonneg_left (by omega) (by omega)
    _ = _ := h1
/-- The bits under a mask. -/
theorem mask (x : Int) (n : Nat) (hx : 0 ≤ x ∧ x < 18446744073709551616) (h : n < 64) : bits .and .u64 x (2 ^ n - 1) = x % 2 ^ n := by
  have h1 := pow_pos' n
  have h2 := pow_le64 n h
  rw [u64_and x (2 ^ n - 1) hx.1 hx.2 (by omega) (by omega)]
  obtain ⟨X, rfl⟩ := Int.eq_ofNat_of_zero_le hx.1
  have e : ((2 : Int) ^ n - 1).toNat = 2 ^ n - 1 := by
    have : (2 : Int) ^ n = ((2 ^ n : Nat) : Int) := by simp
    rw [this]; omega
  rw [e, Int.toNat_natCast, Nat.and_two_pow_sub_one_eq_mod]
  simp
theorem mod_u64 (v : Int) (n : Nat) (h : n ≤ 64) : IntKind.u64.wrap v % 2 ^ n = v % 2 ^ n := by
  rw [u64_def, ← pow_split n h]
  exact Int.emod_emod_of_dvd v (Int.dvd_mul_right _ _)
theorem rcut_n (v : Int) (n : Nat) (h : n < 64) : bits .and .i64 v (2 ^ n - 1) = wrap64 (v % 2 ^ n) := by
  have h1 := pow_pos' n
  have h2 := pow_le64 n h
  rw [bits_i64]
  have e : IntKind.u64.wrap (2 ^ n - 1) = 2 ^ n - 1 := by rw [u64_def]; omega
  rw [e, mask _ n (u64_bd v) h, mod_u64 v n (by omega)]
theorem rcut_one (v k : Int) (h : k < 1) : cutI v k = bits .and .i64 v 1 := by
  have := rcut_n v 1 (by omega)
  unfold cutI cutU kept
  rw [if_pos h]
  exact this.symm
theorem rcut_mid (v k : Int) (h : 1 ≤ k) (h' : k < 64) : cutI v k = bits .and .i64 v (wrap64 (wrap64 (2 ^ k.toNat) - 1)) := by
  have h1 := pow_pos' k.toNat
  have h2 := pow_le64 k.toNat (by omega)
  have e : wrap64 (wrap64 (2 ^ k.toNat) - 1) = 2 ^ k.toNat - 1 := by rw [wrap64_def, wrap64_def]; omega
  rw [e, rcut_n v _ (by omega)]
  unfold cutI cutU kept
  rw [if_neg (by omega), if_neg (by omega)]
theorem s63 (v : Int) : IntKind.u64.wrap (bits .and .i64 v 63) = v % 64 := by
  have := rcut_n v 6 (by omega)
  rw [show (63 : Int) = 2 ^ 6 - 1 by decide, this, u64_w64, u64_def]
  omega
theorem zz_bd : (-9223372036854775808 : Int) ≤ 0 ∧ (0 : Int) ≤ 9223372036854775807 := by omega
theorem cutI_congr (z z' k : Int) (h : IntKind.u64.wrap z = IntKind.u64.wrap z') : cutI z k = cutI z' k := by
  unfold cutI cutU
  rw [← mod_u64 z _ (kept_le k).2, h, mod_u64 z' _ (kept_le k).2]
theorem cutU_eq (v k : Int) : cutU v k = cutI v k % 18446744073709551616 := by rw [← u64_cutI, u64_def]
theorem ret2 {x y : Int} {b : Bool} (h : x = y) : Ending.returned (.tuple #[.int .i64 x, .bool b]) = .returned (.tuple #[.int .i64 y, .bool b]) := by rw [h]
theorem r_add (a b k : Int) : cutI (wrap64 (cutI a k + cutI b k)) k = cutI (wrap64 (opU .add (cutU a k) (cutU b k))) k := by
  apply cutI_congr; rw [u64_w64, u64_w64, opU, u64_u64, cutU_eq, cutU_eq, u64_def, u64_def]; omega
theorem r_sub (a b k : Int) : cutI (wrap64 (cutI a k - cutI b k)) k = cutI (wrap64 (opU .sub (cutU a k) (cutU b k))) k := by
  apply cutI_congr; rw [u64_w64, u64_w64, opU, u64_u64, cutU_eq, cutU_eq, u64_def, u64_def]; omega
theorem r_mul (a b k : Int) : cutI (wrap64 (cutI a k * cutI b k)) k = cutI (wrap64 (opU .mul (cutU a k) (cutU b k))) k := by
  apply cutI_congr; rw [u64_w64, u64_w64, opU, u64_u64, cutU_eq, cutU_eq, u64_def, u64_def]; exact Int.mul_emod _ _ _
theorem r_bits (op : BinOp) (a b k : Int) : cutI (bits op .i64 (cutI a k) (cutI b k)) k = cutI (wrap64 (bits op .u64 (cutU a k) (cutU b k))) k := by
  rw [bits_i64, u64_cutI, u64_cutI]
theorem r_and (a b k : Int) : cutI (bits .and .i64 (cutI a k) (cutI b k)) k = cutI (wrap64 (opU .and (cutU a k) (cutU b k))) k := r_bits _ _ _ _
theorem r_or (a b k : Int) : cutI (bits .or .i64 (cutI a k) (cutI b k)) k = cutI (wrap64 (opU .or (cutU a k) (cutU b k))) k := r_bits _ _ _ _
theorem r_xor (a b k : Int) : cutI (bits .xor .i64 (cutI a k) (cutI b k)) k = cutI (wrap64 (opU .xor (cutU a k) (cutU b k))) k := r_bits _ _ _ _
theorem s63U (b k : Int) : cutI b k % 64 = cutU b k % 64 := by rw [cutU_eq]; omega
theorem r_shl (a b k : Int) : cutI (wrap64 (cutI a k * 2 ^ (cutI b k % 64).toNat)) k = cutI (wrap64 (opU .shl (cutU a k) (cutU b k))) k := by
  apply cutI_congr; rw [u64_w64, u64_w64, opU, u64_u64, ← s63U, cutU_eq a, u64_def, u64_def, Int.mul_emod (cutI a k % 18446744073709551616), Int.emod_emod, ← Int.mul_emod]
theorem r_shr (a b k : Int) : cutI (wrap64 (cutU a k / 2 ^ (cutI b k % 64).toNat)) k = cutI (wrap64 (opU .shr (cutU a k) (cutU b k))) k := by rw [opU, s63U]
theorem r_not (a k : Int) : cutI (bits .xor .i64 (-1) (cutI a k)) k = cutI (wrap64 (opU .not (cutU a k) 0)) k := by
  rw [bits_i64, u64_cutI, opU]; rfl
theorem zeroU (b k : Int) : (cutI b k == 0) = (cutU b k == 0) := by
  rw [Bool.eq_iff_iff, beq_iff_eq, beq_iff_eq, cutU_eq]; have := cutI_bd b k; omega
theorem sameU (a b k : Int) : (cutI a k == cutI b k) = (cutU a k == cutU b k) := by
  rw [Bool.eq_iff_iff, beq_iff_eq, beq_iff_eq, cutU_eq, cutU_eq]; have := cutI_bd b k; have := cutI_bd a k; omega
theorem cutU_one (v k : Int) (h : k < 1) : cutU v 1 = cutU v k := by unfold cutU kept; rw [if_pos h]; rfl
theorem cutI_one (v k : Int) (h : k < 1) : cutI v 1 = cutI v k := by unfold cutI; rw [cutU_one v k h]
end Go.Proofs.Ytmffhdijfkcjkaa
