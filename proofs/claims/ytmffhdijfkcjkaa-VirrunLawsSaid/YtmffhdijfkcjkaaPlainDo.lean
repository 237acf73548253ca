/- The numbers of operations: cuts, plainly. -/
import Derived.WalkKit
namespace Go.Proofs.Ytmffhdijfkcjkaa
open Go.RowKit

/-- How many bits are kept. -/
def kept (k : Int) : Nat := if k < 1 then 1 else if 64 < k then 64 else k.toNat
/-- The lowest bits, as a number from 0 on. -/
def cutU (v k : Int) : Int := v % 2 ^ kept k
/-- The lowest bits, as an int. -/
def cutI (v k : Int) : Int := wrap64 (cutU v k)

theorem kept_le (k : Int) : 1 ≤ kept k ∧ kept k ≤ 64 := by unfold kept; split <;> (try split) <;> omega

theorem wrap64_def (n : Int) : wrap64 n = (n + 9223372036854775808) % 18446744073709551616 - 9223372036854775808 := by unfold wrap64; rfl
theorem u64_def (n : Int) : IntKind.u64.wrap n = n % 18446744073709551616 := IntKind.wrap_u64 n

theorem pow_split (n : Nat) (h : n ≤ 64) : (2 : Int) ^ n * 2 ^ (64 - n) = 18446744073709551616 := by
  rw [← Int.pow_add, show n + (64 - n) = 64 by omega]; rfl
theorem pow_pos' (n : Nat) : (0 : Int) < 2 ^ n := Int.pow_pos (by omega)

theorem shifted (v : Int) (n : Nat) (h : n ≤ 64) : IntKind.u64.wrap (IntKind.u64.wrap v * 2 ^ n) / 2 ^ n = v % 2 ^ (64 - n) := by
  rw [u64_def, u64_def]
  have hp := pow_split n h
  have h1 := pow_pos' n
  have h2 := pow_pos' (64 - n)
  rw [← hp]
  generalize (2 : Int) ^ n = a at *
  generalize (2 : Int) ^ (64 - n) = b at *
  rw [Int.mul_comm (v % (a * b)) a, Int.mul_emod_mul_of_pos _ _ h1, Int.mul_ediv_cancel_left _ (by omega), Int.emod_emod_of_dvd v (Int.dvd_mul_left a b)]

theorem cutU_bd (v k : Int) : 0 ≤ cutU v k ∧ cutU v k < 18446744073709551616 := by
  have h1 := pow_pos' (kept k)
  have h2 := pow_split (kept k) (kept_le k).2
  have h3 := pow_pos' (64 - kept k)
  unfold cutU
  refine ⟨Int.emod_nonneg _ (by omega), Int.lt_of_lt_of_le (Int.emod_lt_of_pos _ h1) ?_⟩
  rw [← h2]
  generalize (2 : Int) ^ kept k = a at *
  generalize (2 : Int) ^ (64 - kept k) = b at *
  calc a = a * 1 := by omega
    _ ≤ a * b := Int.mul_le_mul_of_nonneg_left (by omega) (by omega)

theorem u64_cutI (v k : Int) : IntKind.u64.wrap (cutI v k) = cutU v k := by
  have := cutU_bd v k
  unfold cutI
  rw [u64_def, wrap64_def]; omega
theorem and63 (y : Int) (h : 0 ≤ y ∧ y < 18446744073709551616) : bits .and .u64 y 63 = y % 64 := by
  rw [u64_and y 63 h.1 h.2 (by omega) (by omega)]
  have : (63 : Int).toNat = 63 := rfl
  rw [this, nat_mask6]; omega
theorem mod63 (y : Int) : 0 ≤ y % 64 ∧ y % 64 ≤ 63 := by omega
/-- The operations. -/
inductive OpN where
  | add | sub | mul | and | or | xor | shl | shr | div | rem | lt | eq | not
  deriving DecidableEq

/-- An operation's name. -/
def OpN.bytes : OpN → List UInt8
  | .add => [97, 100, 100]
  | .sub => [115, 117, 98]
  | .mul => [109, 117, 108]
  | .and => [97, 110, 100]
  | .or => [111, 114]
  | .xor => [120, 111, 114]
  | .shl => [115, 104, 108]
  | .shr => [115, 104, 114]
  | .div => [100, 105, 118]
  | .rem => [114, 101, 109]
  | .lt => [108, 116]
  | .eq => [101, 113]
  | .not => [110, 111, 116]

def OpN.all : List OpN := [.add, .sub, .mul, .and, .or, .xor, .shl, .shr, .div, .rem, .lt, .eq, .not]
/-- The operation that a name names. -/
def opOf (s : List UInt8) : Option OpN := OpN.all.find? (fun o => o.bytes == s)
/-- How many values an operation has. -/
def arityOf (s : List UInt8) : Int := match opOf s with | none => 0 | some .not => 1 | some _ => 2

theorem opOf_some {s : List UInt8} {o : OpN} (h : opOf s = some o) : s = o.bytes := by
  have := List.find?_some h
  simpa using (beq_iff_eq.1 this).symm
theorem mem_all (o : OpN) : o ∈ OpN.all := by cases o <;> simp [OpN.all]
theorem opOf_none {s : List UInt8} (h : opOf s = none) (o : OpN) : s ≠ o.bytes := by
  have := List.find?_eq_none.1 h o (mem_all o)
  intro e; rw [e] at this; simp at this
theorem opOf_bytes (o : OpN) : opOf o.bytes = some o := by cases o <;> decide
theorem bytes_eq {s : ByteArray} {l : List UInt8} (h : s.data.toList = l) : s = ⟨l.toArray⟩ := by
  cases s with | mk d => simp only at h; subst h; simp

/-- What an operation makes of numbers below 2^64. -/
def opU : OpN → Int → Int → Int
  | .add, x, y => IntKind.u64.wrap (x + y)
  | .sub, x, y => IntKind.u64.wrap (x - y)
  | .mul, x, y => IntKind.u64.wrap (x * y)
  | .and, x, y => bits .and .u64 x y
  | .or, x, y => bits .or .u64 x y
  | .xor, x, y => bits .xor .u64 x y
  | .shl, x, y => IntKind.u64.wrap (x * 2 ^ (y % 64).toNat)
  | .shr, x, y => x / 2 ^ (y % 64).toNat
  | .div, x, y => x / y
  | .rem, x, y => x % y
  | .lt, x, y => if x < y then 1 else 0
  | .eq, x, y => if x = y then 1 else 0
  | .not, x, _ => bits .xor .u64 IntKind.u64.max x

/-- Does an operation answer nothing, its second value being nought? -/
def OpN.divides (o : OpN) : Bool := match o with | .div | .rem => true | _ => false
/-- What an operation answers, and whether it does. -/
def doS (s : List UInt8) (k : Int) (l : List Int) : Int × Bool :=
  match opOf s, l with
  | some .not, [a] => (cutI (wrap64 (opU .not (cutU a k) 0)) k, true)
  | some .not, _ => (0, false)
  | some o, [a, b] => if o.divides && cutU b k == 0 then (0, false) else (cutI (wrap64 (opU o (cutU a k) (cutU b k))) k, true)
  | _, _ => (0, false)
end Go.Proofs.Ytmffhdijfkcjkaa
