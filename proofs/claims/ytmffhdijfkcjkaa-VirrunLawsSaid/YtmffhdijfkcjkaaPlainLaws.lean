/- Operations go together as numbers do: plainly. -/
import Derived.Test.YtmffhdijfkcjkaaPlainRef
namespace Go.Proofs.Ytmffhdijfkcjkaa
open Go.RowKit

/-- The number that an operation answers. -/
def dv (s : List UInt8) (k : Int) (l : List Int) : Int := (doS s k l).1

/-- Numbers below 2^kept. -/
def top (k : Int) : Int := 2 ^ kept k
theorem top_two (k : Int) : 2 ≤ top k := by
  have h := (kept_le k).1
  unfold top
  obtain ⟨n, hn⟩ : ∃ n, kept k = n + 1 := ⟨kept k - 1, by omega⟩
  rw [hn, Int.pow_succ]; have := pow_pos' n; omega
theorem top_dvd (k : Int) : top k ∣ 18446744073709551616 := ⟨2 ^ (64 - kept k), (pow_split (kept k) (kept_le k).2).symm⟩
theorem cutU_lt (v k : Int) : 0 ≤ cutU v k ∧ cutU v k < top k := by
  have := top_two k
  unfold cutU; exact ⟨Int.emod_nonneg _ (by unfold top at this; omega), Int.emod_lt_of_pos _ (by unfold top at this; omega)⟩
theorem cutU_cutI (v k : Int) : cutU (cutI v k) k = cutU v k := by
  have h : cutU (cutI v k) k = cutU (cutU v k) k := by
    show cutI v k % 2 ^ kept k = cutU v k % 2 ^ kept k
    rw [← mod_u64 (cutI v k) _ (kept_le k).2, u64_cutI]
  rw [h]; exact Int.emod_eq_of_lt (cutU_lt v k).1 (cutU_lt v k).2
theorem cutU_w64 (z k : Int) : cutU (wrap64 z) k = z % top k := by
  show wrap64 z % 2 ^ kept k = _
  rw [← mod_u64 (wrap64 z) _ (kept_le k).2, u64_w64, mod_u64 z _ (kept_le k).2]; rfl
theorem u64_mod (z k : Int) : IntKind.u64.wrap z % top k = z % top k := mod_u64 z _ (kept_le k).2
theorem top_le (k : Int) : top k ≤ 18446744073709551616 := Int.le_of_dvd (by omega) (top_dvd k)

/-- An operation's answer, as a number from 0 on. -/
def dU (o : OpN) (k X Y : Int) : Int := opU o X Y % top k
theorem dv_two (o : OpN) (k a b : Int) (h : o ≠ .not) (hd : o.divides = false) : dv o.bytes k [a, b] = wrap64 (dU o k (cutU a k) (cutU b k)) := by
  unfold dv doS; rw [opOf_bytes]
  cases o <;> first | exact absurd rfl h | exact absurd hd (by decide) | (show wrap64 (cutU (wrap64 _) k) = _; rw [cutU_w64]; rfl)
theorem dv_div (o : OpN) (k a b : Int) (hd : o.divides = true) (hb : cutU b k ≠ 0) : dv o.bytes k [a, b] = wrap64 (dU o k (cutU a k) (cutU b k)) := by
  have hz : (cutU b k == 0) = false := by simpa using hb
  unfold dv doS; rw [opOf_bytes]
  cases o <;> first | exact absurd hd (by decide) | (simp only [hz, Bool.and_false]; show wrap64 (cutU (wrap64 _) k) = _; rw [cutU_w64]; rfl)
theorem dv_one (k a : Int) : dv (OpN.bytes .not) k [a] = wrap64 (dU .not k (cutU a k) 0) := by
  unfold dv doS; rw [opOf_bytes]
  show wrap64 (cutU (wrap64 _) k) = _; rw [cutU_w64]; rfl
theorem dU_bd (o : OpN) (k X Y : Int) : 0 ≤ dU o k X Y ∧ dU o k X Y < top k := by
  have := top_two k
  exact ⟨Int.emod_nonneg _ (by omega), Int.emod_lt_of_pos _ (by omega)⟩
theorem cutU_dv (z k : Int) (h : 0 ≤ z ∧ z < top k) : cutU (wrap64 z) k = z := by rw [cutU_w64]; exact Int.emod_eq_of_lt h.1 h.2
theorem cutU_small (z k : Int) (h : 0 ≤ z ∧ z < top k) : cutU z k = z := Int.emod_eq_of_lt h.1 h.2

section
variable (k X Y : Int) (hX : 0 ≤ X ∧ X < top k) (hY : 0 ≤ Y ∧ Y < top k)
theorem dU_add : dU .add k X Y = (X + Y) % top k := u64_mod _ _
theorem dU_sub : dU .sub k X Y = (X - Y) % top k := u64_mod _ _
theorem dU_mul : dU .mul k X Y = (X * Y) % top k := u64_mod _ _
include hX
theorem dU_not : dU .not k X 0 = top k - 1 - X := by
  have h1 := top_le k
  have h2 := top_dvd k
  unfold dU
  show bits .xor .u64 IntKind.u64.max X % top k = _
  obtain ⟨x, rfl⟩ := Int.eq_ofNat_of_zero_le hX.1
  have e : bits .xor .u64 IntKind.u64.max (x : Int) = 18446744073709551615 - x := by
    have := u64_xor 18446744073709551615 (x : Int) (by omega) (by omega) (by omega) (by omega)
    show bits .xor .u64 18446744073709551615 (x : Int) = _
    rw [this]
    have e2 : (18446744073709551615 : Int).toNat = 2 ^ 64 - 1 := by decide
    rw [e2, Int.toNat_natCast, Nat.xor_comm]
    have h3 : x < 2 ^ 64 := by omega
    have h4 := BitVec.toNat_not (x := BitVec.ofNat 64 x)
    have h5 : BitVec.ofNat 64 x ^^^ BitVec.allOnes 64 = ~~~ BitVec.ofNat 64 x := BitVec.xor_allOnes
    have h6 := congrArg BitVec.toNat h5
    rw [BitVec.toNat_xor, BitVec.toNat_allOnes, h4, BitVec.toNat_ofNat, Nat.mod_eq_of_lt h3] at h6
    rw [h6]; omega
  rw [e]
  obtain ⟨q, hq⟩ := h2
  have : (18446744073709551615 : Int) - x = (top k - 1 - x) + top k * (q - 1) := by rw [Int.mul_sub, ← hq]; omega
  rw [this, Int.add_mul_emod_self_left]
  exact Int.emod_eq_of_lt (by omega) (by omega)
include hY
theorem bit_lt (f : Nat → Nat → Nat) (hf : ∀ (a b n : Nat), a < 2 ^ n → b < 2 ^ n → f a b < 2 ^ n) : ((f X.toNat Y.toNat : Nat) : Int) < top k := by
  have hx : X.toNat < 2 ^ kept k := by
    have := hX.2; unfold top at this
    have e : (2 : Int) ^ kept k = ((2 ^ kept k : Nat) : Int) := by simp
    rw [e] at this; omega
  have hy : Y.toNat < 2 ^ kept k := by
    have := hY.2; unfold top at this
    have e : (2 : Int) ^ kept k = ((2 ^ kept k : Nat) : Int) := by simp
    rw [e] at this; omega
  have := hf _ _ _ hx hy
  unfold top
  have e : (2 : Int) ^ kept k = ((2 ^ kept k : Nat) : Int) := by simp
  rw [e]; omega
theorem dU_and : dU .and k X Y = ((X.toNat &&& Y.toNat : Nat) : Int) := by
  have := top_le k
  have h := bit_lt k X Y hX hY (· &&& ·) (fun a b n ha _ => Nat.and_lt_two_pow a ‹_›)
  unfold dU
  show bits .and .u64 X Y % _ = _
  rw [u64_and X Y hX.1 (by omega) hY.1 (by omega)]
  exact Int.emod_eq_of_lt (by omega) h
theorem dU_or : dU .or k X Y = ((X.toNat ||| Y.toNat : Nat) : Int) := by
  have := top_le k
  have h := bit_lt k X Y hX hY (· ||| ·) (fun a b n ha hb => Nat.or_lt_two_pow ha hb)
  unfold dU
  show bits .or .u64 X Y % _ = _
  rw [u64_or X Y hX.1 (by omega) hY.1 (by omega)]
  exact Int.emod_eq_of_lt (by omega) h
theorem dU_xor : dU .xor k X Y = ((X.toNat ^^^ Y.toNat : Nat) : Int) := by
  have := top_le k
  have h := bit_lt k X Y hX hY (· ^^^ ·) (fun a b n ha hb => Nat.xor_lt_two_pow ha hb)
  unfold dU
  show bits .xor .u64 X Y % _ = _
  rw [u64_xor X Y hX.1 (by omega) hY.1 (by omega)]
  exact Int.emod_eq_of_lt (by omega) h
end
end Go.Proofs.Ytmffhdijfkcjkaa
