/- Operations go together as numbers do: the laws of VirrunLaws, plainly. -/
import Derived.Test.YtmffhdijfkcjkaaPlainLaws
namespace Go.Proofs.Ytmffhdijfkcjkaa
open Go.RowKit
section
variable (k a b : Int)
theorem cU_two (o : OpN) (h : o ≠ .not) (hd : o.divides = false) : cutU (dv o.bytes k [a, b]) k = dU o k (cutU a k) (cutU b k) := by
  rw [dv_two o k a b h hd]; exact cutU_dv _ _ (dU_bd _ _ _ _)
theorem cU_div (o : OpN) (hd : o.divides = true) (hb : cutU b k ≠ 0) : cutU (dv o.bytes k [a, b]) k = dU o k (cutU a k) (cutU b k) := by
  rw [dv_div o k a b hd hb]; exact cutU_dv _ _ (dU_bd _ _ _ _)
theorem cU_not : cutU (dv (OpN.bytes .not) k [a]) k = dU .not k (cutU a k) 0 := by
  rw [dv_one]; exact cutU_dv _ _ (dU_bd _ _ _ _)
theorem emod_self (X : Int) (h : 0 ≤ X ∧ X < top k) : X % top k = X := Int.emod_eq_of_lt h.1 h.2

theorem l_subadd : dv (OpN.bytes .sub) k [dv (OpN.bytes .add) k [a, b], b] = cutI a k := by
  rw [dv_two .sub k _ b (by decide) rfl, cU_two k a b .add (by decide) rfl, dU_sub, dU_add]
  show _ = wrap64 (cutU a k)
  have := cutU_lt a k
  rw [Int.emod_sub_emod, Int.add_sub_cancel, emod_self _ _ this]
theorem l_addcomm : dv (OpN.bytes .add) k [a, b] = dv (OpN.bytes .add) k [b, a] := by
  rw [dv_two .add k a b (by decide) rfl, dv_two .add k b a (by decide) rfl, dU_add, dU_add, Int.add_comm]
theorem l_mulcomm : dv (OpN.bytes .mul) k [a, b] = dv (OpN.bytes .mul) k [b, a] := by
  rw [dv_two .mul k a b (by decide) rfl, dv_two .mul k b a (by decide) rfl, dU_mul, dU_mul, Int.mul_comm]
theorem l_xor : dv (OpN.bytes .xor) k [dv (OpN.bytes .xor) k [a, b], b] = cutI a k := by
  have hX := cutU_lt a k
  have hY := cutU_lt b k
  have h1 := dU_bd .xor k (cutU a k) (cutU b k)
  rw [dv_two .xor k _ b (by decide) rfl, cU_two k a b .xor (by decide) rfl, dU_xor k _ _ h1 hY, dU_xor k _ _ hX hY]
  show _ = wrap64 (cutU a k)
  rw [Int.toNat_natCast, Nat.xor_assoc, Nat.xor_self, Nat.xor_zero, Int.toNat_of_nonneg hX.1]
theorem l_not : dv (OpN.bytes .not) k [dv (OpN.bytes .not) k [a]] = cutI a k := by
  have hX := cutU_lt a k
  rw [dv_one, cU_not, dU_not k _ (dU_bd _ _ _ _), dU_not k _ hX]
  show _ = wrap64 (cutU a k)
  congr 1; omega
theorem nat_or (x y : Nat) : (x &&& y) ||| (x ^^^ y) = x ||| y := by
  apply Nat.eq_of_testBit_eq
  intro i
  simp only [Nat.testBit_or, Nat.testBit_and, Nat.testBit_xor]
  cases x.testBit i <;> cases y.testBit i <;> rfl
theorem l_or : dv (OpN.bytes .or) k [dv (OpN.bytes .and) k [a, b], dv (OpN.bytes .xor) k [a, b]] = dv (OpN.bytes .or) k [a, b] := by
  have hX := cutU_lt a k
  have hY := cutU_lt b k
  rw [dv_two .or k _ _ (by decide) rfl, dv_two .or k a b (by decide) rfl, cU_two k a b .and (by decide) rfl, cU_two k a b .xor (by decide) rfl,
    dU_or k _ _ (dU_bd _ _ _ _) (dU_bd _ _ _ _), dU_or k _ _ hX hY, dU_and k _ _ hX hY, dU_xor k _ _ hX hY, Int.toNat_natCast, Int.toNat_natCast, nat_or]
theorem small1 : dU .eq k a b = if a = b then 1 else 0 := by
  have := top_two k
  show (if a = b then (1 : Int) else 0) % top k = _
  split
  · exact Int.emod_eq_of_lt (by omega) (by omega)
  · exact Int.emod_eq_of_lt (by omega) (by omega)
theorem small2 : dU .lt k a b = if a < b then 1 else 0 := by
  have := top_two k
  show (if a < b then (1 : Int) else 0) % top k = _
  split
  · exact Int.emod_eq_of_lt (by omega) (by omega)
  · exact Int.emod_eq_of_lt (by omega) (by omega)
theorem l_eq : (dv (OpN.bytes .eq) k [a, b] == 1) = (cutI a k == cutI b k) := by
  rw [dv_two .eq k a b (by decide) rfl, small1, sameU]
  by_cases h : cutU a k = cutU b k
  · rw [if_pos h, w64_1]; simp [h]
  · rw [if_neg h, w64_0]; simp [h]
theorem l_lt : dv (OpN.bytes .lt) k [a, a] = 0 := by
  rw [dv_two .lt k a a (by decide) rfl, small2, if_neg (by omega), w64_0]
theorem l_neg : dv (OpN.bytes .sub) k [a, b] = dv (OpN.bytes .add) k [dv (OpN.bytes .add) k [a, dv (OpN.bytes .not) k [b]], 1] := by
  have ht := top_two k
  have hY := cutU_lt b k
  rw [dv_two .sub k _ _ (by decide) rfl, dv_two .add k _ _ (by decide) rfl, cU_two k a _ .add (by decide) rfl, cU_not, dU_not k _ hY, dU_add, dU_add, dU_sub, cutU_small 1 k (by omega)]
  congr 1
  rw [Int.emod_add_emod, show cutU a k + (top k - 1 - cutU b k) + 1 = cutU a k - cutU b k + top k by omega, Int.add_emod_right]
theorem zero_ne (h : (cutI b k == 0) = false) : cutU b k ≠ 0 := by rw [zeroU] at h; simpa using h
theorem l_div (h : (cutI b k == 0) = false) : dv (OpN.bytes .add) k [dv (OpN.bytes .mul) k [dv (OpN.bytes .div) k [a, b], b], dv (OpN.bytes .rem) k [a, b]] = cutI a k := by
  have hb := zero_ne k b h
  have hX := cutU_lt a k
  have hY := cutU_lt b k
  rw [dv_two .add k _ _ (by decide) rfl, cU_two k _ b .mul (by decide) rfl, cU_div k a b .div rfl hb, cU_div k a b .rem rfl hb, dU_add, dU_mul]
  show wrap64 _ = wrap64 (cutU a k)
  have e1 : dU .div k (cutU a k) (cutU b k) = cutU a k / cutU b k := by
    show cutU a k / cutU b k % top k = _
    refine Int.emod_eq_of_lt (Int.ediv_nonneg hX.1 hY.1) (Int.lt_of_le_of_lt (Int.ediv_le_self _ hX.1) hX.2)
  have e2 : dU .rem k (cutU a k) (cutU b k) = cutU a k % cutU b k := by
    show cutU a k % cutU b k % top k = _
    have := Int.emod_lt_of_pos (cutU a k) (show 0 < cutU b k by omega)
    exact Int.emod_eq_of_lt (Int.emod_nonneg _ hb) (by omega)
  rw [e1, e2, Int.emod_add_emod, Int.ediv_mul_add_emod, emod_self _ _ hX]
theorem l_rem (h : (cutI b k == 0) = false) : dv (OpN.bytes .lt) k [dv (OpN.bytes .rem) k [a, b], b] = 1 := by
  have hb := zero_ne k b h
  have hX := cutU_lt a k
  have hY := cutU_lt b k
  have := Int.emod_lt_of_pos (cutU a k) (show 0 < cutU b k by omega)
  have e2 : dU .rem k (cutU a k) (cutU b k) = cutU a k % cutU b k := by
    show cutU a k % cutU b k % top k = _
    exact Int.emod_eq_of_lt (Int.emod_nonneg _ hb) (by omega)
  rw [dv_two .lt k _ b (by decide) rfl, cU_div k a b .rem rfl hb, small2, e2, if_pos this, w64_1]
end
end Go.Proofs.Ytmffhdijfkcjkaa
