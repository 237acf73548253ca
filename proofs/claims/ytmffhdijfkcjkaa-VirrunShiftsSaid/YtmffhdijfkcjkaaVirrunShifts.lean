/- The law VirrunShifts, walked. -/
import Derived.Test.YtmffhdijfkcjkaaVirrunDo
import Derived.Test.YtmffhdijfkcjkaaPlainLaws2
namespace Go.Proofs.Ytmffhdijfkcjkaa
open Go.RowKit

theorem do_ok (s : ByteArray) (k : Int) (l : List Int) (v : Value) (w : World) (hok : (doS s.data.toList k l).2 = true) (hv : SliceInts w v l) :
    Calls Try.prog 8 #[.string s, .int .i64 k, v] w fun e w' => e = .returned (.tuple #[.int .i64 (dv s.data.toList k l), .bool true]) ∧ Below w.heap.size w w' := by
  refine (do_any s k l v w hv).mono ?_
  rintro e w' ⟨rfl, hb⟩
  rw [hok]; exact ⟨rfl, hb⟩
theorem ok_two (o : OpN) (k a b : Int) (h : o ≠ .not) (hd : o.divides = false) : (doS o.bytes k [a, b]).2 = true := by
  unfold doS; rw [opOf_bytes]
  cases o <;> first | exact absurd rfl h | exact absurd hd (by decide) | rfl
theorem and63i (n : Int) : bits .and .i64 n 63 = n % 64 := by
  have := rcut_n n 6 (by omega)
  rw [show (63 : Int) = 2 ^ 6 - 1 by decide, this, wrap64_def, show (2 : Int) ^ 6 = 64 by decide]; omega
theorem kept_in (k : Int) (h1 : 8 ≤ k) (h2 : k ≤ 64) : kept k = k.toNat := by unfold kept; rw [if_neg (by omega), if_neg (by omega)]
theorem mod64 (n k : Int) (h1 : 8 ≤ k) (h2 : k ≤ 64) : cutU n k % 64 = n % 64 := by
  unfold cutU
  rw [kept_in k h1 h2]
  obtain ⟨j, hj⟩ : ∃ j, k.toNat = 6 + j := ⟨k.toNat - 6, by omega⟩
  rw [hj, Int.pow_add]
  exact Int.emod_emod_of_dvd n (Int.dvd_mul_right _ _)
theorem shl_same (k a n : Int) (h1 : 8 ≤ k) (h2 : k ≤ 64) : dv (OpN.bytes .shl) k [a, n] = dv (OpN.bytes .shl) k [a, n % 64] := by
  rw [dv_two .shl k a n (by decide) rfl, dv_two .shl k a _ (by decide) rfl]
  simp only [dU, opU]
  rw [mod64 n k h1 h2, mod64 (n % 64) k h1 h2, Int.emod_emod]
theorem shr_same (k a n : Int) (h1 : 8 ≤ k) (h2 : k ≤ 64) : dv (OpN.bytes .shr) k [a, n] = dv (OpN.bytes .shr) k [a, n % 64] := by
  rw [dv_two .shr k a n (by decide) rfl, dv_two .shr k a _ (by decide) rfl]
  simp only [dU, opU]
  rw [mod64 n k h1 h2, mod64 (n % 64) k h1 h2, Int.emod_emod]
/-- What so many doublings make. -/
def dbl (k a : Int) (j : Nat) : Int := wrap64 (cutU a k * 2 ^ j % top k)
theorem dbl_bd (k a : Int) (j : Nat) : 0 ≤ cutU a k * 2 ^ j % top k ∧ cutU a k * 2 ^ j % top k < top k := by
  have := top_two k
  exact ⟨Int.emod_nonneg _ (by omega), Int.emod_lt_of_pos _ (by omega)⟩
theorem dbl_zero (k a : Int) : dv (OpN.bytes .add) k [a, 0] = dbl k a 0 := by
  have h := cutU_lt a k
  have := top_two k
  rw [dv_two .add k a 0 (by decide) rfl, dU_add, cutU_small 0 k (by omega)]
  unfold dbl
  rw [Int.add_zero, Int.pow_zero, Int.mul_one]
theorem dbl_succ (k a : Int) (j : Nat) : dv (OpN.bytes .add) k [dbl k a j, dbl k a j] = dbl k a (j + 1) := by
  rw [dv_two .add k _ _ (by decide) rfl, dU_add]
  unfold dbl
  rw [cutU_dv _ _ (dbl_bd k a j), Int.emod_add_emod, Int.add_emod_emod, Int.pow_succ]
  congr 2
  rw [← Int.mul_assoc]; omega
theorem shl_dbl (k a n : Int) (h1 : 8 ≤ k) (h2 : k ≤ 64) : dv (OpN.bytes .shl) k [a, n] = dbl k a (n % 64).toNat := by
  rw [dv_two .shl k a n (by decide) rfl]
  unfold dU opU dbl
  rw [u64_mod, mod64 n k h1 h2]
theorem pow_mono (i j : Nat) (h : i ≤ j) : (2 : Int) ^ j = 2 ^ i * 2 ^ (j - i) := by rw [← Int.pow_add]; congr 1; omega
theorem shl_out (k a n : Int) (h1 : 8 ≤ k) (h2 : k ≤ 64) (h : k ≤ n % 64) : dv (OpN.bytes .shl) k [a, n] = 0 := by
  rw [shl_dbl k a n h1 h2]
  unfold dbl top
  rw [kept_in k h1 h2, pow_mono k.toNat (n % 64).toNat (by omega), ← Int.mul_assoc, Int.mul_comm (cutU a k), Int.mul_assoc, Int.mul_emod_right, w64_0]
theorem shr_out (k a n : Int) (h1 : 8 ≤ k) (h2 : k ≤ 64) (h : k ≤ n % 64) : dv (OpN.bytes .shr) k [a, n] = 0 := by
  have hX := cutU_lt a k
  have ht := top_two k
  rw [dv_two .shr k a n (by decide) rfl]
  simp only [dU, opU]
  rw [mod64 n k h1 h2]
  have : cutU a k / 2 ^ (n % 64).toNat = 0 := by
    refine Int.ediv_eq_zero_of_lt hX.1 (Int.lt_of_lt_of_le hX.2 ?_)
    unfold top
    rw [kept_in k h1 h2, pow_mono k.toNat (n % 64).toNat (by omega)]
    have p1 := pow_pos' k.toNat
    have p2 := pow_pos' ((n % 64).toNat - k.toNat)
    calc (2 : Int) ^ k.toNat = 2 ^ k.toNat * 1 := by omega
      _ ≤ _ := Int.mul_le_mul_of_nonneg_left (by omega) (by omega)
  rw [this, Int.zero_emod, w64_0]
theorem slen2 (a b : Int) : [a, b].length ≤ maxLen := show 2 ≤ maxLen by decide

set_option maxRecDepth 100000 in
set_option maxHeartbeats 1000000 in
theorem virrunShifts_any (k a n : Int) (w : World) :
    Calls Try.prog 5 #[.int .i64 k, .int .i64 a, .int .i64 n] w fun e w' => e = .returned (.bool true) ∧ Below w.heap.size w w' := by
  have h63 := and63i n
  have hm := mod63 n
  go_enter Try.func5, Try.ntmps5
  go_wp2_with fail
  refine (alive11 _).mono ?_
  rintro e w0 ⟨rfl, e0⟩
  by_cases h1 : k < 8
  · go_wp2_with fail
    go_ret
    exact ⟨rfl, e0⟩
  by_cases h2 : 64 < k
  · go_wp2_with fail
    go_ret
    exact ⟨rfl, e0⟩
  have s1 := Lib.hid (shl_same k a n (by omega) (by omega))
  have s2 := Lib.hid (shr_same k a n (by omega) (by omega))
  have s3 := Lib.hid (shl_dbl k a n (by omega) (by omega))
  have s4 := Lib.hid (dbl_zero k a)
  have s5 : k ≤ n % 64 → Hid (dv [115, 104, 108] k [a, n % 64] = 0) := fun h => Lib.hid (by rw [← (show dv [115, 104, 108] k [a, n] = dv [115, 104, 108] k [a, n % 64] from s1.out)]; exact shl_out k a n (by omega) (by omega) h)
  have s6 : k ≤ n % 64 → Hid (dv [115, 104, 114] k [a, n % 64] = 0) := fun h => Lib.hid (by rw [← (show dv [115, 104, 114] k [a, n] = dv [115, 104, 114] k [a, n % 64] from s2.out)]; exact shr_out k a n (by omega) (by omega) h)
  go_wp2_with fail
  refine (do_ok _ _ [a, n] _ _ (ok_two .shl k a n (by decide) rfl) (SliceInts.lit _ _ [a, n] (slen2 _ _))).mono ?_
  rintro e w1 ⟨rfl, hb⟩
  rw [show dv (ByteArray.mk #[115, 104, 108]).data.toList k [a, n] = dv [115, 104, 108] k [a, n % 64] from s1.out]
  have e1 := Ext.trans (Ext.trans e0 (Ext.alloc _ _)) hb
  clear hb e0
  go_wp2_with fail
  refine (do_ok _ _ [a, n] _ _ (ok_two .shr k a n (by decide) rfl) (SliceInts.lit _ _ [a, n] (slen2 _ _))).mono ?_
  rintro e w2 ⟨rfl, hb⟩
  rw [show dv (ByteArray.mk #[115, 104, 114]).data.toList k [a, n] = dv [115, 104, 114] k [a, n % 64] from s2.out]
  have e2 := Ext.trans (Ext.trans e1 (Ext.alloc _ _)) hb
  clear hb e1
  go_wp2_with fail
  refine (do_ok _ _ [a, n % 64] _ _ (ok_two .shl k a _ (by decide) rfl) (SliceInts.lit _ _ [a, n % 64] (slen2 _ _))).mono ?_
  rintro e w3 ⟨rfl, hb⟩
  have e3 := Ext.trans (Ext.trans e2 (Ext.alloc _ _)) hb
  clear hb e2
  go_wp2_with fail
  refine (do_ok _ _ [a, n % 64] _ _ (ok_two .shr k a _ (by decide) rfl) (SliceInts.lit _ _ [a, n % 64] (slen2 _ _))).mono ?_
  rintro e w4 ⟨rfl, hb⟩
  have e4 := Ext.trans (Ext.trans e3 (Ext.alloc _ _)) hb
  clear hb e3
  go_wp2_with fail
  refine (do_ok _ _ [a, 0] _ _ (ok_two .add k a _ (by decide) rfl) (SliceInts.lit _ _ [a, 0] (slen2 _ _))).mono ?_
  rintro e w5 ⟨rfl, hb⟩
  rw [show dv (ByteArray.mk #[97, 100, 100]).data.toList k [a, 0] = dbl k a 0 from s4.out]
  have e5 := Ext.trans (Ext.trans e4 (Ext.alloc _ _)) hb
  clear hb e4
  go_wp2_with fail
  go_loopw [17, 19] (fun x i wr => ∃ j : Nat, (j : Int) ≤ n % 64 ∧ i = .int .i64 j ∧ x = .int .i64 (dbl k a j) ∧ Ext w wr) (fun _ i _ => (n % 64 - intOf i).toNat)
  case atStart => exact ⟨0, by omega, rfl, rfl, e5⟩
  case round =>
    obtain ⟨j, hj, rfl, rfl, er⟩ := hrel
    by_cases hlt : (j : Int) < n % 64
    · have sd := Lib.hid (dbl_succ k a j)
      go_wp2_with fail
      refine (do_ok _ _ [dbl k a j, dbl k a j] _ _ (ok_two .add k _ _ (by decide) rfl) (SliceInts.lit _ _ [dbl k a j, dbl k a j] (slen2 _ _))).mono ?_
      rintro e w6 ⟨rfl, hb⟩
      rw [show dv (ByteArray.mk #[97, 100, 100]).data.toList k [dbl k a j, dbl k a j] = dbl k a (j + 1) from sd.out]
      have e6 := Ext.trans (Ext.trans er (Ext.alloc _ _)) hb
      clear hb
      go_wp2_with fail
      go_roundw
      case rel => exact ⟨j + 1, by omega, by go_num, rfl, e6⟩
      case measure => simp [intOf]; omega
    · have hj2 : j = (n % 64).toNat := by omega
      have s7 : (dv [115, 104, 108] k [a, n % 64] == dbl k a j) = true := by
        rw [← (show dv [115, 104, 108] k [a, n] = dv [115, 104, 108] k [a, n % 64] from s1.out), show dv [115, 104, 108] k [a, n] = dbl k a (n % 64).toNat from s3.out, hj2]; simp
      clear hj2
      by_cases hk : n % 64 < k
      · go_wp2_with fail
        go_ret
        exact ⟨rfl, er⟩
      · have t5 : (dv [115, 104, 108] k [a, n % 64] == 0) = true := by rw [(s5 (by omega)).out]; rfl
        have t6 : (dv [115, 104, 114] k [a, n % 64] == 0) = true := by rw [(s6 (by omega)).out]; rfl
        go_wp2_with fail
        go_ret
        exact ⟨rfl, er⟩
end Go.Proofs.Ytmffhdijfkcjkaa
