/- What the reference's Do answers, an operation at a time, at widths below 1. -/
import Derived.Test.YtmffhdijfkcjkaaRefDo
namespace Go.Proofs.Ytmffhdijfkcjkaa
open Go.RowKit

set_option maxHeartbeats 1000000 in
theorem rdoL_add (a0 a1 k : Int) (hk : k < 1) (b off cap : Nat) (w : World) (hc0 : w.cell? ⟨b, off, none⟩ = some (.int .i64 a0)) (hr0 : -9223372036854775808 ≤ a0 ∧ a0 ≤ 9223372036854775807) (hc1 : w.cell? ⟨b, off + 1, none⟩ = some (.int .i64 a1)) (hr1 : -9223372036854775808 ≤ a1 ∧ a1 ≤ 9223372036854775807) :
    Calls Try.prog 9 #[.string ⟨#[97, 100, 100]⟩, .int .i64 k, .slice (some ⟨b, off, none⟩) 2 cap] w fun e w' => e = .returned (.tuple #[.int .i64 (cutI (wrap64 (opU .add (cutU a0 1) (cutU a1 1))) 1), .bool true]) ∧ w = w' := by
  have hu := u64_cutI
  have h63 := s63
  have hx0 := cutI_bd a0 1
  have hx1 := cutI_bd a1 1
  have h63b := mod63 (cutI a1 1)
  go_enter Try.func9, Try.ntmps9
  go_wp2_with (first
    | (go_at_call 13; refine (rcut_any _ _ _ ?_).mono ?_; (first | exact hr0 | exact hr1 | exact w64_bd _ | exact bits_bd _ _ _ | exact zo_bd | exact zz_bd); rintro e w' ⟨rfl, rfl⟩)
    | (go_at_call 11; refine (arityR_any _ _).mono ?_; rintro e w' ⟨rfl, rfl⟩; rw [show arityOf (ByteArray.data ⟨#[97, 100, 100]⟩).toList = 2 from rfl]))
  go_ret2
  exact ⟨ret2 (r_add _ _ _), rfl⟩

set_option maxHeartbeats 1000000 in
theorem rdoL_sub (a0 a1 k : Int) (hk : k < 1) (b off cap : Nat) (w : World) (hc0 : w.cell? ⟨b, off, none⟩ = some (.int .i64 a0)) (hr0 : -9223372036854775808 ≤ a0 ∧ a0 ≤ 9223372036854775807) (hc1 : w.cell? ⟨b, off + 1, none⟩ = some (.int .i64 a1)) (hr1 : -9223372036854775808 ≤ a1 ∧ a1 ≤ 9223372036854775807) :
    Calls Try.prog 9 #[.string ⟨#[115, 117, 98]⟩, .int .i64 k, .slice (some ⟨b, off, none⟩) 2 cap] w fun e w' => e = .returned (.tuple #[.int .i64 (cutI (wrap64 (opU .sub (cutU a0 1) (cutU a1 1))) 1), .bool true]) ∧ w = w' := by
  have hu := u64_cutI
  have h63 := s63
  have hx0 := cutI_bd a0 1
  have hx1 := cutI_bd a1 1
  have h63b := mod63 (cutI a1 1)
  go_enter Try.func9, Try.ntmps9
  go_wp2_with (first
    | (go_at_call 13; refine (rcut_any _ _ _ ?_).mono ?_; (first | exact hr0 | exact hr1 | exact w64_bd _ | exact bits_bd _ _ _ | exact zo_bd | exact zz_bd); rintro e w' ⟨rfl, rfl⟩)
    | (go_at_call 11; refine (arityR_any _ _).mono ?_; rintro e w' ⟨rfl, rfl⟩; rw [show arityOf (ByteArray.data ⟨#[115, 117, 98]⟩).toList = 2 from rfl]))
  go_ret2
  exact ⟨ret2 (r_sub _ _ _), rfl⟩

set_option maxHeartbeats 1000000 in
theorem rdoL_mul (a0 a1 k : Int) (hk : k < 1) (b off cap : Nat) (w : World) (hc0 : w.cell? ⟨b, off, none⟩ = some (.int .i64 a0)) (hr0 : -9223372036854775808 ≤ a0 ∧ a0 ≤ 9223372036854775807) (hc1 : w.cell? ⟨b, off + 1, none⟩ = some (.int .i64 a1)) (hr1 : -9223372036854775808 ≤ a1 ∧ a1 ≤ 9223372036854775807) :
    Calls Try.prog 9 #[.string ⟨#[109, 117, 108]⟩, .int .i64 k, .slice (some ⟨b, off, none⟩) 2 cap] w fun e w' => e = .returned (.tuple #[.int .i64 (cutI (wrap64 (opU .mul (cutU a0 1) (cutU a1 1))) 1), .bool true]) ∧ w = w' := by
  have hu := u64_cutI
  have h63 := s63
  have hx0 := cutI_bd a0 1
  have hx1 := cutI_bd a1 1
  have h63b := mod63 (cutI a1 1)
  go_enter Try.func9, Try.ntmps9
  go_wp2_with (first
    | (go_at_call 13; refine (rcut_any _ _ _ ?_).mono ?_; (first | exact hr0 | exact hr1 | exact w64_bd _ | exact bits_bd _ _ _ | exact zo_bd | exact zz_bd); rintro e w' ⟨rfl, rfl⟩)
    | (go_at_call 11; refine (arityR_any _ _).mono ?_; rintro e w' ⟨rfl, rfl⟩; rw [show arityOf (ByteArray.data ⟨#[109, 117, 108]⟩).toList = 2 from rfl]))
  go_ret2
  exact ⟨ret2 (r_mul _ _ _), rfl⟩

set_option maxHeartbeats 1000000 in
theorem rdoL_and (a0 a1 k : Int) (hk : k < 1) (b off cap : Nat) (w : World) (hc0 : w.cell? ⟨b, off, none⟩ = some (.int .i64 a0)) (hr0 : -9223372036854775808 ≤ a0 ∧ a0 ≤ 9223372036854775807) (hc1 : w.cell? ⟨b, off + 1, none⟩ = some (.int .i64 a1)) (hr1 : -9223372036854775808 ≤ a1 ∧ a1 ≤ 9223372036854775807) :
    Calls Try.prog 9 #[.string ⟨#[97, 110, 100]⟩, .int .i64 k, .slice (some ⟨b, off, none⟩) 2 cap] w fun e w' => e = .returned (.tuple #[.int .i64 (cutI (wrap64 (opU .and (cutU a0 1) (cutU a1 1))) 1), .bool true]) ∧ w = w' := by
  have hu := u64_cutI
  have h63 := s63
  have hx0 := cutI_bd a0 1
  have hx1 := cutI_bd a1 1
  have h63b := mod63 (cutI a1 1)
  go_enter Try.func9, Try.ntmps9
  go_wp2_with (first
    | (go_at_call 13; refine (rcut_any _ _ _ ?_).mono ?_; (first | exact hr0 | exact hr1 | exact w64_bd _ | exact bits_bd _ _ _ | exact zo_bd | exact zz_bd); rintro e w' ⟨rfl, rfl⟩)
    | (go_at_call 11; refine (arityR_any _ _).mono ?_; rintro e w' ⟨rfl, rfl⟩; rw [show arityOf (ByteArray.data ⟨#[97, 110, 100]⟩).toList = 2 from rfl]))
  go_ret2
  exact ⟨ret2 (r_and _ _ _), rfl⟩

set_option maxHeartbeats 1000000 in
theorem rdoL_or (a0 a1 k : Int) (hk : k < 1) (b off cap : Nat) (w : World) (hc0 : w.cell? ⟨b, off, none⟩ = some (.int .i64 a0)) (hr0 : -9223372036854775808 ≤ a0 ∧ a0 ≤ 9223372036854775807) (hc1 : w.cell? ⟨b, off + 1, none⟩ = some (.int .i64 a1)) (hr1 : -9223372036854775808 ≤ a1 ∧ a1 ≤ 9223372036854775807) :
    Calls Try.prog 9 #[.string ⟨#[111, 114]⟩, .int .i64 k, .slice (some ⟨b, off, none⟩) 2 cap] w fun e w' => e = .returned (.tuple #[.int .i64 (cutI (wrap64 (opU .or (cutU a0 1) (cutU a1 1))) 1), .bool true]) ∧ w = w' := by
  have hu := u64_cutI
  have h63 := s63
  have hx0 := cutI_bd a0 1
  have hx1 := cutI_bd a1 1
  have h63b := mod63 (cutI a1 1)
  go_enter Try.func9, Try.ntmps9
  go_wp2_with (first
    | (go_at_call 13; refine (rcut_any _ _ _ ?_).mono ?_; (first | exact hr0 | exact hr1 | exact w64_bd _ | exact bits_bd _ _ _ | exact zo_bd | exact zz_bd); rintro e w' ⟨rfl, rfl⟩)
    | (go_at_call 11; refine (arityR_any _ _).mono ?_; rintro e w' ⟨rfl, rfl⟩; rw [show arityOf (ByteArray.data ⟨#[111, 114]⟩).toList = 2 from rfl]))
  go_ret2
  exact ⟨ret2 (r_or _ _ _), rfl⟩

set_option maxHeartbeats 1000000 in
theorem rdoL_xor (a0 a1 k : Int) (hk : k < 1) (b off cap : Nat) (w : World) (hc0 : w.cell? ⟨b, off, none⟩ = some (.int .i64 a0)) (hr0 : -9223372036854775808 ≤ a0 ∧ a0 ≤ 9223372036854775807) (hc1 : w.cell? ⟨b, off + 1, none⟩ = some (.int .i64 a1)) (hr1 : -9223372036854775808 ≤ a1 ∧ a1 ≤ 9223372036854775807) :
    Calls Try.prog 9 #[.string ⟨#[120, 111, 114]⟩, .int .i64 k, .slice (some ⟨b, off, none⟩) 2 cap] w fun e w' => e = .returned (.tuple #[.int .i64 (cutI (wrap64 (opU .xor (cutU a0 1) (cutU a1 1))) 1), .bool true]) ∧ w = w' := by
  have hu := u64_cutI
  have h63 := s63
  have hx0 := cutI_bd a0 1
  have hx1 := cutI_bd a1 1
  have h63b := mod63 (cutI a1 1)
  go_enter Try.func9, Try.ntmps9
  go_wp2_with (first
    | (go_at_call 13; refine (rcut_any _ _ _ ?_).mono ?_; (first | exact hr0 | exact hr1 | exact w64_bd _ | exact bits_bd _ _ _ | exact zo_bd | exact zz_bd); rintro e w' ⟨rfl, rfl⟩)
    | (go_at_call 11; refine (arityR_any _ _).mono ?_; rintro e w' ⟨rfl, rfl⟩; rw [show arityOf (ByteArray.data ⟨#[120, 111, 114]⟩).toList = 2 from rfl]))
  go_ret2
  exact ⟨ret2 (r_xor _ _ _), rfl⟩

set_option maxHeartbeats 1000000 in
theorem rdoL_shl (a0 a1 k : Int) (hk : k < 1) (b off cap : Nat) (w : World) (hc0 : w.cell? ⟨b, off, none⟩ = some (.int .i64 a0)) (hr0 : -9223372036854775808 ≤ a0 ∧ a0 ≤ 9223372036854775807) (hc1 : w.cell? ⟨b, off + 1, none⟩ = some (.int .i64 a1)) (hr1 : -9223372036854775808 ≤ a1 ∧ a1 ≤ 9223372036854775807) :
    Calls Try.prog 9 #[.string ⟨#[115, 104, 108]⟩, .int .i64 k, .slice (some ⟨b, off, none⟩) 2 cap] w fun e w' => e = .returned (.tuple #[.int .i64 (cutI (wrap64 (opU .shl (cutU a0 1) (cutU a1 1))) 1), .bool true]) ∧ w = w' := by
  have hu := u64_cutI
  have h63 := s63
  have hx0 := cutI_bd a0 1
  have hx1 := cutI_bd a1 1
  have h63b := mod63 (cutI a1 1)
  go_enter Try.func9, Try.ntmps9
  go_wp2_with (first
    | (go_at_call 13; refine (rcut_any _ _ _ ?_).mono ?_; (first | exact hr0 | exact hr1 | exact w64_bd _ | exact bits_bd _ _ _ | exact zo_bd | exact zz_bd); rintro e w' ⟨rfl, rfl⟩)
    | (go_at_call 11; refine (arityR_any _ _).mono ?_; rintro e w' ⟨rfl, rfl⟩; rw [show arityOf (ByteArray.data ⟨#[115, 104, 108]⟩).toList = 2 from rfl]))
  go_ret2
  exact ⟨ret2 (r_shl _ _ _), rfl⟩

set_option maxHeartbeats 1000000 in
theorem rdoL_shr (a0 a1 k : Int) (hk : k < 1) (b off cap : Nat) (w : World) (hc0 : w.cell? ⟨b, off, none⟩ = some (.int .i64 a0)) (hr0 : -9223372036854775808 ≤ a0 ∧ a0 ≤ 9223372036854775807) (hc1 : w.cell? ⟨b, off + 1, none⟩ = some (.int .i64 a1)) (hr1 : -9223372036854775808 ≤ a1 ∧ a1 ≤ 9223372036854775807) :
    Calls Try.prog 9 #[.string ⟨#[115, 104, 114]⟩, .int .i64 k, .slice (some ⟨b, off, none⟩) 2 cap] w fun e w' => e = .returned (.tuple #[.int .i64 (cutI (wrap64 (opU .shr (cutU a0 1) (cutU a1 1))) 1), .bool true]) ∧ w = w' := by
  have hu := u64_cutI
  have h63 := s63
  have hx0 := cutI_bd a0 1
  have hx1 := cutI_bd a1 1
  have h63b := mod63 (cutI a1 1)
  go_enter Try.func9, Try.ntmps9
  go_wp2_with (first
    | (go_at_call 13; refine (rcut_any _ _ _ ?_).mono ?_; (first | exact hr0 | exact hr1 | exact w64_bd _ | exact bits_bd _ _ _ | exact zo_bd | exact zz_bd); rintro e w' ⟨rfl, rfl⟩)
    | (go_at_call 11; refine (arityR_any _ _).mono ?_; rintro e w' ⟨rfl, rfl⟩; rw [show arityOf (ByteArray.data ⟨#[115, 104, 114]⟩).toList = 2 from rfl]))
  go_ret2
  exact ⟨ret2 (r_shr _ _ _), rfl⟩

set_option maxHeartbeats 1000000 in
theorem rdoL_div (a0 a1 k : Int) (hk : k < 1) (b off cap : Nat) (w : World) (hc0 : w.cell? ⟨b, off, none⟩ = some (.int .i64 a0)) (hr0 : -9223372036854775808 ≤ a0 ∧ a0 ≤ 9223372036854775807) (hc1 : w.cell? ⟨b, off + 1, none⟩ = some (.int .i64 a1)) (hr1 : -9223372036854775808 ≤ a1 ∧ a1 ≤ 9223372036854775807) (hy : (cutI a1 1 == 0) = false) (hy1 : 1 ≤ cutU a1 1) :
    Calls Try.prog 9 #[.string ⟨#[100, 105, 118]⟩, .int .i64 k, .slice (some ⟨b, off, none⟩) 2 cap] w fun e w' => e = .returned (.tuple #[.int .i64 (cutI (wrap64 (opU .div (cutU a0 1) (cutU a1 1))) 1), .bool true]) ∧ w = w' := by
  have hu := u64_cutI
  have h63 := s63
  have hx0 := cutI_bd a0 1
  have hb0 := cutU_bd a0 1
  have hb1 := cutU_bd a1 1
  have hx1 := cutI_bd a1 1
  have h63b := mod63 (cutI a1 1)
  go_enter Try.func9, Try.ntmps9
  go_wp2_with (first
    | (go_at_call 13; refine (rcut_any _ _ _ ?_).mono ?_; (first | exact hr0 | exact hr1 | exact w64_bd _ | exact bits_bd _ _ _ | exact zo_bd | exact zz_bd); rintro e w' ⟨rfl, rfl⟩)
    | (go_at_call 11; refine (arityR_any _ _).mono ?_; rintro e w' ⟨rfl, rfl⟩; rw [show arityOf (ByteArray.data ⟨#[100, 105, 118]⟩).toList = 2 from rfl]))
  go_ret2
  exact ⟨rfl, rfl⟩

set_option maxHeartbeats 1000000 in
theorem rdoL_div_no (a0 a1 k : Int) (hk : k < 1) (b off cap : Nat) (w : World) (hc0 : w.cell? ⟨b, off, none⟩ = some (.int .i64 a0)) (hr0 : -9223372036854775808 ≤ a0 ∧ a0 ≤ 9223372036854775807) (hc1 : w.cell? ⟨b, off + 1, none⟩ = some (.int .i64 a1)) (hr1 : -9223372036854775808 ≤ a1 ∧ a1 ≤ 9223372036854775807) (hy : (cutI a1 1 == 0) = true) :
    Calls Try.prog 9 #[.string ⟨#[100, 105, 118]⟩, .int .i64 k, .slice (some ⟨b, off, none⟩) 2 cap] w fun e w' => e = .returned (.tuple #[.int .i64 0, .bool false]) ∧ w = w' := by
  have hu := u64_cutI
  have h63 := s63
  have hx0 := cutI_bd a0 1
  have hb0 := cutU_bd a0 1
  have hb1 := cutU_bd a1 1
  have hx1 := cutI_bd a1 1
  have h63b := mod63 (cutI a1 1)
  go_enter Try.func9, Try.ntmps9
  go_wp2_with (first
    | (go_at_call 13; refine (rcut_any _ _ _ ?_).mono ?_; (first | exact hr0 | exact hr1 | exact w64_bd _ | exact bits_bd _ _ _ | exact zo_bd | exact zz_bd); rintro e w' ⟨rfl, rfl⟩)
    | (go_at_call 11; refine (arityR_any _ _).mono ?_; rintro e w' ⟨rfl, rfl⟩; rw [show arityOf (ByteArray.data ⟨#[100, 105, 118]⟩).toList = 2 from rfl]))
  go_ret2
  exact ⟨rfl, rfl⟩

set_option maxHeartbeats 1000000 in
theorem rdoL_rem (a0 a1 k : Int) (hk : k < 1) (b off cap : Nat) (w : World) (hc0 : w.cell? ⟨b, off, none⟩ = some (.int .i64 a0)) (hr0 : -9223372036854775808 ≤ a0 ∧ a0 ≤ 9223372036854775807) (hc1 : w.cell? ⟨b, off + 1, none⟩ = some (.int .i64 a1)) (hr1 : -9223372036854775808 ≤ a1 ∧ a1 ≤ 9223372036854775807) (hy : (cutI a1 1 == 0) = false) (hy1 : 1 ≤ cutU a1 1) :
    Calls Try.prog 9 #[.string ⟨#[114, 101, 109]⟩, .int .i64 k, .slice (some ⟨b, off, none⟩) 2 cap] w fun e w' => e = .returned (.tuple #[.int .i64 (cutI (wrap64 (opU .rem (cutU a0 1) (cutU a1 1))) 1), .bool true]) ∧ w = w' := by
  have hu := u64_cutI
  have h63 := s63
  have hx0 := cutI_bd a0 1
  have hb0 := cutU_bd a0 1
  have hb1 := cutU_bd a1 1
  have hx1 := cutI_bd a1 1
  have h63b := mod63 (cutI a1 1)
  go_enter Try.func9, Try.ntmps9
  go_wp2_with (first
    | (go_at_call 13; refine (rcut_any _ _ _ ?_).mono ?_; (first | exact hr0 | exact hr1 | exact w64_bd _ | exact bits_bd _ _ _ | exact zo_bd | exact zz_bd); rintro e w' ⟨rfl, rfl⟩)
    | (go_at_call 11; refine (arityR_any _ _).mono ?_; rintro e w' ⟨rfl, rfl⟩; rw [show arityOf (ByteArray.data ⟨#[114, 101, 109]⟩).toList = 2 from rfl]))
  go_ret2
  exact ⟨rfl, rfl⟩

set_option maxHeartbeats 1000000 in
theorem rdoL_rem_no (a0 a1 k : Int) (hk : k < 1) (b off cap : Nat) (w : World) (hc0 : w.cell? ⟨b, off, none⟩ = some (.int .i64 a0)) (hr0 : -9223372036854775808 ≤ a0 ∧ a0 ≤ 9223372036854775807) (hc1 : w.cell? ⟨b, off + 1, none⟩ = some (.int .i64 a1)) (hr1 : -9223372036854775808 ≤ a1 ∧ a1 ≤ 9223372036854775807) (hy : (cutI a1 1 == 0) = true) :
    Calls Try.prog 9 #[.string ⟨#[114, 101, 109]⟩, .int .i64 k, .slice (some ⟨b, off, none⟩) 2 cap] w fun e w' => e = .returned (.tuple #[.int .i64 0, .bool false]) ∧ w = w' := by
  have hu := u64_cutI
  have h63 := s63
  have hx0 := cutI_bd a0 1
  have hb0 := cutU_bd a0 1
  have hb1 := cutU_bd a1 1
  have hx1 := cutI_bd a1 1
  have h63b := mod63 (cutI a1 1)
  go_enter Try.func9, Try.ntmps9
  go_wp2_with (first
    | (go_at_call 13; refine (rcut_any _ _ _ ?_).mono ?_; (first | exact hr0 | exact hr1 | exact w64_bd _ | exact bits_bd _ _ _ | exact zo_bd | exact zz_bd); rintro e w' ⟨rfl, rfl⟩)
    | (go_at_call 11; refine (arityR_any _ _).mono ?_; rintro e w' ⟨rfl, rfl⟩; rw [show arityOf (ByteArray.data ⟨#[114, 101, 109]⟩).toList = 2 from rfl]))
  go_ret2
  exact ⟨rfl, rfl⟩

set_option maxHeartbeats 1000000 in
theorem rdoL_lt_yes (a0 a1 k : Int) (hk : k < 1) (b off cap : Nat) (w : World) (hc0 : w.cell? ⟨b, off, none⟩ = some (.int .i64 a0)) (hr0 : -9223372036854775808 ≤ a0 ∧ a0 ≤ 9223372036854775807) (hc1 : w.cell? ⟨b, off + 1, none⟩ = some (.int .i64 a1)) (hr1 : -9223372036854775808 ≤ a1 ∧ a1 ≤ 9223372036854775807) (hlt : cutU a0 1 < cutU a1 1) :
    Calls Try.prog 9 #[.string ⟨#[108, 116]⟩, .int .i64 k, .slice (some ⟨b, off, none⟩) 2 cap] w fun e w' => e = .returned (.tuple #[.int .i64 (cutI (wrap64 (opU .lt (cutU a0 1) (cutU a1 1))) 1), .bool true]) ∧ w = w' := by
  have hu := u64_cutI
  have h63 := s63
  have hx0 := cutI_bd a0 1
  have hx1 := cutI_bd a1 1
  have h63b := mod63 (cutI a1 1)
  go_enter Try.func9, Try.ntmps9
  go_wp2_with (first
    | (go_at_call 13; refine (rcut_any _ _ _ ?_).mono ?_; (first | exact hr0 | exact hr1 | exact w64_bd _ | exact bits_bd _ _ _ | exact zo_bd | exact zz_bd); rintro e w' ⟨rfl, rfl⟩)
    | (go_at_call 11; refine (arityR_any _ _).mono ?_; rintro e w' ⟨rfl, rfl⟩; rw [show arityOf (ByteArray.data ⟨#[108, 116]⟩).toList = 2 from rfl]))
  go_ret2
  exact ⟨ret2 (by rw [opU, if_pos hlt, w64_1]), rfl⟩

set_option maxHeartbeats 1000000 in
theorem rdoL_lt_no (a0 a1 k : Int) (hk : k < 1) (b off cap : Nat) (w : World) (hc0 : w.cell? ⟨b, off, none⟩ = some (.int .i64 a0)) (hr0 : -9223372036854775808 ≤ a0 ∧ a0 ≤ 9223372036854775807) (hc1 : w.cell? ⟨b, off + 1, none⟩ = some (.int .i64 a1)) (hr1 : -9223372036854775808 ≤ a1 ∧ a1 ≤ 9223372036854775807) (hlt : ¬ cutU a0 1 < cutU a1 1) :
    Calls Try.prog 9 #[.string ⟨#[108, 116]⟩, .int .i64 k, .slice (some ⟨b, off, none⟩) 2 cap] w fun e w' => e = .returned (.tuple #[.int .i64 (cutI (wrap64 (opU .lt (cutU a0 1) (cutU a1 1))) 1), .bool true]) ∧ w = w' := by
  have hu := u64_cutI
  have h63 := s63
  have hx0 := cutI_bd a0 1
  have hx1 := cutI_bd a1 1
  have h63b := mod63 (cutI a1 1)
  go_enter Try.func9, Try.ntmps9
  go_wp2_with (first
    | (go_at_call 13; refine (rcut_any _ _ _ ?_).mono ?_; (first | exact hr0 | exact hr1 | exact w64_bd _ | exact bits_bd _ _ _ | exact zo_bd | exact zz_bd); rintro e w' ⟨rfl, rfl⟩)
    | (go_at_call 11; refine (arityR_any _ _).mono ?_; rintro e w' ⟨rfl, rfl⟩; rw [show arityOf (ByteArray.data ⟨#[108, 116]⟩).toList = 2 from rfl]))
  go_ret2
  exact ⟨ret2 (by rw [opU, if_neg (by omega), w64_0]), rfl⟩

set_option maxHeartbeats 1000000 in
theorem rdoL_eq_yes (a0 a1 k : Int) (hk : k < 1) (b off cap : Nat) (w : World) (hc0 : w.cell? ⟨b, off, none⟩ = some (.int .i64 a0)) (hr0 : -9223372036854775808 ≤ a0 ∧ a0 ≤ 9223372036854775807) (hc1 : w.cell? ⟨b, off + 1, none⟩ = some (.int .i64 a1)) (hr1 : -9223372036854775808 ≤ a1 ∧ a1 ≤ 9223372036854775807) (hlt : (cutI a0 1 == cutI a1 1) = true) :
    Calls Try.prog 9 #[.string ⟨#[101, 113]⟩, .int .i64 k, .slice (some ⟨b, off, none⟩) 2 cap] w fun e w' => e = .returned (.tuple #[.int .i64 (cutI (wrap64 (opU .eq (cutU a0 1) (cutU a1 1))) 1), .bool true]) ∧ w = w' := by
  have hu := u64_cutI
  have h63 := s63
  have hx0 := cutI_bd a0 1
  have hx1 := cutI_bd a1 1
  have h63b := mod63 (cutI a1 1)
  go_enter Try.func9, Try.ntmps9
  go_wp2_with (first
    | (go_at_call 13; refine (rcut_any _ _ _ ?_).mono ?_; (first | exact hr0 | exact hr1 | exact w64_bd _ | exact bits_bd _ _ _ | exact zo_bd | exact zz_bd); rintro e w' ⟨rfl, rfl⟩)
    | (go_at_call 11; refine (arityR_any _ _).mono ?_; rintro e w' ⟨rfl, rfl⟩; rw [show arityOf (ByteArray.data ⟨#[101, 113]⟩).toList = 2 from rfl]))
  go_ret2
  exact ⟨ret2 (by rw [opU, if_pos (by rw [sameU] at hlt; simpa using hlt), w64_1]), rfl⟩

set_option maxHeartbeats 1000000 in
theorem rdoL_eq_no (a0 a1 k : Int) (hk : k < 1) (b off cap : Nat) (w : World) (hc0 : w.cell? ⟨b, off, none⟩ = some (.int .i64 a0)) (hr0 : -9223372036854775808 ≤ a0 ∧ a0 ≤ 9223372036854775807) (hc1 : w.cell? ⟨b, off + 1, none⟩ = some (.int .i64 a1)) (hr1 : -9223372036854775808 ≤ a1 ∧ a1 ≤ 9223372036854775807) (hlt : (cutI a0 1 == cutI a1 1) = false) :
    Calls Try.prog 9 #[.string ⟨#[101, 113]⟩, .int .i64 k, .slice (some ⟨b, off, none⟩) 2 cap] w fun e w' => e = .returned (.tuple #[.int .i64 (cutI (wrap64 (opU .eq (cutU a0 1) (cutU a1 1))) 1), .bool true]) ∧ w = w' := by
  have hu := u64_cutI
  have h63 := s63
  have hx0 := cutI_bd a0 1
  have hx1 := cutI_bd a1 1
  have h63b := mod63 (cutI a1 1)
  go_enter Try.func9, Try.ntmps9
  go_wp2_with (first
    | (go_at_call 13; refine (rcut_any _ _ _ ?_).mono ?_; (first | exact hr0 | exact hr1 | exact w64_bd _ | exact bits_bd _ _ _ | exact zo_bd | exact zz_bd); rintro e w' ⟨rfl, rfl⟩)
    | (go_at_call 11; refine (arityR_any _ _).mono ?_; rintro e w' ⟨rfl, rfl⟩; rw [show arityOf (ByteArray.data ⟨#[101, 113]⟩).toList = 2 from rfl]))
  go_ret2
  exact ⟨ret2 (by rw [opU, if_neg (by rw [sameU] at hlt; simpa using hlt), w64_0]), rfl⟩

set_option maxHeartbeats 1000000 in
theorem rdoL_not (a0 k : Int) (hk : k < 1) (b off cap : Nat) (w : World) (hc0 : w.cell? ⟨b, off, none⟩ = some (.int .i64 a0)) (hr0 : -9223372036854775808 ≤ a0 ∧ a0 ≤ 9223372036854775807) :
    Calls Try.prog 9 #[.string ⟨#[110, 111, 116]⟩, .int .i64 k, .slice (some ⟨b, off, none⟩) 1 cap] w fun e w' => e = .returned (.tuple #[.int .i64 (cutI (wrap64 (opU .not (cutU a0 1) 0)) 1), .bool true]) ∧ w = w' := by
  have hu := u64_cutI
  have h63 := s63
  have hx0 := cutI_bd a0 1

  go_enter Try.func9, Try.ntmps9
  go_wp2_with (first
    | (go_at_call 13; refine (rcut_any _ _ _ ?_).mono ?_; (first | exact hr0 | exact w64_bd _ | exact bits_bd _ _ _ | exact zo_bd | exact zz_bd); rintro e w' ⟨rfl, rfl⟩)
    | (go_at_call 11; refine (arityR_any _ _).mono ?_; rintro e w' ⟨rfl, rfl⟩; rw [show arityOf (ByteArray.data ⟨#[110, 111, 116]⟩).toList = 1 from rfl]))
  go_ret2
  exact ⟨ret2 (r_not _ _), rfl⟩

end Go.Proofs.Ytmffhdijfkcjkaa