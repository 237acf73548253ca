/- What virrun.Do answers, an operation at a time. -/
import Derived.Test.YtmffhdijfkcjkaaProg
import Derived.Test.YtmffhdijfkcjkaaStrMap
import Derived.Test.YtmffhdijfkcjkaaPlainDo
import Derived.Test.YtmffhdijfkcjkaaLib
import Derived.WalkKit
import Derived.WalkSpells
import Derived.WalkLawsBesides
namespace Go.Proofs.Ytmffhdijfkcjkaa
open Go.RowKit

set_option maxHeartbeats 400000 in
theorem cut_any (v k : Int) (w : World) :
    Calls Try.prog 16 #[.int .i64 v, .int .i64 k] w fun e w' => e = .returned (.int .i64 (cutI v k)) ∧ w = w' := by
  have h3 : IntKind.u64.wrap (IntKind.u64.wrap v) = v % 18446744073709551616 := by rw [u64_def, u64_def]; omega
  have h4 := shifted v 63 (by omega)
  by_cases h1 : k ≤ 1
  · have e : cutI v k = wrap64 (v % 2 ^ 1) := by unfold cutI cutU kept; by_cases h : k < 1; rw [if_pos h]; rw [if_neg h, if_neg (by omega), show k.toNat = 1 by omega]
    have E := Lib.hid e; have H3 := Lib.hid h3; have H4 := Lib.hid h4; clear e h3 h4
    go_enter Try.func16, Try.ntmps16
    go_wp2
    all_goals (first | (exfalso; omega) | skip)
    all_goals (first | (exfalso; split at *; omega) | skip)
    all_goals (go_ret; refine ⟨?_, rfl⟩; rw [E.out]; exact ret_int (congrArg wrap64 H4.out))
  · by_cases h2 : 64 < k
    · have e : cutI v k = wrap64 (v % 18446744073709551616) := by unfold cutI cutU kept; rw [if_neg (by omega), if_pos h2]; rfl
      have E := Lib.hid e; have H3 := Lib.hid h3; have H4 := Lib.hid h4; clear e h3 h4
      go_enter Try.func16, Try.ntmps16
      go_wp2
      all_goals (first | (exfalso; omega) | skip)
      all_goals (go_ret; refine ⟨?_, rfl⟩; rw [E.out]; exact ret_int (congrArg wrap64 H3.out))
    · have h5 := shifted v (64 - k).toNat (by omega)
      have e : cutI v k = wrap64 (v % 2 ^ (64 - (64 - k).toNat)) := by unfold cutI cutU kept; rw [if_neg (by omega), if_neg h2, show 64 - (64 - k).toNat = k.toNat by omega]
      have E := Lib.hid e; have H3 := Lib.hid h3; have H4 := Lib.hid h4; have H5 := Lib.hid h5; clear e h3 h4 h5
      go_enter Try.func16, Try.ntmps16
      go_wp2
      all_goals (first | (exfalso; omega) | skip)
      all_goals (go_ret; refine ⟨?_, rfl⟩; rw [E.out]; exact ret_int (congrArg wrap64 H5.out))

theorem arity_add (w : World) : Calls Try.prog 10 #[.string ⟨#[97, 100, 100]⟩] w fun e w' => e = .returned (.int .i64 2) ∧ w = w' := by
  go_enter Try.func10, Try.ntmps10
  go_wp2
  go_ret
  exact ⟨rfl, rfl⟩

set_option maxHeartbeats 1000000 in
theorem do_add (a0 a1 k : Int) (b off cap : Nat) (w : World) (_hb : b < w.heap.size) (hc0 : w.cell? ⟨b, off, none⟩ = some (.int .i64 a0)) (hc1 : w.cell? ⟨b, off + 1, none⟩ = some (.int .i64 a1)) :
    Calls Try.prog 8 #[.string ⟨#[97, 100, 100]⟩, .int .i64 k, .slice (some ⟨b, off, none⟩) 2 cap] w fun e w' => e = .returned (.tuple #[.int .i64 (cutI (wrap64 (opU .add (cutU a0 k) (cutU a1 k))) k), .bool true]) ∧ Below w.heap.size w w' := by
  have hmm := @run_makeMap Try.prog
  have hins := @run_update_last Try.prog 34 9 32 Try.underlying34 Try.underlying9
  have hlook := @run_lookup_last Try.prog 34 9 32 Try.underlying34 Try.underlying9
  have hu := u64_cutI
  have hx := cutU_bd a0 k
  have hy' := cutU_bd a1 k
  go_enter Try.func8, Try.ntmps8
  go_wp2_with (first
    | (go_at_call 16; refine (cut_any _ _ _).mono ?_; rintro e w' ⟨rfl, rfl⟩)
    | (go_at_call 10; refine (arity_add _).mono ?_; rintro e w' ⟨rfl, rfl⟩)
    | go_in)
  go_ret2
  exact ⟨rfl, below3 _ _ _ _⟩

theorem arity_sub (w : World) : Calls Try.prog 10 #[.string ⟨#[115, 117, 98]⟩] w fun e w' => e = .returned (.int .i64 2) ∧ w = w' := by
  go_enter Try.func10, Try.ntmps10
  go_wp2
  go_ret
  exact ⟨rfl, rfl⟩

set_option maxHeartbeats 1000000 in
theorem do_sub (a0 a1 k : Int) (b off cap : Nat) (w : World) (_hb : b < w.heap.size) (hc0 : w.cell? ⟨b, off, none⟩ = some (.int .i64 a0)) (hc1 : w.cell? ⟨b, off + 1, none⟩ = some (.int .i64 a1)) :
    Calls Try.prog 8 #[.string ⟨#[115, 117, 98]⟩, .int .i64 k, .slice (some ⟨b, off, none⟩) 2 cap] w fun e w' => e = .returned (.tuple #[.int .i64 (cutI (wrap64 (opU .sub (cutU a0 k) (cutU a1 k))) k), .bool true]) ∧ Below w.heap.size w w' := by
  have hmm := @run_makeMap Try.prog
  have hins := @run_update_last Try.prog 34 9 32 Try.underlying34 Try.underlying9
  have hlook := @run_lookup_last Try.prog 34 9 32 Try.underlying34 Try.underlying9
  have hu := u64_cutI
  have hx := cutU_bd a0 k
  have hy' := cutU_bd a1 k
  go_enter Try.func8, Try.ntmps8
  go_wp2_with (first
    | (go_at_call 16; refine (cut_any _ _ _).mono ?_; rintro e w' ⟨rfl, rfl⟩)
    | (go_at_call 10; refine (arity_sub _).mono ?_; rintro e w' ⟨rfl, rfl⟩)
    | go_in)
  go_ret2
  exact ⟨rfl, below3 _ _ _ _⟩

theorem arity_mul (w : World) : Calls Try.prog 10 #[.string ⟨#[109, 117, 108]⟩] w fun e w' => e = .returned (.int .i64 2) ∧ w = w' := by
  go_enter Try.func10, Try.ntmps10
  go_wp2
  go_ret
  exact ⟨rfl, rfl⟩

set_option maxHeartbeats 1000000 in
theorem do_mul (a0 a1 k : Int) (b off cap : Nat) (w : World) (_hb : b < w.heap.size) (hc0 : w.cell? ⟨b, off, none⟩ = some (.int .i64 a0)) (hc1 : w.cell? ⟨b, off + 1, none⟩ = some (.int .i64 a1)) :
    Calls Try.prog 8 #[.string ⟨#[109, 117, 108]⟩, .int .i64 k, .slice (some ⟨b, off, none⟩) 2 cap] w fun e w' => e = .returned (.tuple #[.int .i64 (cutI (wrap64 (opU .mul (cutU a0 k) (cutU a1 k))) k), .bool true]) ∧ Below w.heap.size w w' := by
  have hmm := @run_makeMap Try.prog
  have hins := @run_update_last Try.prog 34 9 32 Try.underlying34 Try.underlying9
  have hlook := @run_lookup_last Try.prog 34 9 32 Try.underlying34 Try.underlying9
  have hu := u64_cutI
  have hx := cutU_bd a0 k
  have hy' := cutU_bd a1 k
  go_enter Try.func8, Try.ntmps8
  go_wp2_with (first
    | (go_at_call 16; refine (cut_any _ _ _).mono ?_; rintro e w' ⟨rfl, rfl⟩)
    | (go_at_call 10; refine (arity_mul _).mono ?_; rintro e w' ⟨rfl, rfl⟩)
    | go_in)
  go_ret2
  exact ⟨rfl, below3 _ _ _ _⟩

theorem arity_and (w : World) : Calls Try.prog 10 #[.string ⟨#[97, 110, 100]⟩] w fun e w' => e = .returned (.int .i64 2) ∧ w = w' := by
  go_enter Try.func10, Try.ntmps10
  go_wp2
  go_ret
  exact ⟨rfl, rfl⟩

set_option maxHeartbeats 1000000 in
theorem do_and (a0 a1 k : Int) (b off cap : Nat) (w : World) (_hb : b < w.heap.size) (hc0 : w.cell? ⟨b, off, none⟩ = some (.int .i64 a0)) (hc1 : w.cell? ⟨b, off + 1, none⟩ = some (.int .i64 a1)) :
    Calls Try.prog 8 #[.string ⟨#[97, 110, 100]⟩, .int .i64 k, .slice (some ⟨b, off, none⟩) 2 cap] w fun e w' => e = .returned (.tuple #[.int .i64 (cutI (wrap64 (opU .and (cutU a0 k) (cutU a1 k))) k), .bool true]) ∧ Below w.heap.size w w' := by
  have hmm := @run_makeMap Try.prog
  have hins := @run_update_last Try.prog 34 9 32 Try.underlying34 Try.underlying9
  have hlook := @run_lookup_last Try.prog 34 9 32 Try.underlying34 Try.underlying9
  have hu := u64_cutI
  have hx := cutU_bd a0 k
  have hy' := cutU_bd a1 k
  go_enter Try.func8, Try.ntmps8
  go_wp2_with (first
    | (go_at_call 16; refine (cut_any _ _ _).mono ?_; rintro e w' ⟨rfl, rfl⟩)
    | (go_at_call 10; refine (arity_and _).mono ?_; rintro e w' ⟨rfl, rfl⟩)
    | go_in)
  go_ret2
  exact ⟨rfl, below3 _ _ _ _⟩

theorem arity_or (w : World) : Calls Try.prog 10 #[.string ⟨#[111, 114]⟩] w fun e w' => e = .returned (.int .i64 2) ∧ w = w' := by
  go_enter Try.func10, Try.ntmps10
  go_wp2
  go_ret
  exact ⟨rfl, rfl⟩

set_option maxHeartbeats 1000000 in
theorem do_or (a0 a1 k : Int) (b off cap : Nat) (w : World) (_hb : b < w.heap.size) (hc0 : w.cell? ⟨b, off, none⟩ = some (.int .i64 a0)) (hc1 : w.cell? ⟨b, off + 1, none⟩ = some (.int .i64 a1)) :
    Calls Try.prog 8 #[.string ⟨#[111, 114]⟩, .int .i64 k, .slice (some ⟨b, off, none⟩) 2 cap] w fun e w' => e = .returned (.tuple #[.int .i64 (cutI (wrap64 (opU .or (cutU a0 k) (cutU a1 k))) k), .bool true]) ∧ Below w.heap.size w w' := by
  have hmm := @run_makeMap Try.prog
  have hins := @run_update_last Try.prog 34 9 32 Try.underlying34 Try.underlying9
  have hlook := @run_lookup_last Try.prog 34 9 32 Try.underlying34 Try.underlying9
  have hu := u64_cutI
  have hx := cutU_bd a0 k
  have hy' := cutU_bd a1 k
  go_enter Try.func8, Try.ntmps8
  go_wp2_with (first
    | (go_at_call 16; refine (cut_any _ _ _).mono ?_; rintro e w' ⟨rfl, rfl⟩)
    | (go_at_call 10; refine (arity_or _).mono ?_; rintro e w' ⟨rfl, rfl⟩)
    | go_in)
  go_ret2
  exact ⟨rfl, below3 _ _ _ _⟩

theorem arity_xor (w : World) : Calls Try.prog 10 #[.string ⟨#[120, 111, 114]⟩] w fun e w' => e = .returned (.int .i64 2) ∧ w = w' := by
  go_enter Try.func10, Try.ntmps10
  go_wp2
  go_ret
  exact ⟨rfl, rfl⟩

set_option maxHeartbeats 1000000 in
theorem do_xor (a0 a1 k : Int) (b off cap : Nat) (w : World) (_hb : b < w.heap.size) (hc0 : w.cell? ⟨b, off, none⟩ = some (.int .i64 a0)) (hc1 : w.cell? ⟨b, off + 1, none⟩ = some (.int .i64 a1)) :
    Calls Try.prog 8 #[.string ⟨#[120, 111, 114]⟩, .int .i64 k, .slice (some ⟨b, off, none⟩) 2 cap] w fun e w' => e = .returned (.tuple #[.int .i64 (cutI (wrap64 (opU .xor (cutU a0 k) (cutU a1 k))) k), .bool true]) ∧ Below w.heap.size w w' := by
  have hmm := @run_makeMap Try.prog
  have hins := @run_update_last Try.prog 34 9 32 Try.underlying34 Try.underlying9
  have hlook := @run_lookup_last Try.prog 34 9 32 Try.underlying34 Try.underlying9
  have hu := u64_cutI
  have hx := cutU_bd a0 k
  have hy' := cutU_bd a1 k
  go_enter Try.func8, Try.ntmps8
  go_wp2_with (first
    | (go_at_call 16; refine (cut_any _ _ _).mono ?_; rintro e w' ⟨rfl, rfl⟩)
    | (go_at_call 10; refine (arity_xor _).mono ?_; rintro e w' ⟨rfl, rfl⟩)
    | go_in)
  go_ret2
  exact ⟨rfl, below3 _ _ _ _⟩

theorem arity_shl (w : World) : Calls Try.prog 10 #[.string ⟨#[115, 104, 108]⟩] w fun e w' => e = .returned (.int .i64 2) ∧ w = w' := by
  go_enter Try.func10, Try.ntmps10
  go_wp2
  go_ret
  exact ⟨rfl, rfl⟩

set_option maxHeartbeats 1000000 in
theorem do_shl (a0 a1 k : Int) (b off cap : Nat) (w : World) (_hb : b < w.heap.size) (hc0 : w.cell? ⟨b, off, none⟩ = some (.int .i64 a0)) (hc1 : w.cell? ⟨b, off + 1, none⟩ = some (.int .i64 a1)) :
    Calls Try.prog 8 #[.string ⟨#[115, 104, 108]⟩, .int .i64 k, .slice (some ⟨b, off, none⟩) 2 cap] w fun e w' => e = .returned (.tuple #[.int .i64 (cutI (wrap64 (opU .shl (cutU a0 k) (cutU a1 k))) k), .bool true]) ∧ Below w.heap.size w w' := by
  have hmm := @run_makeMap Try.prog
  have hins := @run_update_last Try.prog 34 9 32 Try.underlying34 Try.underlying9
  have hlook := @run_lookup_last Try.prog 34 9 32 Try.underlying34 Try.underlying9
  have hu := u64_cutI
  have h63 := and63 (cutU a1 k) (cutU_bd a1 k)
  have h63b := mod63 (cutU a1 k)
  have hx := cutU_bd a0 k
  have hy' := cutU_bd a1 k
  go_enter Try.func8, Try.ntmps8
  go_wp2_with (first
    | (go_at_call 16; refine (cut_any _ _ _).mono ?_; rintro e w' ⟨rfl, rfl⟩)
    | (go_at_call 10; refine (arity_shl _).mono ?_; rintro e w' ⟨rfl, rfl⟩)
    | go_in)
  go_ret2
  exact ⟨rfl, below3 _ _ _ _⟩

theorem arity_shr (w : World) : Calls Try.prog 10 #[.string ⟨#[115, 104, 114]⟩] w fun e w' => e = .returned (.int .i64 2) ∧ w = w' := by
  go_enter Try.func10, Try.ntmps10
  go_wp2
  go_ret
  exact ⟨rfl, rfl⟩

set_option maxHeartbeats 1000000 in
theorem do_shr (a0 a1 k : Int) (b off cap : Nat) (w : World) (_hb : b < w.heap.size) (hc0 : w.cell? ⟨b, off, none⟩ = some (.int .i64 a0)) (hc1 : w.cell? ⟨b, off + 1, none⟩ = some (.int .i64 a1)) :
    Calls Try.prog 8 #[.string ⟨#[115, 104, 114]⟩, .int .i64 k, .slice (some ⟨b, off, none⟩) 2 cap] w fun e w' => e = .returned (.tuple #[.int .i64 (cutI (wrap64 (opU .shr (cutU a0 k) (cutU a1 k))) k), .bool true]) ∧ Below w.heap.size w w' := by
  have hmm := @run_makeMap Try.prog
  have hins := @run_update_last Try.prog 34 9 32 Try.underlying34 Try.underlying9
  have hlook := @run_lookup_last Try.prog 34 9 32 Try.underlying34 Try.underlying9
  have hu := u64_cutI
  have h63 := and63 (cutU a1 k) (cutU_bd a1 k)
  have h63b := mod63 (cutU a1 k)
  have hx := cutU_bd a0 k
  have hy' := cutU_bd a1 k
  go_enter Try.func8, Try.ntmps8
  go_wp2_with (first
    | (go_at_call 16; refine (cut_any _ _ _).mono ?_; rintro e w' ⟨rfl, rfl⟩)
    | (go_at_call 10; refine (arity_shr _).mono ?_; rintro e w' ⟨rfl, rfl⟩)
    | go_in)
  go_ret2
  exact ⟨rfl, below3 _ _ _ _⟩

theorem arity_div (w : World) : Calls Try.prog 10 #[.string ⟨#[100, 105, 118]⟩] w fun e w' => e = .returned (.int .i64 2) ∧ w = w' := by
  go_enter Try.func10, Try.ntmps10
  go_wp2
  go_ret
  exact ⟨rfl, rfl⟩

set_option maxHeartbeats 1000000 in
theorem do_div (a0 a1 k : Int) (b off cap : Nat) (w : World) (_hb : b < w.heap.size) (hc0 : w.cell? ⟨b, off, none⟩ = some (.int .i64 a0)) (hc1 : w.cell? ⟨b, off + 1, none⟩ = some (.int .i64 a1)) (hy : (cutU a1 k == 0) = false) (hy1 : 1 ≤ cutU a1 k) :
    Calls Try.prog 8 #[.string ⟨#[100, 105, 118]⟩, .int .i64 k, .slice (some ⟨b, off, none⟩) 2 cap] w fun e w' => e = .returned (.tuple #[.int .i64 (cutI (wrap64 (opU .div (cutU a0 k) (cutU a1 k))) k), .bool true]) ∧ Below w.heap.size w w' := by
  have hmm := @run_makeMap Try.prog
  have hins := @run_update_last Try.prog 34 9 32 Try.underlying34 Try.underlying9
  have hlook := @run_lookup_last Try.prog 34 9 32 Try.underlying34 Try.underlying9
  have hu := u64_cutI
  have hx := cutU_bd a0 k
  have hy' := cutU_bd a1 k
  go_enter Try.func8, Try.ntmps8
  go_wp2_with (first
    | (go_at_call 16; refine (cut_any _ _ _).mono ?_; rintro e w' ⟨rfl, rfl⟩)
    | (go_at_call 10; refine (arity_div _).mono ?_; rintro e w' ⟨rfl, rfl⟩)
    | go_in)
  go_ret2
  exact ⟨rfl, below3 _ _ _ _⟩

set_option maxHeartbeats 1000000 in
theorem do_div_no (a0 a1 k : Int) (b off cap : Nat) (w : World) (_hb : b < w.heap.size) (hc0 : w.cell? ⟨b, off, none⟩ = some (.int .i64 a0)) (hc1 : w.cell? ⟨b, off + 1, none⟩ = some (.int .i64 a1)) (hy : (cutU a1 k == 0) = true) :
    Calls Try.prog 8 #[.string ⟨#[100, 105, 118]⟩, .int .i64 k, .slice (some ⟨b, off, none⟩) 2 cap] w fun e w' => e = .returned (.tuple #[.int .i64 0, .bool false]) ∧ Below w.heap.size w w' := by
  have hmm := @run_makeMap Try.prog
  have hins := @run_update_last Try.prog 34 9 32 Try.underlying34 Try.underlying9
  have hlook := @run_lookup_last Try.prog 34 9 32 Try.underlying34 Try.underlying9
  have hu := u64_cutI
  have hx := cutU_bd a0 k
  have hy' := cutU_bd a1 k
  go_enter Try.func8, Try.ntmps8
  go_wp2_with (first
    | (go_at_call 16; refine (cut_any _ _ _).mono ?_; rintro e w' ⟨rfl, rfl⟩)
    | (go_at_call 10; refine (arity_div _).mono ?_; rintro e w' ⟨rfl, rfl⟩)
    | go_in)
  go_ret2
  exact ⟨rfl, below2 _ _ _⟩

theorem arity_rem (w : World) : Calls Try.prog 10 #[.string ⟨#[114, 101, 109]⟩] w fun e w' => e = .returned (.int .i64 2) ∧ w = w' := by
  go_enter Try.func10, Try.ntmps10
  go_wp2
  go_ret
  exact ⟨rfl, rfl⟩

set_option maxHeartbeats 1000000 in
theorem do_rem (a0 a1 k : Int) (b off cap : Nat) (w : World) (_hb : b < w.heap.size) (hc0 : w.cell? ⟨b, off, none⟩ = some (.int .i64 a0)) (hc1 : w.cell? ⟨b, off + 1, none⟩ = some (.int .i64 a1)) (hy : (cutU a1 k == 0) = false) (hy1 : 1 ≤ cutU a1 k) :
    Calls Try.prog 8 #[.string ⟨#[114, 101, 109]⟩, .int .i64 k, .slice (some ⟨b, off, none⟩) 2 cap] w fun e w' => e = .returned (.tuple #[.int .i64 (cutI (wrap64 (opU .rem (cutU a0 k) (cutU a1 k))) k), .bool true]) ∧ Below w.heap.size w w' := by
  have hmm := @run_makeMap Try.prog
  have hins := @run_update_last Try.prog 34 9 32 Try.underlying34 Try.underlying9
  have hlook := @run_lookup_last Try.prog 34 9 32 Try.underlying34 Try.underlying9
  have hu := u64_cutI
  have hx := cutU_bd a0 k
  have hy' := cutU_bd a1 k
  go_enter Try.func8, Try.ntmps8
  go_wp2_with (first
    | (go_at_call 16; refine (cut_any _ _ _).mono ?_; rintro e w' ⟨rfl, rfl⟩)
    | (go_at_call 10; refine (arity_rem _).mono ?_; rintro e w' ⟨rfl, rfl⟩)
    | go_in)
  go_ret2
  exact ⟨rfl, below3 _ _ _ _⟩

set_option maxHeartbeats 1000000 in
theorem do_rem_no (a0 a1 k : Int) (b off cap : Nat) (w : World) (_hb : b < w.heap.size) (hc0 : w.cell? ⟨b, off, none⟩ = some (.int .i64 a0)) (hc1 : w.cell? ⟨b, off + 1, none⟩ = some (.int .i64 a1)) (hy : (cutU a1 k == 0) = true) :
    Calls Try.prog 8 #[.string ⟨#[114, 101, 109]⟩, .int .i64 k, .slice (some ⟨b, off, none⟩) 2 cap] w fun e w' => e = .returned (.tuple #[.int .i64 0, .bool false]) ∧ Below w.heap.size w w' := by
  have hmm := @run_makeMap Try.prog
  have hins := @run_update_last Try.prog 34 9 32 Try.underlying34 Try.underlying9
  have hlook := @run_lookup_last Try.prog 34 9 32 Try.underlying34 Try.underlying9
  have hu := u64_cutI
  have hx := cutU_bd a0 k
  have hy' := cutU_bd a1 k
  go_enter Try.func8, Try.ntmps8
  go_wp2_with (first
    | (go_at_call 16; refine (cut_any _ _ _).mono ?_; rintro e w' ⟨rfl, rfl⟩)
    | (go_at_call 10; refine (arity_rem _).mono ?_; rintro e w' ⟨rfl, rfl⟩)
    | go_in)
  go_ret2
  exact ⟨rfl, below2 _ _ _⟩

theorem arity_lt (w : World) : Calls Try.prog 10 #[.string ⟨#[108, 116]⟩] w fun e w' => e = .returned (.int .i64 2) ∧ w = w' := by
  go_enter Try.func10, Try.ntmps10
  go_wp2
  go_ret
  exact ⟨rfl, rfl⟩

set_option maxHeartbeats 1000000 in
theorem do_lt_yes (a0 a1 k : Int) (b off cap : Nat) (w : World) (_hb : b < w.heap.size) (hc0 : w.cell? ⟨b, off, none⟩ = some (.int .i64 a0)) (hc1 : w.cell? ⟨b, off + 1, none⟩ = some (.int .i64 a1)) (hlt : cutU a0 k < cutU a1 k) :
    Calls Try.prog 8 #[.string ⟨#[108, 116]⟩, .int .i64 k, .slice (some ⟨b, off, none⟩) 2 cap] w fun e w' => e = .returned (.tuple #[.int .i64 (cutI (wrap64 (opU .lt (cutU a0 k) (cutU a1 k))) k), .bool true]) ∧ Below w.heap.size w w' := by
  have hmm := @run_makeMap Try.prog
  have hins := @run_update_last Try.prog 34 9 32 Try.underlying34 Try.underlying9
  have hlook := @run_lookup_last Try.prog 34 9 32 Try.underlying34 Try.underlying9
  have hu := u64_cutI
  have hx := cutU_bd a0 k
  have hy' := cutU_bd a1 k
  go_enter Try.func8, Try.ntmps8
  go_wp2_with (first
    | (go_at_call 16; refine (cut_any _ _ _).mono ?_; rintro e w' ⟨rfl, rfl⟩)
    | (go_at_call 10; refine (arity_lt _).mono ?_; rintro e w' ⟨rfl, rfl⟩)
    | go_in)
  go_ret2
  exact ⟨by rw [opU, if_pos hlt, w64_1]; rfl, below3 _ _ _ _⟩

set_option maxHeartbeats 1000000 in
theorem do_lt_no (a0 a1 k : Int) (b off cap : Nat) (w : World) (_hb : b < w.heap.size) (hc0 : w.cell? ⟨b, off, none⟩ = some (.int .i64 a0)) (hc1 : w.cell? ⟨b, off + 1, none⟩ = some (.int .i64 a1)) (hlt : ¬ cutU a0 k < cutU a1 k) :
    Calls Try.prog 8 #[.string ⟨#[108, 116]⟩, .int .i64 k, .slice (some ⟨b, off, none⟩) 2 cap] w fun e w' => e = .returned (.tuple #[.int .i64 (cutI (wrap64 (opU .lt (cutU a0 k) (cutU a1 k))) k), .bool true]) ∧ Below w.heap.size w w' := by
  have hmm := @run_makeMap Try.prog
  have hins := @run_update_last Try.prog 34 9 32 Try.underlying34 Try.underlying9
  have hlook := @run_lookup_last Try.prog 34 9 32 Try.underlying34 Try.underlying9
  have hu := u64_cutI
  have hx := cutU_bd a0 k
  have hy' := cutU_bd a1 k
  go_enter Try.func8, Try.ntmps8
  go_wp2_with (first
    | (go_at_call 16; refine (cut_any _ _ _).mono ?_; rintro e w' ⟨rfl, rfl⟩)
    | (go_at_call 10; refine (arity_lt _).mono ?_; rintro e w' ⟨rfl, rfl⟩)
    | go_in)
  go_ret2
  exact ⟨by rw [opU, if_neg (by omega), w64_0]; rfl, below3 _ _ _ _⟩

theorem arity_eq (w : World) : Calls Try.prog 10 #[.string ⟨#[101, 113]⟩] w fun e w' => e = .returned (.int .i64 2) ∧ w = w' := by
  go_enter Try.func10, Try.ntmps10
  go_wp2
  go_ret
  exact ⟨rfl, rfl⟩

set_option maxHeartbeats 1000000 in
theorem do_eq_yes (a0 a1 k : Int) (b off cap : Nat) (w : World) (_hb : b < w.heap.size) (hc0 : w.cell? ⟨b, off, none⟩ = some (.int .i64 a0)) (hc1 : w.cell? ⟨b, off + 1, none⟩ = some (.int .i64 a1)) (hlt : (cutU a0 k == cutU a1 k) = true) :
    Calls Try.prog 8 #[.string ⟨#[101, 113]⟩, .int .i64 k, .slice (some ⟨b, off, none⟩) 2 cap] w fun e w' => e = .returned (.tuple #[.int .i64 (cutI (wrap64 (opU .eq (cutU a0 k) (cutU a1 k))) k), .bool true]) ∧ Below w.heap.size w w' := by
  have hmm := @run_makeMap Try.prog
  have hins := @run_update_last Try.prog 34 9 32 Try.underlying34 Try.underlying9
  have hlook := @run_lookup_last Try.prog 34 9 32 Try.underlying34 Try.underlying9
  have hu := u64_cutI
  have hx := cutU_bd a0 k
  have hy' := cutU_bd a1 k
  go_enter Try.func8, Try.ntmps8
  go_wp2_with (first
    | (go_at_call 16; refine (cut_any _ _ _).mono ?_; rintro e w' ⟨rfl, rfl⟩)
    | (go_at_call 10; refine (arity_eq _).mono ?_; rintro e w' ⟨rfl, rfl⟩)
    | go_in)
  go_ret2
  exact ⟨by rw [opU, if_pos (by simpa using hlt), w64_1]; rfl, below3 _ _ _ _⟩

set_option maxHeartbeats 1000000 in
theorem do_eq_no (a0 a1 k : Int) (b off cap : Nat) (w : World) (_hb : b < w.heap.size) (hc0 : w.cell? ⟨b, off, none⟩ = some (.int .i64 a0)) (hc1 : w.cell? ⟨b, off + 1, none⟩ = some (.int .i64 a1)) (hlt : (cutU a0 k == cutU a1 k) = false) :
    Calls Try.prog 8 #[.string ⟨#[101, 113]⟩, .int .i64 k, .slice (some ⟨b, off, none⟩) 2 cap] w fun e w' => e = .returned (.tuple #[.int .i64 (cutI (wrap64 (opU .eq (cutU a0 k) (cutU a1 k))) k), .bool true]) ∧ Below w.heap.size w w' := by
  have hmm := @run_makeMap Try.prog
  have hins := @run_update_last Try.prog 34 9 32 Try.underlying34 Try.underlying9
  have hlook := @run_lookup_last Try.prog 34 9 32 Try.underlying34 Try.underlying9
  have hu := u64_cutI
  have hx := cutU_bd a0 k
  have hy' := cutU_bd a1 k
  go_enter Try.func8, Try.ntmps8
  go_wp2_with (first
    | (go_at_call 16; refine (cut_any _ _ _).mono ?_; rintro e w' ⟨rfl, rfl⟩)
    | (go_at_call 10; refine (arity_eq _).mono ?_; rintro e w' ⟨rfl, rfl⟩)
    | go_in)
  go_ret2
  exact ⟨by rw [opU, if_neg (by simpa using hlt), w64_0]; rfl, below3 _ _ _ _⟩

theorem arity_not (w : World) : Calls Try.prog 10 #[.string ⟨#[110, 111, 116]⟩] w fun e w' => e = .returned (.int .i64 1) ∧ w = w' := by
  go_enter Try.func10, Try.ntmps10
  go_wp2
  go_ret
  exact ⟨rfl, rfl⟩

set_option maxHeartbeats 1000000 in
theorem do_not (a0 k : Int) (b off cap : Nat) (w : World) (_hb : b < w.heap.size) (hc0 : w.cell? ⟨b, off, none⟩ = some (.int .i64 a0)) :
    Calls Try.prog 8 #[.string ⟨#[110, 111, 116]⟩, .int .i64 k, .slice (some ⟨b, off, none⟩) 1 cap] w fun e w' => e = .returned (.tuple #[.int .i64 (cutI (wrap64 (opU .not (cutU a0 k) 0)) k), .bool true]) ∧ Below w.heap.size w w' := by
  have hmm := @run_makeMap Try.prog
  have hins := @run_update_last Try.prog 34 9 32 Try.underlying34 Try.underlying9
  have hlook := @run_lookup_last Try.prog 34 9 32 Try.underlying34 Try.underlying9
  have hu := u64_cutI
  have hx := cutU_bd a0 k
  go_enter Try.func8, Try.ntmps8
  go_wp2_with (first
    | (go_at_call 16; refine (cut_any _ _ _).mono ?_; rintro e w' ⟨rfl, rfl⟩)
    | (go_at_call 10; refine (arity_not _).mono ?_; rintro e w' ⟨rfl, rfl⟩)
    | go_in)
  go_ret2
  exact ⟨rfl, below3 _ _ _ _⟩

end Go.Proofs.Ytmffhdijfkcjkaa