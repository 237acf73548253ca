/- The law TopNames, walked. -/
import Derived.Test.YtmffhdijfkcjkaaProg
import Derived.Test.YtmffhdijfkcjkaaLib
import Derived.WalkKit
import Derived.Deep.QuietTactic
import Derived.BigQuiet
import Derived.WalkSmall
namespace Go.Proofs.Ytmffhdijfkcjkaa
open Go.RowKit

theorem Ext.drewN (w : World) (n : Nat) : Ext w (w.drewN n) := below_drewN (Below.refl _ _) n
set_option maxHeartbeats 400000 in
theorem are_any (b off cap n : Nat) (xs : List Int) (w : World) (hn : n ≤ 1000) (hx : xs.length = n)
    (hc : ∀ i, i < n → w.cell? ⟨b, off + i * 2, none⟩ = some (.int .i64 (xs.getD i 0)) ∧ w.cell? ⟨b, off + i * 2 + 1, none⟩ = some (.int .i64 (xs.getD i 0))) :
    Calls Try.prog 32 #[.slice (some ⟨b, off, none⟩) n cap] w fun e w' => e = .returned (.bool true) ∧ Below w.heap.size w w' := by
  go_enter Try.func32, Try.ntmps32
  go_wp2
  go_loopw [3] (fun i wr => ∃ j : Nat, j ≤ n ∧ i = .int .i64 j ∧ Ext w wr) (fun i _ => n - (intOf i).toNat)
  case atStart => exact ⟨0, by omega, rfl, Ext.refl _⟩
  case round =>
    obtain ⟨j, hj, rfl, er⟩ := hrel
    by_cases hlt : j < n
    · obtain ⟨c0, c1⟩ := hc j hlt
      have d0 := er.cell c0
      have d1 := er.cell c1
      clear hc c0 c1
      have hl1 : (0 : Int) ≤ j := by omega
      have hl2 : (j : Int) < n := by omega
      go_wp2
      go_quiet (fail)
      go_wp2
      go_roundw
      case rel => exact ⟨j + 1, by omega, by go_num, er.trans (Ext.drewN _ _)⟩
      case measure => simp [intOf]; omega
    · go_wp2
      go_ret
      exact ⟨rfl, er⟩

def dup (x : Int) : List Value := [.int .i64 x, .int .i64 x]
theorem dup_at (xs : List Int) : ∀ i, i < xs.length → (xs.flatMap dup)[i * 2]? = some (.int .i64 (xs.getD i 0)) ∧ (xs.flatMap dup)[i * 2 + 1]? = some (.int .i64 (xs.getD i 0)) := by
  induction xs with
  | nil => intro i hi; simp at hi
  | cons x xs ih =>
    intro i hi
    cases i with
    | zero => simp [dup]
    | succ i =>
      have := ih i (by simpa using hi)
      rw [show (i + 1) * 2 = i * 2 + 1 + 1 by omega]
      simpa [dup] using this
theorem cell_new' (w : World) (cs : List Value) (e : TypeId) (i : Nat) : (w.alloc (.cells cs.toArray e)).cell? ⟨w.heap.size, i, none⟩ = cs[i]? := by
  simp only [World.cell?, heap_alloc_new]; simp
theorem are_lit (w : World) (e : TypeId) (xs : List Int) (n : Nat) (hn : n ≤ 1000) (hx : xs.length = n) :
    Calls Try.prog 32 #[.slice (some ⟨w.heap.size, 0, none⟩) n n] (w.alloc (.cells (xs.flatMap dup).toArray e)) fun e' w' => e' = .returned (.bool true) ∧ Below (w.alloc (.cells (xs.flatMap dup).toArray e)).heap.size (w.alloc (.cells (xs.flatMap dup).toArray e)) w' := by
  refine are_any w.heap.size 0 n n xs _ hn hx fun i hi => ?_
  have := dup_at xs i (by omega)
  rw [Nat.zero_add, cell_new', cell_new']
  exact this

set_option maxRecDepth 100000 in
set_option maxHeartbeats 1000000 in
theorem first_any (w : World) : Calls Try.prog 14 #[] w fun e w' => e = .returned (.bool true) ∧ Below w.heap.size w w' := by
  have key := are_lit w 37 [0, 1, 2, 3, 4, 5, 6, 7, 8, 9, 10, 11, 20, 21, 22, 23, 24, 30, 31, 32, 40, 65536, 20, 6, 200] 25 (by decide) rfl
  go_enter Try.func14, Try.ntmps14
  go_wp2_with fail
  refine key.mono ?_
  rintro e w1 ⟨rfl, hb1⟩
  go_wp2_with fail
  go_ret
  exact ⟨rfl, (Ext.alloc w _).trans hb1⟩

set_option maxRecDepth 100000 in
set_option maxHeartbeats 1000000 in
theorem second_any (w : World) : Calls Try.prog 15 #[] w fun e w' => e = .returned (.bool true) ∧ Below w.heap.size w w' := by
  have key := are_lit w 37 [64, 64, 1000, 200, 400, 500, 16, 1048576, 8000, 1099511627776, 1, 2, 3, 4, 5, 6, 7, 8, 9, 10, 11, 0, 1, 2, 3] 25 (by decide) rfl
  go_enter Try.func15, Try.ntmps15
  go_wp2_with fail
  refine key.mono ?_
  rintro e w1 ⟨rfl, hb1⟩
  go_wp2_with fail
  go_ret
  exact ⟨rfl, (Ext.alloc w _).trans hb1⟩

set_option maxHeartbeats 400000 in
theorem topNames_any (w : World) : Calls Try.prog 6 #[] w fun e w' => e = .returned (.bool true) ∧ Below w.heap.size w w' := by
  go_enter Try.func6, Try.ntmps6
  go_wp2_with fail
  refine (first_any _).mono ?_
  rintro e w1 ⟨rfl, hb1⟩
  go_wp2_with fail
  refine (second_any _).mono ?_
  rintro e w2 ⟨rfl, hb2⟩
  go_wp2_with fail
  go_ret
  exact ⟨rfl, Ext.trans hb1 hb2⟩
end Go.Proofs.Ytmffhdijfkcjkaa
