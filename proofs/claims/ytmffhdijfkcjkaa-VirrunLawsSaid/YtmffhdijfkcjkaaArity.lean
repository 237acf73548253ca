/- What the three functions Arity answer of every name. -/
import Derived.Test.YtmffhdijfkcjkaaProg
import Derived.Test.YtmffhdijfkcjkaaPlainDo
import Derived.Test.YtmffhdijfkcjkaaLib
import Derived.WalkKit
import Derived.WalkSpells
import Derived.WalkLawsBesides
namespace Go.Proofs.Ytmffhdijfkcjkaa
open Go.RowKit

theorem noOp {s : ByteArray} (h : opOf s.data.toList = none) (o : OpN) : (s.toList == o.bytes) = false := by
  rw [ByteArray.toList_eq]; simpa using opOf_none h o

set_option maxHeartbeats 1000000 in
theorem arityM_any (s : ByteArray) (w : World) : Calls Try.prog 31 #[.string s] w fun e w' => e = .returned (.int .i64 (arityOf s.data.toList)) ∧ w = w' := by
  unfold arityOf
  cases h : opOf s.data.toList with
  | none =>
    have f_add : (s.toList == [97, 100, 100]) = false := noOp h .add
    have f_sub : (s.toList == [115, 117, 98]) = false := noOp h .sub
    have f_mul : (s.toList == [109, 117, 108]) = false := noOp h .mul
    have f_and : (s.toList == [97, 110, 100]) = false := noOp h .and
    have f_or : (s.toList == [111, 114]) = false := noOp h .or
    have f_xor : (s.toList == [120, 111, 114]) = false := noOp h .xor
    have f_shl : (s.toList == [115, 104, 108]) = false := noOp h .shl
    have f_shr : (s.toList == [115, 104, 114]) = false := noOp h .shr
    have f_div : (s.toList == [100, 105, 118]) = false := noOp h .div
    have f_rem : (s.toList == [114, 101, 109]) = false := noOp h .rem
    have f_lt : (s.toList == [108, 116]) = false := noOp h .lt
    have f_eq : (s.toList == [101, 113]) = false := noOp h .eq
    have f_not : (s.toList == [110, 111, 116]) = false := noOp h .not
    clear h
    go_enter Try.func31, Try.ntmps31
    go_wp2
    go_ret
    exact ⟨rfl, rfl⟩
  | some o =>
    have hs := bytes_eq (opOf_some h)
    clear h
    subst hs
    cases o
    all_goals
      simp only [OpN.bytes]
      go_enter Try.func31, Try.ntmps31
      go_wp2
      go_ret
      exact ⟨rfl, rfl⟩

-- virrun's

set_option maxHeartbeats 400000 in
theorem arity_any (s : ByteArray) (w : World) : Calls Try.prog 10 #[.string s] w fun e w' => e = .returned (.int .i64 (arityOf s.data.toList)) ∧ w = w' := by
  go_enter Try.func10, Try.ntmps10
  go_wp2_with (go_at_call 31; refine (arityM_any _ _).mono ?_; rintro e w' ⟨rfl, rfl⟩)
  go_ret
  exact ⟨rfl, rfl⟩

set_option maxHeartbeats 1000000 in
theorem arityR_any (s : ByteArray) (w : World) : Calls Try.prog 11 #[.string s] w fun e w' => e = .returned (.int .i64 (arityOf s.data.toList)) ∧ w = w' := by
  unfold arityOf
  cases h : opOf s.data.toList with
  | none =>
    have f_add : (s.toList == [97, 100, 100]) = false := noOp h .add
    have f_sub : (s.toList == [115, 117, 98]) = false := noOp h .sub
    have f_mul : (s.toList == [109, 117, 108]) = false := noOp h .mul
    have f_and : (s.toList == [97, 110, 100]) = false := noOp h .and
    have f_or : (s.toList == [111, 114]) = false := noOp h .or
    have f_xor : (s.toList == [120, 111, 114]) = false := noOp h .xor
    have f_shl : (s.toList == [115, 104, 108]) = false := noOp h .shl
    have f_shr : (s.toList == [115, 104, 114]) = false := noOp h .shr
    have f_div : (s.toList == [100, 105, 118]) = false := noOp h .div
    have f_rem : (s.toList == [114, 101, 109]) = false := noOp h .rem
    have f_lt : (s.toList == [108, 116]) = false := noOp h .lt
    have f_eq : (s.toList == [101, 113]) = false := noOp h .eq
    have f_not : (s.toList == [110, 111, 116]) = false := noOp h .not
    clear h
    go_enter Try.func11, Try.ntmps11
    go_wp2
    go_ret
    exact ⟨rfl, rfl⟩
  | some o =>
    have hs := bytes_eq (opOf_some h)
    clear h
    subst hs
    cases o
    all_goals
      simp only [OpN.bytes]
      go_enter Try.func11, Try.ntmps11
      go_wp2
      go_ret
      exact ⟨rfl, rfl⟩
end Go.Proofs.Ytmffhdijfkcjkaa
