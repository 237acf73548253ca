/- VirrunTraps, evaluated at these numbers of stores. No condition. -/
import Derived.Test.YtbknpfckdnladaaGreatZp
set_option linter.unusedVariables false
namespace Go.Proofs.YtbknpfckdnladaaGreat
theorem trap18 (a b : Int) : law XZ 100000 9 [.int .i64 a, .int .i64 b, .int .i64 18] = tT a b := by kernel_rfl
theorem trap19 (a b : Int) : law XZ 100000 9 [.int .i64 a, .int .i64 b, .int .i64 19] = tT a b := by kernel_rfl
theorem trap20 (a b : Int) : law XZ 100000 9 [.int .i64 a, .int .i64 b, .int .i64 20] = tT a b := by kernel_rfl
theorem trapz (a b : Int) (k : Nat) : law XZ 100000 9 [.int .i64 a, .int .i64 b, .int .i64 (.ofNat (k + 21))] = 0 := by kernel_rfl
theorem trapn (a b : Int) (k : Nat) : law XZ 100000 9 [.int .i64 a, .int .i64 b, .int .i64 (.negSucc k)] = 0 := by kernel_rfl
end Go.Proofs.YtbknpfckdnladaaGreat
