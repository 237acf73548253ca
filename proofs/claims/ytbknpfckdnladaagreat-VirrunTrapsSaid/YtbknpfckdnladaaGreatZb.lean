/- VirrunTraps, evaluated at these numbers of stores. No condition. -/
import Derived.Test.YtbknpfckdnladaaGreatZp
set_option linter.unusedVariables false
namespace Go.Proofs.YtbknpfckdnladaaGreat
theorem trap6 (a b : Int) : law XZ 100000 9 [.int .i64 a, .int .i64 b, .int .i64 6] = tT a b := by kernel_rfl
theorem trap7 (a b : Int) : law XZ 100000 9 [.int .i64 a, .int .i64 b, .int .i64 7] = tT a b := by kernel_rfl
theorem trap8 (a b : Int) : law XZ 100000 9 [.int .i64 a, .int .i64 b, .int .i64 8] = tT a b := by kernel_rfl
theorem trap9 (a b : Int) : law XZ 100000 9 [.int .i64 a, .int .i64 b, .int .i64 9] = tT a b := by kernel_rfl
theorem trap10 (a b : Int) : law XZ 100000 9 [.int .i64 a, .int .i64 b, .int .i64 10] = tT a b := by kernel_rfl
theorem trap11 (a b : Int) : law XZ 100000 9 [.int .i64 a, .int .i64 b, .int .i64 11] = tT a b := by kernel_rfl
end Go.Proofs.YtbknpfckdnladaaGreat
