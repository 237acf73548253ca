/- VirrunTraps, evaluated at these numbers of stores. No condition. -/
import Derived.Test.YtbknpfckdnladaaGreatZp
set_option linter.unusedVariables false
namespace Go.Proofs.YtbknpfckdnladaaGreat
theorem trap0 (a b : Int) : law XZ 100000 9 [.int .i64 a, .int .i64 b, .int .i64 0] = tT a b := by kernel_rfl
theorem trap1 (a b : Int) : law XZ 100000 9 [.int .i64 a, .int .i64 b, .int .i64 1] = tT a b := by kernel_rfl
theorem trap2 (a b : Int) : law XZ 100000 9 [.int .i64 a, .int .i64 b, .int .i64 2] = tT a b := by kernel_rfl
theorem trap3 (a b : Int) : law XZ 100000 9 [.int .i64 a, .int .i64 b, .int .i64 3] = tT a b := by kernel_rfl
theorem trap4 (a b : Int) : law XZ 100000 9 [.int .i64 a, .int .i64 b, .int .i64 4] = tT a b := by kernel_rfl
theorem trap5 (a b : Int) : law XZ 100000 9 [.int .i64 a, .int .i64 b, .int .i64 5] = tT a b := by kernel_rfl
end Go.Proofs.YtbknpfckdnladaaGreat
