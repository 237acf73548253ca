/- VirrunTraps, evaluated at these numbers of stores. No condition. -/
import Derived.Test.YtbknpfckdnladaaGreatZp
set_option linter.unusedVariables false
namespace Go.Proofs.YtbknpfckdnladaaGreat
theorem trap12 (a b : Int) : law XZ 100000 9 [.int .i64 a, .int .i64 b, .int .i64 12] = tT a b := by kernel_rfl
theorem trap13 (a b : Int) : law XZ 100000 9 [.int .i64 a, .int .i64 b, .int .i64 13] = tT a b := by kernel_rfl
theorem trap14 (a b : Int) : law XZ 100000 9 [.int .i64 a, .int .i64 b, .int .i64 14] = tT a b := by kernel_rfl
theorem trap15 (a b : Int) : law XZ 100000 9 [.int .i64 a, .int .i64 b, .int .i64 15] = tT a b := by kernel_rfl
theorem trap16 (a b : Int) : law XZ 100000 9 [.int .i64 a, .int .i64 b, .int .i64 16] = tT a b := by kernel_rfl
theorem trap17 (a b : Int) : law XZ 100000 9 [.int .i64 a, .int .i64 b, .int .i64 17] = tT a b := by kernel_rfl
end Go.Proofs.YtbknpfckdnladaaGreat
