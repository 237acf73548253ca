/- Cases of a law, evaluated. No condition. -/
import Derived.Test.YtbknpfckdnladaaGreatBp
set_option linter.unusedVariables false
namespace Go.Proofs.YtbknpfckdnladaaGreat
noncomputable abbrev XK2 : Cx := X1 Tryz.prog 11
theorem kinds5 : law XK2 100000 4 [.int .i64 5] = 0 := by kernel_rfl
theorem kinds6 : law XK2 100000 4 [.int .i64 6] = 0 := by kernel_rfl
theorem kinds7 : law XK2 100000 4 [.int .i64 7] = 0 := by kernel_rfl
theorem kinds8 : law XK2 100000 4 [.int .i64 8] = 0 := by kernel_rfl
theorem kinds9 : law XK2 100000 4 [.int .i64 9] = 0 := by kernel_rfl
end Go.Proofs.YtbknpfckdnladaaGreat
