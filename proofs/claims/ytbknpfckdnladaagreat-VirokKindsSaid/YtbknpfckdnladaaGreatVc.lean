/- Cases of a law, evaluated. No condition. -/
import Derived.Test.YtbknpfckdnladaaGreatBp
set_option linter.unusedVariables false
namespace Go.Proofs.YtbknpfckdnladaaGreat
noncomputable abbrev XK3 : Cx := X1 Tryz.prog 11
theorem kinds10 : law XK3 100000 4 [.int .i64 10] = 0 := by kernel_rfl
theorem kinds11 : law XK3 100000 4 [.int .i64 11] = 0 := by kernel_rfl
theorem kinds12 : law XK3 100000 4 [.int .i64 12] = 0 := by kernel_rfl
theorem kinds13 : law XK3 100000 4 [.int .i64 13] = 0 := by kernel_rfl
end Go.Proofs.YtbknpfckdnladaaGreat
