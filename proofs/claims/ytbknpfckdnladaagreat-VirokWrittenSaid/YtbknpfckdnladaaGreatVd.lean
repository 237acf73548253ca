/- Cases of a law, evaluated. No condition. -/
import Derived.Test.YtbknpfckdnladaaGreatBp
set_option linter.unusedVariables false
namespace Go.Proofs.YtbknpfckdnladaaGreat
noncomputable abbrev XK : Cx := X1 Tryz.prog 11
theorem written000 : law XK 100000 3 [.bool false, .bool false, .bool false] = 0 := by kernel_rfl
theorem written001 : law XK 100000 3 [.bool false, .bool false, .bool true] = 0 := by kernel_rfl
theorem written010 : law XK 100000 3 [.bool false, .bool true, .bool false] = 0 := by kernel_rfl
theorem written011 : law XK 100000 3 [.bool false, .bool true, .bool true] = 0 := by kernel_rfl
end Go.Proofs.YtbknpfckdnladaaGreat
