/- Cases of a law, evaluated. No condition. -/
import Derived.Test.YtbknpfckdnladaaGreatBp
set_option linter.unusedVariables false
namespace Go.Proofs.YtbknpfckdnladaaGreat
noncomputable abbrev XK2 : Cx := X1 Tryz.prog 11
theorem written100 : law XK2 100000 3 [.bool true, .bool false, .bool false] = 0 := by kernel_rfl
theorem written101 : law XK2 100000 3 [.bool true, .bool false, .bool true] = 0 := by kernel_rfl
theorem written110 : law XK2 100000 3 [.bool true, .bool true, .bool false] = 0 := by kernel_rfl
theorem written111 : law XK2 100000 3 [.bool true, .bool true, .bool true] = 0 := by kernel_rfl
end Go.Proofs.YtbknpfckdnladaaGreat
