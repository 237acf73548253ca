/- Cases of a law, evaluated. No condition. -/
import Derived.Test.YtbknpfckdnladaaGreatBp
set_option linter.unusedVariables false
namespace Go.Proofs.YtbknpfckdnladaaGreat
noncomputable abbrev XK : Cx := X1 Tryz.prog 11
theorem kindsN (k : Nat) : law XK 100000 4 [.int .i64 (.negSucc k)] = 0 := by kernel_rfl
theorem kindsP (k : Nat) : law XK 100000 4 [.int .i64 (.ofNat (k + 14))] = 0 := by kernel_rfl
theorem kinds0 : law XK 100000 4 [.int .i64 0] = 0 := by kernel_rfl
theorem kinds1 : law XK 100000 4 [.int .i64 1] = 0 := by kernel_rfl
theorem kinds2 : law XK 100000 4 [.int .i64 2] = 0 := by kernel_rfl
theorem kinds3 : law XK 100000 4 [.int .i64 3] = 0 := by kernel_rfl
theorem kinds4 : law XK 100000 4 [.int .i64 4] = 0 := by kernel_rfl
end Go.Proofs.YtbknpfckdnladaaGreat
