/- MachrunParts, evaluated. No condition. -/
import Derived.Test.YtjlnokopnpcfoaaGreatNa
import Derived.Test.YtjlnokopnpcfoaaGreatPa
set_option linter.unusedVariables false
namespace Go.Proofs.YtjlnokopnpcfoaaGreat
noncomputable abbrev XNc : Cx := X1 Tryz.prog 13
theorem parts5 (a b : Int) : law XNc 100000 4 [.int .i64 a, .int .i64 b, .int .i64 5] = tP (mk 16) 48 0 a b := by kernel_rfl
theorem parts6 (a b : Int) : law XNc 100000 4 [.int .i64 a, .int .i64 b, .int .i64 6] = tP (mk 8) 56 0 a b := by kernel_rfl
end Go.Proofs.YtjlnokopnpcfoaaGreat
