/- MachrunParts, evaluated. No condition. -/
import Derived.Test.YtjlnokopnpcfoaaGreatNa
import Derived.Test.YtjlnokopnpcfoaaGreatPa
set_option linter.unusedVariables false
namespace Go.Proofs.YtjlnokopnpcfoaaGreat
noncomputable abbrev XNb : Cx := X1 Tryz.prog 13
theorem parts3 (a b : Int) : law XNb 100000 4 [.int .i64 a, .int .i64 b, .int .i64 3] = tP (-1) 0 0 a b := by kernel_rfl
theorem parts4 (a b : Int) : law XNb 100000 4 [.int .i64 a, .int .i64 b, .int .i64 4] = tP (mk 32) 32 0 a b := by kernel_rfl
end Go.Proofs.YtjlnokopnpcfoaaGreat
