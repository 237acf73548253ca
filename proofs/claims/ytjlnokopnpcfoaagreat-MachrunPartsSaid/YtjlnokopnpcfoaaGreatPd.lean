/- MachrunParts, evaluated. No condition. -/
import Derived.Test.YtjlnokopnpcfoaaGreatNa
import Derived.Test.YtjlnokopnpcfoaaGreatPa
set_option linter.unusedVariables false
namespace Go.Proofs.YtjlnokopnpcfoaaGreat
noncomputable abbrev XNd : Cx := X1 Tryz.prog 13
theorem parts7 (a b : Int) : law XNd 100000 4 [.int .i64 a, .int .i64 b, .int .i64 7] = tP (mk 8) 56 8 a b := by kernel_rfl
theorem parts0 (a b : Int) : law XNd 100000 4 [.int .i64 a, .int .i64 b, .int .i64 0] = 0 := by kernel_rfl
theorem parts1 (a b : Int) : law XNd 100000 4 [.int .i64 a, .int .i64 b, .int .i64 1] = 0 := by kernel_rfl
theorem parts2 (a b : Int) : law XNd 100000 4 [.int .i64 a, .int .i64 b, .int .i64 2] = 0 := by kernel_rfl
theorem partsN (a b : Int) (k : Nat) : law XNd 100000 4 [.int .i64 a, .int .i64 b, .int .i64 (.negSucc k)] = 0 := by kernel_rfl
theorem partsP (a b : Int) (k : Nat) : law XNd 100000 4 [.int .i64 a, .int .i64 b, .int .i64 (.ofNat (k + 8))] = 0 := by kernel_rfl
end Go.Proofs.YtjlnokopnpcfoaaGreat
