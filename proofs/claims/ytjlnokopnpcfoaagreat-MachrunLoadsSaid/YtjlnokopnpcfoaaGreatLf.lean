/- MachrunLoads, evaluated at lists of these lengths. No condition. -/
import Derived.Test.YtjlnokopnpcfoaaGreatLp
set_option linter.unusedVariables false
namespace Go.Proofs.YtjlnokopnpcfoaaGreat
theorem load30 (a v : Int) (ad vl : Nat → Int) : law XL 100000 10 [.int .i64 a, .int .i64 v, .lst false false 30 (gcl ad vl)] = lT a v (lgM ad vl 30) (wsM ad vl (and255 a) 30) := by kernel_rfl
theorem load31 (a v : Int) (ad vl : Nat → Int) : law XL 100000 10 [.int .i64 a, .int .i64 v, .lst false false 31 (gcl ad vl)] = lT a v (lgM ad vl 31) (wsM ad vl (and255 a) 31) := by kernel_rfl
theorem load32 (a v : Int) (ad vl : Nat → Int) : law XL 100000 10 [.int .i64 a, .int .i64 v, .lst false false 32 (gcl ad vl)] = lT a v (lgM ad vl 32) (wsM ad vl (and255 a) 32) := by kernel_rfl
theorem load33 (a v : Int) (ad vl : Nat → Int) : law XL 100000 10 [.int .i64 a, .int .i64 v, .lst false false 33 (gcl ad vl)] = lT a v (lgM ad vl 33) (wsM ad vl (and255 a) 33) := by kernel_rfl
theorem load34 (a v : Int) (ad vl : Nat → Int) : law XL 100000 10 [.int .i64 a, .int .i64 v, .lst false false 34 (gcl ad vl)] = lT a v (lgM ad vl 34) (wsM ad vl (and255 a) 34) := by kernel_rfl
theorem load35 (a v : Int) (ad vl : Nat → Int) : law XL 100000 10 [.int .i64 a, .int .i64 v, .lst false false 35 (gcl ad vl)] = lT a v (lgM ad vl 35) (wsM ad vl (and255 a) 35) := by kernel_rfl
end Go.Proofs.YtjlnokopnpcfoaaGreat
