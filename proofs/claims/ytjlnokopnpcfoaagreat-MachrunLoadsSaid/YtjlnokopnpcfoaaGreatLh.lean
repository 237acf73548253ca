/- MachrunLoads, evaluated at lists of these lengths. No condition. -/
import Derived.Test.YtjlnokopnpcfoaaGreatLp
set_option linter.unusedVariables false
namespace Go.Proofs.YtjlnokopnpcfoaaGreat
theorem load42 (a v : Int) (ad vl : Nat → Int) : law XL 100000 10 [.int .i64 a, .int .i64 v, .lst false false 42 (gcl ad vl)] = lT a v (lgM ad vl 42) (wsM ad vl (and255 a) 42) := by kernel_rfl
theorem load43 (a v : Int) (ad vl : Nat → Int) : law XL 100000 10 [.int .i64 a, .int .i64 v, .lst false false 43 (gcl ad vl)] = lT a v (lgM ad vl 43) (wsM ad vl (and255 a) 43) := by kernel_rfl
theorem load44 (a v : Int) (ad vl : Nat → Int) : law XL 100000 10 [.int .i64 a, .int .i64 v, .lst false false 44 (gcl ad vl)] = lT a v (lgM ad vl 44) (wsM ad vl (and255 a) 44) := by kernel_rfl
theorem load45 (a v : Int) (ad vl : Nat → Int) : law XL 100000 10 [.int .i64 a, .int .i64 v, .lst false false 45 (gcl ad vl)] = lT a v (lgM ad vl 45) (wsM ad vl (and255 a) 45) := by kernel_rfl
theorem load46 (a v : Int) (ad vl : Nat → Int) : law XL 100000 10 [.int .i64 a, .int .i64 v, .lst false false 46 (gcl ad vl)] = lT a v (lgM ad vl 46) (wsM ad vl (and255 a) 46) := by kernel_rfl
theorem load47 (a v : Int) (ad vl : Nat → Int) : law XL 100000 10 [.int .i64 a, .int .i64 v, .lst false false 47 (gcl ad vl)] = lT a v (lgM ad vl 47) (wsM ad vl (and255 a) 47) := by kernel_rfl
end Go.Proofs.YtjlnokopnpcfoaaGreat
