/- MachrunLoads, evaluated at lists of these lengths. No condition. -/
import Derived.Test.YtjlnokopnpcfoaaGreatLp
set_option linter.unusedVariables false
namespace Go.Proofs.YtjlnokopnpcfoaaGreat
theorem load6 (a v : Int) (ad vl : Nat → Int) : law XL 100000 10 [.int .i64 a, .int .i64 v, .lst false false 6 (gcl ad vl)] = lT a v (lgM ad vl 6) (wsM ad vl (and255 a) 6) := by kernel_rfl
theorem load7 (a v : Int) (ad vl : Nat → Int) : law XL 100000 10 [.int .i64 a, .int .i64 v, .lst false false 7 (gcl ad vl)] = lT a v (lgM ad vl 7) (wsM ad vl (and255 a) 7) := by kernel_rfl
theorem load8 (a v : Int) (ad vl : Nat → Int) : law XL 100000 10 [.int .i64 a, .int .i64 v, .lst false false 8 (gcl ad vl)] = lT a v (lgM ad vl 8) (wsM ad vl (and255 a) 8) := by kernel_rfl
theorem load9 (a v : Int) (ad vl : Nat → Int) : law XL 100000 10 [.int .i64 a, .int .i64 v, .lst false false 9 (gcl ad vl)] = lT a v (lgM ad vl 9) (wsM ad vl (and255 a) 9) := by kernel_rfl
theorem load10 (a v : Int) (ad vl : Nat → Int) : law XL 100000 10 [.int .i64 a, .int .i64 v, .lst false false 10 (gcl ad vl)] = lT a v (lgM ad vl 10) (wsM ad vl (and255 a) 10) := by kernel_rfl
theorem load11 (a v : Int) (ad vl : Nat → Int) : law XL 100000 10 [.int .i64 a, .int .i64 v, .lst false false 11 (gcl ad vl)] = lT a v (lgM ad vl 11) (wsM ad vl (and255 a) 11) := by kernel_rfl
end Go.Proofs.YtjlnokopnpcfoaaGreat
