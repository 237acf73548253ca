/- MachrunLoads, evaluated at lists of these lengths. No condition. -/
import Derived.Test.YtjlnokopnpcfoaaGreatLp
set_option linter.unusedVariables false
namespace Go.Proofs.YtjlnokopnpcfoaaGreat
theorem load18 (a v : Int) (ad vl : Nat → Int) : law XL 100000 10 [.int .i64 a, .int .i64 v, .lst false false 18 (gcl ad vl)] = lT a v (lgM ad vl 18) (wsM ad vl (and255 a) 18) := by kernel_rfl
theorem load19 (a v : Int) (ad vl : Nat → Int) : law XL 100000 10 [.int .i64 a, .int .i64 v, .lst false false 19 (gcl ad vl)] = lT a v (lgM ad vl 19) (wsM ad vl (and255 a) 19) := by kernel_rfl
theorem load20 (a v : Int) (ad vl : Nat → Int) : law XL 100000 10 [.int .i64 a, .int .i64 v, .lst false false 20 (gcl ad vl)] = lT a v (lgM ad vl 20) (wsM ad vl (and255 a) 20) := by kernel_rfl
theorem load21 (a v : Int) (ad vl : Nat → Int) : law XL 100000 10 [.int .i64 a, .int .i64 v, .lst false false 21 (gcl ad vl)] = lT a v (lgM ad vl 21) (wsM ad vl (and255 a) 21) := by kernel_rfl
theorem load22 (a v : Int) (ad vl : Nat → Int) : law XL 100000 10 [.int .i64 a, .int .i64 v, .lst false false 22 (gcl ad vl)] = lT a v (lgM ad vl 22) (wsM ad vl (and255 a) 22) := by kernel_rfl
theorem load23 (a v : Int) (ad vl : Nat → Int) : law XL 100000 10 [.int .i64 a, .int .i64 v, .lst false false 23 (gcl ad vl)] = lT a v (lgM ad vl 23) (wsM ad vl (and255 a) 23) := by kernel_rfl
end Go.Proofs.YtjlnokopnpcfoaaGreat
