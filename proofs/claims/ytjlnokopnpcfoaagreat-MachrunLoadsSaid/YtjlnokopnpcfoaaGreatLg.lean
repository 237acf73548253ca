/- MachrunLoads, evaluated at lists of these lengths. No condition. -/
import Derived.Test.YtjlnokopnpcfoaaGreatLp
set_option linter.unusedVariables false
namespace Go.Proofs.YtjlnokopnpcfoaaGreat
theorem load36 (a v : Int) (ad vl : Nat → Int) : law XL 100000 10 [.int .i64 a, .int .i64 v, .lst false false 36 (gcl ad vl)] = lT a v (lgM ad vl 36) (wsM ad vl (and255 a) 36) := by kernel_rfl
theorem load37 (a v : Int) (ad vl : Nat → Int) : law XL 100000 10 [.int .i64 a, .int .i64 v, .lst false false 37 (gcl ad vl)] = lT a v (lgM ad vl 37) (wsM ad vl (and255 a) 37) := by kernel_rfl
theorem load38 (a v : Int) (ad vl : Nat → Int) : law XL 100000 10 [.int .i64 a, .int .i64 v, .lst false false 38 (gcl ad vl)] = lT a v (lgM ad vl 38) (wsM ad vl (and255 a) 38) := by kernel_rfl
theorem load39 (a v : Int) (ad vl : Nat → Int) : law XL 100000 10 [.int .i64 a, .int .i64 v, .lst false false 39 (gcl ad vl)] = lT a v (lgM ad vl 39) (wsM ad vl (and255 a) 39) := by kernel_rfl
theorem load40 (a v : Int) (ad vl : Nat → Int) : law XL 100000 10 [.int .i64 a, .int .i64 v, .lst false false 40 (gcl ad vl)] = lT a v (lgM ad vl 40) (wsM ad vl (and255 a) 40) := by kernel_rfl
theorem load41 (a v : Int) (ad vl : Nat → Int) : law XL 100000 10 [.int .i64 a, .int .i64 v, .lst false false 41 (gcl ad vl)] = lT a v (lgM ad vl 41) (wsM ad vl (and255 a) 41) := by kernel_rfl
end Go.Proofs.YtjlnokopnpcfoaaGreat
