/- MachrunLoads, evaluated at lists of these lengths. No condition. -/
import Derived.Test.YtjlnokopnpcfoaaGreatLp
set_option linter.unusedVariables false
namespace Go.Proofs.YtjlnokopnpcfoaaGreat
theorem load24 (a v : Int) (ad vl : Nat → Int) : law XL 100000 10 [.int .i64 a, .int .i64 v, .lst false false 24 (gcl ad vl)] = lT a v (lgM ad vl 24) (wsM ad vl (and255 a) 24) := by kernel_rfl
theorem load25 (a v : Int) (ad vl : Nat → Int) : law XL 100000 10 [.int .i64 a, .int .i64 v, .lst false false 25 (gcl ad vl)] = lT a v (lgM ad vl 25) (wsM ad vl (and255 a) 25) := by kernel_rfl
theorem load26 (a v : Int) (ad vl : Nat → Int) : law XL 100000 10 [.int .i64 a, .int .i64 v, .lst false false 26 (gcl ad vl)] = lT a v (lgM ad vl 26) (wsM ad vl (and255 a) 26) := by kernel_rfl
theorem load27 (a v : Int) (ad vl : Nat → Int) : law XL 100000 10 [.int .i64 a, .int .i64 v, .lst false false 27 (gcl ad vl)] = lT a v (lgM ad vl 27) (wsM ad vl (and255 a) 27) := by kernel_rfl
theorem load28 (a v : Int) (ad vl : Nat → Int) : law XL 100000 10 [.int .i64 a, .int .i64 v, .lst false false 28 (gcl ad vl)] = lT a v (lgM ad vl 28) (wsM ad vl (and255 a) 28) := by kernel_rfl
theorem load29 (a v : Int) (ad vl : Nat → Int) : law XL 100000 10 [.int .i64 a, .int .i64 v, .lst false false 29 (gcl ad vl)] = lT a v (lgM ad vl 29) (wsM ad vl (and255 a) 29) := by kernel_rfl
end Go.Proofs.YtjlnokopnpcfoaaGreat
