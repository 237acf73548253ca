/- MachrunLoads, evaluated at lists of these lengths. No condition. -/
import Derived.Test.YtjlnokopnpcfoaaGreatLp
set_option linter.unusedVariables false
namespace Go.Proofs.YtjlnokopnpcfoaaGreat
theorem load48 (a v : Int) (ad vl : Nat → Int) : law XL 100000 10 [.int .i64 a, .int .i64 v, .lst false false 48 (gcl ad vl)] = lT a v (lgM ad vl 48) (wsM ad vl (and255 a) 48) := by kernel_rfl
theorem load49 (a v : Int) (ad vl : Nat → Int) : law XL 100000 10 [.int .i64 a, .int .i64 v, .lst false false 49 (gcl ad vl)] = lT a v (lgM ad vl 49) (wsM ad vl (and255 a) 49) := by kernel_rfl
theorem load50 (a v : Int) (ad vl : Nat → Int) : law XL 100000 10 [.int .i64 a, .int .i64 v, .lst false false 50 (gcl ad vl)] = lT a v (lgM ad vl 50) (wsM ad vl (and255 a) 50) := by kernel_rfl
theorem loadz (a v : Int) (ad vl : Nat → Int) (k : Nat) : law XL 100000 10 [.int .i64 a, .int .i64 v, .lst false false (k + 51) (gcl ad vl)] = 0 := by kernel_rfl
end Go.Proofs.YtjlnokopnpcfoaaGreat
