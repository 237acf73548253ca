/- MachrunLoads, evaluated at lists of these lengths. No condition. -/
import Derived.Test.YtjlnokopnpcfoaaGreatLp
set_option linter.unusedVariables false
namespace Go.Proofs.YtjlnokopnpcfoaaGreat
theorem load12 (a v : Int) (ad vl : Nat → Int) : law XL 100000 10 [.int .i64 a, .int .i64 v, .lst false false 12 (gcl ad vl)] = lT a v (lgM ad vl 12) (wsM ad vl (and255 a) 12) := by kernel_rfl
theorem load13 (a v : Int) (ad vl : Nat → Int) : law XL 100000 10 [.int .i64 a, .int .i64 v, .lst false false 13 (gcl ad vl)] = lT a v (lgM ad vl 13) (wsM ad vl (and255 a) 13) := by kernel_rfl
theorem load14 (a v : Int) (ad vl : Nat → Int) : law XL 100000 10 [.int .i64 a, .int .i64 v, .lst false false 14 (gcl ad vl)] = lT a v (lgM ad vl 14) (wsM ad vl (and255 a) 14) := by kernel_rfl
theorem load15 (a v : Int) (ad vl : Nat → Int) : law XL 100000 10 [.int .i64 a, .int .i64 v, .lst false false 15 (gcl ad vl)] = lT a v (lgM ad vl 15) (wsM ad vl (and255 a) 15) := by kernel_rfl
theorem load16 (a v : Int) (ad vl : Nat → Int) : law XL 100000 10 [.int .i64 a, .int .i64 v, .lst false false 16 (gcl ad vl)] = lT a v (lgM ad vl 16) (wsM ad vl (and255 a) 16) := by kernel_rfl
theorem load17 (a v : Int) (ad vl : Nat → Int) : law XL 100000 10 [.int .i64 a, .int .i64 v, .lst false false 17 (gcl ad vl)] = lT a v (lgM ad vl 17) (wsM ad vl (and255 a) 17) := by kernel_rfl
end Go.Proofs.YtjlnokopnpcfoaaGreat
