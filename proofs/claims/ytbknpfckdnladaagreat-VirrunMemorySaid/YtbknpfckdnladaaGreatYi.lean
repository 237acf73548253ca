/- VirrunMemory, evaluated at lists of these lengths. No condition. -/
import Derived.Test.YtbknpfckdnladaaGreatYp
set_option linter.unusedVariables false
namespace Go.Proofs.YtbknpfckdnladaaGreat
theorem mem48 (a v : Int) (ad vl : Nat → Int) : law XY 100000 8 [.int .i64 a, .int .i64 v, .lst false false 48 (gcl ad vl)] = mT a v (lgM ad vl 48) (wsM ad vl (and255 a) 48) := by kernel_rfl
theorem mem49 (a v : Int) (ad vl : Nat → Int) : law XY 100000 8 [.int .i64 a, .int .i64 v, .lst false false 49 (gcl ad vl)] = mT a v (lgM ad vl 49) (wsM ad vl (and255 a) 49) := by kernel_rfl
theorem mem50 (a v : Int) (ad vl : Nat → Int) : law XY 100000 8 [.int .i64 a, .int .i64 v, .lst false false 50 (gcl ad vl)] = mT a v (lgM ad vl 50) (wsM ad vl (and255 a) 50) := by kernel_rfl
theorem memz (a v : Int) (ad vl : Nat → Int) (k : Nat) : law XY 100000 8 [.int .i64 a, .int .i64 v, .lst false false (k + 51) (gcl ad vl)] = 0 := by kernel_rfl
end Go.Proofs.YtbknpfckdnladaaGreat
