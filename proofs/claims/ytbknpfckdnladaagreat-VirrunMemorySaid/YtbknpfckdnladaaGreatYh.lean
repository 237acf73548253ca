/- VirrunMemory, evaluated at lists of these lengths. No condition. -/
import Derived.Test.YtbknpfckdnladaaGreatYp
set_option linter.unusedVariables false
namespace Go.Proofs.YtbknpfckdnladaaGreat
theorem mem42 (a v : Int) (ad vl : Nat → Int) : law XY 100000 8 [.int .i64 a, .int .i64 v, .lst false false 42 (gcl ad vl)] = mT a v (lgM ad vl 42) (wsM ad vl (and255 a) 42) := by kernel_rfl
theorem mem43 (a v : Int) (ad vl : Nat → Int) : law XY 100000 8 [.int .i64 a, .int .i64 v, .lst false false 43 (gcl ad vl)] = mT a v (lgM ad vl 43) (wsM ad vl (and255 a) 43) := by kernel_rfl
theorem mem44 (a v : Int) (ad vl : Nat → Int) : law XY 100000 8 [.int .i64 a, .int .i64 v, .lst false false 44 (gcl ad vl)] = mT a v (lgM ad vl 44) (wsM ad vl (and255 a) 44) := by kernel_rfl
theorem mem45 (a v : Int) (ad vl : Nat → Int) : law XY 100000 8 [.int .i64 a, .int .i64 v, .lst false false 45 (gcl ad vl)] = mT a v (lgM ad vl 45) (wsM ad vl (and255 a) 45) := by kernel_rfl
theorem mem46 (a v : Int) (ad vl : Nat → Int) : law XY 100000 8 [.int .i64 a, .int .i64 v, .lst false false 46 (gcl ad vl)] = mT a v (lgM ad vl 46) (wsM ad vl (and255 a) 46) := by kernel_rfl
theorem mem47 (a v : Int) (ad vl : Nat → Int) : law XY 100000 8 [.int .i64 a, .int .i64 v, .lst false false 47 (gcl ad vl)] = mT a v (lgM ad vl 47) (wsM ad vl (and255 a) 47) := by kernel_rfl
end Go.Proofs.YtbknpfckdnladaaGreat
