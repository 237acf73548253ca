/- VirrunMemory, evaluated at lists of these lengths. No condition. -/
import Derived.Test.YtbknpfckdnladaaGreatYp
set_option linter.unusedVariables false
namespace Go.Proofs.YtbknpfckdnladaaGreat
theorem mem12 (a v : Int) (ad vl : Nat → Int) : law XY 100000 8 [.int .i64 a, .int .i64 v, .lst false false 12 (gcl ad vl)] = mT a v (lgM ad vl 12) (wsM ad vl (and255 a) 12) := by kernel_rfl
theorem mem13 (a v : Int) (ad vl : Nat → Int) : law XY 100000 8 [.int .i64 a, .int .i64 v, .lst false false 13 (gcl ad vl)] = mT a v (lgM ad vl 13) (wsM ad vl (and255 a) 13) := by kernel_rfl
theorem mem14 (a v : Int) (ad vl : Nat → Int) : law XY 100000 8 [.int .i64 a, .int .i64 v, .lst false false 14 (gcl ad vl)] = mT a v (lgM ad vl 14) (wsM ad vl (and255 a) 14) := by kernel_rfl
theorem mem15 (a v : Int) (ad vl : Nat → Int) : law XY 100000 8 [.int .i64 a, .int .i64 v, .lst false false 15 (gcl ad vl)] = mT a v (lgM ad vl 15) (wsM ad vl (and255 a) 15) := by kernel_rfl
theorem mem16 (a v : Int) (ad vl : Nat → Int) : law XY 100000 8 [.int .i64 a, .int .i64 v, .lst false false 16 (gcl ad vl)] = mT a v (lgM ad vl 16) (wsM ad vl (and255 a) 16) := by kernel_rfl
theorem mem17 (a v : Int) (ad vl : Nat → Int) : law XY 100000 8 [.int .i64 a, .int .i64 v, .lst false false 17 (gcl ad vl)] = mT a v (lgM ad vl 17) (wsM ad vl (and255 a) 17) := by kernel_rfl
end Go.Proofs.YtbknpfckdnladaaGreat
