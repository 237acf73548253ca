/- VirrunMemory, evaluated at lists of these lengths. No condition. -/
import Derived.Test.YtbknpfckdnladaaGreatYp
set_option linter.unusedVariables false
namespace Go.Proofs.YtbknpfckdnladaaGreat
theorem mem0 (a v : Int) (ad vl : Nat → Int) : law XY 100000 8 [.int .i64 a, .int .i64 v, .lst false false 0 (gcl ad vl)] = mT a v (lgM ad vl 0) (wsM ad vl (and255 a) 0) := by kernel_rfl
theorem mem1 (a v : Int) (ad vl : Nat → Int) : law XY 100000 8 [.int .i64 a, .int .i64 v, .lst false false 1 (gcl ad vl)] = mT a v (lgM ad vl 1) (wsM ad vl (and255 a) 1) := by kernel_rfl
theorem mem2 (a v : Int) (ad vl : Nat → Int) : law XY 100000 8 [.int .i64 a, .int .i64 v, .lst false false 2 (gcl ad vl)] = mT a v (lgM ad vl 2) (wsM ad vl (and255 a) 2) := by kernel_rfl
theorem mem3 (a v : Int) (ad vl : Nat → Int) : law XY 100000 8 [.int .i64 a, .int .i64 v, .lst false false 3 (gcl ad vl)] = mT a v (lgM ad vl 3) (wsM ad vl (and255 a) 3) := by kernel_rfl
theorem mem4 (a v : Int) (ad vl : Nat → Int) : law XY 100000 8 [.int .i64 a, .int .i64 v, .lst false false 4 (gcl ad vl)] = mT a v (lgM ad vl 4) (wsM ad vl (and255 a) 4) := by kernel_rfl
theorem mem5 (a v : Int) (ad vl : Nat → Int) : law XY 100000 8 [.int .i64 a, .int .i64 v, .lst false false 5 (gcl ad vl)] = mT a v (lgM ad vl 5) (wsM ad vl (and255 a) 5) := by kernel_rfl
theorem memn (a v : Int) : law XY 100000 8 [.int .i64 a, .int .i64 v, .lst true true 0 (fun _ => [])] = mT a v [] 0 := by kernel_rfl
end Go.Proofs.YtbknpfckdnladaaGreat
