/- MachrunLoads, evaluated at lists of these lengths. No condition. -/
import Derived.Test.YtjlnokopnpcfoaaGreatLp
set_option linter.unusedVariables false
namespace Go.Proofs.YtjlnokopnpcfoaaGreat
theorem load0 (a v : Int) (ad vl : Nat → Int) : law XL 100000 10 [.int .i64 a, .int .i64 v, .lst false false 0 (gcl ad vl)] = lT a v (lgM ad vl 0) (wsM ad vl (and255 a) 0) := by kernel_rfl
theorem load1 (a v : Int) (ad vl : Nat → Int) : law XL 100000 10 [.int .i64 a, .int .i64 v, .lst false false 1 (gcl ad vl)] = lT a v (lgM ad vl 1) (wsM ad vl (and255 a) 1) := by kernel_rfl
theorem load2 (a v : Int) (ad vl : Nat → Int) : law XL 100000 10 [.int .i64 a, .int .i64 v, .lst false false 2 (gcl ad vl)] = lT a v (lgM ad vl 2) (wsM ad vl (and255 a) 2) := by kernel_rfl
theorem load3 (a v : Int) (ad vl : Nat → Int) : law XL 100000 10 [.int .i64 a, .int .i64 v, .lst false false 3 (gcl ad vl)] = lT a v (lgM ad vl 3) (wsM ad vl (and255 a) 3) := by kernel_rfl
theorem load4 (a v : Int) (ad vl : Nat → Int) : law XL 100000 10 [.int .i64 a, .int .i64 v, .lst false false 4 (gcl ad vl)] = lT a v (lgM ad vl 4) (wsM ad vl (and255 a) 4) := by kernel_rfl
theorem load5 (a v : Int) (ad vl : Nat → Int) : law XL 100000 10 [.int .i64 a, .int .i64 v, .lst false false 5 (gcl ad vl)] = lT a v (lgM ad vl 5) (wsM ad vl (and255 a) 5) := by kernel_rfl
theorem loadn (a v : Int) : law XL 100000 10 [.int .i64 a, .int .i64 v, .lst true true 0 (fun _ => [])] = lT a v [] 0 := by kernel_rfl
end Go.Proofs.YtjlnokopnpcfoaaGreat
