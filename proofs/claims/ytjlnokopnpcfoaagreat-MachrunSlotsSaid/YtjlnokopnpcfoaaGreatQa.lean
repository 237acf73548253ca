/- MachrunSlots, evaluated. No condition. -/
import Derived.Test.YtjlnokopnpcfoaaGreatQp
set_option linter.unusedVariables false
namespace Go.Proofs.YtjlnokopnpcfoaaGreat
theorem slots_main (k i j : Nat) (v : Int) : law XQ 100000 6 [.int .i64 (.ofNat (k + 1)), .int .i64 (.ofNat i), .int .i64 (.ofNat j), .int .i64 v] = sT (.ofNat (k + 1)) (.ofNat i) (.ofNat j) (k + 1) i j v := by kernel_rfl
end Go.Proofs.YtjlnokopnpcfoaaGreat
