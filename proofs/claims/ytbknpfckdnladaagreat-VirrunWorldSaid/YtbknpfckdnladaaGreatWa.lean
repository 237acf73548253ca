/- VirrunWorld, evaluated. No condition. -/
import Derived.Test.YtbknpfckdnladaaGreatBp
import Derived.Test.YtbknpfckdnladaaGreatWp
set_option linter.unusedVariables false
namespace Go.Proofs.YtbknpfckdnladaaGreat
theorem world0n (more : Int) (full : Bool) (g : Nat → List AV) : law (X0 Tryz.prog) 100000 10 [.lst true full 0 g, .int .i64 more] = 0 := by kernel_rfl
theorem world0 (more : Int) (z : Nat → Int) : law (X0 Tryz.prog) 100000 10 [.lst false false 0 (gz z), .int .i64 more] = 0 := by kernel_rfl
end Go.Proofs.YtbknpfckdnladaaGreat
