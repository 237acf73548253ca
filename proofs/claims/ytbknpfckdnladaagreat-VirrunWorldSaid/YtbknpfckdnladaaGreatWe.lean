/- VirrunWorld, evaluated. No condition. -/
import Derived.Test.YtbknpfckdnladaaGreatBp
import Derived.Test.YtbknpfckdnladaaGreatWp
set_option linter.unusedVariables false
namespace Go.Proofs.YtbknpfckdnladaaGreat
theorem world3 (more : Int) (z : Nat → Int) : law (X0 Tryz.prog) 100000 10 [.lst false false 3 (gz z), .int .i64 more] = bif tW (z 0) (z 1) (z 2) (wr .i64 (wr .i64 (wr .i64 (0 + z 0) + z 1) + z 2)) then 0 else 90 := by kernel_rfl
end Go.Proofs.YtbknpfckdnladaaGreat
