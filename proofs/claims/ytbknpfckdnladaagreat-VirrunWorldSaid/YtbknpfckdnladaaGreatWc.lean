/- VirrunWorld, evaluated. No condition. -/
import Derived.Test.YtbknpfckdnladaaGreatBp
import Derived.Test.YtbknpfckdnladaaGreatWp
set_option linter.unusedVariables false
namespace Go.Proofs.YtbknpfckdnladaaGreat
theorem world1 (more : Int) (z : Nat → Int) : law (X0 Tryz.prog) 100000 10 [.lst false false 1 (gz z), .int .i64 more] = bif tW (z 0) 0 0 (wr .i64 (0 + z 0)) then 0 else 90 := by kernel_rfl
theorem world2 (more : Int) (z : Nat → Int) : law (X0 Tryz.prog) 100000 10 [.lst false false 2 (gz z), .int .i64 more] = bif tW (z 0) (z 1) 0 (wr .i64 (wr .i64 (0 + z 0) + z 1)) then 0 else 90 := by kernel_rfl
end Go.Proofs.YtbknpfckdnladaaGreat
