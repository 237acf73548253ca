/- VirrunSums, evaluated. No condition. -/
import Derived.Test.YtbknpfckdnladaaGreatJc
set_option linter.unusedVariables false
namespace Go.Proofs.YtbknpfckdnladaaGreat
theorem sums_eq (n s : Int) : law XJ 100000 7 [.int .i64 n, .int .i64 s] = bif ltI n 0 then 0 else bif ltI 200 n then 0 else bif ltI s 0 then 0 else bif ltI 255 s then 0 else bif eqI (resG (c8 n) (c8 s)) (and255 (wr .i64 (s + wr .i64 ((wr .i64 (n * wr .i64 (n + 1))).tdiv 2)))) then 0 else 90 := by kernel_rfl
end Go.Proofs.YtbknpfckdnladaaGreat
