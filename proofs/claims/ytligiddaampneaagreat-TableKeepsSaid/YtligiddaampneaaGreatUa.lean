/- What a table tells of classes. -/
import Derived.Test.YtligiddaampneaaGreatMu
set_option maxHeartbeats 1000000
namespace Go.Proofs.YtligiddaampneaaGreat
open Go.RowKit
attribute [local go_sem] Oper.semAt_some
theorem NumIn.look_not {W:World} {r:Nat} {l:List ByteArray} (h:NumIn W r l) {s:ByteArray} (hs:¬ 0≤idx l s) :
  (Instr.lookup 80 (.map (some r)) (.string s) true).run Tryz.prog W=.ok (.tuple #[.int .i64 0,.bool false]) W:=by
 have e:=entry_num l 0 s
 rw [if_neg hs] at e
 exact run_lookup_not 80 9 3 Tryz.underlying80 Tryz.underlying9 true h (numFrom_keys _ _) e (by kernel_rfl)
section
variable {W : World} {bt : Nat} {V : TV} {M : Mach} {N : List ByteArray} {L : List Pl}
end
end Go.Proofs.YtligiddaampneaaGreat
