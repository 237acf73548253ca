/- Several texts joined. No condition. -/
import Derived.Test.YtpflobodmglmaaaGreatMHl
set_option linter.unusedVariables false
set_option maxHeartbeats 1000000
namespace Go.Proofs.YtpflobodmglmaaaGreat
open Go.RowKit
theorem machrunCalls_any (a0 a1 a2 a3 a4 : Int) (a5 : Option Addr) (len5 cap5 : Nat) (z5 : List Int) (w : World)
    (w5 : (a5 = none ∧ len5 = 0 ∧ cap5 = 0 ∧ z5 = []) ∨ ∃ x, a5 = some x ∧ x.spot = none ∧ len5 ≤ cap5 ∧ cap5 ≤ maxLen ∧ z5.length = cap5 ∧ (∀ i, i < z5.length → w.cell? (x.add i) = some (.int .i64 (z5.getD i 0))) ∧ ∀ n ∈ z5, (Lit.int .i64 n).wf = true) :
    Calls Tryz.prog 4 #[.int .i64 a0, .int .i64 a1, .int .i64 a2, .int .i64 a3, .int .i64 a4, .slice a5 len5 cap5] w fun e w' => e = .returned (.bool true) ∧ Below w.heap.size w w' := by
  obtain ⟨nb, f, h⟩ := isrw_rv w5
  have hv : RVs (Gw w) #[.int .i64 a0, .int .i64 a1, .int .i64 a2, .int .i64 a3, .int .i64 a4, .slice a5 len5 cap5] [iV a0, iV a1, iV a2, iV a3, iV a4, .lst nb f len5 (fun i => [iV (z5.getD i 0)])] := Rl.ok (.cons (.int _ _) (.cons (.int _ _) (.cons (.int _ _) (.cons (.int _ _) (.cons (.int _ _) (.cons h .nil))))))
  exact law_cte hv (calls_ok alive13 a0 a1 a2 a3 a4 nb f len5 fun i => z5.getD i 0)
end Go.Proofs.YtpflobodmglmaaaGreat
