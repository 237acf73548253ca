/- Several texts joined. No condition. -/
import Derived.Test.YtpflobodmglmaaaGreatMJa
set_option linter.unusedVariables false
set_option maxHeartbeats 1000000
namespace Go.Proofs.YtpflobodmglmaaaGreat
open Go.RowKit
theorem machrunArgs_any (a0 a1 : Int) (a2 : Option Addr) (len2 cap2 : Nat) (z2 : List Int) (a3 : Option Addr) (len3 cap3 : Nat) (z3 : List Int) (w : World)
    (w2 : (a2 = none ∧ len2 = 0 ∧ cap2 = 0 ∧ z2 = []) ∨ ∃ x, a2 = some x ∧ x.spot = none ∧ len2 ≤ cap2 ∧ cap2 ≤ maxLen ∧ z2.length = cap2 ∧ (∀ i, i < z2.length → w.cell? (x.add i) = some (.int .i64 (z2.getD i 0))) ∧ ∀ n ∈ z2, (Lit.int .i64 n).wf = true)
    (w3 : (a3 = none ∧ len3 = 0 ∧ cap3 = 0 ∧ z3 = []) ∨ ∃ x, a3 = some x ∧ x.spot = none ∧ len3 ≤ cap3 ∧ cap3 ≤ maxLen ∧ z3.length = cap3 ∧ (∀ i, i < z3.length → w.cell? (x.add i) = some (.int .i64 (z3.getD i 0))) ∧ ∀ n ∈ z3, (Lit.int .i64 n).wf = true) :
    Calls Tryz.prog 6 #[.int .i64 a0, .int .i64 a1, .slice a2 len2 cap2, .slice a3 len3 cap3] w fun e w' => e = .returned (.bool true) ∧ Below w.heap.size w w' := by
  obtain ⟨nb2, f2, h2⟩ := isrw_rv w2
  obtain ⟨nb3, f3, h3⟩ := isrw_rv w3
  have hv : RVs (Gw w) #[.int .i64 a0, .int .i64 a1, .slice a2 len2 cap2, .slice a3 len3 cap3] [iV a0, iV a1, rwI nb2 f2 len2 (fun i => z2.getD i 0), rwI nb3 f3 len3 (fun i => z3.getD i 0)] := Rl.ok (.cons (.int _ _) (.cons (.int _ _) (.cons h2 (.cons h3 .nil))))
  exact law_cte hv (args_ok alive13 a0 a1 nb2 f2 len2 (fun i => z2.getD i 0) nb3 f3 len3 fun i => z3.getD i 0)
end Go.Proofs.YtpflobodmglmaaaGreat
