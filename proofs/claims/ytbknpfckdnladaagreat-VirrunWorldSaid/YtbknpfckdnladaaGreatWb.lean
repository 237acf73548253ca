/- VirrunWorld answers true for every input. No condition. -/
import Derived.Test.YtbknpfckdnladaaGreatWa
import Derived.Test.YtbknpfckdnladaaGreatWc
import Derived.Test.YtbknpfckdnladaaGreatWe
import Derived.Test.YtbknpfckdnladaaGreatWf
import Derived.Test.YtbknpfckdnladaaGreatBq
set_option linter.unusedVariables false
namespace Go.Proofs.YtbknpfckdnladaaGreat
theorem wmod3 (a b c : Int) : wr .i64 (wr .i64 (wr .i64 (0 + a) + b) + c) % 256 = (a + b + c) % 256 := by
  have h := wr_mod (wr .i64 (wr .i64 (0 + a) + b) + c)
  have h2 := wr_mod (wr .i64 (0 + a) + b)
  have h3 := wr_mod (0 + a)
  omega
theorem world_lst (more : Int) (z : Nat → Int) (n : Nat) : law (X0 Tryz.prog) 100000 10 [.lst false false n (gz z), .int .i64 more] = 0 := by
  match n with
  | 0 => exact world0 more z
  | 1 =>
    rw [world1, tW_true _ _ _ _ (by rw [wr_mod]; congr 1; omega)]
    rfl
  | 2 =>
    rw [world2, tW_true _ _ _ _ (by have h := wr_mod (wr .i64 (0 + z 0) + z 1); have h2 := wr_mod (0 + z 0); omega)]
    rfl
  | 3 =>
    rw [world3, tW_true _ _ _ _ (wmod3 (z 0) (z 1) (z 2))]
    rfl
  | k + 4 =>
    rw [world4, tW_true _ _ _ _ (wmod3 (z 0) (z 1) (z 2))]
    cases ltI 20 (.ofNat (k + 4)) <;> rfl
open Go.RowKit in
theorem virrunWorld_any (a0 : Option Addr) (len0 cap0 : Nat) (z0 : List Int) (a1 : Int) (w : World)
    (w0 : (a0 = none ∧ len0 = 0 ∧ cap0 = 0 ∧ z0 = []) ∨ ∃ x, a0 = some x ∧ x.spot = none ∧ len0 ≤ cap0 ∧ cap0 ≤ maxLen ∧ z0.length = cap0 ∧ (∀ i, i < z0.length → w.cell? (x.add i) = some (.int .i64 (z0.getD i 0))) ∧ ∀ n ∈ z0, (Lit.int .i64 n).wf = true) :
    Calls Tryz.prog 10 #[.slice a0 len0 cap0, .int .i64 a1] w fun e w' => e = .returned (.bool true) ∧ Below w.heap.size w w' := by
  rcases w0 with ⟨rfl, rfl, rfl, rfl⟩ | ⟨x, rfl, hs, hl, hm, hz, hc, _⟩
  · exact law_walkG (X := X0 Tryz.prog) pok (ct0 _) ((RVs.one (.lstn (full := true) (g := fun _ => []))).append (RVs.one (.int _ _))) (world0n a1 true _)
  · obtain ⟨b, o, s⟩ := x
    have hs : s = none := hs
    subst hs
    exact law_walkG (X := X0 Tryz.prog) pok (ct0 _) ((RVs.one (rv_ints hl (by omega) hc)).append (RVs.one (.int _ _))) (world_lst a1 (fun i => z0.getD i 0) len0)
end Go.Proofs.YtbknpfckdnladaaGreat
