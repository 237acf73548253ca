/- The program for the evaluator, and its law's first example. No condition. -/
import Derived.Test.YtbknpfckdnladaaGreatBo
import Derived.Test.YtbknpfckdnladaaGreatProg
import Derived.KernelRfl
set_option linter.unusedVariables false
namespace Go.Proofs.YtbknpfckdnladaaGreat
def X0 (P : Program) : Cx := { P := P, ct := fun _ _ _ _ => none }
theorem ct0 (P : Program) : CtOK (X0 P) := fun R f args M sp h => by cases h
def pokB (P : Program) : Bool := P.funcs.toList.all fun fn => fn.body.isNone || !(fn.name == "runtime.NumGoroutine")
theorem pok_of {P : Program} (hm : P.follows .mixedOrders = true) (h : pokB P = true) : POk P := ⟨hm, fun f fn h1 h2 => by
  unfold pokB at h
  rw [List.all_eq_true] at h
  have := h fn (List.mem_of_getElem? (by simpa using h1))
  cases hb : fn.body with
  | none => rw [hb] at h2; cases h2
  | some c =>
    rw [hb] at this
    simpa using this⟩
theorem pok : POk Tryz.prog := pok_of (by kernel_rfl) (by kernel_rfl)
theorem alive10 : law (X0 Tryz.prog) 100000 11 [] = 0 := by kernel_rfl
end Go.Proofs.YtbknpfckdnladaaGreat
