/- VirokWritten answers true for every input. No condition. -/
import Derived.Test.YtbknpfckdnladaaGreatVd
import Derived.Test.YtbknpfckdnladaaGreatVe
set_option linter.unusedVariables false
namespace Go.Proofs.YtbknpfckdnladaaGreat
theorem written_all (a b c : Bool) : law XK 100000 3 [.bool a, .bool b, .bool c] = 0 := by
  cases a <;> cases b <;> cases c
  · exact written000
  · exact written001
  · exact written010
  · exact written011
  · exact written100
  · exact written101
  · exact written110
  · exact written111
theorem ctW : CtOK XK := ct1 (X := X0 Tryz.prog) pok (ct0 _) alive10
open Go.RowKit in
theorem virokWritten_any (a b c : Bool) (w : World) : Calls Tryz.prog 3 #[.bool a, .bool b, .bool c] w fun e w' => e = .returned (.bool true) ∧ Below w.heap.size w w' :=
  law_walk (X := XK) pok ctW (((RVs.one (.bool _)).append (RVs.one (.bool _))).append (RVs.one (.bool _))) (written_all a b c)
end Go.Proofs.YtbknpfckdnladaaGreat
