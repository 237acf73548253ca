/- VirokKinds answers true for every input. No condition. -/
import Derived.Test.YtbknpfckdnladaaGreatVa
import Derived.Test.YtbknpfckdnladaaGreatVb
import Derived.Test.YtbknpfckdnladaaGreatVc
set_option linter.unusedVariables false
namespace Go.Proofs.YtbknpfckdnladaaGreat
theorem kinds_all (n : Int) : law XK 100000 4 [.int .i64 n] = 0 := by
  cases n with
  | negSucc k => exact kindsN k
  | ofNat k =>
    match k with
    | 0 => exact kinds0
    | 1 => exact kinds1
    | 2 => exact kinds2
    | 3 => exact kinds3
    | 4 => exact kinds4
    | 5 => exact kinds5
    | 6 => exact kinds6
    | 7 => exact kinds7
    | 8 => exact kinds8
    | 9 => exact kinds9
    | 10 => exact kinds10
    | 11 => exact kinds11
    | 12 => exact kinds12
    | 13 => exact kinds13
    | k + 14 => exact kindsP k
theorem ctK : CtOK XK := ct1 (X := X0 Tryz.prog) pok (ct0 _) alive10
open Go.RowKit in
theorem virokKinds_any (n : Int) (w : World) : Calls Tryz.prog 4 #[.int .i64 n] w fun e w' => e = .returned (.bool true) ∧ Below w.heap.size w w' :=
  law_walk (X := XK) pok ctK (RVs.one (.int _ _)) (kinds_all n)
end Go.Proofs.YtbknpfckdnladaaGreat
