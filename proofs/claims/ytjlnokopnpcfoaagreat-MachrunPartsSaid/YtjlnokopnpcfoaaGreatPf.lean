/- MachrunParts answers true for every input. No condition. -/
import Derived.Test.YtjlnokopnpcfoaaGreatPb
import Derived.Test.YtjlnokopnpcfoaaGreatPc
import Derived.Test.YtjlnokopnpcfoaaGreatPd
import Derived.Test.YtjlnokopnpcfoaaGreatPe
set_option linter.unusedVariables false
namespace Go.Proofs.YtjlnokopnpcfoaaGreat
theorem parts_all (a b n : Int) : law XNb 100000 4 [.int .i64 a, .int .i64 b, .int .i64 n] = 0 := by
  cases n with
  | negSucc k => exact partsN a b k
  | ofNat k =>
    match k with
    | 0 => exact parts0 a b
    | 1 => exact parts1 a b
    | 2 => exact parts2 a b
    | 3 => exact (parts3 a b).trans (tP3 a b)
    | 4 => exact (parts4 a b).trans (tP4 a b)
    | 5 => exact (parts5 a b).trans (tP5 a b)
    | 6 => exact (parts6 a b).trans (tP6 a b)
    | 7 => exact (parts7 a b).trans (tP7 a b)
    | k + 8 => exact partsP a b k
open Go.RowKit in
theorem machrunParts_any (a0 a1 a2 : Int) (w : World) : Calls Tryz.prog 4 #[.int .i64 a0, .int .i64 a1, .int .i64 a2] w fun e w' => e = .returned (.bool true) ∧ Below w.heap.size w w' :=
  law_walk (X := XNb) pok (ct1 (X := X0 Tryz.prog) pok (ct0 _) alive13) (((RVs.one (.int _ _)).append (RVs.one (.int _ _))).append (RVs.one (.int _ _))) (parts_all a0 a1 a2)
end Go.Proofs.YtjlnokopnpcfoaaGreat
