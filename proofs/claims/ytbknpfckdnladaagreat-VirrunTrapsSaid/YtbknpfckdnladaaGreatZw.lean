/- VirrunTraps answers true for every input. No condition. -/
import Derived.Test.YtbknpfckdnladaaGreatZa
import Derived.Test.YtbknpfckdnladaaGreatZb
import Derived.Test.YtbknpfckdnladaaGreatZc
import Derived.Test.YtbknpfckdnladaaGreatZd
import Derived.Test.YtbknpfckdnladaaGreatBq
set_option linter.unusedVariables false
namespace Go.Proofs.YtbknpfckdnladaaGreat
theorem trap_all (a b n : Int) : law XZ 100000 9 [.int .i64 a, .int .i64 b, .int .i64 n] = 0 := by
  match n with
  | .ofNat 0 => exact (trap0 a b).trans (tT_zero a b)
  | .ofNat 1 => exact (trap1 a b).trans (tT_zero a b)
  | .ofNat 2 => exact (trap2 a b).trans (tT_zero a b)
  | .ofNat 3 => exact (trap3 a b).trans (tT_zero a b)
  | .ofNat 4 => exact (trap4 a b).trans (tT_zero a b)
  | .ofNat 5 => exact (trap5 a b).trans (tT_zero a b)
  | .ofNat 6 => exact (trap6 a b).trans (tT_zero a b)
  | .ofNat 7 => exact (trap7 a b).trans (tT_zero a b)
  | .ofNat 8 => exact (trap8 a b).trans (tT_zero a b)
  | .ofNat 9 => exact (trap9 a b).trans (tT_zero a b)
  | .ofNat 10 => exact (trap10 a b).trans (tT_zero a b)
  | .ofNat 11 => exact (trap11 a b).trans (tT_zero a b)
  | .ofNat 12 => exact (trap12 a b).trans (tT_zero a b)
  | .ofNat 13 => exact (trap13 a b).trans (tT_zero a b)
  | .ofNat 14 => exact (trap14 a b).trans (tT_zero a b)
  | .ofNat 15 => exact (trap15 a b).trans (tT_zero a b)
  | .ofNat 16 => exact (trap16 a b).trans (tT_zero a b)
  | .ofNat 17 => exact (trap17 a b).trans (tT_zero a b)
  | .ofNat 18 => exact (trap18 a b).trans (tT_zero a b)
  | .ofNat 19 => exact (trap19 a b).trans (tT_zero a b)
  | .ofNat 20 => exact (trap20 a b).trans (tT_zero a b)
  | .ofNat (k + 21) => exact trapz a b k
  | .negSucc k => exact trapn a b k
theorem ctZ : CtOK XZ := ct1 (X := X0 Tryz.prog) pok (ct0 _) (n := 100000) alive11
open Go.RowKit in
theorem virrunTraps_any (a b n : Int) (w : World) :
    Calls Tryz.prog 9 #[.int .i64 a, .int .i64 b, .int .i64 n] w fun e w' => e = .returned (.bool true) ∧ Below w.heap.size w w' :=
  law_walkG (X := XZ) pok ctZ (((RVs.one (.int _ _)).append (RVs.one (.int _ _))).append (RVs.one (.int _ _))) (trap_all a b n)
end Go.Proofs.YtbknpfckdnladaaGreat
