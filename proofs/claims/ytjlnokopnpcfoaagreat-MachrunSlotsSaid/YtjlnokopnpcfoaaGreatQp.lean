/- MachrunSlots, evaluated. No condition. -/
import Derived.Test.YtjlnokopnpcfoaaGreatNa
import Derived.Test.YtjlnokopnpcfoaaGreatPa
import Derived.Test.YtjlnokopnpcfoaaGreatBq
set_option linter.unusedVariables false
namespace Go.Proofs.YtjlnokopnpcfoaaGreat
/-- A store into the slots is seen at unknown places; alive is told of once. -/
noncomputable abbrev XQ : Cx := { P := Tryz.prog, ct := (X1 Tryz.prog 13).ct, mg := fun f => Nat.beq f 123 }
def wU (w : Int) (s at_ : Nat) (v : Int) : Int := wr .u64 (Int.ofNat (hB (wr .u64 (Int.ofNat (hB w &&& ~~~ hB (onU s at_)).toNat)) ||| hB (wr .u64 (Int.ofNat (hB (wr .u64 (wr .u64 v * (2 : Int) ^ at_)) &&& hB (onU s at_)).toNat))).toNat)
def W64 : Int := wr .u64 (c64 0)
def rd64 (x : Int) : Int := c64 (wr .i64 (x.fdiv ((2 : Int) ^ (0 : Nat))))
/-- What the outer register holds in the end. -/
def x3 (i j : Nat) (v : Int) : Int := wr .i64 (wU (wU (wU W64 0 0 v) 0 0 0) 48 0 (bif Nat.beq (0 + j) (0 + i) then rd64 (wU W64 0 0 v) else 0))
def sE (a b : Int) : Nat := bif eqI a b then 90 else 90
def sT (s a b : Int) (n i j : Nat) (v : Int) : Nat :=
  bif ltI 100 s then 0 else bif !(ltI a s) then 0 else bif !(ltI b s) then 0 else
  bif !(!(ltI 100 s)) then sE a b else bif !(ltI a s) then sE a b else bif !(ltI b s) then sE a b else
  bif (true && (eqI s s && (leI s 16777216 && true))) then (bif (Nat.blt i n && true) then (bif ((true && Nat.blt (0 + i) n) && true) then (bif (Nat.blt j n && true) then (bif ((true && Nat.blt (0 + j) n) && true) then
    (bif eqI a b then (bif eqI (x3 i j v) (wr .i64 (Int.ofNat (hB v &&& hB 65535).toNat)) then 0 else 90) else (bif eqI (x3 i j v) 0 then 0 else 90)) else 15013) else 15034) else 15015) else 15034) else 15021
end Go.Proofs.YtjlnokopnpcfoaaGreat
