/-
  No cell of these rows narrows 'for every input' (looked for: loops, veiled, ifaces, maps, wideKeys, modest, calm, conditions, laid).
  DERIVED. THE GIVEN ROWS OF THIS SEAT. 3 by the template 'for every input the law returns true; each argument reads behind the call as it read before'; 0 by the template 'total and deterministic' (their statements: YtocloacbbbhkcaaTotals.lean).
  GIVEN WITH THE SEED: the statements are not yours to turn. If you find one false, say at which input.
  Laid BY PROGRAM, IN A SANDBOX (cutbox-rows.mjs): the forced cells as the released guide's own fill.sh prints them over the translation d15d50663f4a53dd… (all of the seat's roots in one cut). By AI agents, Wed Nov 11 2026. No macro, syntax, notation, axiom, sorry.
-/
import Derived.Test.YtocloacbbbhkcaaChecked
import GoSem.Claim
import GoSem.ClaimJoined
import GoSem.ClaimMapViews
import Derived.JoinedTies
import Derived.KernelRfl
namespace Go.Proofs.Ytocloacbbbhkcaa
/- THE CELL 'sum', in the pinned program and in every row, IS THE sha256 OF THE DUMP (.gsa) THAT YtocloacbbbhkcaaProg.lean LOADS. Nothing in Lean hashes anything: it is a label: what it is worth is what the hold of that sum in a sandbox is worth. -/
noncomputable def Try.pinned : Pinned := { name := "ytocloacbbbhkcaa", sum := "d15d50663f4a53dde723ee44760f5c6f3be94b0dd25110014485ed236a2c42ff", checked := Try.checked }
namespace Rows
def none {H : Type} : Left H := { results := [], args := [] }

/-- 'pigeonholelaw5.GeomOuter': WHATEVER THE INPUT: true; the input reads as it did. -/
def geomOuterSpec : ChangeSpec := { name := "geomOuter", fn := fun _ => fun
  | [d] => { results := [.lit (.bool true)], args := [d] }
  | _ => none }
def geomOuterRow : OpenClaim := { program := "ytocloacbbbhkcaa", sum := "d15d50663f4a53dde723ee44760f5c6f3be94b0dd25110014485ed236a2c42ff", func := "pigeonhole/pigeonholelaw5.GeomOuter", spec := "geomOuter", unfollowed := true, recurses := true, apart := false }
def GeomOuterSaid : Prop := geomOuterRow.holds Try.pinned (OpenSpec.ofChange geomOuterSpec)

/-- ITS FALSE NEIGHBOUR: 'it returns false'. Refute it at one input. -/
def geomOuterWrong : ChangeSpec := { name := "geomOuter", fn := fun _ => fun
  | [d] => { results := [.lit (.bool false)], args := [d] }
  | _ => none }
def GeomOuterWrongFalsely : Prop := geomOuterRow.holds Try.pinned (OpenSpec.ofChange geomOuterWrong)

/-- 'pigeonholelaw5.GeomRow': WHATEVER THE INPUT: true; the input reads as it did. -/
def geomRowSpec : ChangeSpec := { name := "geomRow", fn := fun _ => fun
  | [d1, d2] => { results := [.lit (.bool true)], args := [d1, d2] }
  | _ => none }
def geomRowRow : OpenClaim := { program := "ytocloacbbbhkcaa", sum := "d15d50663f4a53dde723ee44760f5c6f3be94b0dd25110014485ed236a2c42ff", func := "pigeonhole/pigeonholelaw5.GeomRow", spec := "geomRow", unfollowed := true, recurses := true, apart := false }
def GeomRowSaid : Prop := geomRowRow.holds Try.pinned (OpenSpec.ofChange geomRowSpec)

/-- ITS FALSE NEIGHBOUR: 'it returns false'. Refute it at one input. -/
def geomRowWrong : ChangeSpec := { name := "geomRow", fn := fun _ => fun
  | [d1, d2] => { results := [.lit (.bool false)], args := [d1, d2] }
  | _ => none }
def GeomRowWrongFalsely : Prop := geomRowRow.holds Try.pinned (OpenSpec.ofChange geomRowWrong)

/-- 'pigeonholelaw5.GeomChain': WHATEVER THE INPUT: true; the input reads as it did. -/
def geomChainSpec : ChangeSpec := { name := "geomChain", fn := fun _ => fun
  | [d] => { results := [.lit (.bool true)], args := [d] }
  | _ => none }
def geomChainRow : OpenClaim := { program := "ytocloacbbbhkcaa", sum := "d15d50663f4a53dde723ee44760f5c6f3be94b0dd25110014485ed236a2c42ff", func := "pigeonhole/pigeonholelaw5.GeomChain", spec := "geomChain", unfollowed := true, recurses := true, apart := false }
def GeomChainSaid : Prop := geomChainRow.holds Try.pinned (OpenSpec.ofChange geomChainSpec)

/-- ITS FALSE NEIGHBOUR: 'it returns false'. Refute it at one input. -/
def geomChainWrong : ChangeSpec := { name := "geomChain", fn := fun _ => fun
  | [d] => { results := [.lit (.bool false)], args := [d] }
  | _ => none }
def GeomChainWrongFalsely : Prop := geomChainRow.holds Try.pinned (OpenSpec.ofChange geomChainWrong)

/- THE SECOND FORM. 'bulk': how many values and letters a reading holds, each counted each time it is reached (what is shared counts as often as it is met; a slice's spare places count too). A statement '..UptoSaid' is the law's where the arguments, and the package variables that the reading takes, are together of bulk at most 1048576: NARROWER than '..Said'. Prove '..Said' where nothing that the law and all that it calls make is longer than what came in: it says more and counts as full. Else prove '..UptoSaid'. A law counts once. -/
mutual
def uptoBulk {H : Type} : DataW H → Nat
  | .lit (.string bytes) => bytes.length + 1
  | .lit _ => 1
  | .nil => 1
  | .ptr d => uptoBulk d + 1
  | .slice elems spare => uptoBulkAll elems + uptoBulkAll spare + 1
  | .agg parts => uptoBulkAll parts + 1
  | .iface _ d => uptoBulk d + 1
  | .map entries => uptoBulkEntries entries + 1
  | .held _ => 1
def uptoBulkAll {H : Type} : List (DataW H) → Nat
  | [] => 0
  | d :: r => uptoBulk d + uptoBulkAll r
def uptoBulkEntries {H : Type} : List (Lit × DataW H) → Nat
  | [] => 0
  | x :: r => uptoBulkEntry x + uptoBulkEntries r
def uptoBulkEntry {H : Type} : Lit × DataW H → Nat
  | (.string bytes, d) => bytes.length + uptoBulk d + 1
  | (_, d) => uptoBulk d + 1
 end
def uptoSmall : (H : Type) → List (DataW H) → Bool := fun _ ds => decide (uptoBulkAll ds ≤ 1048576)
def OpenSpec.upto (s : _root_.Go.ChangeSpec) : _root_.Go.OpenSpec := { _root_.Go.OpenSpec.ofChange s with cond := some uptoSmall }

/-- 'pigeonholelaw5.GeomOuter', WHERE WHAT IT READS IS OF BULK AT MOST 1048576: true; the input reads as it did. -/
def geomOuterUptoRow : OpenClaim := { program := "ytocloacbbbhkcaa", sum := "d15d50663f4a53dde723ee44760f5c6f3be94b0dd25110014485ed236a2c42ff", func := "pigeonhole/pigeonholelaw5.GeomOuter", spec := "geomOuter", unfollowed := true, recurses := true, apart := false, narrowed := true }
def GeomOuterUptoSaid : Prop := geomOuterUptoRow.holds Try.pinned (OpenSpec.upto geomOuterSpec)

/-- 'pigeonholelaw5.GeomRow', WHERE WHAT IT READS IS OF BULK AT MOST 1048576: true; the input reads as it did. -/
def geomRowUptoRow : OpenClaim := { program := "ytocloacbbbhkcaa", sum := "d15d50663f4a53dde723ee44760f5c6f3be94b0dd25110014485ed236a2c42ff", func := "pigeonhole/pigeonholelaw5.GeomRow", spec := "geomRow", unfollowed := true, recurses := true, apart := false, narrowed := true }
def GeomRowUptoSaid : Prop := geomRowUptoRow.holds Try.pinned (OpenSpec.upto geomRowSpec)

/-- 'pigeonholelaw5.GeomChain', WHERE WHAT IT READS IS OF BULK AT MOST 1048576: true; the input reads as it did. -/
def geomChainUptoRow : OpenClaim := { program := "ytocloacbbbhkcaa", sum := "d15d50663f4a53dde723ee44760f5c6f3be94b0dd25110014485ed236a2c42ff", func := "pigeonhole/pigeonholelaw5.GeomChain", spec := "geomChain", unfollowed := true, recurses := true, apart := false, narrowed := true }
def GeomChainUptoSaid : Prop := geomChainUptoRow.holds Try.pinned (OpenSpec.upto geomChainSpec)

end Rows
end Go.Proofs.Ytocloacbbbhkcaa
