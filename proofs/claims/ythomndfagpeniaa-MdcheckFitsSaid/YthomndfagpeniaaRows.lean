/-
  NARROWER THAN 'FOR EVERY INPUT', by the rows' own cells (each row's printed sentence says how): MdcheckChecks: loops · MdcheckFits: loops.
  DERIVED. THE GIVEN ROWS OF THIS SEAT. 6 by the template 'for every input the law returns true; each argument reads behind the call as it read before'; 0 by the template 'total and deterministic' (their statements: YthomndfagpeniaaTotals.lean).
  GIVEN WITH THE SEED: the statements are not yours to turn. If you find one false, say at which input.
  Laid BY PROGRAM, IN A SANDBOX (cutbox-rows.mjs): the forced cells as the released guide's own fill.sh prints them over the translation ab1ba693a26c6ea7… (all of the seat's roots in one cut). By AI agents, Wed Nov 11 2026. No macro, syntax, notation, axiom, sorry.
-/
import Derived.Test.YthomndfagpeniaaChecked
import GoSem.Claim
import GoSem.ClaimJoined
import GoSem.ClaimMapViews
import Derived.JoinedTies
import Derived.KernelRfl
namespace Go.Proofs.Ythomndfagpeniaa
/- THE CELL 'sum', in the pinned program and in every row, IS THE sha256 OF THE DUMP (.gsa) THAT YthomndfagpeniaaProg.lean LOADS. Nothing in Lean hashes anything: it is a label: what it is worth is what the hold of that sum in a sandbox is worth. -/
noncomputable def Try.pinned : Pinned := { name := "ythomndfagpeniaa", sum := "ab1ba693a26c6ea7c4d12a23a9568fc93827464442fad55d0117829ddc9e542a", checked := Try.checked }
namespace Rows
def none {H : Type} : Left H := { results := [], args := [] }

/-- 'pigeonholelaw6.MdcheckChecks': WHATEVER THE INPUT: true; the input reads as it did. -/
def mdcheckChecksSpec : ChangeSpec := { name := "mdcheckChecks", fn := fun _ => fun
  | [d] => { results := [.lit (.bool true)], args := [d] }
  | _ => none }
def mdcheckChecksRow : OpenClaim := { program := "ythomndfagpeniaa", sum := "ab1ba693a26c6ea7c4d12a23a9568fc93827464442fad55d0117829ddc9e542a", func := "pigeonhole/pigeonholelaw6.MdcheckChecks", spec := "mdcheckChecks", unfollowed := true, recurses := true, loops := true, apart := false }
def MdcheckChecksSaid : Prop := mdcheckChecksRow.holds Try.pinned (OpenSpec.ofChange mdcheckChecksSpec)

/-- ITS FALSE NEIGHBOUR: 'it returns false'. Refute it at one input. -/
def mdcheckChecksWrong : ChangeSpec := { name := "mdcheckChecks", fn := fun _ => fun
  | [d] => { results := [.lit (.bool false)], args := [d] }
  | _ => none }
def MdcheckChecksWrongFalsely : Prop := mdcheckChecksRow.holds Try.pinned (OpenSpec.ofChange mdcheckChecksWrong)

/-- 'pigeonholelaw6.MdcheckSmall': WHATEVER THE INPUT: true; the input reads as it did. -/
def mdcheckSmallSpec : ChangeSpec := { name := "mdcheckSmall", fn := fun _ => fun
  | [d1, d2, d3] => { results := [.lit (.bool true)], args := [d1, d2, d3] }
  | _ => none }
def mdcheckSmallRow : OpenClaim := { program := "ythomndfagpeniaa", sum := "ab1ba693a26c6ea7c4d12a23a9568fc93827464442fad55d0117829ddc9e542a", func := "pigeonhole/pigeonholelaw6.MdcheckSmall", spec := "mdcheckSmall", unfollowed := true, recurses := true, apart := false }
def MdcheckSmallSaid : Prop := mdcheckSmallRow.holds Try.pinned (OpenSpec.ofChange mdcheckSmallSpec)

/-- ITS FALSE NEIGHBOUR: 'it returns false'. Refute it at one input. -/
def mdcheckSmallWrong : ChangeSpec := { name := "mdcheckSmall", fn := fun _ => fun
  | [d1, d2, d3] => { results := [.lit (.bool false)], args := [d1, d2, d3] }
  | _ => none }
def MdcheckSmallWrongFalsely : Prop := mdcheckSmallRow.holds Try.pinned (OpenSpec.ofChange mdcheckSmallWrong)

/-- 'pigeonholelaw6.MdcheckAlias': WHATEVER THE INPUT: true; the input reads as it did. -/
def mdcheckAliasSpec : ChangeSpec := { name := "mdcheckAlias", fn := fun _ => fun
  | [d1, d2, d3, d4, d5] => { results := [.lit (.bool true)], args := [d1, d2, d3, d4, d5] }
  | _ => none }
def mdcheckAliasRow : OpenClaim := { program := "ythomndfagpeniaa", sum := "ab1ba693a26c6ea7c4d12a23a9568fc93827464442fad55d0117829ddc9e542a", func := "pigeonhole/pigeonholelaw6.MdcheckAlias", spec := "mdcheckAlias", unfollowed := true, recurses := true, apart := false }
def MdcheckAliasSaid : Prop := mdcheckAliasRow.holds Try.pinned (OpenSpec.ofChange mdcheckAliasSpec)

/-- ITS FALSE NEIGHBOUR: 'it returns false'. Refute it at one input. -/
def mdcheckAliasWrong : ChangeSpec := { name := "mdcheckAlias", fn := fun _ => fun
  | [d1, d2, d3, d4, d5] => { results := [.lit (.bool false)], args := [d1, d2, d3, d4, d5] }
  | _ => none }
def MdcheckAliasWrongFalsely : Prop := mdcheckAliasRow.holds Try.pinned (OpenSpec.ofChange mdcheckAliasWrong)

/-- 'pigeonholelaw6.MdcheckFirst': WHATEVER THE INPUT: true; the input reads as it did. -/
def mdcheckFirstSpec : ChangeSpec := { name := "mdcheckFirst", fn := fun _ => fun
  | [d] => { results := [.lit (.bool true)], args := [d] }
  | _ => none }
def mdcheckFirstRow : OpenClaim := { program := "ythomndfagpeniaa", sum := "ab1ba693a26c6ea7c4d12a23a9568fc93827464442fad55d0117829ddc9e542a", func := "pigeonhole/pigeonholelaw6.MdcheckFirst", spec := "mdcheckFirst", unfollowed := true, recurses := true, apart := false }
def MdcheckFirstSaid : Prop := mdcheckFirstRow.holds Try.pinned (OpenSpec.ofChange mdcheckFirstSpec)

/-- ITS FALSE NEIGHBOUR: 'it returns false'. Refute it at one input. -/
def mdcheckFirstWrong : ChangeSpec := { name := "mdcheckFirst", fn := fun _ => fun
  | [d] => { results := [.lit (.bool false)], args := [d] }
  | _ => none }
def MdcheckFirstWrongFalsely : Prop := mdcheckFirstRow.holds Try.pinned (OpenSpec.ofChange mdcheckFirstWrong)

/-- 'pigeonholelaw6.MdcheckFits': WHATEVER THE INPUT: true; the input reads as it did. -/
def mdcheckFitsSpec : ChangeSpec := { name := "mdcheckFits", fn := fun _ => fun
  | [d1, d2, d3, d4] => { results := [.lit (.bool true)], args := [d1, d2, d3, d4] }
  | _ => none }
def mdcheckFitsRow : OpenClaim := { program := "ythomndfagpeniaa", sum := "ab1ba693a26c6ea7c4d12a23a9568fc93827464442fad55d0117829ddc9e542a", func := "pigeonhole/pigeonholelaw6.MdcheckFits", spec := "mdcheckFits", unfollowed := true, recurses := true, loops := true, apart := false }
def MdcheckFitsSaid : Prop := mdcheckFitsRow.holds Try.pinned (OpenSpec.ofChange mdcheckFitsSpec)

/-- ITS FALSE NEIGHBOUR: 'it returns false'. Refute it at one input. -/
def mdcheckFitsWrong : ChangeSpec := { name := "mdcheckFits", fn := fun _ => fun
  | [d1, d2, d3, d4] => { results := [.lit (.bool false)], args := [d1, d2, d3, d4] }
  | _ => none }
def MdcheckFitsWrongFalsely : Prop := mdcheckFitsRow.holds Try.pinned (OpenSpec.ofChange mdcheckFitsWrong)

/-- 'pigeonholelaw6.MdcheckRoom': WHATEVER THE INPUT: true; the input reads as it did. -/
def mdcheckRoomSpec : ChangeSpec := { name := "mdcheckRoom", fn := fun _ => fun
  | [d1, d2] => { results := [.lit (.bool true)], args := [d1, d2] }
  | _ => none }
def mdcheckRoomRow : OpenClaim := { program := "ythomndfagpeniaa", sum := "ab1ba693a26c6ea7c4d12a23a9568fc93827464442fad55d0117829ddc9e542a", func := "pigeonhole/pigeonholelaw6.MdcheckRoom", spec := "mdcheckRoom", unfollowed := true, recurses := true, apart := false }
def MdcheckRoomSaid : Prop := mdcheckRoomRow.holds Try.pinned (OpenSpec.ofChange mdcheckRoomSpec)

/-- ITS FALSE NEIGHBOUR: 'it returns false'. Refute it at one input. -/
def mdcheckRoomWrong : ChangeSpec := { name := "mdcheckRoom", fn := fun _ => fun
  | [d1, d2] => { results := [.lit (.bool false)], args := [d1, d2] }
  | _ => none }
def MdcheckRoomWrongFalsely : Prop := mdcheckRoomRow.holds Try.pinned (OpenSpec.ofChange mdcheckRoomWrong)

/- THE SECOND FORM. 'bulk': how many values and letters a reading holds, each counted each time it is reached (what is shared counts as often as it is met; a slice's spare places count too). A statement '..UptoSaid' is the law's where the arguments, and the package variables that the reading takes, are together of bulk at most 1048576: NARROWER than '..Said'. Prove '..Said' where nothing that the law and all that it calls make is longer than what came in: it says more and counts as full. Else prove '..UptoSaid'. A law counts once. -/
mutual
def uptoBulk {H : Type} : DataW H → Nat
  | .lit (.string bytes) => bytes.length + 1
  | .lit _ => 1
  | .nil => 1
  | .ptr d => uptoBulk d + 1
  | .slice elems spare => uptoBulkAll elems + uptoBulkAll spare + 1
  | .agg parts => uptoBulkAll parts + 1
  | .iface _ d => uptoBulk d + 1
  | .map entries => uptoBulkEntries entries + 1
  | .held _ => 1
def uptoBulkAll {H : Type} : List (DataW H) → Nat
  | [] => 0
  | d :: r => uptoBulk d + uptoBulkAll r
def uptoBulkEntries {H : Type} : List (Lit × DataW H) → Nat
  | [] => 0
  | x :: r => uptoBulkEntry x + uptoBulkEntries r
def uptoBulkEntry {H : Type} : Lit × DataW H → Nat
  | (.string bytes, d) => bytes.length + uptoBulk d + 1
  | (_, d) => uptoBulk d + 1
 end
def uptoSmall : (H : Type) → List (DataW H) → Bool := fun _ ds => decide (uptoBulkAll ds ≤ 1048576)
def OpenSpec.upto (s : _root_.Go.ChangeSpec) : _root_.Go.OpenSpec := { _root_.Go.OpenSpec.ofChange s with cond := some uptoSmall }

/-- 'pigeonholelaw6.MdcheckChecks', WHERE WHAT IT READS IS OF BULK AT MOST 1048576: true; the input reads as it did. -/
def mdcheckChecksUptoRow : OpenClaim := { program := "ythomndfagpeniaa", sum := "ab1ba693a26c6ea7c4d12a23a9568fc93827464442fad55d0117829ddc9e542a", func := "pigeonhole/pigeonholelaw6.MdcheckChecks", spec := "mdcheckChecks", unfollowed := true, recurses := true, loops := true, apart := false, narrowed := true }
def MdcheckChecksUptoSaid : Prop := mdcheckChecksUptoRow.holds Try.pinned (OpenSpec.upto mdcheckChecksSpec)

/-- 'pigeonholelaw6.MdcheckSmall', WHERE WHAT IT READS IS OF BULK AT MOST 1048576: true; the input reads as it did. -/
def mdcheckSmallUptoRow : OpenClaim := { program := "ythomndfagpeniaa", sum := "ab1ba693a26c6ea7c4d12a23a9568fc93827464442fad55d0117829ddc9e542a", func := "pigeonhole/pigeonholelaw6.MdcheckSmall", spec := "mdcheckSmall", unfollowed := true, recurses := true, apart := false, narrowed := true }
def MdcheckSmallUptoSaid : Prop := mdcheckSmallUptoRow.holds Try.pinned (OpenSpec.upto mdcheckSmallSpec)

/-- 'pigeonholelaw6.MdcheckAlias', WHERE WHAT IT READS IS OF BULK AT MOST 1048576: true; the input reads as it did. -/
def mdcheckAliasUptoRow : OpenClaim := { program := "ythomndfagpeniaa", sum := "ab1ba693a26c6ea7c4d12a23a9568fc93827464442fad55d0117829ddc9e542a", func := "pigeonhole/pigeonholelaw6.MdcheckAlias", spec := "mdcheckAlias", unfollowed := true, recurses := true, apart := false, narrowed := true }
def MdcheckAliasUptoSaid : Prop := mdcheckAliasUptoRow.holds Try.pinned (OpenSpec.upto mdcheckAliasSpec)

/-- 'pigeonholelaw6.MdcheckFirst', WHERE WHAT IT READS IS OF BULK AT MOST 1048576: true; the input reads as it did. -/
def mdcheckFirstUptoRow : OpenClaim := { program := "ythomndfagpeniaa", sum := "ab1ba693a26c6ea7c4d12a23a9568fc93827464442fad55d0117829ddc9e542a", func := "pigeonhole/pigeonholelaw6.MdcheckFirst", spec := "mdcheckFirst", unfollowed := true, recurses := true, apart := false, narrowed := true }
def MdcheckFirstUptoSaid : Prop := mdcheckFirstUptoRow.holds Try.pinned (OpenSpec.upto mdcheckFirstSpec)

/-- 'pigeonholelaw6.MdcheckFits', WHERE WHAT IT READS IS OF BULK AT MOST 1048576: true; the input reads as it did. -/
def mdcheckFitsUptoRow : OpenClaim := { program := "ythomndfagpeniaa", sum := "ab1ba693a26c6ea7c4d12a23a9568fc93827464442fad55d0117829ddc9e542a", func := "pigeonhole/pigeonholelaw6.MdcheckFits", spec := "mdcheckFits", unfollowed := true, recurses := true, loops := true, apart := false, narrowed := true }
def MdcheckFitsUptoSaid : Prop := mdcheckFitsUptoRow.holds Try.pinned (OpenSpec.upto mdcheckFitsSpec)

/-- 'pigeonholelaw6.MdcheckRoom', WHERE WHAT IT READS IS OF BULK AT MOST 1048576: true; the input reads as it did. -/
def mdcheckRoomUptoRow : OpenClaim := { program := "ythomndfagpeniaa", sum := "ab1ba693a26c6ea7c4d12a23a9568fc93827464442fad55d0117829ddc9e542a", func := "pigeonhole/pigeonholelaw6.MdcheckRoom", spec := "mdcheckRoom", unfollowed := true, recurses := true, apart := false, narrowed := true }
def MdcheckRoomUptoSaid : Prop := mdcheckRoomUptoRow.holds Try.pinned (OpenSpec.upto mdcheckRoomSpec)

end Rows
end Go.Proofs.Ythomndfagpeniaa
