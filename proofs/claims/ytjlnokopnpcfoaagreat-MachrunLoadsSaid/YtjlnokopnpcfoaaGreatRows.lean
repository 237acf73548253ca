/-
  NARROWER THAN 'FOR EVERY INPUT', by the rows' own cells (each row's printed sentence says how): MachrunRuns: loops · NaiveTaken: loops · NaiveDoes: loops.
  DERIVED. THE GIVEN ROWS OF THIS SEAT. 10 by the template 'for every input the law returns true; each argument reads behind the call as it read before'; 0 by the template 'total and deterministic' (their statements: YtjlnokopnpcfoaaGreatTotals.lean).
  GIVEN WITH THE SEED: the statements are not yours to turn. If you find one false, say at which input.
  Laid BY PROGRAM, IN A SANDBOX (cutbox-rows.mjs): the forced cells as the released guide's own fill.sh prints them over the translation 2729e43829f3a29a… (all of the seat's roots in one cut). By AI agents, Wed Nov 11 2026. No macro, syntax, notation, axiom, sorry.
-/
import Derived.Test.YtjlnokopnpcfoaaGreatChecked
import GoSem.Claim
import GoSem.ClaimJoined
import GoSem.ClaimMapViews
import Derived.JoinedTies
import Derived.KernelRfl
namespace Go.Proofs.YtjlnokopnpcfoaaGreat
/- THE CELL 'sum', in the pinned program and in every row, IS THE sha256 OF THE DUMP (.gsa) THAT YtjlnokopnpcfoaaGreatProg.lean LOADS. Nothing in Lean hashes anything: it is a label: what it is worth is what the hold of that sum in a sandbox is worth. -/
noncomputable def Tryz.pinned : Pinned := { name := "ytjlnokopnpcfoaagreat", sum := "2729e43829f3a29aa99ea949a94892485d3c6a95f203f7fb76b83930b5961a9e", checked := Tryz.checked }
namespace Rows
def none {H : Type} : Left H := { results := [], args := [] }

/-- 'pigeonholelaw13.MachrunRuns': WHATEVER THE INPUT: true; the input reads as it did. -/
def machrunRunsSpec : ChangeSpec := { name := "machrunRuns", fn := fun _ => fun
  | [d1, d2, d3] => { results := [.lit (.bool true)], args := [d1, d2, d3] }
  | _ => none }
def machrunRunsRow : OpenClaim := { program := "ytjlnokopnpcfoaagreat", sum := "2729e43829f3a29aa99ea949a94892485d3c6a95f203f7fb76b83930b5961a9e", func := "pigeonhole/pigeonholelaw13.MachrunRuns", spec := "machrunRuns", unfollowed := true, recurses := true, loops := true, apart := false }
def MachrunRunsSaid : Prop := machrunRunsRow.holds Tryz.pinned (OpenSpec.ofChange machrunRunsSpec)

/-- ITS FALSE NEIGHBOUR: 'it returns false'. Refute it at one input. -/
def machrunRunsWrong : ChangeSpec := { name := "machrunRuns", fn := fun _ => fun
  | [d1, d2, d3] => { results := [.lit (.bool false)], args := [d1, d2, d3] }
  | _ => none }
def MachrunRunsWrongFalsely : Prop := machrunRunsRow.holds Tryz.pinned (OpenSpec.ofChange machrunRunsWrong)

/-- 'pigeonholelaw13.MachrunParts': WHATEVER THE INPUT: true; the input reads as it did. -/
def machrunPartsSpec : ChangeSpec := { name := "machrunParts", fn := fun _ => fun
  | [d1, d2, d3] => { results := [.lit (.bool true)], args := [d1, d2, d3] }
  | _ => none }
def machrunPartsRow : OpenClaim := { program := "ytjlnokopnpcfoaagreat", sum := "2729e43829f3a29aa99ea949a94892485d3c6a95f203f7fb76b83930b5961a9e", func := "pigeonhole/pigeonholelaw13.MachrunParts", spec := "machrunParts", unfollowed := true, recurses := true, apart := false }
def MachrunPartsSaid : Prop := machrunPartsRow.holds Tryz.pinned (OpenSpec.ofChange machrunPartsSpec)

/-- ITS FALSE NEIGHBOUR: 'it returns false'. Refute it at one input. -/
def machrunPartsWrong : ChangeSpec := { name := "machrunParts", fn := fun _ => fun
  | [d1, d2, d3] => { results := [.lit (.bool false)], args := [d1, d2, d3] }
  | _ => none }
def MachrunPartsWrongFalsely : Prop := machrunPartsRow.holds Tryz.pinned (OpenSpec.ofChange machrunPartsWrong)

/-- 'pigeonholelaw13.MachrunCalls': WHATEVER THE INPUT: true; the input reads as it did. -/
def machrunCallsSpec : ChangeSpec := { name := "machrunCalls", fn := fun _ => fun
  | [d1, d2, d3, d4, d5, d6] => { results := [.lit (.bool true)], args := [d1, d2, d3, d4, d5, d6] }
  | _ => none }
def machrunCallsRow : OpenClaim := { program := "ytjlnokopnpcfoaagreat", sum := "2729e43829f3a29aa99ea949a94892485d3c6a95f203f7fb76b83930b5961a9e", func := "pigeonhole/pigeonholelaw13.MachrunCalls", spec := "machrunCalls", unfollowed := true, recurses := true, apart := false }
def MachrunCallsSaid : Prop := machrunCallsRow.holds Tryz.pinned (OpenSpec.ofChange machrunCallsSpec)

/-- ITS FALSE NEIGHBOUR: 'it returns false'. Refute it at one input. -/
def machrunCallsWrong : ChangeSpec := { name := "machrunCalls", fn := fun _ => fun
  | [d1, d2, d3, d4, d5, d6] => { results := [.lit (.bool false)], args := [d1, d2, d3, d4, d5, d6] }
  | _ => none }
def MachrunCallsWrongFalsely : Prop := machrunCallsRow.holds Tryz.pinned (OpenSpec.ofChange machrunCallsWrong)

/-- 'pigeonholelaw13.MachrunSlots': WHATEVER THE INPUT: true; the input reads as it did. -/
def machrunSlotsSpec : ChangeSpec := { name := "machrunSlots", fn := fun _ => fun
  | [d1, d2, d3, d4] => { results := [.lit (.bool true)], args := [d1, d2, d3, d4] }
  | _ => none }
def machrunSlotsRow : OpenClaim := { program := "ytjlnokopnpcfoaagreat", sum := "2729e43829f3a29aa99ea949a94892485d3c6a95f203f7fb76b83930b5961a9e", func := "pigeonhole/pigeonholelaw13.MachrunSlots", spec := "machrunSlots", unfollowed := true, recurses := true, apart := false }
def MachrunSlotsSaid : Prop := machrunSlotsRow.holds Tryz.pinned (OpenSpec.ofChange machrunSlotsSpec)

/-- ITS FALSE NEIGHBOUR: 'it returns false'. Refute it at one input. -/
def machrunSlotsWrong : ChangeSpec := { name := "machrunSlots", fn := fun _ => fun
  | [d1, d2, d3, d4] => { results := [.lit (.bool false)], args := [d1, d2, d3, d4] }
  | _ => none }
def MachrunSlotsWrongFalsely : Prop := machrunSlotsRow.holds Tryz.pinned (OpenSpec.ofChange machrunSlotsWrong)

/-- 'pigeonholelaw13.MachrunJunk': WHATEVER THE INPUT: true; the input reads as it did. -/
def machrunJunkSpec : ChangeSpec := { name := "machrunJunk", fn := fun _ => fun
  | [d1, d2, d3, d4, d5] => { results := [.lit (.bool true)], args := [d1, d2, d3, d4, d5] }
  | _ => none }
def machrunJunkRow : OpenClaim := { program := "ytjlnokopnpcfoaagreat", sum := "2729e43829f3a29aa99ea949a94892485d3c6a95f203f7fb76b83930b5961a9e", func := "pigeonhole/pigeonholelaw13.MachrunJunk", spec := "machrunJunk", unfollowed := true, recurses := true, apart := false }
def MachrunJunkSaid : Prop := machrunJunkRow.holds Tryz.pinned (OpenSpec.ofChange machrunJunkSpec)

/-- ITS FALSE NEIGHBOUR: 'it returns false'. Refute it at one input. -/
def machrunJunkWrong : ChangeSpec := { name := "machrunJunk", fn := fun _ => fun
  | [d1, d2, d3, d4, d5] => { results := [.lit (.bool false)], args := [d1, d2, d3, d4, d5] }
  | _ => none }
def MachrunJunkWrongFalsely : Prop := machrunJunkRow.holds Tryz.pinned (OpenSpec.ofChange machrunJunkWrong)

/-- 'pigeonholelaw13.MachrunArgs': WHATEVER THE INPUT: true; the input reads as it did. -/
def machrunArgsSpec : ChangeSpec := { name := "machrunArgs", fn := fun _ => fun
  | [d1, d2, d3, d4] => { results := [.lit (.bool true)], args := [d1, d2, d3, d4] }
  | _ => none }
def machrunArgsRow : OpenClaim := { program := "ytjlnokopnpcfoaagreat", sum := "2729e43829f3a29aa99ea949a94892485d3c6a95f203f7fb76b83930b5961a9e", func := "pigeonhole/pigeonholelaw13.MachrunArgs", spec := "machrunArgs", unfollowed := true, recurses := true, apart := false }
def MachrunArgsSaid : Prop := machrunArgsRow.holds Tryz.pinned (OpenSpec.ofChange machrunArgsSpec)

/-- ITS FALSE NEIGHBOUR: 'it returns false'. Refute it at one input. -/
def machrunArgsWrong : ChangeSpec := { name := "machrunArgs", fn := fun _ => fun
  | [d1, d2, d3, d4] => { results := [.lit (.bool false)], args := [d1, d2, d3, d4] }
  | _ => none }
def MachrunArgsWrongFalsely : Prop := machrunArgsRow.holds Tryz.pinned (OpenSpec.ofChange machrunArgsWrong)

/-- 'pigeonholelaw13.MachrunMoves': WHATEVER THE INPUT: true; the input reads as it did. -/
def machrunMovesSpec : ChangeSpec := { name := "machrunMoves", fn := fun _ => fun
  | [d1, d2, d3] => { results := [.lit (.bool true)], args := [d1, d2, d3] }
  | _ => none }
def machrunMovesRow : OpenClaim := { program := "ytjlnokopnpcfoaagreat", sum := "2729e43829f3a29aa99ea949a94892485d3c6a95f203f7fb76b83930b5961a9e", func := "pigeonhole/pigeonholelaw13.MachrunMoves", spec := "machrunMoves", unfollowed := true, recurses := true, apart := false }
def MachrunMovesSaid : Prop := machrunMovesRow.holds Tryz.pinned (OpenSpec.ofChange machrunMovesSpec)

/-- ITS FALSE NEIGHBOUR: 'it returns false'. Refute it at one input. -/
def machrunMovesWrong : ChangeSpec := { name := "machrunMoves", fn := fun _ => fun
  | [d1, d2, d3] => { results := [.lit (.bool false)], args := [d1, d2, d3] }
  | _ => none }
def MachrunMovesWrongFalsely : Prop := machrunMovesRow.holds Tryz.pinned (OpenSpec.ofChange machrunMovesWrong)

/-- 'pigeonholelaw13.MachrunLoads': WHATEVER THE INPUT: true; the input reads as it did. -/
def machrunLoadsSpec : ChangeSpec := { name := "machrunLoads", fn := fun _ => fun
  | [d1, d2, d3] => { results := [.lit (.bool true)], args := [d1, d2, d3] }
  | _ => none }
def machrunLoadsRow : OpenClaim := { program := "ytjlnokopnpcfoaagreat", sum := "2729e43829f3a29aa99ea949a94892485d3c6a95f203f7fb76b83930b5961a9e", func := "pigeonhole/pigeonholelaw13.MachrunLoads", spec := "machrunLoads", unfollowed := true, recurses := true, apart := false }
def MachrunLoadsSaid : Prop := machrunLoadsRow.holds Tryz.pinned (OpenSpec.ofChange machrunLoadsSpec)

/-- ITS FALSE NEIGHBOUR: 'it returns false'. Refute it at one input. -/
def machrunLoadsWrong : ChangeSpec := { name := "machrunLoads", fn := fun _ => fun
  | [d1, d2, d3] => { results := [.lit (.bool false)], args := [d1, d2, d3] }
  | _ => none }
def MachrunLoadsWrongFalsely : Prop := machrunLoadsRow.holds Tryz.pinned (OpenSpec.ofChange machrunLoadsWrong)

/-- 'pigeonholelaw22.NaiveTaken': WHATEVER THE INPUT: true; the input reads as it did. -/
def naiveTakenSpec : ChangeSpec := { name := "naiveTaken", fn := fun _ => fun
  | [d1, d2] => { results := [.lit (.bool true)], args := [d1, d2] }
  | _ => none }
def naiveTakenRow : OpenClaim := { program := "ytjlnokopnpcfoaagreat", sum := "2729e43829f3a29aa99ea949a94892485d3c6a95f203f7fb76b83930b5961a9e", func := "pigeonhole/pigeonholelaw22.NaiveTaken", spec := "naiveTaken", unfollowed := true, recurses := true, loops := true, apart := false }
def NaiveTakenSaid : Prop := naiveTakenRow.holds Tryz.pinned (OpenSpec.ofChange naiveTakenSpec)

/-- ITS FALSE NEIGHBOUR: 'it returns false'. Refute it at one input. -/
def naiveTakenWrong : ChangeSpec := { name := "naiveTaken", fn := fun _ => fun
  | [d1, d2] => { results := [.lit (.bool false)], args := [d1, d2] }
  | _ => none }
def NaiveTakenWrongFalsely : Prop := naiveTakenRow.holds Tryz.pinned (OpenSpec.ofChange naiveTakenWrong)

/-- 'pigeonholelaw22.NaiveDoes': WHATEVER THE INPUT: true; the input reads as it did. -/
def naiveDoesSpec : ChangeSpec := { name := "naiveDoes", fn := fun _ => fun
  | [d1, d2, d3] => { results := [.lit (.bool true)], args := [d1, d2, d3] }
  | _ => none }
def naiveDoesRow : OpenClaim := { program := "ytjlnokopnpcfoaagreat", sum := "2729e43829f3a29aa99ea949a94892485d3c6a95f203f7fb76b83930b5961a9e", func := "pigeonhole/pigeonholelaw22.NaiveDoes", spec := "naiveDoes", unfollowed := true, recurses := true, loops := true, apart := false }
def NaiveDoesSaid : Prop := naiveDoesRow.holds Tryz.pinned (OpenSpec.ofChange naiveDoesSpec)

/-- ITS FALSE NEIGHBOUR: 'it returns false'. Refute it at one input. -/
def naiveDoesWrong : ChangeSpec := { name := "naiveDoes", fn := fun _ => fun
  | [d1, d2, d3] => { results := [.lit (.bool false)], args := [d1, d2, d3] }
  | _ => none }
def NaiveDoesWrongFalsely : Prop := naiveDoesRow.holds Tryz.pinned (OpenSpec.ofChange naiveDoesWrong)

/- THE SECOND FORM. 'bulk': how many values and letters a reading holds, each counted each time it is reached (what is shared counts as often as it is met; a slice's spare places count too). A statement '..UptoSaid' is the law's where the arguments, and the package variables that the reading takes, are together of bulk at most 1048576: NARROWER than '..Said'. Prove '..Said' where nothing that the law and all that it calls make is longer than what came in: it says more and counts as full. Else prove '..UptoSaid'. A law counts once. -/
mutual
def uptoBulk {H : Type} : DataW H → Nat
  | .lit (.string bytes) => bytes.length + 1
  | .lit _ => 1
  | .nil => 1
  | .ptr d => uptoBulk d + 1
  | .slice elems spare => uptoBulkAll elems + uptoBulkAll spare + 1
  | .agg parts => uptoBulkAll parts + 1
  | .iface _ d => uptoBulk d + 1
  | .map entries => uptoBulkEntries entries + 1
  | .held _ => 1
def uptoBulkAll {H : Type} : List (DataW H) → Nat
  | [] => 0
  | d :: r => uptoBulk d + uptoBulkAll r
def uptoBulkEntries {H : Type} : List (Lit × DataW H) → Nat
  | [] => 0
  | x :: r => uptoBulkEntry x + uptoBulkEntries r
def uptoBulkEntry {H : Type} : Lit × DataW H → Nat
  | (.string bytes, d) => bytes.length + uptoBulk d + 1
  | (_, d) => uptoBulk d + 1
 end
def uptoSmall : (H : Type) → List (DataW H) → Bool := fun _ ds => decide (uptoBulkAll ds ≤ 1048576)
def OpenSpec.upto (s : _root_.Go.ChangeSpec) : _root_.Go.OpenSpec := { _root_.Go.OpenSpec.ofChange s with cond := some uptoSmall }

/-- 'pigeonholelaw13.MachrunRuns', WHERE WHAT IT READS IS OF BULK AT MOST 1048576: true; the input reads as it did. -/
def machrunRunsUptoRow : OpenClaim := { program := "ytjlnokopnpcfoaagreat", sum := "2729e43829f3a29aa99ea949a94892485d3c6a95f203f7fb76b83930b5961a9e", func := "pigeonhole/pigeonholelaw13.MachrunRuns", spec := "machrunRuns", unfollowed := true, recurses := true, loops := true, apart := false, narrowed := true }
def MachrunRunsUptoSaid : Prop := machrunRunsUptoRow.holds Tryz.pinned (OpenSpec.upto machrunRunsSpec)

/-- 'pigeonholelaw13.MachrunParts', WHERE WHAT IT READS IS OF BULK AT MOST 1048576: true; the input reads as it did. -/
def machrunPartsUptoRow : OpenClaim := { program := "ytjlnokopnpcfoaagreat", sum := "2729e43829f3a29aa99ea949a94892485d3c6a95f203f7fb76b83930b5961a9e", func := "pigeonhole/pigeonholelaw13.MachrunParts", spec := "machrunParts", unfollowed := true, recurses := true, apart := false, narrowed := true }
def MachrunPartsUptoSaid : Prop := machrunPartsUptoRow.holds Tryz.pinned (OpenSpec.upto machrunPartsSpec)

/-- 'pigeonholelaw13.MachrunCalls', WHERE WHAT IT READS IS OF BULK AT MOST 1048576: true; the input reads as it did. -/
def machrunCallsUptoRow : OpenClaim := { program := "ytjlnokopnpcfoaagreat", sum := "2729e43829f3a29aa99ea949a94892485d3c6a95f203f7fb76b83930b5961a9e", func := "pigeonhole/pigeonholelaw13.MachrunCalls", spec := "machrunCalls", unfollowed := true, recurses := true, apart := false, narrowed := true }
def MachrunCallsUptoSaid : Prop := machrunCallsUptoRow.holds Tryz.pinned (OpenSpec.upto machrunCallsSpec)

/-- 'pigeonholelaw13.MachrunSlots', WHERE WHAT IT READS IS OF BULK AT MOST 1048576: true; the input reads as it did. -/
def machrunSlotsUptoRow : OpenClaim := { program := "ytjlnokopnpcfoaagreat", sum := "2729e43829f3a29aa99ea949a94892485d3c6a95f203f7fb76b83930b5961a9e", func := "pigeonhole/pigeonholelaw13.MachrunSlots", spec := "machrunSlots", unfollowed := true, recurses := true, apart := false, narrowed := true }
def MachrunSlotsUptoSaid : Prop := machrunSlotsUptoRow.holds Tryz.pinned (OpenSpec.upto machrunSlotsSpec)

/-- 'pigeonholelaw13.MachrunJunk', WHERE WHAT IT READS IS OF BULK AT MOST 1048576: true; the input reads as it did. -/
def machrunJunkUptoRow : OpenClaim := { program := "ytjlnokopnpcfoaagreat", sum := "2729e43829f3a29aa99ea949a94892485d3c6a95f203f7fb76b83930b5961a9e", func := "pigeonhole/pigeonholelaw13.MachrunJunk", spec := "machrunJunk", unfollowed := true, recurses := true, apart := false, narrowed := true }
def MachrunJunkUptoSaid : Prop := machrunJunkUptoRow.holds Tryz.pinned (OpenSpec.upto machrunJunkSpec)

/-- 'pigeonholelaw13.MachrunArgs', WHERE WHAT IT READS IS OF BULK AT MOST 1048576: true; the input reads as it did. -/
def machrunArgsUptoRow : OpenClaim := { program := "ytjlnokopnpcfoaagreat", sum := "2729e43829f3a29aa99ea949a94892485d3c6a95f203f7fb76b83930b5961a9e", func := "pigeonhole/pigeonholelaw13.MachrunArgs", spec := "machrunArgs", unfollowed := true, recurses := true, apart := false, narrowed := true }
def MachrunArgsUptoSaid : Prop := machrunArgsUptoRow.holds Tryz.pinned (OpenSpec.upto machrunArgsSpec)

/-- 'pigeonholelaw13.MachrunMoves', WHERE WHAT IT READS IS OF BULK AT MOST 1048576: true; the input reads as it did. -/
def machrunMovesUptoRow : OpenClaim := { program := "ytjlnokopnpcfoaagreat", sum := "2729e43829f3a29aa99ea949a94892485d3c6a95f203f7fb76b83930b5961a9e", func := "pigeonhole/pigeonholelaw13.MachrunMoves", spec := "machrunMoves", unfollowed := true, recurses := true, apart := false, narrowed := true }
def MachrunMovesUptoSaid : Prop := machrunMovesUptoRow.holds Tryz.pinned (OpenSpec.upto machrunMovesSpec)

/-- 'pigeonholelaw13.MachrunLoads', WHERE WHAT IT READS IS OF BULK AT MOST 1048576: true; the input reads as it did. -/
def machrunLoadsUptoRow : OpenClaim := { program := "ytjlnokopnpcfoaagreat", sum := "2729e43829f3a29aa99ea949a94892485d3c6a95f203f7fb76b83930b5961a9e", func := "pigeonhole/pigeonholelaw13.MachrunLoads", spec := "machrunLoads", unfollowed := true, recurses := true, apart := false, narrowed := true }
def MachrunLoadsUptoSaid : Prop := machrunLoadsUptoRow.holds Tryz.pinned (OpenSpec.upto machrunLoadsSpec)

/-- 'pigeonholelaw22.NaiveTaken', WHERE WHAT IT READS IS OF BULK AT MOST 1048576: true; the input reads as it did. -/
def naiveTakenUptoRow : OpenClaim := { program := "ytjlnokopnpcfoaagreat", sum := "2729e43829f3a29aa99ea949a94892485d3c6a95f203f7fb76b83930b5961a9e", func := "pigeonhole/pigeonholelaw22.NaiveTaken", spec := "naiveTaken", unfollowed := true, recurses := true, loops := true, apart := false, narrowed := true }
def NaiveTakenUptoSaid : Prop := naiveTakenUptoRow.holds Tryz.pinned (OpenSpec.upto naiveTakenSpec)

/-- 'pigeonholelaw22.NaiveDoes', WHERE WHAT IT READS IS OF BULK AT MOST 1048576: true; the input reads as it did. -/
def naiveDoesUptoRow : OpenClaim := { program := "ytjlnokopnpcfoaagreat", sum := "2729e43829f3a29aa99ea949a94892485d3c6a95f203f7fb76b83930b5961a9e", func := "pigeonhole/pigeonholelaw22.NaiveDoes", spec := "naiveDoes", unfollowed := true, recurses := true, loops := true, apart := false, narrowed := true }
def NaiveDoesUptoSaid : Prop := naiveDoesUptoRow.holds Tryz.pinned (OpenSpec.upto naiveDoesSpec)

end Rows
end Go.Proofs.YtjlnokopnpcfoaaGreat
