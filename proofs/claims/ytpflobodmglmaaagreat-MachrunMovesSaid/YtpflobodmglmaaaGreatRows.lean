/-
  NARROWER THAN 'FOR EVERY INPUT', by the rows' own cells (each row's printed sentence says how): MachrunRuns: loops · VirrunRuns: loops · VirrunFuel: loops · NaiveTaken: loops · NaiveDoes: loops.
  DERIVED. THE GIVEN ROWS OF THIS SEAT. 9 by the template 'for every input the law returns true; each argument reads behind the call as it read before'; 0 by the template 'total and deterministic' (their statements: YtpflobodmglmaaaGreatTotals.lean).
  GIVEN WITH THE SEED: the statements are not yours to turn. If you find one false, say at which input.
  Laid BY PROGRAM, IN A SANDBOX (cutbox-rows.mjs): the forced cells as the released guide's own fill.sh prints them over the translation 81437e3951010c1f… (all of the seat's roots in one cut). By AI agents, Wed Nov 11 2026. No macro, syntax, notation, axiom, sorry.
-/
import Derived.Test.YtpflobodmglmaaaGreatChecked
import GoSem.Claim
import GoSem.ClaimJoined
import GoSem.ClaimMapViews
import Derived.JoinedTies
import Derived.KernelRfl
namespace Go.Proofs.YtpflobodmglmaaaGreat
/- THE CELL 'sum', in the pinned program and in every row, IS THE sha256 OF THE DUMP (.gsa) THAT YtpflobodmglmaaaGreatProg.lean LOADS. Nothing in Lean hashes anything: it is a label: what it is worth is what the hold of that sum in a sandbox is worth. -/
noncomputable def Tryz.pinned : Pinned := { name := "ytpflobodmglmaaagreat", sum := "81437e3951010c1f9c37e04e06700fd2805c16ade5f64eb557a94eb5b32eb728", checked := Tryz.checked }
namespace Rows
def none {H : Type} : Left H := { results := [], args := [] }

/-- 'pigeonholelaw13.MachrunRuns': WHATEVER THE INPUT: true; the input reads as it did. -/
def machrunRunsSpec : ChangeSpec := { name := "machrunRuns", fn := fun _ => fun
  | [d1, d2, d3] => { results := [.lit (.bool true)], args := [d1, d2, d3] }
  | _ => none }
def machrunRunsRow : OpenClaim := { program := "ytpflobodmglmaaagreat", sum := "81437e3951010c1f9c37e04e06700fd2805c16ade5f64eb557a94eb5b32eb728", func := "pigeonhole/pigeonholelaw13.MachrunRuns", spec := "machrunRuns", unfollowed := true, recurses := true, loops := true, apart := false }
def MachrunRunsSaid : Prop := machrunRunsRow.holds Tryz.pinned (OpenSpec.ofChange machrunRunsSpec)

/-- ITS FALSE NEIGHBOUR: 'it returns false'. Refute it at one input. -/
def machrunRunsWrong : ChangeSpec := { name := "machrunRuns", fn := fun _ => fun
  | [d1, d2, d3] => { results := [.lit (.bool false)], args := [d1, d2, d3] }
  | _ => none }
def MachrunRunsWrongFalsely : Prop := machrunRunsRow.holds Tryz.pinned (OpenSpec.ofChange machrunRunsWrong)

/-- 'pigeonholelaw13.MachrunCalls': WHATEVER THE INPUT: true; the input reads as it did. -/
def machrunCallsSpec : ChangeSpec := { name := "machrunCalls", fn := fun _ => fun
  | [d1, d2, d3, d4, d5, d6] => { results := [.lit (.bool true)], args := [d1, d2, d3, d4, d5, d6] }
  | _ => none }
def machrunCallsRow : OpenClaim := { program := "ytpflobodmglmaaagreat", sum := "81437e3951010c1f9c37e04e06700fd2805c16ade5f64eb557a94eb5b32eb728", func := "pigeonhole/pigeonholelaw13.MachrunCalls", spec := "machrunCalls", unfollowed := true, recurses := true, apart := false }
def MachrunCallsSaid : Prop := machrunCallsRow.holds Tryz.pinned (OpenSpec.ofChange machrunCallsSpec)

/-- ITS FALSE NEIGHBOUR: 'it returns false'. Refute it at one input. -/
def machrunCallsWrong : ChangeSpec := { name := "machrunCalls", fn := fun _ => fun
  | [d1, d2, d3, d4, d5, d6] => { results := [.lit (.bool false)], args := [d1, d2, d3, d4, d5, d6] }
  | _ => none }
def MachrunCallsWrongFalsely : Prop := machrunCallsRow.holds Tryz.pinned (OpenSpec.ofChange machrunCallsWrong)

/-- 'pigeonholelaw13.MachrunJunk': WHATEVER THE INPUT: true; the input reads as it did. -/
def machrunJunkSpec : ChangeSpec := { name := "machrunJunk", fn := fun _ => fun
  | [d1, d2, d3, d4, d5] => { results := [.lit (.bool true)], args := [d1, d2, d3, d4, d5] }
  | _ => none }
def machrunJunkRow : OpenClaim := { program := "ytpflobodmglmaaagreat", sum := "81437e3951010c1f9c37e04e06700fd2805c16ade5f64eb557a94eb5b32eb728", func := "pigeonhole/pigeonholelaw13.MachrunJunk", spec := "machrunJunk", unfollowed := true, recurses := true, apart := false }
def MachrunJunkSaid : Prop := machrunJunkRow.holds Tryz.pinned (OpenSpec.ofChange machrunJunkSpec)

/-- ITS FALSE NEIGHBOUR: 'it returns false'. Refute it at one input. -/
def machrunJunkWrong : ChangeSpec := { name := "machrunJunk", fn := fun _ => fun
  | [d1, d2, d3, d4, d5] => { results := [.lit (.bool false)], args := [d1, d2, d3, d4, d5] }
  | _ => none }
def MachrunJunkWrongFalsely : Prop := machrunJunkRow.holds Tryz.pinned (OpenSpec.ofChange machrunJunkWrong)

/-- 'pigeonholelaw13.MachrunArgs': WHATEVER THE INPUT: true; the input reads as it did. -/
def machrunArgsSpec : ChangeSpec := { name := "machrunArgs", fn := fun _ => fun
  | [d1, d2, d3, d4] => { results := [.lit (.bool true)], args := [d1, d2, d3, d4] }
  | _ => none }
def machrunArgsRow : OpenClaim := { program := "ytpflobodmglmaaagreat", sum := "81437e3951010c1f9c37e04e06700fd2805c16ade5f64eb557a94eb5b32eb728", func := "pigeonhole/pigeonholelaw13.MachrunArgs", spec := "machrunArgs", unfollowed := true, recurses := true, apart := false }
def MachrunArgsSaid : Prop := machrunArgsRow.holds Tryz.pinned (OpenSpec.ofChange machrunArgsSpec)

/-- ITS FALSE NEIGHBOUR: 'it returns false'. Refute it at one input. -/
def machrunArgsWrong : ChangeSpec := { name := "machrunArgs", fn := fun _ => fun
  | [d1, d2, d3, d4] => { results := [.lit (.bool false)], args := [d1, d2, d3, d4] }
  | _ => none }
def MachrunArgsWrongFalsely : Prop := machrunArgsRow.holds Tryz.pinned (OpenSpec.ofChange machrunArgsWrong)

/-- 'pigeonholelaw13.MachrunMoves': WHATEVER THE INPUT: true; the input reads as it did. -/
def machrunMovesSpec : ChangeSpec := { name := "machrunMoves", fn := fun _ => fun
  | [d1, d2, d3] => { results := [.lit (.bool true)], args := [d1, d2, d3] }
  | _ => none }
def machrunMovesRow : OpenClaim := { program := "ytpflobodmglmaaagreat", sum := "81437e3951010c1f9c37e04e06700fd2805c16ade5f64eb557a94eb5b32eb728", func := "pigeonhole/pigeonholelaw13.MachrunMoves", spec := "machrunMoves", unfollowed := true, recurses := true, apart := false }
def MachrunMovesSaid : Prop := machrunMovesRow.holds Tryz.pinned (OpenSpec.ofChange machrunMovesSpec)

/-- ITS FALSE NEIGHBOUR: 'it returns false'. Refute it at one input. -/
def machrunMovesWrong : ChangeSpec := { name := "machrunMoves", fn := fun _ => fun
  | [d1, d2, d3] => { results := [.lit (.bool false)], args := [d1, d2, d3] }
  | _ => none }
def MachrunMovesWrongFalsely : Prop := machrunMovesRow.holds Tryz.pinned (OpenSpec.ofChange machrunMovesWrong)

/-- 'pigeonholelaw11.VirrunRuns': WHATEVER THE INPUT: true; the input reads as it did. -/
def virrunRunsSpec : ChangeSpec := { name := "virrunRuns", fn := fun _ => fun
  | [d1, d2, d3] => { results := [.lit (.bool true)], args := [d1, d2, d3] }
  | _ => none }
def virrunRunsRow : OpenClaim := { program := "ytpflobodmglmaaagreat", sum := "81437e3951010c1f9c37e04e06700fd2805c16ade5f64eb557a94eb5b32eb728", func := "pigeonhole/pigeonholelaw11.VirrunRuns", spec := "virrunRuns", unfollowed := true, recurses := true, loops := true, apart := false }
def VirrunRunsSaid : Prop := virrunRunsRow.holds Tryz.pinned (OpenSpec.ofChange virrunRunsSpec)

/-- ITS FALSE NEIGHBOUR: 'it returns false'. Refute it at one input. -/
def virrunRunsWrong : ChangeSpec := { name := "virrunRuns", fn := fun _ => fun
  | [d1, d2, d3] => { results := [.lit (.bool false)], args := [d1, d2, d3] }
  | _ => none }
def VirrunRunsWrongFalsely : Prop := virrunRunsRow.holds Tryz.pinned (OpenSpec.ofChange virrunRunsWrong)

/-- 'pigeonholelaw11.VirrunFuel': WHATEVER THE INPUT: true; the input reads as it did. -/
def virrunFuelSpec : ChangeSpec := { name := "virrunFuel", fn := fun _ => fun
  | [d1, d2, d3, d4] => { results := [.lit (.bool true)], args := [d1, d2, d3, d4] }
  | _ => none }
def virrunFuelRow : OpenClaim := { program := "ytpflobodmglmaaagreat", sum := "81437e3951010c1f9c37e04e06700fd2805c16ade5f64eb557a94eb5b32eb728", func := "pigeonhole/pigeonholelaw11.VirrunFuel", spec := "virrunFuel", unfollowed := true, recurses := true, loops := true, apart := false }
def VirrunFuelSaid : Prop := virrunFuelRow.holds Tryz.pinned (OpenSpec.ofChange virrunFuelSpec)

/-- ITS FALSE NEIGHBOUR: 'it returns false'. Refute it at one input. -/
def virrunFuelWrong : ChangeSpec := { name := "virrunFuel", fn := fun _ => fun
  | [d1, d2, d3, d4] => { results := [.lit (.bool false)], args := [d1, d2, d3, d4] }
  | _ => none }
def VirrunFuelWrongFalsely : Prop := virrunFuelRow.holds Tryz.pinned (OpenSpec.ofChange virrunFuelWrong)

/-- 'pigeonholelaw22.NaiveTaken': WHATEVER THE INPUT: true; the input reads as it did. -/
def naiveTakenSpec : ChangeSpec := { name := "naiveTaken", fn := fun _ => fun
  | [d1, d2] => { results := [.lit (.bool true)], args := [d1, d2] }
  | _ => none }
def naiveTakenRow : OpenClaim := { program := "ytpflobodmglmaaagreat", sum := "81437e3951010c1f9c37e04e06700fd2805c16ade5f64eb557a94eb5b32eb728", func := "pigeonhole/pigeonholelaw22.NaiveTaken", spec := "naiveTaken", unfollowed := true, recurses := true, loops := true, apart := false }
def NaiveTakenSaid : Prop := naiveTakenRow.holds Tryz.pinned (OpenSpec.ofChange naiveTakenSpec)

/-- ITS FALSE NEIGHBOUR: 'it returns false'. Refute it at one input. -/
def naiveTakenWrong : ChangeSpec := { name := "naiveTaken", fn := fun _ => fun
  | [d1, d2] => { results := [.lit (.bool false)], args := [d1, d2] }
  | _ => none }
def NaiveTakenWrongFalsely : Prop := naiveTakenRow.holds Tryz.pinned (OpenSpec.ofChange naiveTakenWrong)

/-- 'pigeonholelaw22.NaiveDoes': WHATEVER THE INPUT: true; the input reads as it did. -/
def naiveDoesSpec : ChangeSpec := { name := "naiveDoes", fn := fun _ => fun
  | [d1, d2, d3] => { results := [.lit (.bool true)], args := [d1, d2, d3] }
  | _ => none }
def naiveDoesRow : OpenClaim := { program := "ytpflobodmglmaaagreat", sum := "81437e3951010c1f9c37e04e06700fd2805c16ade5f64eb557a94eb5b32eb728", func := "pigeonhole/pigeonholelaw22.NaiveDoes", spec := "naiveDoes", unfollowed := true, recurses := true, loops := true, apart := false }
def NaiveDoesSaid : Prop := naiveDoesRow.holds Tryz.pinned (OpenSpec.ofChange naiveDoesSpec)

/-- ITS FALSE NEIGHBOUR: 'it returns false'. Refute it at one input. -/
def naiveDoesWrong : ChangeSpec := { name := "naiveDoes", fn := fun _ => fun
  | [d1, d2, d3] => { results := [.lit (.bool false)], args := [d1, d2, d3] }
  | _ => none }
def NaiveDoesWrongFalsely : Prop := naiveDoesRow.holds Tryz.pinned (OpenSpec.ofChange naiveDoesWrong)

/- THE SECOND FORM. 'bulk': how many values and letters a reading holds, each counted each time it is reached (what is shared counts as often as it is met; a slice's spare places count too). A statement '..UptoSaid' is the law's where the arguments, and the package variables that the reading takes, are together of bulk at most 1048576: NARROWER than '..Said'. Prove '..Said' where nothing that the law and all that it calls make is longer than what came in: it says more and counts as full. Else prove '..UptoSaid'. A law counts once. -/
mutual
def uptoBulk {H : Type} : DataW H → Nat
  | .lit (.string bytes) => bytes.length + 1
  | .lit _ => 1
  | .nil => 1
  | .ptr d => uptoBulk d + 1
  | .slice elems spare => uptoBulkAll elems + uptoBulkAll spare + 1
  | .agg parts => uptoBulkAll parts + 1
  | .iface _ d => uptoBulk d + 1
  | .map entries => uptoBulkEntries entries + 1
  | .held _ => 1
def uptoBulkAll {H : Type} : List (DataW H) → Nat
  | [] => 0
  | d :: r => uptoBulk d + uptoBulkAll r
def uptoBulkEntries {H : Type} : List (Lit × DataW H) → Nat
  | [] => 0
  | x :: r => uptoBulkEntry x + uptoBulkEntries r
def uptoBulkEntry {H : Type} : Lit × DataW H → Nat
  | (.string bytes, d) => bytes.length + uptoBulk d + 1
  | (_, d) => uptoBulk d + 1
 end
def uptoSmall : (H : Type) → List (DataW H) → Bool := fun _ ds => decide (uptoBulkAll ds ≤ 1048576)
def OpenSpec.upto (s : _root_.Go.ChangeSpec) : _root_.Go.OpenSpec := { _root_.Go.OpenSpec.ofChange s with cond := some uptoSmall }

/-- 'pigeonholelaw13.MachrunRuns', WHERE WHAT IT READS IS OF BULK AT MOST 1048576: true; the input reads as it did. -/
def machrunRunsUptoRow : OpenClaim := { program := "ytpflobodmglmaaagreat", sum := "81437e3951010c1f9c37e04e06700fd2805c16ade5f64eb557a94eb5b32eb728", func := "pigeonhole/pigeonholelaw13.MachrunRuns", spec := "machrunRuns", unfollowed := true, recurses := true, loops := true, apart := false, narrowed := true }
def MachrunRunsUptoSaid : Prop := machrunRunsUptoRow.holds Tryz.pinned (OpenSpec.upto machrunRunsSpec)

/-- 'pigeonholelaw13.MachrunCalls', WHERE WHAT IT READS IS OF BULK AT MOST 1048576: true; the input reads as it did. -/
def machrunCallsUptoRow : OpenClaim := { program := "ytpflobodmglmaaagreat", sum := "81437e3951010c1f9c37e04e06700fd2805c16ade5f64eb557a94eb5b32eb728", func := "pigeonhole/pigeonholelaw13.MachrunCalls", spec := "machrunCalls", unfollowed := true, recurses := true, apart := false, narrowed := true }
def MachrunCallsUptoSaid : Prop := machrunCallsUptoRow.holds Tryz.pinned (OpenSpec.upto machrunCallsSpec)

/-- 'pigeonholelaw13.MachrunJunk', WHERE WHAT IT READS IS OF BULK AT MOST 1048576: true; the input reads as it did. -/
def machrunJunkUptoRow : OpenClaim := { program := "ytpflobodmglmaaagreat", sum := "81437e3951010c1f9c37e04e06700fd2805c16ade5f64eb557a94eb5b32eb728", func := "pigeonhole/pigeonholelaw13.MachrunJunk", spec := "machrunJunk", unfollowed := true, recurses := true, apart := false, narrowed := true }
def MachrunJunkUptoSaid : Prop := machrunJunkUptoRow.holds Tryz.pinned (OpenSpec.upto machrunJunkSpec)

/-- 'pigeonholelaw13.MachrunArgs', WHERE WHAT IT READS IS OF BULK AT MOST 1048576: true; the input reads as it did. -/
def machrunArgsUptoRow : OpenClaim := { program := "ytpflobodmglmaaagreat", sum := "81437e3951010c1f9c37e04e06700fd2805c16ade5f64eb557a94eb5b32eb728", func := "pigeonhole/pigeonholelaw13.MachrunArgs", spec := "machrunArgs", unfollowed := true, recurses := true, apart := false, narrowed := true }
def MachrunArgsUptoSaid : Prop := machrunArgsUptoRow.holds Tryz.pinned (OpenSpec.upto machrunArgsSpec)

/-- 'pigeonholelaw13.MachrunMoves', WHERE WHAT IT READS IS OF BULK AT MOST 1048576: true; the input reads as it did. -/
def machrunMovesUptoRow : OpenClaim := { program := "ytpflobodmglmaaagreat", sum := "81437e3951010c1f9c37e04e06700fd2805c16ade5f64eb557a94eb5b32eb728", func := "pigeonhole/pigeonholelaw13.MachrunMoves", spec := "machrunMoves", unfollowed := true, recurses := true, apart := false, narrowed := true }
def MachrunMovesUptoSaid : Prop := machrunMovesUptoRow.holds Tryz.pinned (OpenSpec.upto machrunMovesSpec)

/-- 'pigeonholelaw11.VirrunRuns', WHERE WHAT IT READS IS OF BULK AT MOST 1048576: true; the input reads as it did. -/
def virrunRunsUptoRow : OpenClaim := { program := "ytpflobodmglmaaagreat", sum := "81437e3951010c1f9c37e04e06700fd2805c16ade5f64eb557a94eb5b32eb728", func := "pigeonhole/pigeonholelaw11.VirrunRuns", spec := "virrunRuns", unfollowed := true, recurses := true, loops := true, apart := false, narrowed := true }
def VirrunRunsUptoSaid : Prop := virrunRunsUptoRow.holds Tryz.pinned (OpenSpec.upto virrunRunsSpec)

/-- 'pigeonholelaw11.VirrunFuel', WHERE WHAT IT READS IS OF BULK AT MOST 1048576: true; the input reads as it did. -/
def virrunFuelUptoRow : OpenClaim := { program := "ytpflobodmglmaaagreat", sum := "81437e3951010c1f9c37e04e06700fd2805c16ade5f64eb557a94eb5b32eb728", func := "pigeonhole/pigeonholelaw11.VirrunFuel", spec := "virrunFuel", unfollowed := true, recurses := true, loops := true, apart := false, narrowed := true }
def VirrunFuelUptoSaid : Prop := virrunFuelUptoRow.holds Tryz.pinned (OpenSpec.upto virrunFuelSpec)

/-- 'pigeonholelaw22.NaiveTaken', WHERE WHAT IT READS IS OF BULK AT MOST 1048576: true; the input reads as it did. -/
def naiveTakenUptoRow : OpenClaim := { program := "ytpflobodmglmaaagreat", sum := "81437e3951010c1f9c37e04e06700fd2805c16ade5f64eb557a94eb5b32eb728", func := "pigeonhole/pigeonholelaw22.NaiveTaken", spec := "naiveTaken", unfollowed := true, recurses := true, loops := true, apart := false, narrowed := true }
def NaiveTakenUptoSaid : Prop := naiveTakenUptoRow.holds Tryz.pinned (OpenSpec.upto naiveTakenSpec)

/-- 'pigeonholelaw22.NaiveDoes', WHERE WHAT IT READS IS OF BULK AT MOST 1048576: true; the input reads as it did. -/
def naiveDoesUptoRow : OpenClaim := { program := "ytpflobodmglmaaagreat", sum := "81437e3951010c1f9c37e04e06700fd2805c16ade5f64eb557a94eb5b32eb728", func := "pigeonhole/pigeonholelaw22.NaiveDoes", spec := "naiveDoes", unfollowed := true, recurses := true, loops := true, apart := false, narrowed := true }
def NaiveDoesUptoSaid : Prop := naiveDoesUptoRow.holds Tryz.pinned (OpenSpec.upto naiveDoesSpec)

end Rows
end Go.Proofs.YtpflobodmglmaaaGreat
