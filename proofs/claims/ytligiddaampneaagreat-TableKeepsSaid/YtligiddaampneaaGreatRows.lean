/-
  NARROWER THAN 'FOR EVERY INPUT', by the rows' own cells (each row's printed sentence says how): TableLap: loops · TableConv: loops · TableClasses: loops · TableRegs: loops · TableOps: loops · TableKeeps: loops.
  DERIVED. THE GIVEN ROWS OF THIS SEAT. 6 by the template 'for every input the law returns true; each argument reads behind the call as it read before'; 0 by the template 'total and deterministic' (their statements: YtligiddaampneaaGreatTotals.lean).
  GIVEN WITH THE SEED: the statements are not yours to turn. If you find one false, say at which input.
  Laid BY PROGRAM, IN A SANDBOX (cutbox-rows.mjs): the forced cells as the released guide's own fill.sh prints them over the translation 0d5c2b51a150095c… (all of the seat's roots in one cut). By AI agents, Wed Nov 11 2026. No macro, syntax, notation, axiom, sorry.
-/
import Derived.Test.YtligiddaampneaaGreatChecked
import GoSem.Claim
import GoSem.ClaimJoined
import GoSem.ClaimMapViews
import Derived.JoinedTies
import Derived.KernelRfl
namespace Go.Proofs.YtligiddaampneaaGreat
/- THE CELL 'sum', in the pinned program and in every row, IS THE sha256 OF THE DUMP (.gsa) THAT YtligiddaampneaaGreatProg.lean LOADS. Nothing in Lean hashes anything: it is a label: what it is worth is what the hold of that sum in a sandbox is worth. -/
noncomputable def Tryz.pinned : Pinned := { name := "ytligiddaampneaagreat", sum := "0d5c2b51a150095cd4cd8a41f955e4a2559aa8297df7601f704ee582d5a850d2", checked := Tryz.checked }
namespace Rows
def none {H : Type} : Left H := { results := [], args := [] }

/-- 'pigeonholelaw7.TableLap': WHATEVER THE INPUT: true; the input reads as it did. -/
def tableLapSpec : ChangeSpec := { name := "tableLap", fn := fun _ => fun
  | [d1, d2, d3] => { results := [.lit (.bool true)], args := [d1, d2, d3] }
  | _ => none }
def tableLapRow : OpenClaim := { program := "ytligiddaampneaagreat", sum := "0d5c2b51a150095cd4cd8a41f955e4a2559aa8297df7601f704ee582d5a850d2", func := "pigeonhole/pigeonholelaw7.TableLap", spec := "tableLap", unfollowed := true, recurses := true, loops := true, apart := false }
def TableLapSaid : Prop := tableLapRow.holds Tryz.pinned (OpenSpec.ofChange tableLapSpec)

/-- ITS FALSE NEIGHBOUR: 'it returns false'. Refute it at one input. -/
def tableLapWrong : ChangeSpec := { name := "tableLap", fn := fun _ => fun
  | [d1, d2, d3] => { results := [.lit (.bool false)], args := [d1, d2, d3] }
  | _ => none }
def TableLapWrongFalsely : Prop := tableLapRow.holds Tryz.pinned (OpenSpec.ofChange tableLapWrong)

/-- 'pigeonholelaw7.TableConv': WHATEVER THE INPUT: true; the input reads as it did. -/
def tableConvSpec : ChangeSpec := { name := "tableConv", fn := fun _ => fun
  | [d] => { results := [.lit (.bool true)], args := [d] }
  | _ => none }
def tableConvRow : OpenClaim := { program := "ytligiddaampneaagreat", sum := "0d5c2b51a150095cd4cd8a41f955e4a2559aa8297df7601f704ee582d5a850d2", func := "pigeonhole/pigeonholelaw7.TableConv", spec := "tableConv", unfollowed := true, recurses := true, loops := true, apart := false }
def TableConvSaid : Prop := tableConvRow.holds Tryz.pinned (OpenSpec.ofChange tableConvSpec)

/-- ITS FALSE NEIGHBOUR: 'it returns false'. Refute it at one input. -/
def tableConvWrong : ChangeSpec := { name := "tableConv", fn := fun _ => fun
  | [d] => { results := [.lit (.bool false)], args := [d] }
  | _ => none }
def TableConvWrongFalsely : Prop := tableConvRow.holds Tryz.pinned (OpenSpec.ofChange tableConvWrong)

/-- 'pigeonholelaw7.TableClasses': WHATEVER THE INPUT: true; the input reads as it did. -/
def tableClassesSpec : ChangeSpec := { name := "tableClasses", fn := fun _ => fun
  | [d1, d2, d3, d4] => { results := [.lit (.bool true)], args := [d1, d2, d3, d4] }
  | _ => none }
def tableClassesRow : OpenClaim := { program := "ytligiddaampneaagreat", sum := "0d5c2b51a150095cd4cd8a41f955e4a2559aa8297df7601f704ee582d5a850d2", func := "pigeonhole/pigeonholelaw7.TableClasses", spec := "tableClasses", unfollowed := true, recurses := true, loops := true, apart := false }
def TableClassesSaid : Prop := tableClassesRow.holds Tryz.pinned (OpenSpec.ofChange tableClassesSpec)

/-- ITS FALSE NEIGHBOUR: 'it returns false'. Refute it at one input. -/
def tableClassesWrong : ChangeSpec := { name := "tableClasses", fn := fun _ => fun
  | [d1, d2, d3, d4] => { results := [.lit (.bool false)], args := [d1, d2, d3, d4] }
  | _ => none }
def TableClassesWrongFalsely : Prop := tableClassesRow.holds Tryz.pinned (OpenSpec.ofChange tableClassesWrong)

/-- 'pigeonholelaw7.TableRegs': WHATEVER THE INPUT: true; the input reads as it did. -/
def tableRegsSpec : ChangeSpec := { name := "tableRegs", fn := fun _ => fun
  | [d] => { results := [.lit (.bool true)], args := [d] }
  | _ => none }
def tableRegsRow : OpenClaim := { program := "ytligiddaampneaagreat", sum := "0d5c2b51a150095cd4cd8a41f955e4a2559aa8297df7601f704ee582d5a850d2", func := "pigeonhole/pigeonholelaw7.TableRegs", spec := "tableRegs", unfollowed := true, recurses := true, loops := true, apart := false }
def TableRegsSaid : Prop := tableRegsRow.holds Tryz.pinned (OpenSpec.ofChange tableRegsSpec)

/-- ITS FALSE NEIGHBOUR: 'it returns false'. Refute it at one input. -/
def tableRegsWrong : ChangeSpec := { name := "tableRegs", fn := fun _ => fun
  | [d] => { results := [.lit (.bool false)], args := [d] }
  | _ => none }
def TableRegsWrongFalsely : Prop := tableRegsRow.holds Tryz.pinned (OpenSpec.ofChange tableRegsWrong)

/-- 'pigeonholelaw7.TableOps': WHATEVER THE INPUT: true; the input reads as it did. -/
def tableOpsSpec : ChangeSpec := { name := "tableOps", fn := fun _ => fun
  | [d1, d2, d3, d4, d5] => { results := [.lit (.bool true)], args := [d1, d2, d3, d4, d5] }
  | _ => none }
def tableOpsRow : OpenClaim := { program := "ytligiddaampneaagreat", sum := "0d5c2b51a150095cd4cd8a41f955e4a2559aa8297df7601f704ee582d5a850d2", func := "pigeonhole/pigeonholelaw7.TableOps", spec := "tableOps", unfollowed := true, recurses := true, loops := true, apart := false }
def TableOpsSaid : Prop := tableOpsRow.holds Tryz.pinned (OpenSpec.ofChange tableOpsSpec)

/-- ITS FALSE NEIGHBOUR: 'it returns false'. Refute it at one input. -/
def tableOpsWrong : ChangeSpec := { name := "tableOps", fn := fun _ => fun
  | [d1, d2, d3, d4, d5] => { results := [.lit (.bool false)], args := [d1, d2, d3, d4, d5] }
  | _ => none }
def TableOpsWrongFalsely : Prop := tableOpsRow.holds Tryz.pinned (OpenSpec.ofChange tableOpsWrong)

/-- 'pigeonholelaw7.TableKeeps': WHATEVER THE INPUT: true; the input reads as it did. -/
def tableKeepsSpec : ChangeSpec := { name := "tableKeeps", fn := fun _ => fun
  | [d] => { results := [.lit (.bool true)], args := [d] }
  | _ => none }
def tableKeepsRow : OpenClaim := { program := "ytligiddaampneaagreat", sum := "0d5c2b51a150095cd4cd8a41f955e4a2559aa8297df7601f704ee582d5a850d2", func := "pigeonhole/pigeonholelaw7.TableKeeps", spec := "tableKeeps", unfollowed := true, recurses := true, loops := true, apart := false }
def TableKeepsSaid : Prop := tableKeepsRow.holds Tryz.pinned (OpenSpec.ofChange tableKeepsSpec)

/-- ITS FALSE NEIGHBOUR: 'it returns false'. Refute it at one input. -/
def tableKeepsWrong : ChangeSpec := { name := "tableKeeps", fn := fun _ => fun
  | [d] => { results := [.lit (.bool false)], args := [d] }
  | _ => none }
def TableKeepsWrongFalsely : Prop := tableKeepsRow.holds Tryz.pinned (OpenSpec.ofChange tableKeepsWrong)

/- THE SECOND FORM. 'bulk': how many values and letters a reading holds, each counted each time it is reached (what is shared counts as often as it is met; a slice's spare places count too). A statement '..UptoSaid' is the law's where the arguments, and the package variables that the reading takes, are together of bulk at most 1048576: NARROWER than '..Said'. Prove '..Said' where nothing that the law and all that it calls make is longer than what came in: it says more and counts as full. Else prove '..UptoSaid'. A law counts once. -/
mutual
def uptoBulk {H : Type} : DataW H → Nat
  | .lit (.string bytes) => bytes.length + 1
  | .lit _ => 1
  | .nil => 1
  | .ptr d => uptoBulk d + 1
  | .slice elems spare => uptoBulkAll elems + uptoBulkAll spare + 1
  | .agg parts => uptoBulkAll parts + 1
  | .iface _ d => uptoBulk d + 1
  | .map entries => uptoBulkEntries entries + 1
  | .held _ => 1
def uptoBulkAll {H : Type} : List (DataW H) → Nat
  | [] => 0
  | d :: r => uptoBulk d + uptoBulkAll r
def uptoBulkEntries {H : Type} : List (Lit × DataW H) → Nat
  | [] => 0
  | x :: r => uptoBulkEntry x + uptoBulkEntries r
def uptoBulkEntry {H : Type} : Lit × DataW H → Nat
  | (.string bytes, d) => bytes.length + uptoBulk d + 1
  | (_, d) => uptoBulk d + 1
 end
def uptoSmall : (H : Type) → List (DataW H) → Bool := fun _ ds => decide (uptoBulkAll ds ≤ 1048576)
def OpenSpec.upto (s : _root_.Go.ChangeSpec) : _root_.Go.OpenSpec := { _root_.Go.OpenSpec.ofChange s with cond := some uptoSmall }

/-- 'pigeonholelaw7.TableLap', WHERE WHAT IT READS IS OF BULK AT MOST 1048576: true; the input reads as it did. -/
def tableLapUptoRow : OpenClaim := { program := "ytligiddaampneaagreat", sum := "0d5c2b51a150095cd4cd8a41f955e4a2559aa8297df7601f704ee582d5a850d2", func := "pigeonhole/pigeonholelaw7.TableLap", spec := "tableLap", unfollowed := true, recurses := true, loops := true, apart := false, narrowed := true }
def TableLapUptoSaid : Prop := tableLapUptoRow.holds Tryz.pinned (OpenSpec.upto tableLapSpec)

/-- 'pigeonholelaw7.TableConv', WHERE WHAT IT READS IS OF BULK AT MOST 1048576: true; the input reads as it did. -/
def tableConvUptoRow : OpenClaim := { program := "ytligiddaampneaagreat", sum := "0d5c2b51a150095cd4cd8a41f955e4a2559aa8297df7601f704ee582d5a850d2", func := "pigeonhole/pigeonholelaw7.TableConv", spec := "tableConv", unfollowed := true, recurses := true, loops := true, apart := false, narrowed := true }
def TableConvUptoSaid : Prop := tableConvUptoRow.holds Tryz.pinned (OpenSpec.upto tableConvSpec)

/-- 'pigeonholelaw7.TableClasses', WHERE WHAT IT READS IS OF BULK AT MOST 1048576: true; the input reads as it did. -/
def tableClassesUptoRow : OpenClaim := { program := "ytligiddaampneaagreat", sum := "0d5c2b51a150095cd4cd8a41f955e4a2559aa8297df7601f704ee582d5a850d2", func := "pigeonhole/pigeonholelaw7.TableClasses", spec := "tableClasses", unfollowed := true, recurses := true, loops := true, apart := false, narrowed := true }
def TableClassesUptoSaid : Prop := tableClassesUptoRow.holds Tryz.pinned (OpenSpec.upto tableClassesSpec)

/-- 'pigeonholelaw7.TableRegs', WHERE WHAT IT READS IS OF BULK AT MOST 1048576: true; the input reads as it did. -/
def tableRegsUptoRow : OpenClaim := { program := "ytligiddaampneaagreat", sum := "0d5c2b51a150095cd4cd8a41f955e4a2559aa8297df7601f704ee582d5a850d2", func := "pigeonhole/pigeonholelaw7.TableRegs", spec := "tableRegs", unfollowed := true, recurses := true, loops := true, apart := false, narrowed := true }
def TableRegsUptoSaid : Prop := tableRegsUptoRow.holds Tryz.pinned (OpenSpec.upto tableRegsSpec)

/-- 'pigeonholelaw7.TableOps', WHERE WHAT IT READS IS OF BULK AT MOST 1048576: true; the input reads as it did. -/
def tableOpsUptoRow : OpenClaim := { program := "ytligiddaampneaagreat", sum := "0d5c2b51a150095cd4cd8a41f955e4a2559aa8297df7601f704ee582d5a850d2", func := "pigeonhole/pigeonholelaw7.TableOps", spec := "tableOps", unfollowed := true, recurses := true, loops := true, apart := false, narrowed := true }
def TableOpsUptoSaid : Prop := tableOpsUptoRow.holds Tryz.pinned (OpenSpec.upto tableOpsSpec)

/-- 'pigeonholelaw7.TableKeeps', WHERE WHAT IT READS IS OF BULK AT MOST 1048576: true; the input reads as it did. -/
def tableKeepsUptoRow : OpenClaim := { program := "ytligiddaampneaagreat", sum := "0d5c2b51a150095cd4cd8a41f955e4a2559aa8297df7601f704ee582d5a850d2", func := "pigeonhole/pigeonholelaw7.TableKeeps", spec := "tableKeeps", unfollowed := true, recurses := true, loops := true, apart := false, narrowed := true }
def TableKeepsUptoSaid : Prop := tableKeepsUptoRow.holds Tryz.pinned (OpenSpec.upto tableKeepsSpec)

end Rows
end Go.Proofs.YtligiddaampneaaGreat
