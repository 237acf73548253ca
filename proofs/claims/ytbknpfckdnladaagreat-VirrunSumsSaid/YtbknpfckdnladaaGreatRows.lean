/-
  NARROWER THAN 'FOR EVERY INPUT', by the rows' own cells (each row's printed sentence says how): VirrunRuns: loops · VirrunFuel: loops.
  DERIVED. THE GIVEN ROWS OF THIS SEAT. 8 by the template 'for every input the law returns true; each argument reads behind the call as it read before'; 0 by the template 'total and deterministic' (their statements: YtbknpfckdnladaaGreatTotals.lean).
  GIVEN WITH THE SEED: the statements are not yours to turn. If you find one false, say at which input.
  Laid BY PROGRAM, IN A SANDBOX (cutbox-rows.mjs): the forced cells as the released guide's own fill.sh prints them over the translation 40820e3c92b438ce… (all of the seat's roots in one cut). By AI agents, Wed Nov 11 2026. No macro, syntax, notation, axiom, sorry.
-/
import Derived.Test.YtbknpfckdnladaaGreatChecked
import GoSem.Claim
import GoSem.ClaimJoined
import GoSem.ClaimMapViews
import Derived.JoinedTies
import Derived.KernelRfl
namespace Go.Proofs.YtbknpfckdnladaaGreat
/- THE CELL 'sum', in the pinned program and in every row, IS THE sha256 OF THE DUMP (.gsa) THAT YtbknpfckdnladaaGreatProg.lean LOADS. Nothing in Lean hashes anything: it is a label: what it is worth is what the hold of that sum in a sandbox is worth. -/
noncomputable def Tryz.pinned : Pinned := { name := "ytbknpfckdnladaagreat", sum := "40820e3c92b438cecf71601a817d60f67041ac416c772ec769b0cdd8b7ac9864", checked := Tryz.checked }
namespace Rows
def none {H : Type} : Left H := { results := [], args := [] }

/-- 'pigeonholelaw10.VirokWritten': WHATEVER THE INPUT: true; the input reads as it did. -/
def virokWrittenSpec : ChangeSpec := { name := "virokWritten", fn := fun _ => fun
  | [d1, d2, d3] => { results := [.lit (.bool true)], args := [d1, d2, d3] }
  | _ => none }
def virokWrittenRow : OpenClaim := { program := "ytbknpfckdnladaagreat", sum := "40820e3c92b438cecf71601a817d60f67041ac416c772ec769b0cdd8b7ac9864", func := "pigeonhole/pigeonholelaw10.VirokWritten", spec := "virokWritten", unfollowed := true, recurses := true, apart := false }
def VirokWrittenSaid : Prop := virokWrittenRow.holds Tryz.pinned (OpenSpec.ofChange virokWrittenSpec)

/-- ITS FALSE NEIGHBOUR: 'it returns false'. Refute it at one input. -/
def virokWrittenWrong : ChangeSpec := { name := "virokWritten", fn := fun _ => fun
  | [d1, d2, d3] => { results := [.lit (.bool false)], args := [d1, d2, d3] }
  | _ => none }
def VirokWrittenWrongFalsely : Prop := virokWrittenRow.holds Tryz.pinned (OpenSpec.ofChange virokWrittenWrong)

/-- 'pigeonholelaw10.VirokKinds': WHATEVER THE INPUT: true; the input reads as it did. -/
def virokKindsSpec : ChangeSpec := { name := "virokKinds", fn := fun _ => fun
  | [d] => { results := [.lit (.bool true)], args := [d] }
  | _ => none }
def virokKindsRow : OpenClaim := { program := "ytbknpfckdnladaagreat", sum := "40820e3c92b438cecf71601a817d60f67041ac416c772ec769b0cdd8b7ac9864", func := "pigeonhole/pigeonholelaw10.VirokKinds", spec := "virokKinds", unfollowed := true, recurses := true, apart := false }
def VirokKindsSaid : Prop := virokKindsRow.holds Tryz.pinned (OpenSpec.ofChange virokKindsSpec)

/-- ITS FALSE NEIGHBOUR: 'it returns false'. Refute it at one input. -/
def virokKindsWrong : ChangeSpec := { name := "virokKinds", fn := fun _ => fun
  | [d] => { results := [.lit (.bool false)], args := [d] }
  | _ => none }
def VirokKindsWrongFalsely : Prop := virokKindsRow.holds Tryz.pinned (OpenSpec.ofChange virokKindsWrong)

/-- 'pigeonholelaw11.VirrunRuns': WHATEVER THE INPUT: true; the input reads as it did. -/
def virrunRunsSpec : ChangeSpec := { name := "virrunRuns", fn := fun _ => fun
  | [d1, d2, d3] => { results := [.lit (.bool true)], args := [d1, d2, d3] }
  | _ => none }
def virrunRunsRow : OpenClaim := { program := "ytbknpfckdnladaagreat", sum := "40820e3c92b438cecf71601a817d60f67041ac416c772ec769b0cdd8b7ac9864", func := "pigeonhole/pigeonholelaw11.VirrunRuns", spec := "virrunRuns", unfollowed := true, recurses := true, loops := true, apart := false }
def VirrunRunsSaid : Prop := virrunRunsRow.holds Tryz.pinned (OpenSpec.ofChange virrunRunsSpec)

/-- ITS FALSE NEIGHBOUR: 'it returns false'. Refute it at one input. -/
def virrunRunsWrong : ChangeSpec := { name := "virrunRuns", fn := fun _ => fun
  | [d1, d2, d3] => { results := [.lit (.bool false)], args := [d1, d2, d3] }
  | _ => none }
def VirrunRunsWrongFalsely : Prop := virrunRunsRow.holds Tryz.pinned (OpenSpec.ofChange virrunRunsWrong)

/-- 'pigeonholelaw11.VirrunFuel': WHATEVER THE INPUT: true; the input reads as it did. -/
def virrunFuelSpec : ChangeSpec := { name := "virrunFuel", fn := fun _ => fun
  | [d1, d2, d3, d4] => { results := [.lit (.bool true)], args := [d1, d2, d3, d4] }
  | _ => none }
def virrunFuelRow : OpenClaim := { program := "ytbknpfckdnladaagreat", sum := "40820e3c92b438cecf71601a817d60f67041ac416c772ec769b0cdd8b7ac9864", func := "pigeonhole/pigeonholelaw11.VirrunFuel", spec := "virrunFuel", unfollowed := true, recurses := true, loops := true, apart := false }
def VirrunFuelSaid : Prop := virrunFuelRow.holds Tryz.pinned (OpenSpec.ofChange virrunFuelSpec)

/-- ITS FALSE NEIGHBOUR: 'it returns false'. Refute it at one input. -/
def virrunFuelWrong : ChangeSpec := { name := "virrunFuel", fn := fun _ => fun
  | [d1, d2, d3, d4] => { results := [.lit (.bool false)], args := [d1, d2, d3, d4] }
  | _ => none }
def VirrunFuelWrongFalsely : Prop := virrunFuelRow.holds Tryz.pinned (OpenSpec.ofChange virrunFuelWrong)

/-- 'pigeonholelaw11.VirrunSums': WHATEVER THE INPUT: true; the input reads as it did. -/
def virrunSumsSpec : ChangeSpec := { name := "virrunSums", fn := fun _ => fun
  | [d1, d2] => { results := [.lit (.bool true)], args := [d1, d2] }
  | _ => none }
def virrunSumsRow : OpenClaim := { program := "ytbknpfckdnladaagreat", sum := "40820e3c92b438cecf71601a817d60f67041ac416c772ec769b0cdd8b7ac9864", func := "pigeonhole/pigeonholelaw11.VirrunSums", spec := "virrunSums", unfollowed := true, recurses := true, apart := false }
def VirrunSumsSaid : Prop := virrunSumsRow.holds Tryz.pinned (OpenSpec.ofChange virrunSumsSpec)

/-- ITS FALSE NEIGHBOUR: 'it returns false'. Refute it at one input. -/
def virrunSumsWrong : ChangeSpec := { name := "virrunSums", fn := fun _ => fun
  | [d1, d2] => { results := [.lit (.bool false)], args := [d1, d2] }
  | _ => none }
def VirrunSumsWrongFalsely : Prop := virrunSumsRow.holds Tryz.pinned (OpenSpec.ofChange virrunSumsWrong)

/-- 'pigeonholelaw11.VirrunMemory': WHATEVER THE INPUT: true; the input reads as it did. -/
def virrunMemorySpec : ChangeSpec := { name := "virrunMemory", fn := fun _ => fun
  | [d1, d2, d3] => { results := [.lit (.bool true)], args := [d1, d2, d3] }
  | _ => none }
def virrunMemoryRow : OpenClaim := { program := "ytbknpfckdnladaagreat", sum := "40820e3c92b438cecf71601a817d60f67041ac416c772ec769b0cdd8b7ac9864", func := "pigeonhole/pigeonholelaw11.VirrunMemory", spec := "virrunMemory", unfollowed := true, recurses := true, apart := false }
def VirrunMemorySaid : Prop := virrunMemoryRow.holds Tryz.pinned (OpenSpec.ofChange virrunMemorySpec)

/-- ITS FALSE NEIGHBOUR: 'it returns false'. Refute it at one input. -/
def virrunMemoryWrong : ChangeSpec := { name := "virrunMemory", fn := fun _ => fun
  | [d1, d2, d3] => { results := [.lit (.bool false)], args := [d1, d2, d3] }
  | _ => none }
def VirrunMemoryWrongFalsely : Prop := virrunMemoryRow.holds Tryz.pinned (OpenSpec.ofChange virrunMemoryWrong)

/-- 'pigeonholelaw11.VirrunTraps': WHATEVER THE INPUT: true; the input reads as it did. -/
def virrunTrapsSpec : ChangeSpec := { name := "virrunTraps", fn := fun _ => fun
  | [d1, d2, d3] => { results := [.lit (.bool true)], args := [d1, d2, d3] }
  | _ => none }
def virrunTrapsRow : OpenClaim := { program := "ytbknpfckdnladaagreat", sum := "40820e3c92b438cecf71601a817d60f67041ac416c772ec769b0cdd8b7ac9864", func := "pigeonhole/pigeonholelaw11.VirrunTraps", spec := "virrunTraps", unfollowed := true, recurses := true, apart := false }
def VirrunTrapsSaid : Prop := virrunTrapsRow.holds Tryz.pinned (OpenSpec.ofChange virrunTrapsSpec)

/-- ITS FALSE NEIGHBOUR: 'it returns false'. Refute it at one input. -/
def virrunTrapsWrong : ChangeSpec := { name := "virrunTraps", fn := fun _ => fun
  | [d1, d2, d3] => { results := [.lit (.bool false)], args := [d1, d2, d3] }
  | _ => none }
def VirrunTrapsWrongFalsely : Prop := virrunTrapsRow.holds Tryz.pinned (OpenSpec.ofChange virrunTrapsWrong)

/-- 'pigeonholelaw11.VirrunWorld': WHATEVER THE INPUT: true; the input reads as it did. -/
def virrunWorldSpec : ChangeSpec := { name := "virrunWorld", fn := fun _ => fun
  | [d1, d2] => { results := [.lit (.bool true)], args := [d1, d2] }
  | _ => none }
def virrunWorldRow : OpenClaim := { program := "ytbknpfckdnladaagreat", sum := "40820e3c92b438cecf71601a817d60f67041ac416c772ec769b0cdd8b7ac9864", func := "pigeonhole/pigeonholelaw11.VirrunWorld", spec := "virrunWorld", unfollowed := true, recurses := true, apart := false }
def VirrunWorldSaid : Prop := virrunWorldRow.holds Tryz.pinned (OpenSpec.ofChange virrunWorldSpec)

/-- ITS FALSE NEIGHBOUR: 'it returns false'. Refute it at one input. -/
def virrunWorldWrong : ChangeSpec := { name := "virrunWorld", fn := fun _ => fun
  | [d1, d2] => { results := [.lit (.bool false)], args := [d1, d2] }
  | _ => none }
def VirrunWorldWrongFalsely : Prop := virrunWorldRow.holds Tryz.pinned (OpenSpec.ofChange virrunWorldWrong)

/- THE SECOND FORM. 'bulk': how many values and letters a reading holds, each counted each time it is reached (what is shared counts as often as it is met; a slice's spare places count too). A statement '..UptoSaid' is the law's where the arguments, and the package variables that the reading takes, are together of bulk at most 1048576: NARROWER than '..Said'. Prove '..Said' where nothing that the law and all that it calls make is longer than what came in: it says more and counts as full. Else prove '..UptoSaid'. A law counts once. -/
mutual
def uptoBulk {H : Type} : DataW H → Nat
  | .lit (.string bytes) => bytes.length + 1
  | .lit _ => 1
  | .nil => 1
  | .ptr d => uptoBulk d + 1
  | .slice elems spare => uptoBulkAll elems + uptoBulkAll spare + 1
  | .agg parts => uptoBulkAll parts + 1
  | .iface _ d => uptoBulk d + 1
  | .map entries => uptoBulkEntries entries + 1
  | .held _ => 1
def uptoBulkAll {H : Type} : List (DataW H) → Nat
  | [] => 0
  | d :: r => uptoBulk d + uptoBulkAll r
def uptoBulkEntries {H : Type} : List (Lit × DataW H) → Nat
  | [] => 0
  | x :: r => uptoBulkEntry x + uptoBulkEntries r
def uptoBulkEntry {H : Type} : Lit × DataW H → Nat
  | (.string bytes, d) => bytes.length + uptoBulk d + 1
  | (_, d) => uptoBulk d + 1
 end
def uptoSmall : (H : Type) → List (DataW H) → Bool := fun _ ds => decide (uptoBulkAll ds ≤ 1048576)
def OpenSpec.upto (s : _root_.Go.ChangeSpec) : _root_.Go.OpenSpec := { _root_.Go.OpenSpec.ofChange s with cond := some uptoSmall }

/-- 'pigeonholelaw10.VirokWritten', WHERE WHAT IT READS IS OF BULK AT MOST 1048576: true; the input reads as it did. -/
def virokWrittenUptoRow : OpenClaim := { program := "ytbknpfckdnladaagreat", sum := "40820e3c92b438cecf71601a817d60f67041ac416c772ec769b0cdd8b7ac9864", func := "pigeonhole/pigeonholelaw10.VirokWritten", spec := "virokWritten", unfollowed := true, recurses := true, apart := false, narrowed := true }
def VirokWrittenUptoSaid : Prop := virokWrittenUptoRow.holds Tryz.pinned (OpenSpec.upto virokWrittenSpec)

/-- 'pigeonholelaw10.VirokKinds', WHERE WHAT IT READS IS OF BULK AT MOST 1048576: true; the input reads as it did. -/
def virokKindsUptoRow : OpenClaim := { program := "ytbknpfckdnladaagreat", sum := "40820e3c92b438cecf71601a817d60f67041ac416c772ec769b0cdd8b7ac9864", func := "pigeonhole/pigeonholelaw10.VirokKinds", spec := "virokKinds", unfollowed := true, recurses := true, apart := false, narrowed := true }
def VirokKindsUptoSaid : Prop := virokKindsUptoRow.holds Tryz.pinned (OpenSpec.upto virokKindsSpec)

/-- 'pigeonholelaw11.VirrunRuns', WHERE WHAT IT READS IS OF BULK AT MOST 1048576: true; the input reads as it did. -/
def virrunRunsUptoRow : OpenClaim := { program := "ytbknpfckdnladaagreat", sum := "40820e3c92b438cecf71601a817d60f67041ac416c772ec769b0cdd8b7ac9864", func := "pigeonhole/pigeonholelaw11.VirrunRuns", spec := "virrunRuns", unfollowed := true, recurses := true, loops := true, apart := false, narrowed := true }
def VirrunRunsUptoSaid : Prop := virrunRunsUptoRow.holds Tryz.pinned (OpenSpec.upto virrunRunsSpec)

/-- 'pigeonholelaw11.VirrunFuel', WHERE WHAT IT READS IS OF BULK AT MOST 1048576: true; the input reads as it did. -/
def virrunFuelUptoRow : OpenClaim := { program := "ytbknpfckdnladaagreat", sum := "40820e3c92b438cecf71601a817d60f67041ac416c772ec769b0cdd8b7ac9864", func := "pigeonhole/pigeonholelaw11.VirrunFuel", spec := "virrunFuel", unfollowed := true, recurses := true, loops := true, apart := false, narrowed := true }
def VirrunFuelUptoSaid : Prop := virrunFuelUptoRow.holds Tryz.pinned (OpenSpec.upto virrunFuelSpec)

/-- 'pigeonholelaw11.VirrunSums', WHERE WHAT IT READS IS OF BULK AT MOST 1048576: true; the input reads as it did. -/
def virrunSumsUptoRow : OpenClaim := { program := "ytbknpfckdnladaagreat", sum := "40820e3c92b438cecf71601a817d60f67041ac416c772ec769b0cdd8b7ac9864", func := "pigeonhole/pigeonholelaw11.VirrunSums", spec := "virrunSums", unfollowed := true, recurses := true, apart := false, narrowed := true }
def VirrunSumsUptoSaid : Prop := virrunSumsUptoRow.holds Tryz.pinned (OpenSpec.upto virrunSumsSpec)

/-- 'pigeonholelaw11.VirrunMemory', WHERE WHAT IT READS IS OF BULK AT MOST 1048576: true; the input reads as it did. -/
def virrunMemoryUptoRow : OpenClaim := { program := "ytbknpfckdnladaagreat", sum := "40820e3c92b438cecf71601a817d60f67041ac416c772ec769b0cdd8b7ac9864", func := "pigeonhole/pigeonholelaw11.VirrunMemory", spec := "virrunMemory", unfollowed := true, recurses := true, apart := false, narrowed := true }
def VirrunMemoryUptoSaid : Prop := virrunMemoryUptoRow.holds Tryz.pinned (OpenSpec.upto virrunMemorySpec)

/-- 'pigeonholelaw11.VirrunTraps', WHERE WHAT IT READS IS OF BULK AT MOST 1048576: true; the input reads as it did. -/
def virrunTrapsUptoRow : OpenClaim := { program := "ytbknpfckdnladaagreat", sum := "40820e3c92b438cecf71601a817d60f67041ac416c772ec769b0cdd8b7ac9864", func := "pigeonhole/pigeonholelaw11.VirrunTraps", spec := "virrunTraps", unfollowed := true, recurses := true, apart := false, narrowed := true }
def VirrunTrapsUptoSaid : Prop := virrunTrapsUptoRow.holds Tryz.pinned (OpenSpec.upto virrunTrapsSpec)

/-- 'pigeonholelaw11.VirrunWorld', WHERE WHAT IT READS IS OF BULK AT MOST 1048576: true; the input reads as it did. -/
def virrunWorldUptoRow : OpenClaim := { program := "ytbknpfckdnladaagreat", sum := "40820e3c92b438cecf71601a817d60f67041ac416c772ec769b0cdd8b7ac9864", func := "pigeonhole/pigeonholelaw11.VirrunWorld", spec := "virrunWorld", unfollowed := true, recurses := true, apart := false, narrowed := true }
def VirrunWorldUptoSaid : Prop := virrunWorldUptoRow.holds Tryz.pinned (OpenSpec.upto virrunWorldSpec)

end Rows
end Go.Proofs.YtbknpfckdnladaaGreat
