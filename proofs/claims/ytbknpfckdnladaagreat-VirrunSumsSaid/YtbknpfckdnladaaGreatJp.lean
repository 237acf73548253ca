/- VirrunSums: the loop's memory. No condition. -/
import Derived.Test.YtbknpfckdnladaaGreatBt
import Derived.Test.YtbknpfckdnladaaGreatBp
import Derived.Test.YtbknpfckdnladaaGreatWp
set_option linter.unusedVariables false
namespace Go.Proofs.YtbknpfckdnladaaGreat
noncomputable abbrev XO : Cx := X0 Tryz.prog
noncomputable def nl : AV := .lst true true 0 (fun _ => [])
noncomputable def iV (n : Int) : AV := .int .i64 n
noncomputable def addS : AV := .str ⟨#[97, 100, 100]⟩
noncomputable def insV (k d a n : Int) (nm ar : AV) (t f : Int) : List AV := [iV k, iV d, iV a, iV 0, iV n, nm, ar, iV t, iV f]
noncomputable def stp (a b : Int) : Int := c8 (c8 (addU (c8 a) (c8 b)))
noncomputable def decF (F : Int) : Int := wr .i64 (F - 1)
/-- The run's blocks: the instruction at b, at; fuel F; the three registers; the Result. -/
noncomputable def NS (s b at_ F x y z : Int) (p q : Bool) (res : Int) : List (Nat × Blk) :=
  [(22195, .var [.map 22189, nl, iV F, nl, iV res, iV 0, nl]),
   (22185, .var [.ptr 22195 0 0 0, .top, .top, .top, .top, .top, .sl 12197 0 4 false 1, .sl 22179 0 3 true 1, .sl 22183 0 3 true 1, .sl 22399 0 3 false 1, iV b, iV at_, iV 0]),
   (22189, .mpi .i64 .i64 []),
   (12197, .row 1 4 (rowL [[.sl 12132 0 3 true 9], [.sl 12187 0 1 true 9], [.sl 12193 0 3 true 9], [.sl 12195 0 1 true 9]])),
   (12132, .row 9 3 (rowL [insV 1 1 0 s (.str ⟨#[]⟩) nl 0 0, insV 1 2 0 (-1) (.str ⟨#[]⟩) nl 0 0, insV 8 0 0 0 (.str ⟨#[]⟩) nl 1 0])),
   (12187, .row 9 1 (rowL [insV 7 0 0 0 (.str ⟨#[]⟩) nl 2 3])),
   (12193, .row 9 3 (rowL [insV 3 1 0 0 addS (.sl 12188 0 2 true 1) 0 0, insV 3 0 0 0 addS (.sl 12190 0 2 true 1) 0 0, insV 8 0 0 0 (.str ⟨#[]⟩) nl 1 0])),
   (12195, .row 9 1 (rowL [insV 9 0 1 0 (.str ⟨#[]⟩) nl 0 0])),
   (22179, .row 1 3 (rowL [[iV x], [iV y], [iV z]])),
   (22183, .row 1 3 (rowL [[.bool true], [.bool p], [.bool q]])),
   (22399, .row 1 3 (rowL [[iV 8], [iV 8], [iV 8]])),
   (12188, .row 1 2 (rowL [[iV 1], [iV 0]])),
   (12190, .row 1 2 (rowL [[iV 0], [iV 2]]))]
noncomputable def NH (s b at_ F x y z : Int) (p q : Bool) (res : Int) : List (Nat × Blk) := (22500, .var [.ptr 22195 0 0 0]) :: NS s b at_ F x y z p q res
noncomputable def DS : List Nat := [22195, 22185, 22189, 12197, 12132, 12187, 12193, 12195, 22179, 22183, 22399, 12188, 12190]
noncomputable def DH : List Nat := 22500 :: DS
noncomputable def goArgs : List AV := [.ptr 22195 0 0 0, .fn 52 [.ptr 22185 0 0 0] []]
noncomputable def goBody : Code := match bodyOf Tryz.prog 51 with
  | some (.seq _ (.seq _ (.block _ (.loop b))), _) => b
  | _ => .skip
noncomputable def tmG : Tr AV := ((enterT goArgs 0 .nil).set 2 (.ptr 22500 0 0 0)).set 4 (.fn 123 [] [.ptr 22500 0 0 0])
noncomputable def tm0 : Tr AV := (tmG.set 5 .top).set 6 .top
noncomputable def tm1 : Tr AV := (tmG.set 5 (.fn 52 [.ptr 22185 0 0 0] [])).set 6 (.tup [])
noncomputable def frG (tm : Tr AV) : Fr := ⟨51, false, 7, tm, [.inLoop goBody, .inBlock 0], [.call 123 [.ptr 22500 0 0 0]], none⟩
noncomputable def noR (c : Nat) : Option Mem := none
noncomputable def jM (j : Job (Option Mem)) : Option Mem := match j with | .fr _ _ M _ => some M | _ => none
noncomputable def go (R : Type) (er : Nat → R) (base : Job R → R) (j : Job R) : R := stepJ XO er (runS 51 XO er base 3000) j
/-- The memory at the next head. -/
noncomputable def nextM (j : Job (Option Mem)) : Mem := (go (Option Mem) noR jM j).getD M0
noncomputable def kM : K (Option Mem) := fun _ _ M => some M
noncomputable def atH (s b at_ F x y z : Int) (p q : Bool) : Job (Option Mem) := .fr (frG tm0) .run (cl 30000 (NH s b at_ F x y z p q 0)) kM
end Go.Proofs.YtbknpfckdnladaaGreat
