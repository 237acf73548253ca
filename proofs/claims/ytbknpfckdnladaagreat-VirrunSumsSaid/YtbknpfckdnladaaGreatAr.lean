/- What operations read of temporaries; the log. No condition. -/
import Derived.Test.YtbknpfckdnladaaGreatAq
set_option linter.unusedVariables false
set_option maxHeartbeats 4000000
namespace Go.Proofs.YtbknpfckdnladaaGreat
section
variable {P : Program} {op : Op} {M M' : Mem} {r : AV} {fid : Nat} {tm tm2 : Tr AV} {ev : Operand → AV}
def Ag (tm tm2 : Tr AV) (l : List Nat) : Prop := ∀ t ∈ l, tm.get t = tm2.get t
theorem Ag.one {x : Operand} (h : Ag tm tm2 (oT x)) : evA tm x = evA tm2 x := by
  cases x with
  | tmp t =>
    have := h t (List.mem_cons_self ..)
    show (tm.get t).getD .undef = (tm2.get t).getD .undef
    rw [this]
  | _ => rfl
theorem Ag.left {a b : List Nat} (h : Ag tm tm2 (a ++ b)) : Ag tm tm2 a := fun t ht => h t (List.mem_append_left _ ht)
theorem Ag.right {a b : List Nat} (h : Ag tm tm2 (a ++ b)) : Ag tm tm2 b := fun t ht => h t (List.mem_append_right _ ht)
theorem Ag.mem {l : List Operand} (h : Ag tm tm2 (oTs l)) {x : Operand} (hx : x ∈ l) : evA tm x = evA tm2 x := Ag.one fun t ht => h t (List.mem_flatMap.2 ⟨x, hx, ht⟩)
theorem Ag.map {l : List Operand} (h : Ag tm tm2 (oTs l)) : l.map (evA tm) = l.map (evA tm2) := List.map_congr_left fun x hx => h.mem hx
theorem Ag.evP {l : List (Nat × Operand)} (h : Ag tm tm2 (oTp l)) : evP (evA tm) l = evP (evA tm2) l := List.map_congr_left fun p hp => by rw [Ag.one (x := p.2) fun t ht => h t (List.mem_flatMap.2 ⟨p, hp, ht⟩)]
theorem Ag.opt {x : Option Operand} (h : Ag tm tm2 (oTo x)) : x.map (evA tm) = x.map (evA tm2) := by
  cases x with
  | none => rfl
  | some x => simp only [Option.map_some]; rw [Ag.one h]
theorem opA_congr (h : Ag tm tm2 (opTmps op)) : opA op P (evA tm) M fid = opA op P (evA tm2) M fid ∧ readsOf op (evA tm) fid = readsOf op (evA tm2) fid := by
  have m0 : ∀ {x : Operand} {l : List Operand}, x ∈ x :: l := List.mem_cons_self ..
  have m1 : ∀ {x y : Operand} {l : List Operand}, x ∈ y :: x :: l := List.mem_cons_of_mem _ (List.mem_cons_self ..)
  have m2 : ∀ {x y z : Operand} {l : List Operand}, x ∈ y :: z :: x :: l := List.mem_cons_of_mem _ (List.mem_cons_of_mem _ (List.mem_cons_self ..))
  cases op with
  | move x => simp only [opA, hMove, readsOf, Ag.one (x := x) h, and_self]
  | assign x => simp only [opA, hMove, readsOf, Ag.one (x := x) h, and_self]
  | pick c a b =>
    have h : Ag tm tm2 (oTs [c, a, b]) := h
    simp only [opA, hPick, readsOf, h.mem (x := c) m0, h.mem (x := a) m1, h.mem (x := b) m2, and_self]
  | box t x => simp only [opA, hBox, readsOf, Ag.one (x := x) h, and_self]
  | build t ps =>
    have h : Ag tm tm2 (oTp ps.toList) := h
    simp only [opA, hBuild, readsOf, h.evP, and_self]
  | buildSlice t n ps =>
    have h : Ag tm tm2 (oTp ps.toList) := h
    simp only [opA, hBuildSlice, readsOf, h.evP, and_self]
  | insert t m k x =>
    have h : Ag tm tm2 (oTs [m, k, x]) := h
    simp only [opA, hMapUp, readsOf, h.mem (x := m) m0, h.mem (x := k) m1, h.mem (x := x) m2, and_self]
  | load t a => simp only [opA, hLoad, readsOf, Ag.one (x := a) h, and_self]
  | store t a x =>
    have h : Ag tm tm2 (oTs [a, x]) := h
    simp only [opA, hStore, readsOf, h.mem (x := a) m0, h.mem (x := x) m1, and_self]
  | nilCheck x => simp only [opA, hNil, readsOf, Ag.one (x := x) h, and_self]
  | binOp o t x y u =>
    have h : Ag tm tm2 (oTs [x, y]) := h
    simp only [opA, hBin, readsOf, h.mem (x := x) m0, h.mem (x := y) m1, and_self]
  | unOp o t x => simp only [opA, hUn, readsOf, Ag.one (x := x) h, and_self]
  | convert s d x => simp only [opA, hConv, readsOf, Ag.one (x := x) h, and_self]
  | makeInterface t x => simp only [opA, hMkI, readsOf, Ag.one (x := x) h, and_self]
  | makeFunc f a b =>
    have h : Ag tm tm2 (oTs a.toList ++ oTs b.toList) := h
    simp only [opA, hMkF, readsOf, h.left.map, h.right.map, and_self]
  | makeSlice t l c =>
    have h : Ag tm tm2 (oTs [l, c]) := h
    simp only [opA, hMkS, readsOf, h.mem (x := l) m0, h.mem (x := c) m1, and_self]
  | slice t x lo hi mx =>
    have h : Ag tm tm2 (oT x ++ (oTo lo ++ (oTo hi ++ oTo mx))) := h
    simp only [opA, hSlice, readsOf, Ag.one h.left, Ag.opt h.right.left, Ag.opt h.right.right.left, Ag.opt h.right.right.right, and_self]
  | fieldAddr s x f => simp only [opA, hFieldAddr, readsOf, Ag.one (x := x) h, and_self]
  | field s x f => simp only [opA, hField, readsOf, Ag.one (x := x) h, and_self]
  | indexAddr t x i =>
    have h : Ag tm tm2 (oTs [x, i]) := h
    simp only [opA, hIndexAddr, readsOf, h.mem (x := x) m0, h.mem (x := i) m1, and_self]
  | index t x i =>
    have h : Ag tm tm2 (oTs [x, i]) := h
    simp only [opA, hIndex, readsOf, h.mem (x := x) m0, h.mem (x := i) m1, and_self]
  | lookup t m k ok =>
    have h : Ag tm tm2 (oTs [m, k]) := h
    simp only [opA, hLookup, readsOf, h.mem (x := m) m0, h.mem (x := k) m1, and_self]
  | mapUpdate t m k x =>
    have h : Ag tm tm2 (oTs [m, k, x]) := h
    simp only [opA, hMapUp, readsOf, h.mem (x := m) m0, h.mem (x := k) m1, h.mem (x := x) m2, and_self]
  | typeAssert x t u ok => simp only [opA, hAssert, readsOf, Ag.one (x := x) h, and_self]
  | extract x i => simp only [opA, hExtract, readsOf, Ag.one (x := x) h, and_self]
  | call c =>
    obtain ⟨callee, args, ts⟩ := c
    cases callee with
    | builtin b =>
      have h : Ag tm tm2 (oTs args.toList) := h
      refine ⟨by simp only [opA, hCall, oCall, h.map], ?_⟩
      cases b <;> try rfl
      show (match args.toList with | [x] => idOf (evA tm x) | _ => []) = (match args.toList with | [x] => idOf (evA tm2 x) | _ => [])
      have key : ∀ l : List Operand, Ag tm tm2 (oTs l) → (match l with | [x] => idOf (evA tm x) | _ => []) = (match l with | [x] => idOf (evA tm2 x) | _ => []) := fun l h => by
        match l, h with
        | [], _ => rfl
        | [x], h => exact congrArg idOf (h.mem (List.mem_cons_self ..))
        | _ :: _ :: _, _ => rfl
      exact key _ h
    | value f => exact ⟨rfl, rfl⟩
    | invoke f n => exact ⟨rfl, rfl⟩
  | panic x => simp only [opA, hPanic, readsOf, Ag.one (x := x) h, and_self]
  | alloc t => exact ⟨rfl, rfl⟩
  | makeMap t x => cases x <;> exact ⟨rfl, rfl⟩
  | _ => exact ⟨rfl, rfl⟩
end
end Go.Proofs.YtbknpfckdnladaaGreat
