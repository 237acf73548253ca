/- Operations, all in one. No condition. -/
import Derived.Test.YtbknpfckdnladaaGreatAo
set_option linter.unusedVariables false
set_option maxHeartbeats 4000000
namespace Go.Proofs.YtbknpfckdnladaaGreat
section
variable {P : Program} {G : Gh} {ρ : Operand → Value} {ev : Operand → AV} {o : Oper} {w : World} {M M' : Mem} {r : AV} {fid : Nat}
def isN (op : Op) : Bool := match op with | .alloc _ => true | .box _ _ => true | .buildSlice _ _ _ => true | .makeMap _ _ => true | .makeSlice _ _ _ => true | _ => false
/-- What an operation brings, by whether it writes. -/
def Does (P : Program) (G : Gh) (ρ : Operand → Value) (o : Oper) (w : World) (M : Mem) (fid : Nat) (r : AV) (M' : Mem) : Prop :=
  (isW o.op = false → (isN o.op = false ∧ Qu P G ρ o w r ∧ M' = M) ∨ (isN o.op = true ∧ ∃ k, Mk P G ρ o w fid r k ∧ M' = newB M fid k)) ∧ (isW o.op = true → Wr P G ρ o w M fid r M')
theorem does_q (hw : isW o.op = false) (hn : isN o.op = false) (h : Qu P G ρ o w r ∧ M' = M) : Does P G ρ o w M fid r M' := ⟨fun _ => .inl ⟨hn, h⟩, fun e => by rw [hw] at e; cases e⟩
theorem does_n (hw : isW o.op = false) (hn : isN o.op = true) (h : ∃ k, Mk P G ρ o w fid r k ∧ M' = newB M fid k) : Does P G ρ o w M fid r M' := ⟨fun _ => .inr ⟨hn, h⟩, fun e => by rw [hw] at e; cases e⟩
theorem does_w (hw : isW o.op = true) (h : Wr P G ρ o w M fid r M') : Does P G ρ o w M fid r M' := ⟨fun e => (by rw [hw] at e; cases e), fun _ => h⟩
theorem opA_sound (hs : St G w M) (hf : G.phi fid = none) (hfx : fid < M.nx) (hx : ∀ x, RV G (ρ x) (ev x)) (h : opA o.op P ev M fid = .val r M') : Does P G ρ o w M fid r M' := by
  cases hop : o.op with
  | move x => rw [hop] at h; cases h; exact does_q (by rw [hop]; rfl) (by rw [hop]; rfl) ⟨q_move (.inl hop) (hx x), rfl⟩
  | assign x => rw [hop] at h; cases h; exact does_q (by rw [hop]; rfl) (by rw [hop]; rfl) ⟨q_move (.inr hop) (hx x), rfl⟩
  | pick c a b =>
    rw [hop] at h
    have h : oPick (ev c) (ev a) (ev b) M = .val r M' := h
    unfold oPick at h
    split at h
    · rename_i t hc
      cases h
      rw [pickV_eq]
      exact does_q (by rw [hop]; rfl) (by rw [hop]; rfl) ⟨q_pick hop (by rw [← hc]; exact hx c) (hx a) (hx b), rfl⟩
    · cases h
  | alloc t => rw [hop] at h; exact does_n (by rw [hop]; rfl) (by rw [hop]; rfl) (n_alloc hop hs hf h (k := .gone))
  | box t x => rw [hop] at h; exact does_n (by rw [hop]; rfl) (by rw [hop]; rfl) (n_box hop hs hf (hx x) h)
  | build t ps => rw [hop] at h; exact does_q (by rw [hop]; rfl) (by rw [hop]; rfl) (q_build hop (fun p _ => hx p.2) h)
  | buildSlice t n ps => rw [hop] at h; exact does_n (by rw [hop]; rfl) (by rw [hop]; rfl) (n_buildSlice hop hs hf (fun p _ => hx p.2) h)
  | insert t m k x => rw [hop] at h; exact does_w (by rw [hop]; rfl) (w_mapUp (.inr hop) hs (hx m) (hx k) (hx x) h)
  | load t a => rw [hop] at h; exact does_q (by rw [hop]; rfl) (by rw [hop]; rfl) (q_load hop hs (hx a) h)
  | store t a x => rw [hop] at h; exact does_w (by rw [hop]; rfl) (w_store hop hs (hx a) (hx x) h)
  | nilCheck x => rw [hop] at h; exact does_q (by rw [hop]; rfl) (by rw [hop]; rfl) (q_nil hop (hx x) h)
  | binOp op t x y t2 =>
    rw [hop] at h
    have h : aok M (binA op (undB P t) (ev x) (ev y)) = .val r M' := h
    unfold aok at h
    split at h
    · rename_i b v hb
      obtain ⟨rfl, rfl, rfl⟩ := bif_val h
      exact does_q (by rw [hop]; rfl) (by rw [hop]; rfl) ⟨q_bin hop (hx x) (hx y) hb, rfl⟩
    · cases h
  | unOp op t x => rw [hop] at h; exact does_q (by rw [hop]; rfl) (by rw [hop]; rfl) (q_un hop (hx x) h)
  | convert s d x => rw [hop] at h; exact does_q (by rw [hop]; rfl) (by rw [hop]; rfl) (q_conv hop (hx x) h)
  | makeInterface t x =>
    rw [hop] at h
    have h : (bif isIfcD (undB P t) then AR.no 64 else .val (.ifc t (ev x)) M) = .val r M' := h
    cases hi : isIfcD (undB P t) with
    | true => rw [hi] at h; cases h
    | false =>
      rw [hi] at h
      cases h
      exact does_q (by rw [hop]; rfl) (by rw [hop]; rfl) ⟨q_makeIfc hop (hx x) hi, rfl⟩
  | makeFunc fn a b =>
    rw [hop] at h
    have h : oMkF fn (a.toList.map ev) (b.toList.map ev) M = .val r M' := h
    unfold oMkF at h
    split at h
    · cases h
      exact does_q (by rw [hop]; rfl) (by rw [hop]; rfl) ⟨q_makeFunc hop (fun x _ => hx x) (fun x _ => hx x), rfl⟩
    · cases h
  | makeMap t rs =>
    cases rs with
    | none => rw [hop] at h; exact does_n (by rw [hop]; rfl) (by rw [hop]; rfl) (n_map (ev := ev) hop hs hf h)
    | some x => rw [hop] at h; cases h
  | makeSlice t l c => rw [hop] at h; exact does_n (by rw [hop]; rfl) (by rw [hop]; rfl) (n_makeSlice hop hs hf (hx l) (hx c) h)
  | slice t x lo hi mx => rw [hop] at h; exact does_q (by rw [hop]; rfl) (by rw [hop]; rfl) (q_slice hop (hx x) (fun y _ => hx y) (fun y _ => hx y) (fun y _ => hx y) h)
  | fieldAddr s x f => rw [hop] at h; exact does_q (by rw [hop]; rfl) (by rw [hop]; rfl) (q_fieldAddr hop (hx x) h)
  | field s x f => rw [hop] at h; exact does_q (by rw [hop]; rfl) (by rw [hop]; rfl) (q_field hop (hx x) h)
  | indexAddr t x i => rw [hop] at h; exact does_q (by rw [hop]; rfl) (by rw [hop]; rfl) (q_indexAddr hop (hx x) (hx i) h)
  | index t x i => rw [hop] at h; exact does_q (by rw [hop]; rfl) (by rw [hop]; rfl) (q_index hop (hx x) (hx i) h)
  | lookup t m k ok => rw [hop] at h; exact does_q (by rw [hop]; rfl) (by rw [hop]; rfl) (q_lookup hop hs (hx m) (hx k) h)
  | mapUpdate t m k x => rw [hop] at h; exact does_w (by rw [hop]; rfl) (w_mapUp (.inl hop) hs (hx m) (hx k) (hx x) h)
  | typeAssert x t0 t ok => rw [hop] at h; exact does_q (by rw [hop]; rfl) (by rw [hop]; rfl) (q_assert hop (hx x) h)
  | extract x i =>
    rw [hop] at h
    have h : oExtract (ev x) i M = .val r M' := h
    unfold oExtract at h
    split at h
    · rename_i vs he
      split at h
      · rename_i v hn
        cases h
        exact does_q (by rw [hop]; rfl) (by rw [hop]; rfl) ⟨q_extract hop (by rw [← he]; exact hx x) hn, rfl⟩
      · cases h
    · cases h
  | call c =>
    obtain ⟨callee, args, ts⟩ := c
    rw [hop] at h
    cases callee with
    | builtin b =>
      have h : oBuiltin P b ts.toList (args.toList.map ev) M fid = .val r M' := h
      obtain ⟨h1, h2⟩ := builtin_ok hop hs hf hfx hx h
      refine ⟨fun e => ?_, fun _ => h2⟩
      rw [hop] at e
      exact .inl ⟨by rw [hop]; rfl, h1 (fun e2 => by subst e2; cases e)⟩
    | value f => cases h
    | invoke f n => cases h
  | panic x =>
    rw [hop] at h
    have h : oPanic (ev x) = .val r M' := h
    unfold oPanic at h
    split at h <;> cases h
  | _ => rw [hop] at h; cases h
theorem opA_panic {a : AV} (hx : ∀ x, RV G (ρ x) (ev x)) (h : opA o.op P ev M fid = .panic a) : ∃ v, (execOp ρ o).run P w = .halt (.panic v) w ∧ RV G v a ∧ isW o.op = true := by
  cases hop : o.op with
  | panic x =>
    rw [hop] at h
    obtain ⟨v, h1, h2⟩ := panic_ok (P := P) (w := w) hop (hx x) h
    exact ⟨v, h1, h2, rfl⟩
  | _ =>
    rw [hop] at h
    exfalso
    simp only [opA, hMove, hPick, hAlloc, hBox, hBuild, hBuildSlice, hMapUp, hLoad, hStore, hNo, hNil, hBin, hUn, hConv, hMkI, hMkF, hMkM, hMkS, hSlice, hFieldAddr, hField, hIndexAddr, hIndex, hLookup, hAssert, hExtract, hCall, oPick, oNewVar, oBuild, oBuildP, oBuildA, oBuild1, oBuildSlice, vPack, vPack1, oLoad, oStore, oStore1, oNil, oUn, oConv, oMakeSlice, oSliceStr, oSliceLst, oSliceSl, oSlice, oFieldAddr, oField, ixA, ixSl, ixLst, ixPtr, oIndexAddr, ixStr, ixAgg, oIndex, oLook1, oLookI, oLookup, oMapUp1, oMapUpI, oMapUp, oAssert2, oAssert1, oAssert, oExtract, vInt, oLen, oAppSl, oAppMk, oCap, oAppend, oBuiltin, oCall, oMkF, aok, cond_eq_ite] at h
    repeat' (first | (cases h; done) | split at h)
end
end Go.Proofs.YtbknpfckdnladaaGreat
