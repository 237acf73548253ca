/- What operations read of abstract memory. No condition. -/
import Derived.Test.YtbknpfckdnladaaGreatAp
set_option linter.unusedVariables false
set_option maxHeartbeats 4000000
namespace Go.Proofs.YtbknpfckdnladaaGreat
section
variable {P : Program} {G : Gh} {ev : Operand → AV} {op : Op} {M M2 M' : Mem} {r : AV} {fid : Nat}
def AR.at (r : AR) (M2 : Mem) : AR := match r with | .val v _ => .val v M2 | r => r
theorem peek_same {s : Nat} {p : AV} (h : ∀ id ∈ idOf p, M2.h.get id = M.h.get id) : peek M2 s p = peek M s p := by
  cases p <;> try rfl
  show peekB _ _ _ _ _ = peekB _ _ _ _ _
  rw [h _ (List.mem_cons_self ..)]
theorem opA_read (hw : isW op = false) (hn : isN op = false) (hm : ∀ id ∈ readsOf op ev fid, M2.h.get id = M.h.get id) : opA op P ev M2 fid = (opA op P ev M fid).at M2 := by
  cases op with
  | load t a =>
    have := peek_same (s := szB P t) (p := ev a) hm
    simp only [opA, hLoad, this]
    generalize peek M (szB P t) (ev a) = x
    simp only [oLoad, vPack, vPack1, cond_eq_ite]
    repeat' split
    all_goals rfl
  | lookup t m k ok =>
    have hm : ∀ id ∈ idOf (ev m), M2.h.get id = M.h.get id := hm
    simp only [opA, hLookup]
    generalize ev m = x at hm ⊢
    unfold oLookup
    split
    · rename_i id
      rw [hm id (List.mem_cons_self ..)]
      simp only [oLook1, oLookI, cond_eq_ite]
      repeat' split
      all_goals first | rfl | simp_all
    all_goals
      try simp only [oLook1, cond_eq_ite]
      repeat' split
      all_goals first | rfl | simp_all
  | call c =>
    obtain ⟨callee, args, ts⟩ := c
    cases callee with
    | builtin b =>
      cases b with
      | len =>
        show oBuiltin P .len ts.toList (args.toList.map ev) M2 fid = AR.at (oBuiltin P .len ts.toList (args.toList.map ev) M fid) M2
        have hm : ∀ id ∈ (match args.toList with | [x] => idOf (ev x) | _ => []), M2.h.get id = M.h.get id := hm
        generalize args.toList = l at hm ⊢
        generalize ts.toList = tl
        match tl, l, hm with
        | [], _, _ => simp only [oBuiltin]; rfl
        | t :: _, [], _ => rfl
        | t :: _, _ :: _ :: _, _ => rfl
        | t :: _, [x], hm =>
          have hm : ∀ id ∈ idOf (ev x), M2.h.get id = M.h.get id := hm
          show oLen (undB P t) (ev x) M2 = (oLen (undB P t) (ev x) M).at M2
          generalize ev x = x at hm ⊢
          unfold oLen
          split
          case h_5 id =>
            rw [hm id (List.mem_cons_self ..)]
            simp only [vInt, cond_eq_ite]
            repeat' split
            all_goals first | rfl | simp_all
          all_goals
            try simp only [vInt, cond_eq_ite]
            repeat' split
            all_goals first | rfl | simp_all
      | max =>
        simp only [opA, hCall, oCall, oBuiltin]
        repeat' split
        all_goals first | rfl | simp_all
      | min =>
        simp only [opA, hCall, oCall, oBuiltin]
        repeat' split
        all_goals first | rfl | simp_all
      | _ => cases hw
    | value f => rfl
    | invoke f n => rfl
  | alloc t => cases hn
  | box t x => cases hn
  | buildSlice t l p => cases hn
  | makeMap t x => cases hn
  | makeSlice t l c => cases hn
  | store t a x => cases hw
  | mapUpdate t m k x => cases hw
  | insert t m k x => cases hw
  | defer c => cases hw
  | panic x => cases hw
  | _ =>
    simp only [opA, hMove, hPick, hBuild, hNo, hNil, hBin, hUn, hConv, hMkI, hMkF, hSlice, hFieldAddr, hField, hIndexAddr, hIndex, hAssert, hExtract, oPick, oBuild, oBuildP, oBuildA, oBuild1, vPack, vPack1, oNil, oUn, oConv, oSliceStr, oSliceLst, oSliceSl, oSlice, oFieldAddr, oField, ixA, ixSl, ixLst, ixPtr, oIndexAddr, ixStr, ixAgg, oIndex, oAssert2, oAssert1, oAssert, oExtract, oMkF, aok, cond_eq_ite]
    repeat' split
    all_goals first | rfl | simp_all [AR.at]
theorem mkMB_ne {t : Nat} : mkMB P t ≠ .gone := by
  unfold mkMB mkMB2
  repeat' split
  all_goals simp
theorem opA_make (hn : isN op = true) (h : opA op P ev M fid = .val r M') : ∃ k, k ≠ .gone ∧ M' = newB M fid k ∧ readsOf op ev fid = [fid] ∧ ∀ M2, opA op P ev M2 fid = .val r (newB M2 fid k) := by
  cases op with
  | alloc t =>
    have h : oNewVar (zeroC P t) fid M = .val r M' := h
    unfold oNewVar at h
    split at h
    · rename_i cs hc
      cases h
      exact ⟨_, by simp, rfl, rfl, fun M2 => by show oNewVar (zeroC P t) fid M2 = _; rw [hc]; rfl⟩
    · cases h
  | box t x =>
    have h : oNewVar (ev x).cells fid M = .val r M' := h
    unfold oNewVar at h
    split at h
    · rename_i cs hc
      cases h
      exact ⟨_, by simp, rfl, rfl, fun M2 => by show oNewVar (ev x).cells fid M2 = _; rw [hc]; rfl⟩
    · cases h
  | makeMap t x =>
    cases x with
    | none => cases h; exact ⟨_, mkMB_ne, rfl, rfl, fun M2 => rfl⟩
    | some x => cases h
  | buildSlice t l p =>
    have h : oBuildSlice P (undB P t) l (evP ev p.toList) M fid = .val r M' := h
    unfold oBuildSlice at h
    split at h
    · rename_i e hd
      split at h
      · rename_i z hz
        obtain ⟨h1, rfl, rfl⟩ := bif_val h
        refine ⟨_, ?_, rfl, rfl, fun M2 => ?_⟩
        · simp
        · show oBuildSlice P (undB P t) l (evP ev p.toList) M2 fid = _
          unfold oBuildSlice
          simp only [hd, hz, h1]
          rfl
      · cases h
    · cases h
  | makeSlice t l c =>
    have h : oMakeSlice P (undB P t) (ev l) (ev c) M fid = .val r M' := h
    unfold oMakeSlice at h
    split at h
    · rename_i e n m hd he1 he2
      split at h
      · rename_i z hz
        obtain ⟨h1, rfl, rfl⟩ := bif_val h
        refine ⟨_, ?_, rfl, rfl, fun M2 => ?_⟩
        · simp
        · show oMakeSlice P (undB P t) (ev l) (ev c) M2 fid = _
          unfold oMakeSlice
          simp only [hd, he1, he2, hz, h1]
          rfl
      · cases h
    · cases h
  | _ => cases hn
/-- An operation's check, apart. -/
theorem opR_ok (op : Op) (P : Program) (ev : Operand → AV) (M : Mem) (fid : Nat) : opR op P ev M fid = .plain (opA op P ev M fid) ∨ ∃ c v M' y, opR op P ev M fid = .chk c v M' y ∧ opA op P ev M fid = (bif c then .val v M' else .no y) := by
  cases op with
  | binOp op t x y t2 =>
    show qBin1 M (binA op (undB P t) (ev x) (ev y)) = .plain (aok M (binA op (undB P t) (ev x) (ev y))) ∨ ∃ c v M' z, qBin1 M (binA op (undB P t) (ev x) (ev y)) = .chk c v M' z ∧ aok M (binA op (undB P t) (ev x) (ev y)) = _
    generalize binA op (undB P t) (ev x) (ev y) = r
    cases r with
    | none => exact .inl rfl
    | some r => exact .inr ⟨_, _, _, _, rfl, rfl⟩
  | load t a =>
    show qLoad1 _ _ M = .plain (oLoad _ _ M) ∨ ∃ c v M' y, qLoad1 _ _ M = _ ∧ oLoad _ _ M = _
    generalize peek M (szB P t) (ev a) = x
    cases x with
    | none => exact .inl rfl
    | some x =>
      obtain ⟨c, cs⟩ := x
      show qLoad2 _ c M = .plain (vPack1 _ c M) ∨ ∃ c' v M' y, qLoad2 _ c M = _ ∧ vPack1 _ c M = _
      generalize pack (isAggB P t) cs = y
      cases y with
      | none => exact .inl rfl
      | some v => exact .inr ⟨_, _, _, _, rfl, rfl⟩
  | store t a x =>
    show qStore2 _ _ _ M = .plain (oStore _ _ _ M) ∨ ∃ c v M' y, qStore2 _ _ _ M = _ ∧ oStore _ _ _ M = _
    generalize (ev x).cells = y
    cases y with
    | none => exact .inl rfl
    | some vs =>
      unfold qStore2 oStore
      dsimp only
      cases Nat.beq vs.length (szB P t) && Nat.blt 0 (szB P t) with
      | false => exact .inl rfl
      | true =>
        show qStore1 _ = .plain (oStore1 _) ∨ ∃ c v M' y, qStore1 _ = _ ∧ oStore1 _ = _
        generalize poke M vs (ev a) = z
        cases z with
        | none => exact .inl rfl
        | some z => exact .inr ⟨_, _, _, _, rfl, rfl⟩
  | makeSlice t l c =>
    show qMkS1 P _ _ _ M fid = .plain (oMakeSlice P _ _ _ M fid) ∨ ∃ c v M' y, qMkS1 P _ _ _ M fid = _ ∧ oMakeSlice P _ _ _ M fid = _
    generalize undB P t = d
    generalize ev l = l
    generalize ev c = c
    unfold qMkS1 oMakeSlice
    split
    · rename_i e n m
      cases zeroC P e with
      | none => exact .inl rfl
      | some z => exact .inr ⟨_, _, _, _, rfl, rfl⟩
    · exact .inl rfl
  | indexAddr t x i =>
    show qIx1 P _ _ _ M = .plain (oIndexAddr P _ _ _ M) ∨ ∃ c v M' y, qIx1 P _ _ _ M = _ ∧ oIndexAddr P _ _ _ M = _
    generalize undB P t = d
    generalize ev x = x
    generalize ev i = i
    cases x <;> try exact .inl rfl
    all_goals
      show qxA i _ = .plain (ixA i _) ∨ ∃ c v M' y, qxA i _ = _ ∧ ixA i _ = _
      cases i <;> try exact .inl rfl
      first
        | (show qxPtr P d _ _ _ _ _ M = .plain (ixPtr P d _ _ _ _ _ M) ∨ ∃ c v M' y, qxPtr P d _ _ _ _ _ M = _ ∧ ixPtr P d _ _ _ _ _ M = _
           unfold qxPtr ixPtr
           split
           · exact .inr ⟨_, _, _, _, rfl, rfl⟩
           · exact .inl rfl)
        | (show qxLst P d _ _ _ M = .plain (ixLst P d _ _ _ M) ∨ ∃ c v M' y, qxLst P d _ _ _ M = _ ∧ ixLst P d _ _ _ M = _
           unfold qxLst ixLst
           split
           · exact .inr ⟨_, _, _, _, rfl, rfl⟩
           · exact .inl rfl)
        | (show qxSl P d _ _ _ _ _ M = .plain (ixSl P d _ _ _ _ _ M) ∨ ∃ c v M' y, qxSl P d _ _ _ _ _ M = _ ∧ ixSl P d _ _ _ _ _ M = _
           unfold qxSl ixSl
           split
           · exact .inr ⟨_, _, _, _, rfl, rfl⟩
           · exact .inl rfl)
  | _ => exact .inl rfl
theorem opX_eq (b : Bool) (op : Op) : opX b op = opR op := by
  cases b with
  | false => rfl
  | true =>
    show opS op = opR op
    cases op with
    | store t a x =>
      funext P ev M fid
      show qStore2S _ _ _ M = qStore2 _ _ _ M
      unfold qStore2S qStore2
      have : ∀ vs, pokeS M vs (ev a) = poke M vs (ev a) := fun vs => by
        unfold pokeS poke
        split
        · unfold pokeBS pokeB
          split
          · rfl
          · rw [updG_eq]
          · rfl
        · rfl
      simp only [this]
    | _ => rfl
theorem jOp_cases {R : Type} (er : Nat → R) (o : Oper) (b : Bool) {P : Program} {ev : Operand → AV} {M : Mem} {fid : Nat} (nxt : AV → Mem → R) (pan : AV → R) :
    (∃ c, jOp er (opX b o.op P ev M fid) o nxt pan = er c) ∨ (∃ v M2, opA o.op P ev M fid = .val v M2 ∧ jOp er (opX b o.op P ev M fid) o nxt pan = nxt v M2) ∨ (∃ v, opA o.op P ev M fid = .panic v ∧ jOp er (opX b o.op P ev M fid) o nxt pan = pan v) := by
  rw [opX_eq]
  rcases opR_ok o.op P ev M fid with h | ⟨c, v, M', y, h1, h2⟩
  · rw [h]
    show (∃ c, jOp1 er _ o nxt pan = er c) ∨ (∃ v M2, _ ∧ jOp1 er _ o nxt pan = nxt v M2) ∨ (∃ v, _ ∧ jOp1 er _ o nxt pan = pan v)
    cases opA o.op P ev M fid with
    | val v M2 => exact .inr (.inl ⟨v, M2, rfl, rfl⟩)
    | panic v => exact .inr (.inr ⟨v, rfl, rfl⟩)
    | no c => exact .inl ⟨_, rfl⟩
  · rw [h1]
    cases c with
    | true => exact .inr (.inl ⟨v, M', h2, rfl⟩)
    | false => exact .inl ⟨_, rfl⟩
end
end Go.Proofs.YtbknpfckdnladaaGreat
