/- What operations read of abstract memory. No condition. -/
import Derived.Test.YtjlnokopnpcfoaaGreatAp
set_option linter.unusedVariables false
set_option maxHeartbeats 4000000
namespace Go.Proofs.YtjlnokopnpcfoaaGreat
section
variable {P : Program} {G : Gh} {ev : Operand → AV} {op : Op} {M M2 M' : Mem} {r : AV} {fid : Nat}
def AR.at (r : AR) (M2 : Mem) : AR := match r with | .val v _ => .val v M2 | r => r
theorem peek_same {s : Nat} {p : AV} (h : ∀ id ∈ idOf p, M2.h.get id = M.h.get id) : peek M2 s p = peek M s p := by
  cases p <;> try rfl
  show peekB _ _ _ _ _ = peekB _ _ _ _ _
  rw [h _ (List.mem_cons_self ..)]
theorem opA_read (hw : isW op = false) (hn : isN op = false) (hm : ∀ id ∈ readsOf op ev fid, M2.h.get id = M.h.get id) : opA op P ev M2 fid = (opA op P ev M fid).at M2 := by
  cases op with
  | load t a =>
    have := peek_same (s := szB P t) (p := ev a) hm
    simp only [opA, hLoad, this]
    generalize peek M (szB P t) (ev a) = x
    simp only [oLoad, vPack, vPack1, cond_eq_ite]
    repeat' split
    all_goals rfl
  | lookup t m k ok =>
    have hm : ∀ id ∈ idOf (ev m), M2.h.get id = M.h.get id := hm
    simp only [opA, hLookup]
    generalize ev m = x at hm ⊢
    unfold oLookup
    split
    · rename_i id
      rw [hm id (List.mem_cons_self ..)]
      simp only [oLook1, cond_eq_ite]
      repeat' split
      all_goals first | rfl | simp_all
    all_goals
      try simp only [oLook1, cond_eq_ite]
      repeat' split
      all_goals first | rfl | simp_all
  | call c =>
    obtain ⟨callee, args, ts⟩ := c
    cases callee with
    | builtin b =>
      cases b with
      | len =>
        show oBuiltin P .len ts.toList (args.toList.map ev) M2 fid = AR.at (oBuiltin P .len ts.toList (args.toList.map ev) M fid) M2
        have hm : ∀ id ∈ (match args.toList with | [x] => idOf (ev x) | _ => []), M2.h.get id = M.h.get id := hm
        generalize args.toList = l at hm ⊢
        generalize ts.toList = tl
        match tl, l, hm with
        | [], _, _ => simp only [oBuiltin]; rfl
        | t :: _, [], _ => rfl
        | t :: _, _ :: _ :: _, _ => rfl
        | t :: _, [x], hm =>
          have hm : ∀ id ∈ idOf (ev x), M2.h.get id = M.h.get id := hm
          show oLen (undB P t) (ev x) M2 = (oLen (undB P t) (ev x) M).at M2
          generalize ev x = x at hm ⊢
          unfold oLen
          split
          case h_5 id =>
            rw [hm id (List.mem_cons_self ..)]
            simp only [vInt, cond_eq_ite]
            repeat' split
            all_goals first | rfl | simp_all
          all_goals
            try simp only [vInt, cond_eq_ite]
            repeat' split
            all_goals first | rfl | simp_all
      | max =>
        simp only [opA, hCall, oCall, oBuiltin]
        repeat' split
        all_goals first | rfl | simp_all
      | min =>
        simp only [opA, hCall, oCall, oBuiltin]
        repeat' split
        all_goals first | rfl | simp_all
      | _ => cases hw
    | value f => rfl
    | invoke f n => rfl
  | alloc t => cases hn
  | box t x => cases hn
  | buildSlice t l p => cases hn
  | makeMap t x => cases hn
  | makeSlice t l c => cases hn
  | store t a x => cases hw
  | mapUpdate t m k x => cases hw
  | insert t m k x => cases hw
  | defer c => cases hw
  | panic x => cases hw
  | _ =>
    simp only [opA, hMove, hPick, hBuild, hNo, hNil, hBin, hUn, hConv, hMkI, hMkF, hSlice, hFieldAddr, hField, hIndexAddr, hIndex, hAssert, hExtract, oPick, oBuild, oBuildP, oBuildA, oBuild1, vPack, vPack1, oNil, oUn, oConv, oSliceStr, oSliceLst, oSliceSl, oSlice, oFieldAddr, oField, ixA, ixSl, ixLst, ixPtr, oIndexAddr, ixStr, ixAgg, oIndex, oAssert2, oAssert1, oAssert, oExtract, oMkF, aok, cond_eq_ite]
    repeat' split
    all_goals first | rfl | simp_all [AR.at]
theorem opA_make (hn : isN op = true) (h : opA op P ev M fid = .val r M') : ∃ k, k ≠ .gone ∧ M' = newB M fid k ∧ readsOf op ev fid = [fid] ∧ ∀ M2, opA op P ev M2 fid = .val r (newB M2 fid k) := by
  cases op with
  | alloc t =>
    have h : oNewVar (zeroC P t) fid M = .val r M' := h
    unfold oNewVar at h
    split at h
    · rename_i cs hc
      cases h
      exact ⟨_, by simp, rfl, rfl, fun M2 => by show oNewVar (zeroC P t) fid M2 = _; rw [hc]; rfl⟩
    · cases h
  | box t x =>
    have h : oNewVar (ev x).cells fid M = .val r M' := h
    unfold oNewVar at h
    split at h
    · rename_i cs hc
      cases h
      exact ⟨_, by simp, rfl, rfl, fun M2 => by show oNewVar (ev x).cells fid M2 = _; rw [hc]; rfl⟩
    · cases h
  | makeMap t x =>
    cases x with
    | none => cases h; exact ⟨_, by simp, rfl, rfl, fun M2 => rfl⟩
    | some x => cases h
  | buildSlice t l p =>
    have h : oBuildSlice P (undB P t) l (evP ev p.toList) M fid = .val r M' := h
    unfold oBuildSlice at h
    split at h
    · rename_i e hd
      split at h
      · rename_i z hz
        obtain ⟨h1, rfl, rfl⟩ := bif_val h
        refine ⟨_, ?_, rfl, rfl, fun M2 => ?_⟩
        · simp
        · show oBuildSlice P (undB P t) l (evP ev p.toList) M2 fid = _
          unfold oBuildSlice
          simp only [hd, hz, h1]
          rfl
      · cases h
    · cases h
  | makeSlice t l c =>
    have h : oMakeSlice P (undB P t) (ev l) (ev c) M fid = .val r M' := h
    unfold oMakeSlice at h
    split at h
    · rename_i e n m hd he1 he2
      split at h
      · rename_i z hz
        obtain ⟨h1, rfl, rfl⟩ := bif_val h
        refine ⟨_, ?_, rfl, rfl, fun M2 => ?_⟩
        · simp
        · show oMakeSlice P (undB P t) (ev l) (ev c) M2 fid = _
          unfold oMakeSlice
          simp only [hd, he1, he2, hz, h1]
          rfl
      · cases h
    · cases h
  | _ => cases hn
end
end Go.Proofs.YtjlnokopnpcfoaaGreat
