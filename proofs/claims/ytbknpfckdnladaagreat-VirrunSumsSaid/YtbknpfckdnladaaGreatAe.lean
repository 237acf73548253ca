/- Operations that look into memory, and parts of values. No condition. -/
import Derived.Test.YtbknpfckdnladaaGreatAd
set_option linter.unusedVariables false
set_option maxHeartbeats 4000000
namespace Go.Proofs.YtbknpfckdnladaaGreat
section
variable {P : Program} {G : Gh} {ρ : Operand → Value} {ev : Operand → AV} {o : Oper} {w : World} {M : Mem}
theorem cell_of {b i : Nat} {arr : Array Value} {t : TypeId} {f : Nat × Nat} (h : w.heap[b]? = some (.cells arr t f)) : w.cell? ⟨b, i, none⟩ = arr[i]? := by
  unfold World.cell?
  rw [h]
  rfl
/-- Cells behind an abstract pointer. -/
theorem peek_ok {s : Nat} {p : AV} {v : Value} {cs : List AV} (hs : St G w M) (hv : RV G v p) (h : peek M s p = some (true, cs)) :
    ∃ (b o : Nat) (vs : List Value), v = .pointer (some ⟨b, o, none⟩) ∧ vs.length = s ∧ cs.length = s ∧ (∀ (j : Nat) x, vs[j]? = some x → w.cell? ⟨b, o + j, none⟩ = some x) ∧ ∀ (j : Nat) x c, vs[j]? = some x → cs[j]? = some c → RV G x c := by
  unfold peek at h
  split at h
  · rename_i id ix sz off
    cases hv with
    | ptr hp =>
    rename_i b base
    unfold peekB at h
    split at h
    · rename_i cs0 hb
      simp only [Option.some.injEq, Prod.mk.injEq, Bool.and_eq_true, Nat.beq_eq, Nat.ble_eq] at h
      obtain ⟨⟨h1, h2⟩, rfl⟩ := h
      subst h1
      obtain ⟨rfl, arr, t, hc, hr⟩ := hs.blk _ _ _ _ hb hp
      have hl : arr.toList.length = cs0.length := hr.len
      refine ⟨b, _, (arr.toList.drop off).take s, rfl, by rw [List.length_take, List.length_drop]; omega, by rw [List.length_take, List.length_drop]; omega, fun j x hj => ?_, fun j x c hj hc => ?_⟩
      · have hjs : j < s := by
          have := (List.getElem?_eq_some_iff.1 hj).1
          rw [List.length_take] at this
          omega
        rw [List.getElem?_take_of_lt hjs, List.getElem?_drop] at hj
        rw [cell_of hc, show 0 + (ix * 0 + off) + j = off + j by omega]
        simpa using hj
      · have hjs : j < s := by
          have := (List.getElem?_eq_some_iff.1 hj).1
          rw [List.length_take] at this
          omega
        rw [List.getElem?_take_of_lt hjs, List.getElem?_drop] at hj hc
        exact hr.at' (off + j) x c (by simpa using hj) hc
    · rename_i sz' n g hb
      simp only [Option.some.injEq, Prod.mk.injEq, Bool.and_eq_true, Nat.beq_eq, Nat.ble_eq, Nat.blt_eq] at h
      obtain ⟨⟨⟨h1, h2⟩, h3⟩, rfl⟩ := h
      subst h1
      obtain ⟨arr, t, hc, hsz, _, hr⟩ := hs.blk _ _ _ _ hb hp
      obtain ⟨hl, hat⟩ := hr ix h2
      have hle : (ix + 1) * sz ≤ n * sz := Nat.mul_le_mul_right sz h2
      rw [Nat.succ_mul] at hle
      refine ⟨b, _, (arr.toList.drop (base + (ix * sz + off))).take s, rfl, by rw [List.length_take, List.length_drop, Array.length_toList]; omega, by rw [List.length_take, List.length_drop]; omega, fun j x hj => ?_, fun j x c hj hc => ?_⟩
      · have hjs : j < s := by
          have := (List.getElem?_eq_some_iff.1 hj).1
          rw [List.length_take] at this
          omega
        rw [List.getElem?_take_of_lt hjs, List.getElem?_drop] at hj
        rw [cell_of hc]
        simpa using hj
      · have hjs : j < s := by
          have := (List.getElem?_eq_some_iff.1 hj).1
          rw [List.length_take] at this
          omega
        rw [List.getElem?_take_of_lt hjs, List.getElem?_drop] at hj hc
        refine hat (off + j) x c ?_ hc
        rw [show base + (ix * sz + (off + j)) = base + (ix * sz + off) + j by omega]
        simpa using hj
    · cases h
  · rename_i cs0
    simp only [Option.some.injEq, Prod.mk.injEq, Nat.ble_eq] at h
    obtain ⟨h1, rfl⟩ := h
    cases hv with
    | cp f hc hr =>
    rename_i b o
    refine ⟨b, o, (List.range s).map f, rfl, by simp, by rw [List.length_take]; omega, fun j x hj => ?_, fun j x c hj hcj => ?_⟩
    · have hjs : j < s := by
        have := (List.getElem?_eq_some_iff.1 hj).1
        simpa using this
      rw [List.getElem?_map, List.getElem?_range hjs] at hj
      cases hj
      obtain ⟨c, hcc⟩ : ∃ c, cs0[j]? = some c := ⟨_, List.getElem?_eq_getElem (by omega)⟩
      exact hs.con _ _ _ (hc j c hcc)
    · have hjs : j < s := by
        have := (List.getElem?_eq_some_iff.1 hj).1
        simpa using this
      rw [List.getElem?_map, List.getElem?_range hjs] at hj
      cases hj
      rw [List.getElem?_take_of_lt hjs] at hcj
      exact hr j c hcj
  · cases h
theorem run_vals {b o : Nat} {vs : List Value} (h : ∀ (j : Nat) x, vs[j]? = some x → w.cell? ⟨b, o + j, none⟩ = some x) : (loadCells ⟨b, o, none⟩ vs.length).run P w = .ok vs.toArray w := by
  refine run_loadCells_list (P := P) (w := w) _ _ (fun j v hj => ?_)
  rw [add_none]; exact h j v hj
theorem und_of_agg {t : TypeId} {b : Bool} (h : isAggB P t = some b) : ∃ d, undB P t = some d := by
  unfold isAggB at h
  cases hd : undB P t with
  | none => rw [hd] at h; cases h
  | some d => exact ⟨d, rfl⟩
theorem pack_inv {b : Option Bool} {cs : List AV} {r : AV} (h : pack b cs = some r) : (b = some true ∧ r = .agg cs) ∨ (b = some false ∧ cs = [r]) := by
  unfold pack at h
  cases b with
  | none => cases h
  | some b =>
    cases b with
    | true => cases h; exact .inl ⟨rfl, rfl⟩
    | false =>
      change pack1 cs = some r at h
      unfold pack1 at h
      split at h
      · cases h; exact .inr ⟨rfl, rfl⟩
      · cases h
theorem loadVar_ok {t : TypeId} {p r : AV} {v : Value} {cs : List AV} (hs : St G w M) (hv : RV G v p) (h : peek M (szB P t) p = some (true, cs)) (hp : pack (isAggB P t) cs = some r) :
    ∃ (a : Addr) (x : Value), v = .pointer (some a) ∧ (loadVar t a).run P w = .ok x w ∧ RV G x r := by
  obtain ⟨b, o, vs, rfl, hl, hl2, hc, hr⟩ := peek_ok hs hv h
  rcases pack_inv hp with ⟨hb, rfl⟩ | ⟨hb, rfl⟩
  · obtain ⟨d, hd⟩ := und_of_agg hb
    obtain ⟨i, hi⟩ := info_of_und hd
    refine ⟨_, .agg vs.toArray, rfl, ?_, .agg (by simp; omega) (fun j v a h1 h2 => hr j v a (by simpa using h1) h2)⟩
    unfold loadVar
    have := run_vals (P := P) hc
    rw [hl] at this
    simp only [Sem.run_bind, isAggB_ok hb, szB_ok hi, Result.andThen_ok, if_true, this, Sem.run_pure]
  · obtain ⟨x, hx⟩ : ∃ x, vs = [x] := by
      match vs, hl, hl2 with
      | [x], _, _ => exact ⟨x, rfl⟩
      | [], h1, h2 => simp at h1 h2; omega
      | _ :: _ :: _, h1, h2 => simp at h1 h2; omega
    subst hx
    refine ⟨_, x, rfl, ?_, hr 0 x r rfl rfl⟩
    have h1 := hc 0 x rfl
    unfold loadVar
    simp only [Sem.run_bind, isAggB_ok hb, Result.andThen_ok, Bool.false_eq_true, if_false, run_load]
    rw [show (⟨b, o, none⟩ : Addr) = ⟨b, o + 0, none⟩ from rfl, h1]
theorem vPack_inv {b : Option Bool} {c : Bool} {cs : List AV} {r : AV} {M' : Mem} (h : vPack b c cs M = .val r M') : c = true ∧ pack b cs = some r ∧ M' = M := by
  unfold vPack vPack1 at h
  split at h
  · rename_i v hv
    obtain ⟨h1, rfl, rfl⟩ := bif_val h
    exact ⟨h1, hv, rfl⟩
  · cases h
theorem q_load {t : TypeId} {x : Operand} {r : AV} {M' : Mem} (ho : o.op = .load t x) (hs : St G w M) (hx : RV G (ρ x) (ev x)) (h : oLoad (isAggB P t) (peek M (szB P t) (ev x)) M = .val r M') : Qu P G ρ o w r ∧ M' = M := by
  unfold oLoad at h
  split at h
  · rename_i c cs hp
    obtain ⟨rfl, h2, rfl⟩ := vPack_inv h
    obtain ⟨a, y, h3, h4, h5⟩ := loadVar_ok hs hx hp h2
    refine ⟨⟨y, ?_, h5⟩, rfl⟩
    unfold execOp
    rw [ho]
    simp only [Instr.loadAt, Instr.sureAddr, h3, Sem.run_bind, Sem.run_pure, Result.andThen_ok, h4]
  · cases h
/-- A part of a value. -/
theorem part_ok {t : TypeId} {arr : Array Value} {cs : List AV} {off : Nat} {r : AV} (ha : RVs G arr cs) (h1 : off + szB P t ≤ cs.length) (h2 : 0 < szB P t) (hp : pack (isAggB P t) ((cs.drop off).take (szB P t)) = some r) : ∃ x, (part t arr off).run P w = .ok x w ∧ RV G x r := by
  have hl := ha.len
  rcases pack_inv hp with ⟨hb, rfl⟩ | ⟨hb, hcs⟩
  · obtain ⟨d, hd⟩ := und_of_agg hb
    obtain ⟨i, hi⟩ := info_of_und hd
    refine ⟨.agg (arr.extract off (off + szB P t)), ?_, .agg ?_ (fun j v a e1 e2 => ?_)⟩
    · unfold part
      simp only [Sem.run_bind, isAggB_ok hb, szB_ok hi, Result.andThen_ok, if_true, Sem.run_pure]
    · rw [Array.size_extract, List.length_take, List.length_drop]; omega
    · have hj : j < szB P t := by
        have := (List.getElem?_eq_some_iff.1 e2).1
        rw [List.length_take] at this
        omega
      rw [List.getElem?_take_of_lt hj, List.getElem?_drop] at e2
      rw [Array.getElem?_extract, if_pos (by omega)] at e1
      exact ha.at' (off + j) v a e1 e2
  · have hj : cs[off]? = some r := by
      have := congrArg (fun l => l[0]?) hcs
      simp only [List.getElem?_take_of_lt h2, List.getElem?_drop] at this
      simpa using this
    obtain ⟨x, hx⟩ : ∃ x, arr[off]? = some x := ⟨_, Array.getElem?_eq_getElem (by omega)⟩
    refine ⟨x, ?_, ha.at' off x r hx hj⟩
    unfold part
    simp only [Sem.run_bind, isAggB_ok hb, Result.andThen_ok, Bool.false_eq_true, if_false, hx, Sem.run_pure]
theorem fieldOff_ok {s : TypeId} {f : Nat} {off : Nat} {ft : TypeId} (h : fieldOff P s f = some (off, ft)) : ∃ fs x, undB P s = some (.struct fs) ∧ fs[f]? = some x ∧ x.offset = off ∧ x.type = ft := by
  unfold fieldOff at h
  split at h
  · rename_i fs hd
    rw [nth_eq] at h
    split at h
    · rename_i x hx
      cases h
      exact ⟨fs, x, hd, by simpa using hx, rfl, rfl⟩
    · cases h
  · cases h
theorem q_field {s : TypeId} {x : Operand} {f : Nat} {r : AV} {M' : Mem} (ho : o.op = .field s x f) (hx : RV G (ρ x) (ev x)) (h : oField P (fieldOff P s f) (ev x) M = .val r M') : Qu P G ρ o w r ∧ M' = M := by
  unfold oField at h
  split at h
  · rename_i off ft cs hf he
    obtain ⟨h1, h2, rfl⟩ := vPack_inv h
    simp only [Bool.and_eq_true, Nat.ble_eq, Nat.blt_eq] at h1
    obtain ⟨fs, fld, hd, hfl, rfl, rfl⟩ := fieldOff_ok hf
    rw [he] at hx
    generalize hv : ρ x = xv at hx
    cases hx with
    | agg hl hr =>
    rename_i arr
    obtain ⟨y, h3, h4⟩ := part_ok (w := w) ⟨hl, hr⟩ h1.1 h1.2 h2
    refine ⟨⟨y, ?_, h4⟩, rfl⟩
    unfold execOp
    rw [ho]
    simp only [Instr.field, Sem.run_bind, run_und hd, Result.andThen_ok, hfl, hv, asAgg, Sem.run_pure, h3]
  · cases h
theorem q_fieldAddr {s : TypeId} {x : Operand} {f : Nat} {r : AV} {M' : Mem} (ho : o.op = .fieldAddr s x f) (hx : RV G (ρ x) (ev x)) (h : oFieldAddr P (fieldOff P s f) (ev x) M = .val r M') : Qu P G ρ o w r ∧ M' = M := by
  unfold oFieldAddr at h
  split at h
  · rename_i off ft hf
    obtain ⟨fs, fld, hd, hfl, rfl, rfl⟩ := fieldOff_ok hf
    cases h0 : Nat.beq (szB P fld.type) 0 with
    | true => rw [h0] at h; cases h
    | false =>
      rw [h0] at h
      have hne : szB P fld.type ≠ 0 := fun e => by rw [e] at h0; cases h0
      obtain ⟨i, hi⟩ := info_of_szB hne
      have run : ∀ b o', ρ x = .pointer (some ⟨b, o', none⟩) → (execOp ρ o).run P w = .ok (.value (.pointer (some ⟨b, o' + fld.offset, none⟩))) w := fun b o' hv => by
        unfold execOp
        rw [ho]
        simp only [Instr.fieldAt, Instr.sureAddr, fieldPlace, Sem.run_bind, run_und hd, Result.andThen_ok, hfl, hv, Sem.run_pure, szB_ok hi, if_neg hne, add_none]
      change (match ev x with | .ptr id ix sz o => AR.val (.ptr id ix sz (o + fld.offset)) M | .cp cs => .val (.cp (cs.drop fld.offset)) M | _ => .no 31) = _ at h
      split at h
      · rename_i id ix sz o' he
        cases h
        rw [he] at hx
        generalize hv : ρ x = xv at hx
        cases hx with
        | ptr hp =>
        refine ⟨⟨_, run _ _ hv, ?_⟩, rfl⟩
        rw [Nat.add_assoc, show ix * sz + o' + fld.offset = ix * sz + (o' + fld.offset) by omega]
        exact .ptr hp
      · rename_i cs he
        cases h
        rw [he] at hx
        generalize hv : ρ x = xv at hx
        cases hx with
        | cp vs hc hr =>
        refine ⟨⟨_, run _ _ hv, ?_⟩, rfl⟩
        refine .cp (fun j => vs (fld.offset + j)) (fun j a e => ?_) (fun j a e => ?_)
        · rw [List.getElem?_drop] at e
          rw [Nat.add_assoc]
          exact hc _ a e
        · rw [List.getElem?_drop] at e
          exact hr _ a e
      · cases h
  · cases h
end
end Go.Proofs.YtbknpfckdnladaaGreat
