/- What operations write of abstract memory. No condition. -/
import Derived.Test.YtbknpfckdnladaaGreatAr
set_option linter.unusedVariables false
set_option maxHeartbeats 4000000
namespace Go.Proofs.YtbknpfckdnladaaGreat
section
variable {P : Program} {op : Op} {M M' : Mem} {r : AV} {fid : Nat} {ev : Operand → AV}
/-- What one memory has that the other has not: blocks that the log names, and those that S lets be born. -/
structure AT (S : Nat → Prop) (M M' : Mem) : Prop where
  nx : M.nx ≤ M'.nx
  lg : ∃ ex, M'.lg = ex ++ M.lg ∧ ∀ id, ¬ S id → id ∉ ex → M'.h.get id = M.h.get id
  own : ∀ id, Own M' id → Own M id ∨ S id
  wf : (∀ id, Own M id → id < M.nx) → ∀ id, Own M' id → id < M'.nx
theorem at_mk {S : Nat → Prop} {M M' : Mem} (nx : M.nx ≤ M'.nx) (lg : ∃ ex, M'.lg = ex ++ M.lg ∧ ∀ id, ¬ S id → id ∉ ex → M'.h.get id = M.h.get id) (own : ∀ id, Own M' id → Own M id ∨ S id) (h : ∀ id, S id → id < M'.nx) : AT S M M' :=
  ⟨nx, lg, own, fun hw id o => (own id o).elim (fun o => Nat.lt_of_lt_of_le (hw id o) nx) (h id)⟩
theorem AT.refl (S : Nat → Prop) (M : Mem) : AT S M M := ⟨Nat.le_refl _, ⟨[], rfl, fun _ _ _ => rfl⟩, fun _ h => .inl h, fun h => h⟩
theorem AT.trans {S T U : Nat → Prop} {M M' M'' : Mem} (h : AT S M M') (k : AT T M' M'') (hS : ∀ id, S id → U id) (hT : ∀ id, T id → U id) : AT U M M'' := by
  obtain ⟨x, hx, h1⟩ := h.lg
  obtain ⟨y, hy, k1⟩ := k.lg
  refine ⟨Nat.le_trans h.nx k.nx, ⟨y ++ x, by rw [hy, hx, List.append_assoc], fun id hi hn => ?_⟩, fun id o => ?_, fun hw => k.wf (h.wf hw)⟩
  · rw [k1 id (fun e => hi (hT id e)) (fun e => hn (List.mem_append.2 (.inl e))), h1 id (fun e => hi (hS id e)) (fun e => hn (List.mem_append.2 (.inr e)))]
  · rcases k.own id o with e | e
    · exact (h.own id e).imp (fun e => e) (hS id)
    · exact .inr (hT id e)
theorem at_new (k : Blk) (hfx : fid < M.nx) : AT (· = fid) M (newB M fid k) := by
  have gm : ∀ id, (newB M fid k).h.get id = if fid = id then some k else M.h.get id := fun id => get_set _ _ _ _
  refine at_mk (Nat.le_refl _) ⟨[], rfl, fun id h _ => ?_⟩ (fun id ⟨q, h1, h2⟩ => ?_) (fun id e => by rw [e]; exact hfx)
  · rw [gm, if_neg (fun e => h e.symm)]
  · rw [gm] at h1
    by_cases e : fid = id
    · exact .inr e.symm
    · rw [if_neg e] at h1; exact .inl ⟨q, h1, h2⟩
theorem at_put {id : Nat} {k : Blk} (ho : Own M id) (hfx : fid < M.nx) : AT (· = fid) M ⟨M.h.set id k, M.nx, id :: M.lg⟩ := by
  refine at_mk (Nat.le_refl _) ⟨[id], rfl, fun i _ hn => get_set_ne _ _ (fun e => hn (by simp [e]))⟩ (fun i ⟨q, h1, h2⟩ => ?_) (fun id e => by rw [e]; exact hfx)
  by_cases e : id = i
  · rw [← e]; exact .inl ho
  · exact .inl ⟨q, by rw [← h1]; exact (get_set_ne _ _ e).symm, h2⟩
theorem at_poke (hfx : fid < M.nx) {vs : List AV} {p : AV} (h : poke M vs p = some (true, M')) : AT (· = fid) M M' := by
  unfold poke at h
  split at h
  · rename_i id ix sz off
    unfold pokeB at h
    split at h
    · rename_i cs hb
      simp only [Option.some.injEq, Prod.mk.injEq] at h
      rw [← h.2]
      exact at_put ⟨_, hb, by simp⟩ hfx
    · rename_i s n g hb
      simp only [Option.some.injEq, Prod.mk.injEq] at h
      rw [← h.2]
      exact at_put ⟨_, hb, by simp⟩ hfx
    · cases h
  · cases h
theorem at_mapUp (hfx : fid < M.nx) {d : Option TypeDesc} {m k x : AV} (h : oMapUp d m k x M = .val r M') : AT (· = fid) M M' := by
  unfold oMapUp at h
  split at h
  · rename_i id
    split at h
    · rename_i es hb
      unfold oMapUp1 at h
      split at h
      · cases h; exact at_put ⟨_, hb, by simp⟩ hfx
      · cases h
    · rename_i kk kv l hb
      unfold oMapUpI at h
      split at h
      · obtain ⟨_, _, rfl⟩ := bif_val h
        exact at_put ⟨_, hb, by simp⟩ hfx
      · cases h
    · cases h
  · cases h
theorem at_app (hfx : fid < M.nx) {id : Nat} {k : Blk} {full : Bool} : AT (· = fid) M ⟨(bif full then M.h else M.h.set id .gone).set fid k, M.nx, fid :: (bif full then M.lg else id :: M.lg)⟩ := by
  cases full with
  | true =>
    refine at_mk (Nat.le_refl _) ⟨[fid], rfl, fun i hi hn => get_set_ne _ _ (fun e => hi e.symm)⟩ (fun i ⟨q, h1, h2⟩ => ?_) (fun id e => by rw [e]; exact hfx)
    by_cases e : fid = i
    · exact .inr e.symm
    · exact .inl ⟨q, by rw [← h1]; exact (get_set_ne _ _ e).symm, h2⟩
  | false =>
    refine at_mk (Nat.le_refl _) ⟨[fid, id], rfl, fun i hi hn => ?_⟩ (fun i ⟨q, h1, h2⟩ => ?_) (fun id e => by rw [e]; exact hfx)
    · show ((M.h.set id .gone).set fid k).get i = _
      rw [get_set_ne _ _ (fun e => hi e.symm), get_set_ne _ _ (fun e => hn (by simp [e]))]
    · change ((M.h.set id .gone).set fid k).get i = _ at h1
      by_cases e : fid = i
      · exact .inr e.symm
      · rw [get_set_ne _ _ e] at h1
        by_cases e2 : id = i
        · rw [e2, get_set_self] at h1; cases h1; exact absurd rfl h2
        · rw [get_set_ne _ _ e2] at h1; exact .inl ⟨q, h1, h2⟩
theorem at_append (hfx : fid < M.nx) {sz : Nat} {s : AV} {x : Option (Nat × (Nat → List AV))} (h : oAppend sz s x M fid = .val r M') : AT (· = fid) M M' := by
  unfold oAppend at h
  split at h
  · rename_i k gx
    split at h
    · replace ⟨h1, h⟩ := bif_no h
      cases k with
      | zero => cases h; exact AT.refl _ _
      | succ k =>
        cases h
        exact at_app hfx (full := true) (id := 0)
    · rename_i id off n full sz'
      cases hcd : Nat.beq sz sz' with
      | false => rw [hcd] at h; cases h
      | true =>
        rw [hcd] at h
        simp only [cond_true] at h
        unfold oAppSl at h
        split at h
        · replace ⟨h1, h⟩ := bif_no h
          cases k with
          | zero => cases h; exact AT.refl _ _
          | succ k => cases h; exact at_app hfx
        · cases h
    · cases h
  · cases h
theorem nx_poke {vs : List AV} {p : AV} {b : Bool} (h : poke M vs p = some (b, M')) : M'.nx = M.nx := by
  unfold poke at h
  split at h
  · unfold pokeB at h
    split at h
    · simp only [Option.some.injEq, Prod.mk.injEq] at h; rw [← h.2]
    · simp only [Option.some.injEq, Prod.mk.injEq] at h; rw [← h.2]
    · cases h
  · cases h
theorem nx_mapUp {d : Option TypeDesc} {m k x : AV} (h : oMapUp d m k x M = .val r M') : M'.nx = M.nx := by
  unfold oMapUp at h
  split at h
  · split at h
    · unfold oMapUp1 at h
      split at h
      · cases h; rfl
      · cases h
    · unfold oMapUpI at h
      split at h
      · obtain ⟨_, _, rfl⟩ := bif_val h
        rfl
      · cases h
    · cases h
  · cases h
theorem nx_append {sz : Nat} {s : AV} {x : Option (Nat × (Nat → List AV))} (h : oAppend sz s x M fid = .val r M') : M'.nx = M.nx := by
  unfold oAppend at h
  split at h
  · rename_i k gx
    split at h
    · replace ⟨h1, h⟩ := bif_no h
      cases k <;> (cases h; rfl)
    · rename_i id off n full sz'
      cases hcd : Nat.beq sz sz' with
      | false => rw [hcd] at h; cases h
      | true =>
        rw [hcd] at h
        simp only [cond_true] at h
        unfold oAppSl at h
        split at h
        · replace ⟨h1, h⟩ := bif_no h
          cases k <;> (cases h; rfl)
        · cases h
    · cases h
  · cases h
theorem at_store (hfx : fid < M.nx) {s : Nat} {a : AV} {vs : Option (List AV)} (h : oStore s a vs M = .val r M') : AT (· = fid) M M' ∧ M'.nx = M.nx := by
  unfold oStore at h
  split at h
  · replace ⟨h1, h⟩ := bif_no h
    unfold oStore1 at h
    split at h
    · rename_i c M2 hp
      obtain ⟨rfl, _, rfl⟩ := bif_val h
      exact ⟨at_poke hfx hp, nx_poke hp⟩
    · cases h
  · cases h
theorem at_appendB (hfx : fid < M.nx) {a b : Bool} {sz : Nat} {s s2 x2 : AV} {x : Option (Nat × (Nat → List AV))} {d : Option TypeDesc} {n : Nat} (h : (bif a then oAppend sz s x M fid else (bif b then oAppMk P d s2 x2 M fid else .no n)) = .val r M') : AT (· = fid) M M' ∧ M'.nx = M.nx := by
  cases a with
  | true => exact ⟨at_append hfx h, nx_append h⟩
  | false =>
    replace ⟨_, h⟩ := bif_no (show (bif b then oAppMk P d s2 x2 M fid else .no n) = _ from h)
    unfold oAppMk at h
    split at h
    · split at h
      · exact ⟨at_append hfx h, nx_append h⟩
      · cases h
    · cases h
theorem opA_at (hfx : fid < M.nx) (h : opA op P ev M fid = .val r M') : AT (· = fid) M M' ∧ M'.nx = M.nx := by
  cases hw : isW op with
  | false =>
    cases hn : isN op with
    | true =>
      obtain ⟨k, _, rfl, _, _⟩ := opA_make hn h
      exact ⟨at_new k hfx, rfl⟩
    | false =>
      have := opA_read (P := P) (M2 := M) (M := M) (fid := fid) (ev := ev) hw hn (fun _ _ => rfl)
      rw [h] at this
      cases this
      exact ⟨AT.refl _ _, rfl⟩
  | true =>
    cases op with
    | store t a x => exact at_store hfx h
    | mapUpdate t m k x => exact ⟨at_mapUp hfx h, nx_mapUp h⟩
    | insert t m k x => exact ⟨at_mapUp hfx h, nx_mapUp h⟩
    | panic x =>
      have h : oPanic (ev x) = .val r M' := h
      unfold oPanic at h
      split at h <;> cases h
    | defer c => cases h
    | call c =>
      obtain ⟨callee, args, ts⟩ := c
      cases callee with
      | builtin b =>
        cases b with
        | append =>
          have h : oBuiltin P .append ts.toList (args.toList.map ev) M fid = .val r M' := h
          unfold oBuiltin at h
          split at h
          · rename_i e _ _; cases e
          · rename_i e _; cases e
          · rename_i e _; cases e
          · exact at_appendB hfx h
          · rename_i e _ _; cases e
          · cases h
        | cap =>
          have h : oBuiltin P .cap ts.toList (args.toList.map ev) M fid = .val r M' := h
          unfold oBuiltin at h
          split at h
          · rename_i e _ _; cases e
          · rename_i e _; cases e
          · rename_i e _; cases e
          · rename_i e _ _; cases e
          · unfold oCap at h
            split at h
            · obtain ⟨_, _, rfl⟩ := bif_val h
              exact ⟨AT.refl _ _, rfl⟩
            · cases h
          · cases h
        | len => cases hw
        | max => cases hw
        | min => cases hw
        | _ => simp [opA, hCall, oCall, oBuiltin] at h
      | value f => cases h
      | invoke f n => cases h
    | _ => cases hw
end
end Go.Proofs.YtbknpfckdnladaaGreat
