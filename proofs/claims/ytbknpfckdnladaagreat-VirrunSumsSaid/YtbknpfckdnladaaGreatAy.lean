/- A drawn region's run in its listed order, as a trace. No condition. -/
import Derived.Test.YtbknpfckdnladaaGreatAx
set_option linter.unusedVariables false
set_option maxHeartbeats 4000000
namespace Go.Proofs.YtbknpfckdnladaaGreat
section
variable {P : Program}
/-- One operation of the trace. -/
def Ent (P : Program) (ops : List Oper) (base j : Nat) (o : Oper) (tm : Tr AV) (M : Mem) (v : AV) (M' : Mem) (rc : Option Rec) : Prop :=
  (wantA ops o tm = some false ∧ v = .undef ∧ M' = M ∧ rc = none) ∨
  (wantA ops o tm = some true ∧ (∀ c, o.op ≠ .defer c) ∧ ∃ M2 rd, M' = ⟨M2.h, M2.nx, M2.lg ++ M.lg⟩ ∧ rc = some ⟨j, isW o.op, rd, M2.lg, M.nx⟩ ∧
    ((opA o.op P (evA tm) ⟨M.h, M.nx, []⟩ (base + j) = .val v M2 ∧ rd = readsOf o.op (evA tm) (base + j)) ∨
     (∃ g args ts, o.op = .call ⟨.value g, args, ts⟩ ∧ CvS P (evA tm g) (args.toList.map (evA tm)) ⟨M.h, M.nx, []⟩ (.ret v) M2)))
/-- An operation that panics. -/
def Pan (P : Program) (ops : List Oper) (base j : Nat) (o : Oper) (tm : Tr AV) (M : Mem) (ch : List AE) (M2 : Mem) : Prop :=
  wantA ops o tm = some true ∧ (∀ c, o.op ≠ .defer c) ∧
    ((∃ v, opA o.op P (evA tm) ⟨M.h, M.nx, []⟩ (base + j) = .panic v ∧ ch = [⟨v, false⟩] ∧ M2 = ⟨M.h, M.nx, []⟩) ∨
     (∃ g args ts, o.op = .call ⟨.value g, args, ts⟩ ∧ CvS P (evA tm g) (args.toList.map (evA tm)) ⟨M.h, M.nx, []⟩ (.pan ch) M2))
structure Trc (P : Program) (bef : List Nat) (ops : List Oper) (base i sz : Nat) (rest : List Oper) (seen : List Rec) (st : Nat) (m : Nat → Mem) (tm : Nat → Tr AV) (v : Nat → AV) (rc : Nat → Option Rec) : Prop where
  le : i ≤ st ∧ st ≤ i + rest.length
  ent : ∀ j, i ≤ j → j < st → ∃ o, rest[j - i]? = some o ∧ (∀ t, (tm (j + 1)).get t = (setDst sz (tm j) o (v j)).get t) ∧ Ent P ops base j o (tm j) (m j) (v j) (m (j + 1)) (rc j)
  ord : ∀ j, i ≤ j → j < st → ∀ r, rc j = some r → (∀ q ∈ seen, okPair (bef.getD (j - i) 0) r q = true) ∧ ∀ j' q, i ≤ j' → j' < j → rc j' = some q → okPair (bef.getD (j - i) 0) r q = true
def DrS (P : Program) (d : Dr) (i : Nat) (rest : List Oper) (f : Fr) (bl : AMode) (M : Mem) (e : AEnd) (bl' : AMode) (M' : Mem) : Prop :=
  ∃ st m tm v rc, m i = M ∧ (∀ t, (tm i).get t = f.tm.get t) ∧ Trc P d.bef d.ops d.base i f.sz rest d.seen st m tm v rc ∧
    ((st = i + rest.length ∧ FrS P (frTm f (tm st)) bl (m st) e bl' M') ∨
     (∃ o ch M2, rest[st - i]? = some o ∧ Pan P d.ops d.base st o (tm st) (m st) ch M2 ∧ allBit st (d.bef.drop (st - i + 1)) = true ∧ ((∀ q ∈ d.seen, q.w = true → (d.bef.getD (st - i) 0).testBit q.i = true) ∧ ∀ j q, i ≤ j → j < st → rc j = some q → q.w = true → (d.bef.getD (st - i) 0).testBit q.i = true) ∧ LvS P (frTop d.ops (frTm f (tm st))) (.pan ch) bl ⟨M2.h, M2.nx, M2.lg ++ (m st).lg⟩ e bl' M'))
theorem dr_ext {d : Dr} {i : Nat} {rest : List Oper} {f : Fr} {tm1 : Tr AV} {bl : AMode} {M : Mem} {e : AEnd} {bl' : AMode} {M' : Mem} (h : DrS P d i rest (frTm f tm1) bl M e bl' M') (he : ∀ t, tm1.get t = f.tm.get t) : DrS P d i rest f bl M e bl' M' := by
  obtain ⟨st, m, tm, v, rc, h1, h2, h3, h4⟩ := h
  exact ⟨st, m, tm, v, rc, h1, fun t => (h2 t).trans (he t), h3, h4⟩
theorem dr_nil {d : Dr} {i : Nat} {f : Fr} {bl : AMode} {M : Mem} {e : AEnd} {bl' : AMode} {M' : Mem} (h : FrS P f bl M e bl' M') : DrS P d i [] f bl M e bl' M' :=
  ⟨i, fun _ => M, fun _ => f.tm, fun _ => .undef, fun _ => none, rfl, fun _ => rfl, ⟨⟨Nat.le_refl _, Nat.le_refl _⟩, fun j h1 h2 => by omega, fun j h1 h2 => by omega⟩, .inl ⟨rfl, h⟩⟩
theorem okO (b : Nat) (r : Rec) : ∀ (l : List Rec), okOrder b r l = true → ∀ q ∈ l, okPair b r q = true
  | [], _, q, hq => by cases hq
  | a :: l, h, q, hq => by
    have h : (okPair b r a && okOrder b r l) = true := h
    simp only [Bool.and_eq_true] at h
    rcases List.mem_cons.1 hq with rfl | hq
    · exact h.1
    · exact okO b r l h.2 q hq
theorem dr_pan {b : Nat} {bef : List Nat} {ops : List Oper} {base : Nat} {seen : List Rec} {i : Nat} {o : Oper} {rest : List Oper} {f : Fr} {bl : AMode} {M : Mem} {e : AEnd} {bl' : AMode} {M' : Mem} {ch : List AE} {M2 : Mem}
    (h : Pan P ops base i o f.tm M ch M2) (hb : allBit i bef = true) {nx : Nat} (hq : okOrder b ⟨i, true, [], [], nx⟩ seen = true) (hl : LvS P (frTop ops f) (.pan ch) bl ⟨M2.h, M2.nx, M2.lg ++ M.lg⟩ e bl' M') : DrS P ⟨b :: bef, ops, base, seen⟩ i (o :: rest) f bl M e bl' M' :=
  by
  refine ⟨i, fun _ => M, fun _ => f.tm, fun _ => .undef, fun _ => none, rfl, fun _ => rfl, ⟨⟨Nat.le_refl _, Nat.le_add_right _ _⟩, fun j h1 h2 => by omega, fun j h1 h2 => by omega⟩, .inr ⟨o, ch, M2, by simp, h, by simpa using hb, ⟨fun q hq' hw => ?_, fun j q h1 h2 => by omega⟩, hl⟩⟩
  have := okO _ _ _ hq q hq'
  unfold okPair at this
  rw [hw] at this
  simpa using this
theorem dr_cons {b : Nat} {bef : List Nat} {ops : List Oper} {base : Nat} {seen seen' : List Rec} {i : Nat} {o : Oper} {rest : List Oper} {f : Fr} {bl : AMode} {M M1 : Mem} {e : AEnd} {bl' : AMode} {M' : Mem} {v : AV} {rc : Option Rec}
    (h : Ent P ops base i o f.tm M v M1 rc) (hs : match rc with | none => seen' = seen | some r => seen' = r :: seen ∧ okOrder b r seen = true) (hd : DrS P ⟨bef, ops, base, seen'⟩ (i + 1) rest (frPut f o v) bl M1 e bl' M') :
    DrS P ⟨b :: bef, ops, base, seen⟩ i (o :: rest) f bl M e bl' M' := by
  obtain ⟨st, m, tm, vv, rr, h1, h2, h3, h4⟩ := hd
  have le := h3.le
  have e2 : (frPut f o v).tm = setDst f.sz f.tm o v := rfl
  have e3 : (frPut f o v).sz = f.sz := rfl
  have ne : ∀ j, i + 1 ≤ j → j ≠ i := fun j h => by omega
  have sb : ∀ j, i + 1 ≤ j → j - i = (j - (i + 1)) + 1 := fun j h => by omega
  refine ⟨st, fun j => if j = i then M else m j, fun j => if j = i then f.tm else tm j, fun j => if j = i then v else vv j, fun j => if j = i then rc else rr j, if_pos rfl, fun t => by simp only [if_pos], ⟨⟨by omega, by have := le.2; simp only [List.length_cons]; omega⟩, fun j hj1 hj2 => ?_, fun j hj1 hj2 r hr => ?_⟩, ?_⟩
  · by_cases e : j = i
    · subst e
      refine ⟨o, by simp, ?_, ?_⟩
      · simp only [if_pos, if_neg (ne (j + 1) (Nat.le_refl _))]
        intro t
        rw [h2 t, e2]
      · simp only [if_pos, if_neg (ne (j + 1) (Nat.le_refl _))]
        rw [h1]
        exact h
    · obtain ⟨p, hp1, hp2, hp3⟩ := h3.ent j (by omega) hj2
      refine ⟨p, by rw [sb j (by omega)]; exact hp1, ?_, ?_⟩
      · simp only [if_neg e, if_neg (ne (j + 1) (by omega))]
        exact hp2
      · simp only [if_neg e, if_neg (ne (j + 1) (by omega))]
        exact hp3
  · by_cases e : j = i
    · subst e
      simp only [if_pos] at hr
      subst hr
      refine ⟨fun q hq => ?_, fun j' q a b => by omega⟩
      simp only [Nat.sub_self, List.getD_cons_zero]
      exact okO _ _ _ hs.2 q hq
    · simp only [if_neg e] at hr
      obtain ⟨k1, k2⟩ := h3.ord j (by omega) hj2 r hr
      rw [sb j (by omega)]
      simp only [List.getD_cons_succ]
      refine ⟨fun q hq => k1 q ?_, fun j' q hj' hlt hq => ?_⟩
      · cases rc with
        | none => have hs : seen' = seen := hs; show q ∈ seen'; rw [hs]; exact hq
        | some r' => show q ∈ seen'; rw [hs.1]; exact List.mem_cons_of_mem _ hq
      · by_cases e' : j' = i
        · subst e'
          simp only [if_pos] at hq
          subst hq
          exact k1 q (by show q ∈ seen'; rw [hs.1]; exact List.mem_cons_self ..)
        · simp only [if_neg e'] at hq
          exact k2 j' q (by omega) hlt hq
  · have est : st ≠ i := by omega
    simp only [if_neg est]
    have ef : ∀ t, frTm (frPut f o v) t = frTm f t := fun t => rfl
    rcases h4 with ⟨k1, k2⟩ | ⟨p, ch, M2, k1, k2, k3, ⟨k5, k6⟩, k4⟩
    · exact .inl ⟨by simp only [List.length_cons]; omega, by rw [← ef]; exact k2⟩
    · refine .inr ⟨p, ch, M2, by rw [sb st (by omega)]; exact k1, k2, ?_, ⟨fun q hq hw => ?_, fun j q hj1 hj2 hq hw => ?_⟩, by rw [← ef]; exact k4⟩
      · rw [sb st (by omega)]
        exact k3
      · rw [sb st (by omega)]
        simp only [List.getD_cons_succ]
        refine k5 q ?_ hw
        cases rc with
        | none => have hs : seen' = seen := hs; show q ∈ seen'; rw [hs]; exact hq
        | some r' => show q ∈ seen'; rw [hs.1]; exact List.mem_cons_of_mem _ hq
      · rw [sb st (by omega)]
        simp only [List.getD_cons_succ]
        by_cases e' : j = i
        · subst e'
          simp only [if_pos] at hq
          subst hq
          exact k5 q (by show q ∈ seen'; rw [hs.1]; exact List.mem_cons_self ..) hw
        · simp only [if_neg e'] at hq
          exact k6 j q (by omega) hj2 hq hw
end
end Go.Proofs.YtbknpfckdnladaaGreat
