/- What a trace tells. No condition. -/
import Derived.Test.YtbknpfckdnladaaGreatAz
set_option linter.unusedVariables false
set_option maxHeartbeats 4000000
namespace Go.Proofs.YtbknpfckdnladaaGreat
section
variable {P : Program}
/-- What an operation reads is there. -/
theorem read_own {op : Op} {ev : Operand → AV} {M M' : Mem} {fid : Nat} {r : AV} (h : opA op P ev M fid = .val r M') (hn : isN op = false) : ∀ id ∈ readsOf op ev fid, Own M id := by
  have pk : ∀ {s : Nat} {p : AV} {x : Bool × List AV}, peek M s p = some x → ∀ id ∈ idOf p, Own M id := fun {s p x} e id hid => by
    cases p <;> simp only [idOf, List.mem_cons, List.not_mem_nil, or_false] at hid
    · subst hid
      replace e : peekB (M.h.get id) s _ _ _ = some x := e
      unfold peekB at e
      split at e
      · rename_i cs hb; exact ⟨_, hb, by simp⟩
      · rename_i sz n g hb; exact ⟨_, hb, by simp⟩
      · cases e
    · cases e
  cases op with
  | load t a =>
    intro id hid
    have h : oLoad (isAggB P t) (peek M (szB P t) (ev a)) M = .val r M' := h
    cases hp : peek M (szB P t) (ev a) with
    | none => rw [hp] at h; simp [oLoad] at h
    | some x => exact pk hp id hid
  | lookup t m k ok =>
    intro id hid
    have hid : id ∈ idOf (ev m) := hid
    have h : oLookup (mapK P t) (mapZ P t) (ev m) (ev k) ok M = .val r M' := h
    cases hm : ev m with
    | map i =>
      rw [hm] at h hid
      simp only [idOf, List.mem_cons, List.not_mem_nil, or_false] at hid
      subst hid
      unfold oLookup at h
      dsimp only at h
      split at h
      · rename_i es hb; exact ⟨_, hb, by simp⟩
      · rename_i hb; exact ⟨_, hb, by simp⟩
      · cases h
    | ptr i ix sz off =>
      rw [hm] at h
      unfold oLookup at h
      cases h
    | _ => rw [hm] at hid; cases hid
  | call c =>
    obtain ⟨callee, args, ts⟩ := c
    cases callee with
    | builtin b =>
      cases b with
      | len =>
        intro id hid
        have h : oBuiltin P .len ts.toList (args.toList.map ev) M fid = .val r M' := h
        have hid : id ∈ (match args.toList with | [x] => idOf (ev x) | _ => []) := hid
        generalize args.toList = l at h hid
        generalize ts.toList = tl at h
        match tl, l, h, hid with
        | t :: _, [x], h, hid =>
          have hid : id ∈ idOf (ev x) := hid
          have h : oLen (undB P t) (ev x) M = .val r M' := h
          cases hm : ev x with
          | map i =>
            rw [hm] at h hid
            simp only [idOf, List.mem_cons, List.not_mem_nil, or_false] at hid
            subst hid
            unfold oLen at h
            dsimp only at h
            split at h
            · rename_i es hb; exact ⟨_, hb, by simp⟩
            · cases h
          | ptr i ix sz off =>
            rw [hm] at h
            unfold oLen at h
            cases h
          | _ => rw [hm] at hid; cases hid
        | [], l, h, hid => simp [oBuiltin] at h
        | _ :: _, [], h, hid => cases hid
        | _ :: _, _ :: _ :: _, h, hid => cases hid
      | _ => intro id hid; cases hid
    | value f => intro id hid; cases hid
    | invoke f n => intro id hid; cases hid
  | alloc t => cases hn
  | box t x => cases hn
  | buildSlice t l p => cases hn
  | makeMap t x => cases hn
  | makeSlice t l c => cases hn
  | _ => intro id hid; cases hid
theorem read_phi {op : Op} {G : Gh} {ρ : Operand → Value} {ev : Operand → AV} {fid : Nat} (hx : ∀ x, RV G (ρ x) (ev x)) (hn : isN op = false) : ∀ id ∈ readsOf op ev fid, G.phi id ≠ none := by
  have pk : ∀ {v : Value} {p : AV}, RV G v p → ∀ id ∈ idOf p, G.phi id ≠ none := fun {v p} e id hid => by
    cases e with
    | ptr h => simp only [idOf, List.mem_cons, List.not_mem_nil, or_false] at hid; subst hid; rw [h]; simp
    | map h => simp only [idOf, List.mem_cons, List.not_mem_nil, or_false] at hid; subst hid; rw [h]; simp
    | _ => cases hid
  cases op with
  | load t a => exact pk (hx a)
  | lookup t m k ok => exact pk (hx m)
  | call c =>
    obtain ⟨callee, args, ts⟩ := c
    cases callee with
    | builtin b =>
      cases b with
      | len =>
        intro id hid
        have hid : id ∈ (match args.toList with | [x] => idOf (ev x) | _ => []) := hid
        generalize args.toList = l at hid
        match l, hid with
        | [x], hid => exact pk (hx x) id hid
        | [], hid => cases hid
        | _ :: _ :: _, hid => cases hid
      | _ => intro id hid; cases hid
    | value f => intro id hid; cases hid
    | invoke f n => intro id hid; cases hid
  | alloc t => cases hn
  | box t x => cases hn
  | buildSlice t l p => cases hn
  | makeMap t x => cases hn
  | makeSlice t l c => cases hn
  | _ => intro id hid; cases hid
/-- One operation of the trace. -/
theorem ent_at {ops : List Oper} {base j : Nat} {o : Oper} {tm : Tr AV} {M M' : Mem} {v : AV} {rc : Option Rec} (h : Ent P ops base j o tm M v M' rc) (hfx : base + j < M.nx) :
    AT (fun id => id = base + j ∨ M.nx ≤ id) M M' ∧
    (∀ id, og M' id ≠ og M id → ∃ r, rc = some r ∧ (r.w = false → id = base + j ∧ r.rd = [base + j]) ∧ (r.w = true → id ∈ r.wr ∨ id = base + j ∨ r.nxb ≤ id)) ∧ ∀ r, rc = some r → r.i = j ∧ r.nxb = M.nx ∧ r.w = isW o.op := by
  rcases h with ⟨_, _, rfl, rfl⟩ | ⟨_, _, M2, rd, rfl, rfl, h⟩
  · exact ⟨AT.refl _ _, fun id e => absurd rfl e, fun r e => by cases e⟩
  · have key : ∀ {S : Nat → Prop}, AT S ⟨M.h, M.nx, []⟩ M2 → (∀ id, S id → id = base + j ∨ M.nx ≤ id) → AT (fun id => id = base + j ∨ M.nx ≤ id) M ⟨M2.h, M2.nx, M2.lg ++ M.lg⟩ ∧ ∀ id, og M2 id ≠ og M id → id ∈ M2.lg ∨ id = base + j ∨ M.nx ≤ id := fun {S} hat hS => by
      obtain ⟨ex, hex, hl⟩ := hat.lg
      have hex : M2.lg = ex ++ [] := hex
      rw [List.append_nil] at hex
      refine ⟨⟨hat.nx, ⟨ex, by rw [hex], fun id hn hm => hl id (fun e => hn (hS id e)) hm⟩, fun id o => (hat.own id o).imp (fun e => e) (hS id), hat.wf⟩, fun id hne => ?_⟩
      refine Classical.byContradiction fun hc => hne ?_
      simp only [not_or] at hc
      exact og_get (hl id (fun e => (hS id e).elim hc.2.1 hc.2.2) (by rw [← hex]; exact hc.1))
    rcases h with ⟨h1, rfl⟩ | ⟨g, args, ts, h1, h2⟩
    · have hat := (opA_at (M := ⟨M.h, M.nx, []⟩) hfx h1).1
      obtain ⟨k1, k2⟩ := key hat (fun id e => .inl e)
      refine ⟨k1, fun id hne => ⟨_, rfl, fun hw => ?_, fun _ => k2 id hne⟩, fun r e => by cases e; exact ⟨rfl, rfl, rfl⟩⟩
      have hw : isW o.op = false := hw
      cases hn : isN o.op with
      | true =>
        obtain ⟨k, hk, rfl, hr, _⟩ := opA_make hn h1
        refine ⟨Classical.byContradiction fun hc => hne ?_, hr⟩
        exact og_get (get_set_ne _ _ (fun e => hc e.symm))
      | false =>
        have := opA_read (P := P) (M2 := ⟨M.h, M.nx, []⟩) (M := ⟨M.h, M.nx, []⟩) (fid := base + j) (ev := evA tm) hw hn (fun _ _ => rfl)
        rw [h1] at this
        cases this
        exact absurd rfl hne
    · obtain ⟨k1, k2⟩ := key h2.1 (fun id e => .inr e)
      refine ⟨k1, fun id hne => ⟨_, rfl, fun hw => ?_, fun _ => k2 id hne⟩, fun r e => by cases e; exact ⟨rfl, rfl, rfl⟩⟩
      have hw : isW o.op = false := hw
      rw [h1] at hw
      cases hw
/-- A region's trace from its start. -/
structure Reg (P : Program) (ops : Array Oper) (base sz st : Nat) (m : Nat → Mem) (tm : Nat → Tr AV) (v : Nat → AV) (rc : Nat → Option Rec) : Prop where
  trc : Trc P (befL [] ops.toList) ops.toList base 0 sz ops.toList [] st m tm v rc
  ok : regOk ops.toList (befL [] ops.toList) [] 0 ops.toList = true
  nx : base + ops.size ≤ (m 0).nx
  wf : WfM (m 0)
  new : ∀ j, j < ops.size → ¬ Own (m 0) (base + j)
variable {ops : Array Oper} {base sz st : Nat} {m : Nat → Mem} {tm : Nat → Tr AV} {v : Nat → AV} {rc : Nat → Option Rec}
theorem Reg.st_le (h : Reg P ops base sz st m tm v rc) : st ≤ ops.size := by have := h.trc.le.2; simpa using this
theorem Reg.ent (h : Reg P ops base sz st m tm v rc) {j : Nat} (hj : j < st) : ∃ o, ops[j]? = some o ∧ (∀ t, (tm (j + 1)).get t = (setDst sz (tm j) o (v j)).get t) ∧ Ent P ops.toList base j o (tm j) (m j) (v j) (m (j + 1)) (rc j) := by
  obtain ⟨o, h1, h2, h3⟩ := h.trc.ent j (Nat.zero_le _) hj
  exact ⟨o, by rw [Nat.sub_zero] at h1; simpa using h1, h2, h3⟩
theorem Reg.nx_of (h : Reg P ops base sz st m tm v rc) : ∀ j, j ≤ st → base + ops.size ≤ (m j).nx ∧ WfM (m j) ∧ ∀ i, j ≤ i → i < ops.size → ¬ Own (m j) (base + i)
  | 0, _ => ⟨h.nx, h.wf, fun i _ hi => h.new i hi⟩
  | j + 1, hj => by
    obtain ⟨h1, h2, h3⟩ := h.nx_of j (by omega)
    obtain ⟨o, e1, e2, e3⟩ := h.ent (j := j) (by omega)
    have hat := (ent_at e3 (by have := h.st_le; omega)).1
    refine ⟨Nat.le_trans h1 hat.nx, hat.wf h2, fun i hi hi2 o => ?_⟩
    rcases hat.own _ o with o | e | e
    · exact h3 i (by omega) hi2 o
    · omega
    · omega
theorem Reg.nx_le (h : Reg P ops base sz st m tm v rc) {a : Nat} : ∀ b, a ≤ b → b ≤ st → (m a).nx ≤ (m b).nx
  | 0, hab, _ => by rw [show a = 0 by omega]; exact Nat.le_refl _
  | b + 1, hab, hb => by
    by_cases e : a = b + 1
    · rw [e]; exact Nat.le_refl _
    · obtain ⟨o, e1, e2, e3⟩ := h.ent (j := b) (by omega)
      have hat := (ent_at e3 (by have := h.st_le; have := (h.nx_of b (by omega)).1; omega)).1
      exact Nat.le_trans (h.nx_le b (by omega) (by omega)) hat.nx
theorem Reg.chg (h : Reg P ops base sz st m tm v rc) {j : Nat} (hj : j < st) {id : Nat} (hne : og (m (j + 1)) id ≠ og (m j) id) : ∃ r, rc j = some r ∧ (r.w = false → id = base + j ∧ r.rd = [base + j]) ∧ (r.w = true → id ∈ r.wr ∨ id = base + j ∨ r.nxb ≤ id) := by
  obtain ⟨o, e1, e2, e3⟩ := h.ent hj
  exact (ent_at e3 (by have := h.st_le; have := (h.nx_of j (by omega)).1; omega)).2.1 id hne
theorem Reg.rcd (h : Reg P ops base sz st m tm v rc) {j : Nat} (hj : j < st) {r : Rec} (hr : rc j = some r) : r.i = j ∧ r.nxb = (m j).nx ∧ ∃ o, ops[j]? = some o ∧ r.w = isW o.op := by
  obtain ⟨o, e1, e2, e3⟩ := h.ent hj
  obtain ⟨k1, k2, k3⟩ := (ent_at e3 (by have := h.st_le; have := (h.nx_of j (by omega)).1; omega)).2.2 r hr
  exact ⟨k1, k2, o, e1, k3⟩
/-- Pairs: either in order, or apart. -/
theorem Reg.pair (h : Reg P ops base sz st m tm v rc) {i j : Nat} (hij : i < j) (hj : j < st) {q r : Rec} (hq : rc i = some q) (hr : rc j = some r) :
    Bf ops.toList i j ∨ (q.w = false ∧ r.w = false) ∨ (q.w = true ∧ r.w = false ∧ ∀ x ∈ r.rd, x < q.nxb ∧ x ∉ q.wr) ∨ (q.w = false ∧ r.w = true ∧ ∀ x ∈ q.rd, x < r.nxb ∧ x ∉ r.wr) := by
  have hp := (h.trc.ord j (Nat.zero_le _) hj r hr).2 i q (Nat.zero_le _) hij hq
  rw [Nat.sub_zero] at hp
  have ei : q.i = i := (h.rcd (by omega) hq).1
  have ap : ∀ {l wr : List Nat} {n : Nat}, apartB l wr n = true → ∀ x ∈ l, x < n ∧ x ∉ wr := fun {l wr n} hh x hx => by
    unfold apartB at hh
    rw [List.all_eq_true] at hh
    have := hh x hx
    simp only [Bool.and_eq_true, List.all_eq_true] at this
    refine ⟨by simpa using this.1, fun hm => ?_⟩
    have h2 := this.2 x hm
    simp at h2
  unfold okPair at hp
  unfold Bf
  cases hqw : q.w with
  | true =>
    rw [hqw] at hp
    simp only [cond_true, Bool.or_eq_true, Bool.and_eq_true, ei] at hp
    rcases hp with hp | ⟨h1, h2⟩
    · exact .inl hp
    · exact .inr (.inr (.inl ⟨rfl, by simpa using h1, ap h2⟩))
  | false =>
    rw [hqw] at hp
    simp only [cond_false] at hp
    cases hrw : r.w with
    | true =>
      rw [hrw] at hp
      simp only [cond_true, Bool.or_eq_true, ei] at hp
      rcases hp with hp | h2
      · exact .inl hp
      · exact .inr (.inr (.inr ⟨rfl, rfl, ap h2⟩))
    | false => exact .inr (.inl ⟨rfl, rfl⟩)
end
end Go.Proofs.YtbknpfckdnladaaGreat
