/- Several texts joined. No condition. -/
import Derived.Test.YtpflobodmglmaaaGreatMc
import Derived.Below
set_option linter.unusedVariables false
set_option maxHeartbeats 4000000
namespace Go.Proofs.YtpflobodmglmaaaGreat
section
variable {P : Program}
/-- What an operation reads is there. -/
theorem read_own {op : Op} {ev : Operand → AV} {M M' : Mem} {fid : Nat} {r : AV} (h : opA op P ev M fid = .val r M') (hn : isN op = false) : ∀ id ∈ readsOf op ev fid, Own M id := by
  have pk : ∀ {s : Nat} {p : AV} {x : Bool × List AV}, peek M s p = some x → ∀ id ∈ idOf p, Own M id := fun {s p x} e id hid => by
    cases p <;> simp only [idOf, List.mem_cons, List.not_mem_nil, or_false] at hid
    · subst hid
      replace e : peekB (M.h.get id) s _ _ _ = some x := e
      unfold peekB at e
      split at e
      · rename_i cs hb; exact ⟨_, hb, by simp⟩
      · rename_i sz n g hb; exact ⟨_, hb, by simp⟩
      · cases e
    · cases e
  cases op with
  | load t a =>
    intro id hid
    have h : oLoad (isAggB P t) (peek M (szB P t) (ev a)) M = .val r M' := h
    cases hp : peek M (szB P t) (ev a) with
    | none => rw [hp] at h; simp [oLoad] at h
    | some x => exact pk hp id hid
  | lookup t m k ok =>
    intro id hid
    have hid : id ∈ idOf (ev m) := hid
    have h : oLookup (mapK P t) (mapZ P t) (ev m) (ev k) ok M = .val r M' := h
    cases hm : ev m with
    | map i =>
      rw [hm] at h hid
      simp only [idOf, List.mem_cons, List.not_mem_nil, or_false] at hid
      subst hid
      unfold oLookup at h
      dsimp only at h
      split at h
      · rename_i es hb; exact ⟨_, hb, by simp⟩
      · rename_i hb; exact ⟨_, hb, by simp⟩
      · rename_i hb; exact ⟨_, hb, by simp⟩
      · cases h
    | ptr i ix sz off =>
      rw [hm] at h
      unfold oLookup at h
      cases h
    | _ => rw [hm] at hid; cases hid
  | call c =>
    obtain ⟨callee, args, ts⟩ := c
    cases callee with
    | builtin b =>
      cases b with
      | len =>
        intro id hid
        have h : oBuiltin P .len ts.toList (args.toList.map ev) M fid = .val r M' := h
        have hid : id ∈ (match args.toList with | [x] => idOf (ev x) | _ => []) := hid
        generalize args.toList = l at h hid
        generalize ts.toList = tl at h
        match tl, l, h, hid with
        | t :: _, [x], h, hid =>
          have hid : id ∈ idOf (ev x) := hid
          have h : oLen (undB P t) (ev x) M = .val r M' := h
          cases hm : ev x with
          | map i =>
            rw [hm] at h hid
            simp only [idOf, List.mem_cons, List.not_mem_nil, or_false] at hid
            subst hid
            unfold oLen at h
            dsimp only at h
            split at h
            · rename_i es hb; exact ⟨_, hb, by simp⟩
            · cases h
          | ptr i ix sz off =>
            rw [hm] at h
            unfold oLen at h
            cases h
          | _ => rw [hm] at hid; cases hid
        | [], l, h, hid => simp [oBuiltin] at h
        | _ :: _, [], h, hid => cases hid
        | _ :: _, _ :: _ :: _, h, hid => cases hid
      | _ => intro id hid; cases hid
    | value f => intro id hid; cases hid
    | invoke f n => intro id hid; cases hid
  | alloc t => cases hn
  | box t x => cases hn
  | buildSlice t l p => cases hn
  | makeMap t x => cases hn
  | makeSlice t l c => cases hn
  | _ => intro id hid; cases hid
theorem read_phi {op : Op} {G : Gh} {ρ : Operand → Value} {ev : Operand → AV} {fid : Nat} (hx : ∀ x, RV G (ρ x) (ev x)) (hn : isN op = false) : ∀ id ∈ readsOf op ev fid, G.phi id ≠ none := by
  have pk : ∀ {v : Value} {p : AV}, RV G v p → ∀ id ∈ idOf p, G.phi id ≠ none := fun {v p} e id hid => by
    cases e with
    | ptr h => simp only [idOf, List.mem_cons, List.not_mem_nil, or_false] at hid; subst hid; rw [h]; simp
    | map h => simp only [idOf, List.mem_cons, List.not_mem_nil, or_false] at hid; subst hid; rw [h]; simp
    | _ => cases hid
  cases op with
  | load t a => exact pk (hx a)
  | lookup t m k ok => exact pk (hx m)
  | call c =>
    obtain ⟨callee, args, ts⟩ := c
    cases callee with
    | builtin b =>
      cases b with
      | len =>
        intro id hid
        have hid : id ∈ (match args.toList with | [x] => idOf (ev x) | _ => []) := hid
        generalize args.toList = l at hid
        match l, hid with
        | [x], hid => exact pk (hx x) id hid
        | [], hid => cases hid
        | _ :: _ :: _, hid => cases hid
      | _ => intro id hid; cases hid
    | value f => intro id hid; cases hid
    | invoke f n => intro id hid; cases hid
  | alloc t => cases hn
  | box t x => cases hn
  | buildSlice t l p => cases hn
  | makeMap t x => cases hn
  | makeSlice t l c => cases hn
  | _ => intro id hid; cases hid
/-- One operation of the trace. -/
theorem ent_at {ops : List Oper} {base j : Nat} {o : Oper} {tm : Tr AV} {M M' : Mem} {v : AV} {rc : Option Rec} (h : Ent P ops base j o tm M v M' rc) (hfx : base + j < M.nx) :
    AT (fun id => id = base + j ∨ M.nx ≤ id) M M' ∧
    (∀ id, og M' id ≠ og M id → ∃ r, rc = some r ∧ (r.w = false → id = base + j ∧ r.rd = [base + j]) ∧ (r.w = true → id ∈ r.wr ∨ id = base + j ∨ r.nxb ≤ id)) ∧ ∀ r, rc = some r → r.i = j ∧ r.nxb = M.nx ∧ r.w = isW o.op := by
  rcases h with ⟨_, _, rfl, rfl⟩ | ⟨_, _, M2, rd, rfl, rfl, h⟩
  · exact ⟨AT.refl _ _, fun id e => absurd rfl e, fun r e => by cases e⟩
  · have key : ∀ {S : Nat → Prop}, AT S ⟨M.h, M.nx, []⟩ M2 → (∀ id, S id → id = base + j ∨ M.nx ≤ id) → AT (fun id => id = base + j ∨ M.nx ≤ id) M ⟨M2.h, M2.nx, M2.lg ++ M.lg⟩ ∧ ∀ id, og M2 id ≠ og M id → id ∈ M2.lg ∨ id = base + j ∨ M.nx ≤ id := fun {S} hat hS => by
      obtain ⟨ex, hex, hl⟩ := hat.lg
      have hex : M2.lg = ex ++ [] := hex
      rw [List.append_nil] at hex
      refine ⟨⟨hat.nx, ⟨ex, by rw [hex], fun id hn hm => hl id (fun e => hn (hS id e)) hm⟩, fun id o => (hat.own id o).imp (fun e => e) (hS id), hat.wf⟩, fun id hne => ?_⟩
      refine Classical.byContradiction fun hc => hne ?_
      simp only [not_or] at hc
      exact og_get (hl id (fun e => (hS id e).elim hc.2.1 hc.2.2) (by rw [← hex]; exact hc.1))
    rcases h with ⟨h1, rfl⟩ | ⟨g, args, ts, h1, h2⟩
    · have hat := (opA_at (M := ⟨M.h, M.nx, []⟩) hfx h1).1
      obtain ⟨k1, k2⟩ := key hat (fun id e => .inl e)
      refine ⟨k1, fun id hne => ⟨_, rfl, fun hw => ?_, fun _ => k2 id hne⟩, fun r e => by cases e; exact ⟨rfl, rfl, rfl⟩⟩
      have hw : isW o.op = false := hw
      cases hn : isN o.op with
      | true =>
        obtain ⟨k, hk, rfl, hr, _⟩ := opA_make hn h1
        refine ⟨Classical.byContradiction fun hc => hne ?_, hr⟩
        exact og_get (get_set_ne _ _ (fun e => hc e.symm))
      | false =>
        have := opA_read (P := P) (M2 := ⟨M.h, M.nx, []⟩) (M := ⟨M.h, M.nx, []⟩) (fid := base + j) (ev := evA tm) hw hn (fun _ _ => rfl)
        rw [h1] at this
        cases this
        exact absurd rfl hne
    · obtain ⟨k1, k2⟩ := key h2.1 (fun id e => .inr e)
      refine ⟨k1, fun id hne => ⟨_, rfl, fun hw => ?_, fun _ => k2 id hne⟩, fun r e => by cases e; exact ⟨rfl, rfl, rfl⟩⟩
      have hw : isW o.op = false := hw
      rw [h1] at hw
      cases hw
/-- A region's trace from its start. -/
structure Reg (P : Program) (ops : Array Oper) (base sz st : Nat) (m : Nat → Mem) (tm : Nat → Tr AV) (v : Nat → AV) (rc : Nat → Option Rec) : Prop where
  trc : Trc P (befL [] ops.toList) ops.toList base 0 sz ops.toList [] st m tm v rc
  ok : regOk ops.toList (befL [] ops.toList) [] 0 ops.toList = true
  nx : base + ops.size ≤ (m 0).nx
  wf : WfM (m 0)
  new : ∀ j, j < ops.size → ¬ Own (m 0) (base + j)
variable {ops : Array Oper} {base sz st : Nat} {m : Nat → Mem} {tm : Nat → Tr AV} {v : Nat → AV} {rc : Nat → Option Rec}
theorem Reg.st_le (h : Reg P ops base sz st m tm v rc) : st ≤ ops.size := by have := h.trc.le.2; simpa using this
theorem Reg.ent (h : Reg P ops base sz st m tm v rc) {j : Nat} (hj : j < st) : ∃ o, ops[j]? = some o ∧ (∀ t, (tm (j + 1)).get t = (setDst sz (tm j) o (v j)).get t) ∧ Ent P ops.toList base j o (tm j) (m j) (v j) (m (j + 1)) (rc j) := by
  obtain ⟨o, h1, h2, h3⟩ := h.trc.ent j (Nat.zero_le _) hj
  exact ⟨o, by rw [Nat.sub_zero] at h1; simpa using h1, h2, h3⟩
theorem Reg.nx_of (h : Reg P ops base sz st m tm v rc) : ∀ j, j ≤ st → base + ops.size ≤ (m j).nx ∧ WfM (m j) ∧ ∀ i, j ≤ i → i < ops.size → ¬ Own (m j) (base + i)
  | 0, _ => ⟨h.nx, h.wf, fun i _ hi => h.new i hi⟩
  | j + 1, hj => by
    obtain ⟨h1, h2, h3⟩ := h.nx_of j (by omega)
    obtain ⟨o, e1, e2, e3⟩ := h.ent (j := j) (by omega)
    have hat := (ent_at e3 (by have := h.st_le; omega)).1
    refine ⟨Nat.le_trans h1 hat.nx, hat.wf h2, fun i hi hi2 o => ?_⟩
    rcases hat.own _ o with o | e | e
    · exact h3 i (by omega) hi2 o
    · omega
    · omega
theorem Reg.nx_le (h : Reg P ops base sz st m tm v rc) {a : Nat} : ∀ b, a ≤ b → b ≤ st → (m a).nx ≤ (m b).nx
  | 0, hab, _ => by rw [show a = 0 by omega]; exact Nat.le_refl _
  | b + 1, hab, hb => by
    by_cases e : a = b + 1
    · rw [e]; exact Nat.le_refl _
    · obtain ⟨o, e1, e2, e3⟩ := h.ent (j := b) (by omega)
      have hat := (ent_at e3 (by have := h.st_le; have := (h.nx_of b (by omega)).1; omega)).1
      exact Nat.le_trans (h.nx_le b (by omega) (by omega)) hat.nx
theorem Reg.chg (h : Reg P ops base sz st m tm v rc) {j : Nat} (hj : j < st) {id : Nat} (hne : og (m (j + 1)) id ≠ og (m j) id) : ∃ r, rc j = some r ∧ (r.w = false → id = base + j ∧ r.rd = [base + j]) ∧ (r.w = true → id ∈ r.wr ∨ id = base + j ∨ r.nxb ≤ id) := by
  obtain ⟨o, e1, e2, e3⟩ := h.ent hj
  exact (ent_at e3 (by have := h.st_le; have := (h.nx_of j (by omega)).1; omega)).2.1 id hne
theorem Reg.rcd (h : Reg P ops base sz st m tm v rc) {j : Nat} (hj : j < st) {r : Rec} (hr : rc j = some r) : r.i = j ∧ r.nxb = (m j).nx ∧ ∃ o, ops[j]? = some o ∧ r.w = isW o.op := by
  obtain ⟨o, e1, e2, e3⟩ := h.ent hj
  obtain ⟨k1, k2, k3⟩ := (ent_at e3 (by have := h.st_le; have := (h.nx_of j (by omega)).1; omega)).2.2 r hr
  exact ⟨k1, k2, o, e1, k3⟩
/-- Pairs: either in order, or apart. -/
theorem Reg.pair (h : Reg P ops base sz st m tm v rc) {i j : Nat} (hij : i < j) (hj : j < st) {q r : Rec} (hq : rc i = some q) (hr : rc j = some r) :
    Bf ops.toList i j ∨ (q.w = false ∧ r.w = false) ∨ (q.w = true ∧ r.w = false ∧ ∀ x ∈ r.rd, x < q.nxb ∧ x ∉ q.wr) ∨ (q.w = false ∧ r.w = true ∧ ∀ x ∈ q.rd, x < r.nxb ∧ x ∉ r.wr) := by
  have hp := (h.trc.ord j (Nat.zero_le _) hj r hr).2 i q (Nat.zero_le _) hij hq
  rw [Nat.sub_zero] at hp
  have ei : q.i = i := (h.rcd (by omega) hq).1
  have ap : ∀ {l wr : List Nat} {n : Nat}, apartB l wr n = true → ∀ x ∈ l, x < n ∧ x ∉ wr := fun {l wr n} hh x hx => by
    unfold apartB at hh
    rw [List.all_eq_true] at hh
    have := hh x hx
    simp only [Bool.and_eq_true, List.all_eq_true] at this
    refine ⟨by simpa using this.1, fun hm => ?_⟩
    have h2 := this.2 x hm
    simp at h2
  unfold okPair at hp
  unfold Bf
  cases hqw : q.w with
  | true =>
    rw [hqw] at hp
    simp only [cond_true, Bool.or_eq_true, Bool.and_eq_true, ei] at hp
    rcases hp with hp | ⟨h1, h2⟩
    · exact .inl hp
    · exact .inr (.inr (.inl ⟨rfl, by simpa using h1, ap h2⟩))
  | false =>
    rw [hqw] at hp
    simp only [cond_false] at hp
    cases hrw : r.w with
    | true =>
      rw [hrw] at hp
      simp only [cond_true, Bool.or_eq_true, ei] at hp
      rcases hp with hp | h2
      · exact .inl hp
      · exact .inr (.inr (.inr ⟨rfl, rfl, ap h2⟩))
    | false => exact .inr (.inl ⟨rfl, rfl⟩)
end
end Go.Proofs.YtpflobodmglmaaaGreat
set_option linter.unusedVariables false
set_option maxHeartbeats 4000000
namespace Go.Proofs.YtpflobodmglmaaaGreat
section
variable {P : Program} {ops : Array Oper} {base sz st : Nat} {m : Nat → Mem} {tm : Nat → Tr AV} {v : Nat → AV} {rc : Nat → Option Rec} {D : List Nat} {G G' : Gh} {w w' : World} {Ms : Mem} {T : Tr AV} {a : Act} {i : Nat} {o : Oper}
structure Inv (ops : Array Oper) (base sz st : Nat) (m : Nat → Mem) (tm : Nat → Tr AV) (rc : Nat → Option Rec) (D : List Nat) (G : Gh) (w : World) (Ms : Mem) (T : Tr AV) (a : Act) : Prop where
  s : St G w Ms
  nx : Ms.nx = (m st).nx
  mem : ∀ id, G.phi id ≠ none → Hist (fun j => og (m j) id) st D (og Ms id)
  unb : ∀ i, i < ops.size → i ∉ D → G.phi (base + i) = none
  fr : ∀ i r, i < st → i ∉ D → rc i = some r → r.w = true → ∀ id, G.phi id ≠ none → id < (m i).nx
  sz : a.tmps.size = sz
  rt : RT G a.tmps T
  tmp : ∀ t, Hist (fun j => (tm j).get t) st D (T.get t)
  dl : ∀ i ∈ D, i < st
  cl : ∀ i ∈ D, ∀ j, Bf ops.toList j i → j ∈ D
theorem setDst_chg {tm : Tr AV} {o : Oper} {v : AV} {t : Nat} (h : (setDst sz tm o v).get t ≠ tm.get t) : o.dst = some t ∧ t < sz := by
  unfold setDst at h
  cases hd : o.dst with
  | none => rw [hd] at h; exact absurd rfl h
  | some d =>
    rw [hd] at h
    unfold setT at h
    cases hb : Nat.blt d sz with
    | false => simp only [hb, cond_false] at h; exact absurd rfl h
    | true =>
      simp only [hb, cond_true] at h
      by_cases e : d = t
      · subst e; exact ⟨rfl, by simpa using hb⟩
      · exact absurd (get_set_ne _ _ e) h
theorem setDst_get {tm : Tr AV} {o : Oper} {v : AV} {t : Nat} : (setDst sz tm o v).get t = if o.dst = some t ∧ t < sz then some v else tm.get t := by
  unfold setDst
  cases hd : o.dst with
  | none => rw [if_neg (fun h => by cases h.1)]
  | some d =>
    dsimp only
    unfold setT
    cases hb : Nat.blt d sz with
    | false =>
      simp only [cond_false]
      rw [if_neg]
      rintro ⟨e, h⟩
      cases e
      rw [show Nat.blt t sz = true by simpa using h] at hb
      cases hb
    | true =>
      simp only [cond_true]
      have hb' : d < sz := by simpa using hb
      rw [get_set]
      by_cases e : d = t
      · subst e; rw [if_pos rfl, if_pos ⟨rfl, hb'⟩]
      · rw [if_neg e, if_neg (fun h => e (by cases h.1; rfl))]
theorem notIn_not {d : Option Nat} {l : List Nat} {t : Nat} (h : notIn d l = true) (hd : d = some t) : t ∉ l := by
  subst hd
  unfold notIn at h
  rw [List.all_eq_true] at h
  intro hm
  have := h t hm
  simp at this
theorem apT_spec {l l' : List Nat} {d d' : Option Nat} (h : apT l d l' d' = true) : notIn d l' = true ∧ notIn d' l = true ∧ neD d d' = true := by
  unfold apT at h
  simp only [Bool.and_eq_true] at h
  exact ⟨h.1, h.2.1, h.2.2⟩
theorem neD_not {d d' : Option Nat} {t : Nat} (h : neD d d' = true) (h1 : d = some t) (h2 : d' = some t) : False := by
  subst h1; subst h2
  simp [neD] at h
/-- What an operation looks at is as it was in the listed order. -/
theorem looks_eq (hR : Reg P ops base sz st m tm v rc) (hI : Inv ops base sz st m tm rc D G w Ms T a) (hi : i ≤ st) (ho : ops[i]? = some o) (hiD : i ∉ D) (hb : ∀ j, Bf ops.toList j i → j ∈ D) : Ag T (tm i) (looks ops.toList o) := by
  intro t ht
  refine (hI.tmp t).at' hi (fun j hj hne => ?_) (fun j h1 h2 hne hD => ?_)
  · obtain ⟨p, e1, e2, _⟩ := hR.ent (j := j) (by omega)
    rw [e2 t] at hne
    have hd := (setDst_chg hne).1
    refine Classical.byContradiction fun hc => ?_
    have ap := apT_spec (regOk_apart hR.ok (i := j) (j := i) (by simpa using e1) (by simpa using ho) hj (fun h => hc (hb j h)))
    exact notIn_not ap.2.1 hd ht
  · have hij : j ≠ i := fun e => hiD (e ▸ hD)
    obtain ⟨p, e1, e2, _⟩ := hR.ent (j := j) h2
    rw [e2 t] at hne
    have hd := (setDst_chg hne).1
    have ap := apT_spec (regOk_apart hR.ok (i := i) (j := j) (by simpa using ho) (by simpa using e1) (by omega) (fun h => hiD (hI.cl j hD i h)))
    exact notIn_not ap.1 hd ht
theorem tmp_step (hR : Reg P ops base sz st m tm v rc) (hI : Inv ops base sz st m tm rc D G w Ms T a) (hi : i < st) (ho : ops[i]? = some o) (hiD : i ∉ D) (hb : ∀ j, Bf ops.toList j i → j ∈ D) (he : ∀ t, (tm (i + 1)).get t = (setDst sz (tm i) o (v i)).get t) (t : Nat) :
    Hist (fun j => (tm j).get t) st (i :: D) ((setDst sz T o (v i)).get t) := by
  rw [setDst_get]
  by_cases hc : o.dst = some t ∧ t < sz
  · rw [if_pos hc]
    have e : (tm (i + 1)).get t = some (v i) := by rw [he t, setDst_get, if_pos hc]
    rw [← e]
    refine Hist.new (c := fun j => (tm j).get t) hi (fun j hj hne => ?_) (fun j h1 h2 hne hD => ?_)
    · obtain ⟨p, e1, e2, _⟩ := hR.ent (j := j) (by omega)
      have hne : (tm (j + 1)).get t ≠ (tm j).get t := hne
      rw [e2 t] at hne
      have hd := (setDst_chg hne).1
      refine Classical.byContradiction fun hn => ?_
      have ap := apT_spec (regOk_apart hR.ok (i := j) (j := i) (by simpa using e1) (by simpa using ho) hj (fun h => hn (hb j h)))
      exact neD_not ap.2.2 hc.1 hd
    · obtain ⟨p, e1, e2, _⟩ := hR.ent (j := j) h2
      have hne : (tm (j + 1)).get t ≠ (tm j).get t := hne
      rw [e2 t] at hne
      have hd := (setDst_chg hne).1
      have ap := apT_spec (regOk_apart hR.ok (i := i) (j := j) (by simpa using ho) (by simpa using e1) (by omega) (fun h => hiD (hI.cl j hD i h)))
      exact neD_not ap.2.2 hd hc.1
  · rw [if_neg hc]
    refine (hI.tmp t).same ?_
    show (tm (i + 1)).get t = (tm i).get t
    rw [he t, setDst_get, if_neg hc]
/-- Memory for an operation that writes. -/
theorem mem_w (hR : Reg P ops base sz st m tm v rc) (hI : Inv ops base sz st m tm rc D G w Ms T a) (hi : i ≤ st) (hiD : i ∉ D) (w1 : ∀ j r, j < i → rc j = some r → r.w = true → j ∈ D) (w2 : ∀ j r, i < j → j < st → rc j = some r → r.w = true → j ∉ D) (id : Nat) (hp : G.phi id ≠ none) :
    og Ms id = og (m i) id ∨ ∃ j, i < j ∧ j < st ∧ j ∈ D ∧ id = base + j := by
  by_cases he : ∃ j, i < j ∧ j < st ∧ j ∈ D ∧ id = base + j
  · exact .inr he
  · refine .inl ((hI.mem id hp).at' hi (fun j hj hne => ?_) (fun j h1 h2 hne hD => ?_))
    · obtain ⟨r, hr, k1, k2⟩ := hR.chg (j := j) (by omega) hne
      cases hw : r.w with
      | true => exact w1 j r hj hr hw
      | false =>
        refine Classical.byContradiction fun hn => hp ?_
        rw [(k1 hw).1]
        exact hI.unb j (by have := hR.st_le; omega) hn
    · have hij : j ≠ i := fun e => hiD (e ▸ hD)
      obtain ⟨r, hr, k1, k2⟩ := hR.chg (j := j) h2 hne
      cases hw : r.w with
      | true => exact w2 j r (by omega) h2 hr hw hD
      | false => exact he ⟨j, by omega, h2, hD, (k1 hw).1⟩
theorem early_none (hR : Reg P ops base sz st m tm v rc) {j : Nat} (hij : i ≤ j) (hi : i ≤ st) (hj : j < ops.size) : og (m i) (base + j) = none := by
  cases e : og (m i) (base + j) with
  | none => rfl
  | some k => exact absurd (own_og.2 (by rw [e]; simp)) ((hR.nx_of i hi).2.2 j hij hj)
theorem st_w (hR : Reg P ops base sz st m tm v rc) (hI : Inv ops base sz st m tm rc D G w Ms T a) (hi : i ≤ st) (hiD : i ∉ D) (w1 : ∀ j r, j < i → rc j = some r → r.w = true → j ∈ D) (w2 : ∀ j r, i < j → j < st → rc j = some r → r.w = true → j ∉ D) (hf : ∀ id, G.phi id ≠ none → id < (m i).nx) :
    St G w ⟨(m i).h, (m i).nx, []⟩ := by
  refine hI.s.ofOg (fun id hp => ?_) (fun id b bs h => hf id (by rw [h]; simp))
  rcases mem_w hR hI hi hiD w1 w2 id hp with e | ⟨j, h1, h2, h3, rfl⟩
  · exact .inl e.symm
  · exact .inr (early_none hR (by omega) hi (by have := hR.st_le; omega))
/-- Behind an operation that writes. -/
theorem after_w {M2 : Mem} {x : Value} (hR : Reg P ops base sz st m tm v rc) (hI : Inv ops base sz st m tm rc D G w Ms T a) (hi : i < st) (ho : ops[i]? = some o) (hiD : i ∉ D) (hb : ∀ j, Bf ops.toList j i → j ∈ D) (w1 : ∀ j r, j < i → rc j = some r → r.w = true → j ∈ D) (w2 : ∀ j r, i < j → j < st → rc j = some r → r.w = true → j ∉ D)
    (s1 : St G w ⟨(m i).h, (m i).nx, []⟩) (s2 : St G' w' M2) (ev : Ev G w ⟨(m i).h, (m i).nx, []⟩ G' w' M2) (ub : ∀ id, id ≠ base + i → id < (m i).nx → G.phi id = none → G'.phi id = none) (hm1 : (m (i + 1)).h = M2.h) (hm2 : (m (i + 1)).nx = M2.nx) (he : ∀ t, (tm (i + 1)).get t = (setDst sz (tm i) o (v i)).get t) (hx : RV G' x (v i)) :
    ∃ C, Inv ops base sz st m tm rc (i :: D) G' w' C (setDst sz T o (v i)) (a.put o.dst x) ∧ Ev G w Ms G' w' C := by
  have szs := hR.st_le
  have nxi := (hR.nx_of i (by omega)).1
  have ogm : ∀ id, og (m (i + 1)) id = og M2 id := fun id => og_get (by rw [hm1])
  let E : Nat → Prop := fun id => ∃ j, i < j ∧ j < st ∧ j ∈ D ∧ id = base + j ∧ G.phi id ≠ none
  obtain ⟨C, c1, c2, c3⟩ := merge E (m st).nx M2 Ms (D.map (base + ·))
  have cE : ∀ id, E id → og C id = og Ms id := fun id hE => by
    have hE' := hE
    obtain ⟨j, _, _, h3, h4, _⟩ := hE'
    exact c2 id (List.mem_map.2 ⟨j, h3, h4.symm⟩) hE
  have cN : ∀ id, ¬ E id → og C id = og M2 id := fun id he => c3 id (fun h => he h.2)
  have hn : M2.nx ≤ C.nx := by rw [c1, ← hm2]; exact hR.nx_le st (by omega) (Nat.le_refl _)
  have nE : ∀ id, E id → ¬ Own (⟨(m i).h, (m i).nx, []⟩ : Mem) id := fun id ⟨j, h1, h2, h3, h4, h5⟩ o => by
    rw [h4] at o
    exact (hR.nx_of i (by omega)).2.2 j (by omega) (by omega) o
  obtain ⟨sC, eC⟩ := St.frame (E := E) (Ms := Ms) (C := C) hI.s s1 ev s2 (fun id h => ⟨h.elim fun j h => h.2.2.2.2, nE id h⟩) (fun id hp o => by
    rcases mem_w hR hI (by omega) hiD w1 w2 id hp with e | ⟨j, h1, h2, h3, h4⟩
    · exact (own_cong e).2 o
    · exact absurd o (nE id ⟨j, h1, h2, h3, h4, hp⟩)) cE cN hn (by rw [c1, hI.nx]; exact Nat.le_refl _)
  obtain ⟨r1, r2, r3⟩ := RT.put (o := o) (hI.rt.mono ev.le) hI.sz hx
  refine ⟨C, ⟨sC, c1, fun id hp => ?_, fun i' h1 h2 => ?_, fun i' r h1 h2 hr hw id hp => ?_, r2, r1, tmp_step hR hI hi ho hiD hb he, fun j hj => ?_, fun j hj k hk => ?_⟩, eC⟩
  · by_cases hE : E id
    · rw [cE id hE]
      obtain ⟨j, h1, h2, h3, rfl, h5⟩ := hE
      refine (hI.mem _ h5).same ?_
      show og (m (i + 1)) (base + j) = og (m i) (base + j)
      rw [early_none hR (by omega) (by omega) (by omega), early_none hR (by omega) (by omega) (by omega)]
    · rw [cN id hE, ← ogm]
      refine Hist.new (c := fun j => og (m j) id) hi (fun j hj hne => ?_) (fun j h1 h2 hne hD => ?_)
      · obtain ⟨r, hr, k1, k2⟩ := hR.chg (j := j) (by omega) hne
        cases hw : r.w with
        | true => exact w1 j r hj hr hw
        | false =>
          have e := (k1 hw).1
          refine Classical.byContradiction fun hn => ?_
          have := hI.unb j (by omega) hn
          rw [← e] at this
          exact hp (ub id (by omega) (by omega) this)
      · obtain ⟨r, hr, k1, k2⟩ := hR.chg (j := j) h2 hne
        cases hw : r.w with
        | true => exact w2 j r h1 h2 hr hw hD
        | false =>
          have e := (k1 hw).1
          cases hg : G.phi id with
          | none => exact hp (ub id (by omega) (by omega) hg)
          | some y => exact hE ⟨j, h1, h2, hD, e, by rw [hg]; simp⟩
  · have hne : i' ≠ i := fun e => h2 (e ▸ List.mem_cons_self ..)
    exact ub _ (by omega) (by omega) (hI.unb i' h1 (fun h => h2 (List.mem_cons_of_mem _ h)))
  · have hne : i' ≠ i := fun e => h2 (e ▸ List.mem_cons_self ..)
    have hgt : i < i' := Classical.byContradiction fun h => h2 (List.mem_cons_of_mem _ (w1 i' r (by omega) hr hw))
    cases hg : G'.phi id with
    | none => exact absurd hg hp
    | some y =>
      have := s2.fresh id y.1 y.2 hg
      rw [← hm2] at this
      exact Nat.lt_of_lt_of_le this (hR.nx_le i' (by omega) (by omega))
  · rcases List.mem_cons.1 hj with rfl | hj
    · exact hi
    · exact hI.dl j hj
  · rcases List.mem_cons.1 hj with rfl | hj
    · exact List.mem_cons_of_mem _ (hb k hk)
    · exact List.mem_cons_of_mem _ (hI.cl j hj k hk)
/-- Behind an operation that leaves memory as it is. -/
theorem after_q {x : Value} (hR : Reg P ops base sz st m tm v rc) (hI : Inv ops base sz st m tm rc D G w Ms T a) (hi : i < st) (ho : ops[i]? = some o) (hiD : i ∉ D) (hb : ∀ j, Bf ops.toList j i → j ∈ D) (hm : ∀ id, og (m (i + 1)) id = og (m i) id) (he : ∀ t, (tm (i + 1)).get t = (setDst sz (tm i) o (v i)).get t) (hx : RV G x (v i)) :
    Inv ops base sz st m tm rc (i :: D) G w Ms (setDst sz T o (v i)) (a.put o.dst x) := by
  obtain ⟨r1, r2, r3⟩ := RT.put (o := o) hI.rt hI.sz hx
  refine ⟨hI.s, hI.nx, fun id hp => (hI.mem id hp).same (hm id), fun i' h1 h2 => hI.unb i' h1 (fun h => h2 (List.mem_cons_of_mem _ h)), fun i' r h1 h2 => hI.fr i' r h1 (fun h => h2 (List.mem_cons_of_mem _ h)), r2, r1, tmp_step hR hI hi ho hiD hb he, fun j hj => ?_, fun j hj k hk => ?_⟩
  · rcases List.mem_cons.1 hj with rfl | hj
    · exact hi
    · exact hI.dl j hj
  · rcases List.mem_cons.1 hj with rfl | hj
    · exact List.mem_cons_of_mem _ (hb k hk)
    · exact List.mem_cons_of_mem _ (hI.cl j hj k hk)
/-- Behind an operation that makes a block. -/
theorem after_m {x : Value} {k : Blk} {n : Nat} {ob : Obj} {r : Rec} (hR : Reg P ops base sz st m tm v rc) (hI : Inv ops base sz st m tm rc D G w Ms T a) (hi : i < st) (ho : ops[i]? = some o) (hiD : i ∉ D) (hb : ∀ j, Bf ops.toList j i → j ∈ D) (hk : k ≠ .gone) (hm : (m (i + 1)).h = (m i).h.set (base + i) k) (hr : rc i = some r) (hrw : r.w = false) (hrd : r.rd = [base + i])
    (he : ∀ t, (tm (i + 1)).get t = (setDst sz (tm i) o (v i)).get t) (hx : RV (G.new (base + i) w.heap.size n) x (v i)) (hB : BlkR (G.new (base + i) w.heap.size n) { w with heap := w.heap.push ob } w.heap.size 0 k) :
    Inv ops base sz st m tm rc (i :: D) (G.new (base + i) w.heap.size n) { w with heap := w.heap.push ob } (newB Ms (base + i) k) (setDst sz T o (v i)) (a.put o.dst x) ∧ Ev G w Ms (G.new (base + i) w.heap.size n) { w with heap := w.heap.push ob } (newB Ms (base + i) k) := by
  have szs := hR.st_le
  have n0 := (hR.nx_of st (Nat.le_refl _)).1
  have hf := hI.unb i (by omega) hiD
  obtain ⟨a1, a2⟩ := hI.s.alloc hf (by rw [hI.nx]; omega) hB hk
  obtain ⟨r1, r2, r3⟩ := RT.put (o := o) (hI.rt.mono a2.le) hI.sz hx
  have gp : ∀ id, (G.new (base + i) w.heap.size n).phi id = if id = base + i then some (w.heap.size, 0) else G.phi id := fun _ => rfl
  refine ⟨⟨a1, hI.nx, fun id hp => ?_, fun i' h1 h2 => ?_, fun i' r' h1 h2 hr' hw id hp => ?_, r2, r1, tmp_step hR hI hi ho hiD hb he, fun j hj => ?_, fun j hj k hk => ?_⟩, a2⟩
  · by_cases e : id = base + i
    · subst e
      have e1 : og (newB Ms (base + i) k) (base + i) = og (m (i + 1)) (base + i) := by
        have e2 : og (m (i + 1)) (base + i) = some k := og_of (by rw [hm]; exact get_set_self _ _ _) hk
        have e3 : og (newB Ms (base + i) k) (base + i) = some k := og_of (M := newB Ms (base + i) k) (get_set_self Ms.h _ _) hk
        rw [e2, e3]
      rw [e1]
      refine Hist.new (c := fun j => og (m j) (base + i)) hi (fun j hj hne => ?_) (fun j h1 h2 hne hD => ?_)
      · refine absurd ?_ hne
        show og (m (j + 1)) (base + i) = og (m j) (base + i)
        rw [early_none hR (by omega) (by omega) (by omega), early_none hR (by omega) (by omega) (by omega)]
      · obtain ⟨r', hr', k1, k2⟩ := hR.chg (j := j) h2 hne
        cases hw : r'.w with
        | false => have := (k1 hw).1; omega
        | true =>
          rcases hR.pair (i := i) (j := j) h1 h2 hr hr' with e | ⟨_, e⟩ | ⟨e, _⟩ | ⟨_, _, e⟩
          · exact hiD (hI.cl j hD i e)
          · rw [e] at hw; cases hw
          · rw [hrw] at e; cases e
          · obtain ⟨e1, e2⟩ := e (base + i) (by rw [hrd]; exact List.mem_cons_self ..)
            rcases k2 hw with e | e | e
            · exact e2 e
            · omega
            · omega
    · have e1 : og (newB Ms (base + i) k) id = og Ms id := og_get (get_set_ne _ _ (fun h => e h.symm))
      rw [e1]
      rw [gp, if_neg e] at hp
      refine (hI.mem id hp).same ?_
      show og (m (i + 1)) id = og (m i) id
      exact og_get (by rw [hm]; exact get_set_ne _ _ (fun h => e h.symm))
  · have hne : i' ≠ i := fun e => h2 (e ▸ List.mem_cons_self ..)
    rw [gp, if_neg (by omega)]
    exact hI.unb i' h1 (fun h => h2 (List.mem_cons_of_mem _ h))
  · by_cases e : id = base + i
    · have := (hR.nx_of i' (by omega)).1; omega
    · rw [gp, if_neg e] at hp
      exact hI.fr i' r' h1 (fun h => h2 (List.mem_cons_of_mem _ h)) hr' hw id hp
  · rcases List.mem_cons.1 hj with rfl | hj
    · exact hi
    · exact hI.dl j hj
  · rcases List.mem_cons.1 hj with rfl | hj
    · exact List.mem_cons_of_mem _ (hb k hk)
    · exact List.mem_cons_of_mem _ (hI.cl j hj k hk)
end
end Go.Proofs.YtpflobodmglmaaaGreat
set_option linter.unusedVariables false
set_option maxHeartbeats 4000000
namespace Go.Proofs.YtpflobodmglmaaaGreat
section
variable {P : Program} {ops : Array Oper} {base sz st : Nat} {m : Nat → Mem} {tm : Nat → Tr AV} {v : Nat → AV} {rc : Nat → Option Rec} {D : List Nat} {G G' : Gh} {w w' : World} {Ms : Mem} {T : Tr AV} {a : Act} {i : Nat} {o : Oper}
theorem exec_call {ρ : Operand → Value} {g : Operand} {args : Array Operand} {ts : Array TypeId} {d : Deferred} {nx : Next} (ho : o.op = .call ⟨.value g, args, ts⟩) (h1 : (Deferred.ofValue (ρ g) (args.map ρ)).run P w = .ok d w) (h2 : (invoke d.target d.args).run P w = .ok nx w) : (execOp ρ o).run P w = .ok nx w := by
  unfold execOp
  rw [ho]
  simp only [resolve, Sem.run_bind, h1, Result.andThen_ok, h2]
theorem step_start {b : Frame} {k : List Item} {cs : List Frame} {rest : List Nat} {nx : Next} (ho : ops[i]? = some o) (hw : Region.wanted o (yielded ops a.tmps) = true) (hd : ∀ c, o.op ≠ .defer c) (hr : (execOp a.eval o).run P w = .ok nx w') (hn : (∃ f args, nx = .enter f args) ∨ ∃ l f tm as body, nx = .round l f tm as body) :
    step P (lone (b.atR a (.inRegion ops (i :: rest) :: k)) cs w) = .next (lone (startF P nx) (b.atR a (.inRegion ops (i :: rest) :: k) :: cs) w') := by
  rcases hn with ⟨f, args, rfl⟩ | ⟨l, f, tm, as, body, rfl⟩
  · exact step_enter ho hw hd hr
  · refine step_lone_go ?_
    rw [stepGR_op ho hw, Oper.semAt_eq _ _ _ hd]
    simp [stepG.apply, Sem.runT_eq, hr, Frame.atR, startF]
theorem wantA_congr {T tm : Tr AV} {l : List Oper} (h : Ag T tm (looks l o)) : wantA l o T = wantA l o tm := by
  unfold wantA
  cases hg : o.guard with
  | none => rfl
  | some p =>
    obtain ⟨j, want⟩ := p
    dsimp only
    cases hd : gdst l j with
    | none => rfl
    | some d =>
      dsimp only
      have : d ∈ looks l o := by
        unfold looks
        rw [hg]
        dsimp only
        rw [hd]
        exact List.mem_cons_self ..
      rw [h d this]
theorem looks_tmps {l : List Oper} {t : Nat} (h : t ∈ opTmps o.op) : t ∈ looks l o := by
  unfold looks
  split
  · split
    · exact List.mem_cons_of_mem _ h
    · exact h
  · exact h
theorem args_rv {ρ : Operand → Value} {ev : Operand → AV} {args : Array Operand} (hx : ∀ x, RV G (ρ x) (ev x)) : RVs G (args.map ρ) (args.toList.map ev) := by
  have := RV.mem (l := args.toList) (fun x _ => hx x)
  have e : (args.toList.map ρ).toArray = args.map ρ := by apply Array.ext'; simp
  rw [e] at this
  exact this
theorem step_skip {b : Frame} {k : List Item} {cs : List Frame} {rest : List Nat} (ho : ops[i]? = some o) (hw : Region.wanted o (yielded ops a.tmps) = false) :
    step P (lone (b.atR a (.inRegion ops (i :: rest) :: k)) cs w) = .next (lone (b.atR (a.put o.dst undef) (.inRegion ops rest :: k)) cs w) := by
  have := stepR_op_skip (P := P) (b := b) (a := a) (k := k) (cs := cs) (w := w) (ops := ops) (i := i) (rest := rest) (by rw [ho]; simpa using hw)
  rw [ho, Option.bind_some] at this
  exact this
/-- One operation, wherever it comes. -/
theorem Reg.exec (hR : Reg P ops base sz st m tm v rc) (hI : Inv ops base sz st m tm rc D G w Ms T a) (hi : i < st) (ho : ops[i]? = some o) (hiD : i ∉ D) (hb : ∀ j, Bf ops.toList j i → j ∈ D) (b : Frame) (k : List Item) (cs : List Frame) (rest : List Nat) :
    ∃ G' w' Ms' T' a', Steps P (lone (b.atR a (.inRegion ops (i :: rest) :: k)) cs w) (lone (b.atR a' (.inRegion ops rest :: k)) cs w') ∧ a'.defers = a.defers ∧ Inv ops base sz st m tm rc (i :: D) G' w' Ms' T' a' ∧ Ev G w Ms G' w' Ms' ∧ Ub (· < base) G G' := by
  have szs := hR.st_le
  have n0 := (hR.nx_of st (Nat.le_refl _)).1
  have ni := (hR.nx_of i (by omega)).1
  obtain ⟨o', e1, e2, e3⟩ := hR.ent hi
  rw [ho] at e1
  cases e1
  have lk := looks_eq hR hI (by omega) ho hiD hb
  have lk2 : Ag T (tm i) (opTmps o.op) := fun t ht => lk t (looks_tmps ht)
  have wc := wantA_congr lk
  have ev : ∀ x, RV G (a.eval x) (evA T x) := fun x => hI.rt.eval x
  rcases e3 with ⟨h1, h2, h3, h4⟩ | ⟨h1, hd, M2, rd, h3, h4, h5⟩
  · rw [← wc] at h1
    have hw := wantA_ok h1 hI.rt
    exact ⟨G, w, Ms, _, _, .one (step_skip ho hw), (RT.put (o := o) hI.rt hI.sz (v := undef) (x := .undef) .undef).2.2, after_q hR hI hi ho hiD hb (fun id => by rw [h3]) e2 (x := undef) (by rw [h2]; exact .undef), Ev.refl _ _ _, Ub.refl _ _⟩
  · rw [← wc] at h1
    have hw := wantA_ok h1 hI.rt
    have hm1 : (m (i + 1)).h = M2.h := by rw [h3]
    have hm2 : (m (i + 1)).nx = M2.nx := by rw [h3]
    have dfr : ∀ x : Value, (a.put o.dst x).defers = a.defers := fun x => by cases o.dst <;> rfl
    -- writers before and behind
    have w1 : isW o.op = true → ∀ j r, j < i → rc j = some r → r.w = true → j ∈ D := fun hwr j r hj hr hrw => by
      rcases hR.pair hj hi hr h4 with e | ⟨e, _⟩ | ⟨_, e, _⟩ | ⟨e, _⟩
      · exact hb j e
      · rw [hrw] at e; cases e
      · have e : isW o.op = false := e
        rw [hwr] at e; cases e
      · rw [hrw] at e; cases e
    have w2 : isW o.op = true → ∀ j r, i < j → j < st → rc j = some r → r.w = true → j ∉ D := fun hwr j r hj hj2 hr hrw hD => by
      rcases hR.pair hj hj2 h4 hr with e | ⟨e, _⟩ | ⟨_, e, _⟩ | ⟨e, _⟩
      · exact hiD (hI.cl j hD i e)
      · have e : isW o.op = false := e
        rw [hwr] at e; cases e
      · rw [hrw] at e; cases e
      · have e : isW o.op = false := e
        rw [hwr] at e; cases e
    have s1 : isW o.op = true → St G w ⟨(m i).h, (m i).nx, []⟩ := fun hwr => st_w hR hI (by omega) hiD (w1 hwr) (w2 hwr) (hI.fr i _ hi hiD h4 hwr)
    have hf := hI.unb i (by omega) hiD
    rcases h5 with ⟨h5, h6⟩ | ⟨g, args, ts, h5, h6⟩
    · obtain ⟨q1, q2⟩ := opA_congr (P := P) (M := ⟨(m i).h, (m i).nx, []⟩) (fid := base + i) lk2
      rw [← q1] at h5
      rw [← q2] at h6
      cases hwr : isW o.op with
      | true =>
        obtain ⟨G', w', x, r1, r2, r3, r4, r5⟩ := (opA_sound (s1 hwr) hf (by show base + i < (m i).nx; omega) ev h5).2 hwr
        obtain ⟨C, c1, c2⟩ := after_w hR hI hi ho hiD hb (w1 hwr) (w2 hwr) (s1 hwr) r3 r4 (fun id hn _ e => r5 id hn e) hm1 hm2 e2 r2
        exact ⟨G', w', C, _, _, .one (step_value ho hw hd r1), dfr x, c1, c2, r5.mono fun id hid => by omega⟩
      | false =>
        cases hn : isN o.op with
        | true =>
          obtain ⟨kb, hk, hM2, hrd, hany⟩ := opA_make hn h5
          have h7 := hany Ms
          rcases (opA_sound hI.s hf (by rw [hI.nx]; omega) ev h7).1 hwr with ⟨e, _⟩ | ⟨_, kb', ⟨hk', x, ob, n, r1, r2, r3⟩, he⟩
          · rw [hn] at e; cases e
          · have hkk : kb = kb' := by
              have g1 : (newB Ms (base + i) kb).h.get (base + i) = some kb := get_set_self _ _ _
              have g2 : (newB Ms (base + i) kb').h.get (base + i) = some kb' := get_set_self _ _ _
              rw [he, g2] at g1
              cases g1; rfl
            subst hkk
            obtain ⟨c1, c2⟩ := after_m (r := ⟨i, isW o.op, rd, M2.lg, (m i).nx⟩) hR hI hi ho hiD hb hk (by rw [hm1, hM2]; rfl) h4 hwr (by show rd = _; rw [h6, hrd]) e2 r2 r3
            refine ⟨_, _, _, _, _, .one (step_value ho hw hd (.inl r1)), dfr x, c1, c2, fun id hid e => ?_⟩
            show (if id = base + i then _ else _) = _
            rw [if_neg (by have hid : id < base := hid; omega)]
            exact e
        | false =>
          have self := opA_read (P := P) (M2 := ⟨(m i).h, (m i).nx, []⟩) (M := ⟨(m i).h, (m i).nx, []⟩) (fid := base + i) (ev := evA T) hwr hn (fun _ _ => rfl)
          rw [h5] at self
          have hM2 : M2 = ⟨(m i).h, (m i).nx, []⟩ := by cases self; rfl
          have own := read_own h5 hn
          have phi := read_phi (G := G) (ρ := a.eval) ev hn (fid := base + i)
          have same : ∀ id ∈ readsOf o.op (evA T) (base + i), Ms.h.get id = (m i).h.get id := fun id hid => by
            have ho1 : Own (m i) id := own id hid
            have hp := phi id hid
            refine (own_eq (M := m i) (N := Ms) ?_ ho1).symm
            refine ((hI.mem id hp).at' (by omega) (fun j hj hne => ?_) (fun j k1 k2 hne hD => ?_)).symm
            · obtain ⟨r, hr, c1, c2⟩ := hR.chg (j := j) (by omega) hne
              refine Classical.byContradiction fun hnD => ?_
              have hnb : id = base + j → False := fun e => hp (by rw [e]; exact hI.unb j (by omega) hnD)
              cases hrw : r.w with
              | false => exact hnb (c1 hrw).1
              | true =>
                rcases hR.pair hj hi hr h4 with e | ⟨e, _⟩ | ⟨_, _, e⟩ | ⟨e, _⟩
                · exact hnD (hb j e)
                · rw [hrw] at e; cases e
                · obtain ⟨x1, x2⟩ := e id (by show id ∈ rd; rw [h6]; exact hid)
                  rcases c2 hrw with y | y | y
                  · exact x2 y
                  · exact hnb y
                  · omega
                · rw [hrw] at e; cases e
            · have hij : j ≠ i := fun e => hiD (e ▸ hD)
              obtain ⟨r, hr, c1, c2⟩ := hR.chg (j := j) k2 hne
              have hnb : id = base + j → False := fun e => by rw [e] at ho1; exact (hR.nx_of i (by omega)).2.2 j (by omega) (by omega) ho1
              cases hrw : r.w with
              | false => exact hnb (c1 hrw).1
              | true =>
                rcases hR.pair (i := i) (j := j) (by omega) k2 h4 hr with e | ⟨_, e⟩ | ⟨_, e, _⟩ | ⟨_, _, e⟩
                · exact hiD (hI.cl j hD i e)
                · rw [hrw] at e; cases e
                · rw [hrw] at e; cases e
                · obtain ⟨x1, x2⟩ := e id (by show id ∈ rd; rw [h6]; exact hid)
                  rcases c2 hrw with y | y | y
                  · exact x2 y
                  · exact hnb y
                  · omega
          have h7 := opA_read (P := P) (M2 := Ms) (M := ⟨(m i).h, (m i).nx, []⟩) (fid := base + i) (ev := evA T) hwr hn same
          rw [h5] at h7
          have h7 : opA o.op P (evA T) Ms (base + i) = .val (v i) Ms := h7
          rcases (opA_sound hI.s hf (by rw [hI.nx]; omega) ev h7).1 hwr with ⟨_, ⟨x, r1, r2⟩, _⟩ | ⟨e, _⟩
          · exact ⟨G, w, Ms, _, _, .one (step_value ho hw hd (.inl r1)), dfr x, after_q hR hI hi ho hiD hb (fun id => og_get (by rw [hm1, hM2])) e2 r2, Ev.refl _ _ _, Ub.refl _ _⟩
          · rw [hn] at e; cases e
    · have hwr : isW o.op = true := by rw [h5]; rfl
      have hag : evA T g = evA (tm i) g ∧ args.toList.map (evA T) = args.toList.map (evA (tm i)) := by
        have l2 : Ag T (tm i) (oT g ++ oTs args.toList) := by
          have : opTmps o.op = oT g ++ oTs args.toList := by rw [h5]; rfl
          rw [← this]; exact lk2
        exact ⟨Ag.one l2.left, l2.right.map⟩
      rw [← hag.1, ← hag.2] at h6
      obtain ⟨d, nx, c1, c2, c3, c4⟩ := h6.2 G w (a.eval g) (args.map a.eval) (s1 hwr) (hR.nx_of i (by omega)).2.1 (ev g) (args_rv ev)
      obtain ⟨G', w', E, t1, t2, t3, t4, t5⟩ := c4 (b.atR a (.inRegion ops (i :: rest) :: k)) cs
      cases E with
      | outgrown => exact t2.elim
      | panicked ch => exact t2.elim
      | returned x =>
        have r2 : RV G' x (v i) := t2
        have t5 : Ub (· < (m i).nx) G G' := t5
        obtain ⟨C, q1, q2⟩ := after_w hR hI hi ho hiD hb (w1 hwr) (w2 hwr) (s1 hwr) t3 t4 (fun id _ hn e => t5 id hn e) hm1 hm2 e2 r2
        have hbk : back (b.atR a (.inRegion ops (i :: rest) :: k)) (.returned x) = b.atR (a.put o.dst x) (.inRegion ops rest :: k) := by
          show (b.atR a (.inRegion ops (i :: rest) :: k)).finish x = _
          rw [Frame.finish_atR, ho, Option.bind_some]
        rw [hbk] at t1
        exact ⟨G', w', C, _, _, .head (step_start ho hw hd (exec_call h5 c1 c2) c3) t1, dfr x, q1, q2, t5.mono fun id hid => by omega⟩
/-- An operation that panics: where the trace ends. -/
theorem Reg.pan (hR : Reg P ops base sz st m tm v rc) (hI : Inv ops base sz st m tm rc D G w Ms T a) (ho : ops[st]? = some o) (hb : ∀ j, Bf ops.toList j st → j ∈ D) {ch : List AE} {M2 : Mem} (hp : Pan P ops.toList base st o (tm st) (m st) ch M2) (w1 : ∀ j r, j < st → rc j = some r → r.w = true → Bf ops.toList j st) (b : Frame) (k : List Item) (cs : List Frame) (rest : List Nat) :
    ∃ G' w' pc, Steps P (lone (b.atR a (.inRegion ops (st :: rest) :: k)) cs w) (lone ((b.atR a (.inRegion ops (st :: rest) :: k)).raise pc) cs w') ∧ RCh G' pc ch ∧ St G' w' M2 ∧ Ev G w Ms G' w' ⟨M2.h, max M2.nx Ms.nx, []⟩ ∧ Ub (· < base) G G' := by
  have szs := hR.st_le
  have n0 := (hR.nx_of st (Nat.le_refl _)).1
  have hiD : st ∉ D := fun h => by have := hI.dl st h; omega
  have lk := looks_eq hR hI (Nat.le_refl _) ho hiD hb
  have lk2 : Ag T (tm st) (opTmps o.op) := fun t ht => lk t (looks_tmps ht)
  have wc := wantA_congr lk
  have ev : ∀ x, RV G (a.eval x) (evA T x) := fun x => hI.rt.eval x
  obtain ⟨h1, hd, h5⟩ := hp
  rw [← wc] at h1
  have hw := wantA_ok h1 hI.rt
  have v1 : ∀ j r, j < st → rc j = some r → r.w = true → j ∈ D := fun j r hj hr hrw => hb j (w1 j r hj hr hrw)
  have s1 : St G w ⟨(m st).h, (m st).nx, []⟩ := st_w hR hI (Nat.le_refl _) hiD v1 (fun j r _ _ => by omega) (fun id hp => by
    cases e : G.phi id with
    | none => exact absurd e hp
    | some y => rw [← hI.nx]; exact hI.s.fresh id y.1 y.2 e)
  have same : ∀ id, G.phi id ≠ none → og Ms id = og (m st) id := fun id hp => (mem_w hR hI (Nat.le_refl _) hiD v1 (fun j r _ _ => by omega) id hp).elim (fun e => e) (fun ⟨j, h1, h2, _⟩ => by omega)
  have fin : ∀ {G' : Gh} {w' : World}, Ev G w ⟨(m st).h, (m st).nx, []⟩ G' w' M2 → Ev G w Ms G' w' ⟨M2.h, max M2.nx Ms.nx, []⟩ := fun {G' w'} e =>
    e.ofOg (fun id hp o => (own_cong (same id hp)).2 o) (fun id hp o => by
      rcases e.dom id o with o | e
      · exact (own_cong (same id hp)).2 o
      · exact absurd e hp) (Nat.le_max_right _ _)
  rcases h5 with ⟨x, h5, rfl, rfl⟩ | ⟨g, args, ts, h5, h6⟩
  · obtain ⟨q1, q2⟩ := opA_congr (P := P) (M := ⟨(m st).h, (m st).nx, []⟩) (fid := base + st) lk2
    rw [← q1] at h5
    obtain ⟨pv, r1, r2, r3⟩ := opA_panic (P := P) (w := w) ev h5
    exact ⟨G, w, _, .one (step_panic ho hw hd r1), ⟨rfl, rfl, r2, trivial⟩, s1, fin (Ev.refl _ _ _), Ub.refl _ _⟩
  · have hag : evA T g = evA (tm st) g ∧ args.toList.map (evA T) = args.toList.map (evA (tm st)) := by
      have l2 : Ag T (tm st) (oT g ++ oTs args.toList) := by
        have : opTmps o.op = oT g ++ oTs args.toList := by rw [h5]; rfl
        rw [← this]; exact lk2
      exact ⟨Ag.one l2.left, l2.right.map⟩
    rw [← hag.1, ← hag.2] at h6
    obtain ⟨d, nx, c1, c2, c3, c4⟩ := h6.2 G w (a.eval g) (args.map a.eval) s1 (hR.nx_of st (Nat.le_refl _)).2.1 (ev g) (args_rv ev)
    obtain ⟨G', w', E, t1, t2, t3, t4, t5⟩ := c4 (b.atR a (.inRegion ops (st :: rest) :: k)) cs
    cases E with
    | outgrown => exact t2.elim
    | returned x => exact t2.elim
    | panicked pc =>
      have t5 : Ub (· < (m st).nx) G G' := t5
      exact ⟨G', w', pc, .head (step_start ho hw hd (exec_call h5 c1 c2) c3) t1, t2, t3, fin t4, t5.mono fun id hid => by omega⟩
end
end Go.Proofs.YtpflobodmglmaaaGreat
set_option linter.unusedVariables false
set_option maxHeartbeats 4000000
namespace Go.Proofs.YtpflobodmglmaaaGreat
section
variable {P : Program} {ops : Array Oper} {base sz st : Nat} {m : Nat → Mem} {tm : Nat → Tr AV} {v : Nat → AV} {rc : Nat → Option Rec}
theorem Reg.walk_end (hR : Reg P ops base sz st m tm v rc) (hst : st = ops.size) {D l : List Nat} (hL : Lin ops.toList D l) : ∀ {G : Gh} {w : World} {Ms : Mem} {T : Tr AV} {a : Act}, Inv ops base sz st m tm rc D G w Ms T a → ∀ (b : Frame) (k : List Item) (cs : List Frame),
    ∃ G' w' Ms' a', Steps P (lone (b.atR a (.inRegion ops l :: k)) cs w) (lone (b.atR a' k) cs w') ∧ a'.defers = a.defers ∧ a'.tmps.size = sz ∧ RT G' a'.tmps (tm st) ∧ St G' w' (m st) ∧ Ms'.nx = (m st).nx ∧ (∀ id, G'.phi id ≠ none → og Ms' id = og (m st) id) ∧ Ev G w Ms G' w' Ms' ∧ Ub (· < base) G G' := by
  induction hL with
  | @nil D h =>
    intro G w Ms T a hI b k cs
    have hD : ∀ i, i < st → i ∈ D := fun i hi => h i (by simpa [hst] using hi)
    have og1 : ∀ id, G.phi id ≠ none → og Ms id = og (m st) id := fun id hp => (hI.mem id hp).last hD
    refine ⟨G, w, Ms, a, .one stepR_region_end, rfl, hI.sz, fun t => ?_, hI.s.ofOg (fun id hp => .inl (og1 id hp).symm) (fun id b bs h => by rw [← hI.nx]; exact hI.s.fresh id b bs h), hI.nx, og1, Ev.refl _ _ _, Ub.refl _ _⟩
    have : T.get t = (tm st).get t := (hI.tmp t).last hD
    rw [← this]
    exact hI.rt t
  | @cons D l i hi hn hb hL ih =>
    intro G w Ms T a hI b k cs
    have hi' : i < ops.size := by simpa using hi
    obtain ⟨G1, w1, Ms1, T1, a1, s1, d1, I1, e1, u1⟩ := hR.exec hI (by omega) (Array.getElem?_eq_getElem hi') hn hb b k cs l
    obtain ⟨G2, w2, Ms2, a2, s2, d2, z2, r2, t2, n2, o2, e2, u2⟩ := ih I1 b k cs
    exact ⟨G2, w2, Ms2, a2, s1.trans s2, d2.trans d1, z2, r2, t2, n2, o2, e1.trans e2, u1.trans u2⟩
theorem Reg.walk_pan (hR : Reg P ops base sz st m tm v rc) {o : Oper} {ch : List AE} {M2 : Mem} (ho : ops[st]? = some o) (hp : Pan P ops.toList base st o (tm st) (m st) ch M2) (v1 : ∀ j r, j < st → rc j = some r → r.w = true → Bf ops.toList j st) (v2 : ∀ j, st < j → j < ops.size → Bf ops.toList st j) {D l : List Nat} (hL : Lin ops.toList D l) :
    ∀ {G : Gh} {w : World} {Ms : Mem} {T : Tr AV} {a : Act}, Inv ops base sz st m tm rc D G w Ms T a → ∀ (b : Frame) (k : List Item) (cs : List Frame),
    ∃ G' w' a' rest pc, Steps P (lone (b.atR a (.inRegion ops l :: k)) cs w) (lone ((b.atR a' (.inRegion ops (st :: rest) :: k)).raise pc) cs w') ∧ RCh G' pc ch ∧ a'.defers = a.defers ∧ RT G' a'.tmps (topAll sz ops.toList (tm st)) ∧ St G' w' M2 ∧ Ev G w Ms G' w' ⟨M2.h, max M2.nx Ms.nx, []⟩ ∧ Ub (· < base) G G' := by
  have hlt : st < ops.size := (Array.getElem?_eq_some_iff.1 ho).1
  induction hL with
  | @nil D h =>
    intro G w Ms T a hI b k cs
    have := hI.dl st (h st (by simpa using hlt))
    omega
  | @cons D l i hi hn hb hL ih =>
    intro G w Ms T a hI b k cs
    have hi' : i < ops.size := by simpa using hi
    by_cases e : i < st
    · obtain ⟨G1, w1, Ms1, T1, a1, s1, d1, I1, e1, u1⟩ := hR.exec hI e (Array.getElem?_eq_getElem hi') hn hb b k cs l
      obtain ⟨G2, w2, a2, rest, pc, s2, c2, d2, r2, t2, e2, u2⟩ := ih I1 b k cs
      have hnx : Ms1.nx = Ms.nx := by rw [I1.nx, hI.nx]
      rw [hnx] at e2
      exact ⟨G2, w2, a2, rest, pc, s1.trans s2, c2, d2.trans d1, r2, t2, e1.trans e2, u1.trans u2⟩
    · by_cases e2 : i = st
      · subst e2
        obtain ⟨G', w', pc, s1, c1, t1, e1, u1⟩ := hR.pan hI ho hb hp v1 b k cs l
        refine ⟨G', w', a, l, pc, s1, c1, rfl, ?_, t1, e1, u1⟩
        refine RT.top hI.sz _ _ .nil fun t => ?_
        by_cases hc : ∃ o ∈ ops.toList, o.dst = some t ∧ t < sz
        · exact .inr hc
        · refine .inl ?_
          obtain ⟨s, hs, h1, _⟩ := hI.tmp t
          have : (tm i).get t = (tm s).get t := const_of (c := fun j => (tm j).get t) i hs fun j h2 h3 => Classical.byContradiction fun hne => by
            obtain ⟨p, q1, q2, _⟩ := hR.ent (j := j) h3
            have hne : (tm (j + 1)).get t ≠ (tm j).get t := hne
            rw [q2 t] at hne
            exact hc ⟨p, List.mem_of_getElem? (by simpa using q1), setDst_chg hne⟩
          have h1 : T.get t = (tm s).get t := h1
          rw [this, ← h1]
          exact (hI.rt t).mono e1.le
      · have := hb st (v2 i (by omega) hi')
        have := hI.dl st this
        omega
end
section
variable {P : Program} {G : Gh} {w : World} {M : Mem}
theorem trc_at {bef : List Nat} {ops : List Oper} {base sz st : Nat} {m : Nat → Mem} {tm : Nat → Tr AV} {v : Nat → AV} {rc : Nat → Option Rec} (h : Trc P bef ops base 0 sz ops [] st m tm v rc) (hn : base + ops.length ≤ (m 0).nx) : ∀ j, j ≤ st → base + ops.length ≤ (m j).nx ∧ AT (base ≤ ·) (m 0) (m j)
  | 0, _ => ⟨hn, AT.refl _ _⟩
  | j + 1, hj => by
    obtain ⟨h1, h2⟩ := trc_at h hn j (by omega)
    obtain ⟨o, e1, e2, e3⟩ := h.ent j (Nat.zero_le _) (by omega)
    have hle := h.le.2
    have hat := (ent_at e3 (by omega)).1
    exact ⟨Nat.le_trans h1 hat.nx, h2.trans hat (fun _ e => e) (fun id e => by rcases e with e | e <;> omega)⟩
theorem at_lg {S : Nat → Prop} {M2 : Mem} (h : AT S ⟨M.h, M.nx, []⟩ M2) : AT S M ⟨M2.h, M2.nx, M2.lg ++ M.lg⟩ := by
  obtain ⟨ex, hex, hl⟩ := h.lg
  have hex : M2.lg = ex ++ [] := hex
  rw [List.append_nil] at hex
  exact ⟨h.nx, ⟨ex, by rw [hex], hl⟩, h.own, h.wf⟩
theorem Pan.at' {ops : List Oper} {base j : Nat} {o : Oper} {tm : Tr AV} {ch : List AE} {M2 : Mem} (h : Pan P ops base j o tm M ch M2) : AT (M.nx ≤ ·) M ⟨M2.h, M2.nx, M2.lg ++ M.lg⟩ := by
  rcases h.2.2 with ⟨v, _, _, rfl⟩ | ⟨g, args, ts, _, h⟩
  · exact at_lg (AT.refl _ _)
  · exact at_lg h.1
theorem DrS.at' {ops : List Oper} {f : Fr} {bl : AMode} {e : AEnd} {bl' : AMode} {M' : Mem} {bef : List Nat} (h : DrS P ⟨bef, ops, M.nx, []⟩ 0 ops f bl (memNx M ops.length) e bl' M') : AT (M.nx ≤ ·) M M' := by
  obtain ⟨st, m, tm, v, rc, h1, h2, h3, h4⟩ := h
  have h3 : Trc P bef ops M.nx 0 f.sz ops [] st m tm v rc := h3
  have hn : M.nx + ops.length ≤ (m 0).nx := by rw [h1]; exact Nat.le_refl _
  have ka := trc_at h3 hn
  have a0 : AT (M.nx ≤ ·) M (m 0) := by rw [h1]; exact at_nx
  have a1 : AT (M.nx ≤ ·) M (m st) := a0.trans (ka st (Nat.le_refl _)).2 (fun _ e => e) (fun _ e => e)
  rcases h4 with ⟨_, k⟩ | ⟨o, ch, M2, k1, k2, k3, _, k4⟩
  · exact at_of a1 k.1
  · exact at_of a1 (at_of k2.at' k4.1)
theorem dreg_goal {ops : Array Oper} {f : Fr} {bl : AMode} {e : AEnd} {bl' : AMode} {M' : Mem} {l : List Nat} (h : DrS P ⟨befL [] ops.toList, ops.toList, M.nx, []⟩ 0 ops.toList f bl (memNx M ops.toList.length) e bl' M') (hok : regOk ops.toList (befL [] ops.toList) [] 0 ops.toList = true) (hL : Lin ops.toList [] l)
    {b : Frame} {a : Act} {c0s cs : List Frame} (hs : St G w M) (hw : WfM M) (hf : FrR G f b a) (hb : Bel f.dfd G bl c0s cs) (hr : f.ro ≠ none → c0s ≠ []) : Goal P G w M (lone (b.atR a (.inRegion ops l :: f.todo)) cs w) f.ro f.dfd f.fn c0s e bl' M' := by
  obtain ⟨fn, dfd, sz, tm0, todo, ds, ro⟩ := f
  obtain ⟨st, m, tm, v, rc, h1, h2, h3, h4⟩ := h
  have h2 : ∀ t, (tm 0).get t = tm0.get t := h2
  have hR : Reg P ops M.nx sz st m tm v rc := ⟨h3, hok, by rw [h1]; simp [memNx], by rw [h1]; exact wf_nx hw, fun j _ o => by
    rw [h1] at o
    have := hw (M.nx + j) o
    omega⟩
  have hn0 : (m 0).nx ≤ (m st).nx := hR.nx_le st (Nat.zero_le _) (Nat.le_refl _)
  have hM0 : M.nx ≤ (m 0).nx := by rw [h1]; exact Nat.le_add_right _ _
  have hI : Inv ops M.nx sz st m tm rc [] G w ⟨M.h, (m st).nx, []⟩ (tm 0) a := by
    refine ⟨hs.congr rfl (fun _ => rfl) (Nat.le_trans hM0 hn0), rfl, fun id hp => ?_, fun i hi _ => phi_none hs (Nat.le_add_right _ _), fun i r hi _ _ _ id hp => ?_, hf.sz, fun t => (by rw [h2 t]; exact hf.rt t), fun t => Hist.first (c := fun j => (tm j).get t), fun i h => (by cases h), fun i h => (by cases h)⟩
    · have : og (⟨M.h, (m st).nx, []⟩ : Mem) id = og (m 0) id := by rw [h1]; rfl
      rw [this]
      exact Hist.first (c := fun j => og (m j) id)
    · cases e : G.phi id with
      | none => exact absurd e hp
      | some y =>
        have := hs.fresh id y.1 y.2 e
        have := hR.nx_le (a := 0) i (Nat.zero_le _) (by omega)
        omega
  rcases h4 with ⟨k1, k2⟩ | ⟨o, ch, M2, k1, k2, k3, ⟨_, k5⟩, k4⟩
  · obtain ⟨G', w', Ms', a', s1, d1, z1, r1, t1, n1, o1, e1, u1⟩ := hR.walk_end (by simpa using k1) hL hI b todo cs
    have ev : Ev G w M G' w' (m st) := e1.ofOg (fun _ _ o => o) (fun id hp o => by
      have hp' : G'.phi id ≠ none := by
        cases e : G.phi id with
        | none => exact absurd e hp
        | some y => rw [e1.le.phi id y e]; simp
      have o2 : Own Ms' id := (own_cong (o1 id hp')).2 o
      rcases e1.dom id o2 with o3 | o3
      · exact o3
      · exact absurd o3 hp) (Nat.le_trans hM0 hn0)
    have fr' : FrR G' (frTm ⟨fn, dfd, sz, tm0, todo, ds, ro⟩ (tm st)) b a' := ⟨hf.fn, hf.kind, z1, r1, by rw [d1]; exact hf.ds.mono e1.le, hf.ro.mono e1.le, hf.rd⟩
    exact (k2.2 G' w' b a' c0s cs t1 ((hR.nx_of st (Nat.le_refl _)).2.1) fr' (hb.mono e1.le) hr).of s1 ev u1
  · have k2 : Pan P ops.toList M.nx st o (tm st) (m st) ch M2 := k2
    have ho : ops[st]? = some o := by rw [Nat.sub_zero] at k1; simpa using k1
    have v1 : ∀ j r, j < st → rc j = some r → r.w = true → Bf ops.toList j st := fun j r hj hr hrw => by
      have := k5 j r (Nat.zero_le _) hj hr hrw
      rw [Nat.sub_zero, (hR.rcd hj hr).1] at this
      exact this
    have v2 : ∀ j, st < j → j < ops.size → Bf ops.toList st j := fun j hj hj2 => by
      have hl : (befL [] ops.toList).length = ops.size := by rw [befL_len]; simp
      have k3 : allBit st ((befL [] ops.toList).drop (st + 1)) = true := by rw [Nat.sub_zero] at k3; exact k3
      unfold allBit at k3
      rw [List.all_eq_true] at k3
      unfold Bf
      refine k3 _ ?_
      rw [List.getD_eq_getElem?_getD, List.getElem?_eq_getElem (by omega)]
      simp only [Option.getD_some]
      rw [List.mem_iff_getElem]
      refine ⟨j - (st + 1), by rw [List.length_drop]; omega, ?_⟩
      simp only [List.getElem_drop]
      congr 1
      omega
    obtain ⟨G', w', a', rest, pc, s1, c1, d1, r1, t1, e1, u1⟩ := hR.walk_pan ho k2 v1 v2 hL hI b todo cs
    have ev : Ev G w M G' w' M2 := e1.ofOg (fun _ _ o => o) (fun id hp o => by
      rcases e1.dom id o with o3 | o3
      · exact o3
      · exact absurd o3 hp) (by
        have := k2.at'.nx
        have : (m st).nx ≤ M2.nx := this
        omega)
    have lv : LvR G' (frTop ops.toList (frTm ⟨fn, dfd, sz, tm0, todo, ds, ro⟩ (tm st))) (.pan ch) ((b.atR a' (.inRegion ops (st :: rest) :: todo)).raise pc) :=
      ⟨hf.fn, hf.kind, r1, by show DsR G' a'.defers ds; rw [d1]; exact hf.ds.mono e1.le, c1, by rw [Frame.raise_atR]; simp⟩
    have wf2 : WfM ⟨M2.h, M2.nx, M2.lg ++ (m st).lg⟩ := k2.at'.wf (hR.nx_of st (Nat.le_refl _)).2.1
    have ev2 : Ev G w M G' w' ⟨M2.h, M2.nx, M2.lg ++ (m st).lg⟩ := ev.ofOg (fun _ _ o => o) (fun id hp o => by
      rcases ev.dom id o with o3 | o3
      · exact o3
      · exact absurd o3 hp) ev.nx
    exact (k4.2 G' w' _ c0s cs (t1.congr rfl (fun _ => rfl) (Nat.le_refl _)) wf2 lv (hb.mono e1.le) hr).of s1 ev2 u1
end
end Go.Proofs.YtpflobodmglmaaaGreat
set_option linter.unusedVariables false
set_option maxHeartbeats 4000000
namespace Go.Proofs.YtpflobodmglmaaaGreat
section
variable {R : Type}
def Job.k : Job R → K R
  | .fr _ _ _ k => k
  | .reg _ _ _ _ _ k => k
  | .dreg _ _ _ _ _ _ k => k
  | .lv _ _ _ _ k => k
  | .call _ _ _ _ _ k => k
  | .yld _ _ _ k => k
def JobS (P : Program) : Job R → AEnd → AMode → Mem → Prop
  | .fr f bl M _ => FrS P f bl M
  | .reg all rest f bl M _ => RegS P all rest f bl M
  | .dreg d i rest f bl M _ => DrS P d i rest f bl M
  | .lv f u bl M _ => LvS P f u bl M
  | .call f args dfd bl M _ => CallS P f args dfd bl M
  | .yld l args M _ => YldS P l args M
/-- A program whose functions with a body are called as they are. -/
def POk (P : Program) : Prop := P.follows .mixedOrders = true ∧ ∀ (f : Nat) (fn : Func), P.funcs[f]? = some fn → fn.body.isSome = true → (fn.name == "runtime.NumGoroutine") = false
end
section
variable {P : Program} {G G1 : Gh} {w w1 : World} {M M1 M' : Mem} {m : Machine} {e : AEnd} {bl bl' : AMode} {c0s cs : List Frame}
theorem goal_fr {f1 : Fr} {b : Frame} {a1 : Act} (h : FrS P f1 bl M1 e bl' M') (s : Steps P m (lone (b.atR a1 f1.todo) cs w1)) (st : St G1 w1 M1) (wf : WfM M1) (ev : Ev G w M G1 w1 M1) (ub : Ub (· < M.nx) G G1) (fr : FrR G1 f1 b a1) (hb : Bel f1.dfd G bl c0s cs) (hr : f1.ro ≠ none → c0s ≠ []) : Goal P G w M m f1.ro f1.dfd f1.fn c0s e bl' M' :=
  (h.2 G1 w1 b a1 c0s cs st wf fr (hb.mono ev.le) hr).of s ev ub
theorem goal_lv {f1 : Fr} {u : AMode} {fr1 : Frame} (h : LvS P f1 u bl M1 e bl' M') (s : Steps P m (lone fr1 cs w1)) (st : St G1 w1 M1) (wf : WfM M1) (ev : Ev G w M G1 w1 M1) (ub : Ub (· < M.nx) G G1) (fr : LvR G1 f1 u fr1) (hb : Bel f1.dfd G bl c0s cs) (hr : f1.ro ≠ none → c0s ≠ []) : Goal P G w M m f1.ro f1.dfd f1.fn c0s e bl' M' :=
  (h.2 G1 w1 fr1 c0s cs st wf fr (hb.mono ev.le) hr).of s ev ub
theorem goal_reg {all rest : List Oper} {f1 : Fr} {b : Frame} {a1 : Act} {ops : Array Oper} {i : Nat} (h : RegS P all rest f1 bl M1 e bl' M') (h1 : ops.toList = all) (h2 : all.drop i = rest) (s : Steps P m (lone (b.atR a1 (.inRegion ops (List.range' i (ops.size - i)) :: f1.todo)) cs w1)) (st : St G1 w1 M1) (wf : WfM M1) (ev : Ev G w M G1 w1 M1) (ub : Ub (· < M.nx) G G1) (fr : FrR G1 f1 b a1) (hb : Bel f1.dfd G bl c0s cs) (hr : f1.ro ≠ none → c0s ≠ []) : Goal P G w M m f1.ro f1.dfd f1.fn c0s e bl' M' :=
  (h.2 ops i G1 w1 b a1 c0s cs h1 h2 st wf fr (hb.mono ev.le) hr).of s ev ub
theorem at_set {S : Nat → Prop} {id : Nat} {k : Blk} (ho : Own M id) : AT S M ⟨M.h.set id k, M.nx, id :: M.lg⟩ := by
  have own : ∀ i, Own ⟨M.h.set id k, M.nx, id :: M.lg⟩ i → Own M i := fun i ⟨q, h1, h2⟩ => by
    by_cases e : id = i
    · rw [← e]; exact ho
    · exact ⟨q, by rw [← h1]; exact (get_set_ne _ _ e).symm, h2⟩
  exact ⟨Nat.le_refl _, ⟨[id], rfl, fun i _ hn => get_set_ne _ _ (fun e => hn (by simp [e]))⟩, fun i o => .inl (own i o), fun h i o => h i (own i o)⟩
/-- A loop's record, and what becomes of it. -/
theorem loop_put {l r fn sz d : Nat} {tm : Tr AV} {ps : Array Nat} {as body : Code} {st : LoopState} {pe : Option Code} (hs : St G w M) (hl : M.h.get l = some (.loop fn sz tm ps as body d st pe)) (hp : G.phi l = some (r, 0)) :
    ∃ L : Loop, w.heap[r]? = some (.loop L) ∧ L.state = st ∧ L.pending = pe ∧ L.fn = fn ∧ L.params = ps ∧ L.assign = as ∧ L.body = body ∧ L.tmps.size = sz ∧ RT G L.tmps tm ∧ G.phi d = some (L.defers, 0) ∧
      ∀ st' pe', St G (w.putObj r (.loop { L with state := st', pending := pe' })) ⟨M.h.set l (.loop fn sz tm ps as body d st' pe'), M.nx, l :: M.lg⟩ ∧ Ev G w M G (w.putObj r (.loop { L with state := st', pending := pe' })) ⟨M.h.set l (.loop fn sz tm ps as body d st' pe'), M.nx, l :: M.lg⟩ := by
  obtain ⟨_, ts, db, h1, h2, h3, h4⟩ := hs.blk l _ r 0 hl hp
  refine ⟨_, h1, rfl, rfl, rfl, rfl, rfl, rfl, h2, h3, h4, fun st' pe' => ?_⟩
  have hlt : r < w.heap.size := (Array.getElem?_eq_some_iff.1 h1).1
  have hB : BlkR G (w.putObj r (.loop { state := st', pending := pe', fn, tmps := ts, params := ps, assign := as, body, defers := db })) r 0 (.loop fn sz tm ps as body d st' pe') := ⟨rfl, ts, db, World.putObj_heap_same hlt, h2, h3, h4⟩
  exact hs.put ⟨_, hl, by simp⟩ hp (fun x hx => World.putObj_heap_other hx) World.putObj_size ⟨rfl, rfl, rfl⟩ hB (by simp) _
theorem own_loop {l fn sz d : Nat} {tm : Tr AV} {ps : Array Nat} {as body : Code} {st : LoopState} {pe : Option Code} (hl : M.h.get l = some (.loop fn sz tm ps as body d st pe)) : Own M l := ⟨_, hl, by simp⟩
/-- A round's end. -/
theorem fin2_ok {R : Type} {er : Nat → R} {k : K R} {f : Fr} {l : Nat} {jump : Option Code} (hro : f.ro = some l)
    (hst : ∀ (b : Frame) (a : Act) (c : Frame) (cs : List Frame) (w w' : World) (r : Nat) (v : Value), b.roundOf = some r → b.kind = .normal → (Instr.endRound r jump).run P w = .ok v w' → step P (lone (b.atR a f.todo) (c :: cs) w) = .next (lone (c.finish v) cs w')) :
    Out er k (jFin2 er (M.h.get l) l f.ds jump M bl k) (FrS P f bl M) := by
  unfold jFin2
  split
  · rename_i fn sz tm ps as body d st pe h nx lg hds hl
    have key : ∀ (st' : LoopState) (pe' : Option Code), st' = (if jump.isNone then .ready else .done) → jump = pe' → FrS P f bl ⟨h, nx, lg⟩ (.ret (.bool jump.isNone)) bl ⟨h.set l (.loop fn sz tm ps as body d st' pe'), nx, l :: lg⟩ := fun st' pe' e1 e2 => by
      subst e1
      subst e2
      refine ⟨at_set (own_loop hl), fun G w b a c0s cs hs hw hf hb hr => ?_⟩
      obtain ⟨r, hr1, hr2⟩ : ∃ r, b.roundOf = some r ∧ G.phi l = some (r, 0) := by have := hf.ro; rw [hro] at this; exact this
      have hdf : f.dfd = false := hf.rd (by rw [hro]; simp)
      obtain ⟨L, k1, k2, k3, k4, k5, k6, k7, k8, k9, k10, k11⟩ := loop_put hs hl hr2
      rw [hdf] at hb
      have hb : cs = c0s := hb
      subst hb
      cases cs with
      | nil => exact absurd rfl (hr (by rw [hro]; simp))
      | cons c cs =>
        have hk : b.kind = .normal := by rw [hf.kind, hdf]; rfl
        have hrun := run_endRound (P := P) jump k1
        have hstep := hst b a c cs w _ r _ hr1 hk hrun
        obtain ⟨s1, s2⟩ := k11 (if jump.isNone then .ready else .done) jump
        refine ⟨G, _, c :: cs, .returned (.bool jump.isNone), _, .one hstep, ?_, ?_, ?_, s1, s2, Ub.refl _ _⟩
        · rw [hdf]; exact rfl
        · rw [hro]; exact ⟨c, cs, rfl, rfl⟩
        · exact .bool _
    cases jump with
    | none => exact .inr ⟨_, _, _, rfl, key .ready none rfl rfl⟩
    | some c => exact .inr ⟨_, _, _, rfl, key .done (some c) rfl rfl⟩
  · exact .er
end
end Go.Proofs.YtpflobodmglmaaaGreat
set_option linter.unusedVariables false
set_option maxHeartbeats 4000000
namespace Go.Proofs.YtpflobodmglmaaaGreat
section
variable {R : Type} {X : Cx} {er : Nat → R} {run : Job R → R} {k : K R} {bl : AMode} {M : Mem}
/-- A plain step of a frame. -/
theorem fr_go {P : Program} {f : Fr} {t : List Item} {r : R} (h : Out er k r (FrS P (frTodo f t) bl M)) (hst : ∀ (G : Gh) (w : World) (b : Frame) (a : Act) (cs : List Frame), St G w M → FrR G f b a → step P (lone (b.atR a f.todo) cs w) = .next (lone (b.atR a t) cs w)) : Out er k r (FrS P f bl M) := by
  obtain ⟨fn, dfd, sz, tm, todo, ds, ro⟩ := f
  refine h.imp fun e bl' M' hS => ⟨hS.1, fun G w b a c0s cs hs hw hf hb hr => ?_⟩
  exact (hS.2 G w b a c0s cs hs hw ⟨hf.fn, hf.kind, hf.sz, hf.rt, hf.ds, hf.ro, hf.rd⟩ hb hr).step (hst G w b a cs hs hf)
theorem fr_lv {P : Program} {f : Fr} {r : R} (hro : f.ro = none) (h : Out er k r (LvS P f .ret bl M)) (hst : ∀ (w : World) (b : Frame) (a : Act) (cs : List Frame), b.roundOf = none → step P (lone (b.atR a f.todo) cs w) = .next (lone { b.atR a f.todo with mode := .returning } cs w)) : Out er k r (FrS P f bl M) := by
  refine h.imp fun e bl' M' hS => ⟨hS.1, fun G w b a c0s cs hs hw hf hb hr => ?_⟩
  have hb0 : b.roundOf = none := by have := hf.ro; rw [hro] at this; exact this
  exact (hS.2 G w _ c0s cs hs hw (hf.lv (todo := f.todo) (m := .returning) (u := .ret) trivial (by simp)) hb hr).step (hst w b a cs hb0)
variable (H : ∀ j, Out er j.k (run j) (JobS X.P j))
include H
theorem run_fr (f : Fr) (bl : AMode) (M : Mem) (k : K R) : Out er k (run (.fr f bl M k)) (FrS X.P f bl M) := H (.fr f bl M k)
theorem run_lv (f : Fr) (u bl : AMode) (M : Mem) (k : K R) : Out er k (run (.lv f u bl M k)) (LvS X.P f u bl M) := H (.lv f u bl M k)
theorem fin_ok {f : Fr} {jump : Option Code} {fnb : Bool}
    (h1 : f.ro = none → fnb = true → ∀ (w : World) (b : Frame) (a : Act) (cs : List Frame), b.roundOf = none → step X.P (lone (b.atR a f.todo) cs w) = .next (lone { b.atR a f.todo with mode := .returning } cs w))
    (h2 : ∀ (b : Frame) (a : Act) (c : Frame) (cs : List Frame) (w w' : World) (r : Nat) (v : Value), b.roundOf = some r → b.kind = .normal → (Instr.endRound r jump).run X.P w = .ok v w' → step X.P (lone (b.atR a f.todo) (c :: cs) w) = .next (lone (c.finish v) cs w')) :
    Out er k (jFin er run jump fnb f bl M k) (FrS X.P f bl M) := by
  unfold jFin
  cases hro : f.ro with
  | none =>
    cases hf : fnb with
    | true => exact fr_lv hro (run_lv H f .ret bl M k) (h1 hro hf)
    | false => exact .er
  | some l => exact fin2_ok hro h2
theorem begin_ok {f : Fr} {t : List Item} {l : Nat} (hro : f.ro = some l) (ht : f.todo = .beginRound :: t) : Out er k (jBegin er run (M.h.get l) l (frTodo f t) bl M k) (FrS X.P f bl M) := by
  unfold jBegin
  split
  · rename_i fn sz tm ps as body d pe h nx lg hl
    refine (run_fr H _ bl _ k).imp fun e bl' M' hS => ?_
    have at1 : AT ((⟨h, nx, lg⟩ : Mem).nx ≤ ·) ⟨h, nx, lg⟩ ⟨h.set l (.loop fn sz tm ps as body d .busy pe), nx, l :: lg⟩ := at_set (M := ⟨h, nx, lg⟩) (own_loop hl)
    refine ⟨at_of at1 hS.1, fun G w b a c0s cs hs hw hf hb hr => ?_⟩
    obtain ⟨r, hr1, hr2⟩ : ∃ r, b.roundOf = some r ∧ G.phi l = some (r, 0) := by have := hf.ro; rw [hro] at this; exact this
    obtain ⟨L, k1, k2, k3, k4, k5, k6, k7, k8, k9, k10, k11⟩ := loop_put hs hl hr2
    have hrun := run_beginRound (P := X.P) k1 k2
    have hstep := stepR_beginRound (P := X.P) (b := b) (a := a) (k := t) (cs := cs) hr1 hrun
    obtain ⟨s1, s2⟩ := k11 .busy pe
    have e1 : ({ L with state := .busy, pending := pe } : Loop) = { L with state := .busy } := by rw [← k3]
    rw [e1] at s1 s2
    obtain ⟨fn', dfd', sz', tm', todo', ds', ro'⟩ := f
    have ht : todo' = .beginRound :: t := ht
    subst ht
    exact goal_fr (f1 := frTodo ⟨fn', dfd', sz', tm', .beginRound :: t, ds', ro'⟩ t) hS (.one hstep) s1 (at1.wf hw) s2 (Ub.refl _ _) ⟨hf.fn, hf.kind, hf.sz, hf.rt, hf.ds, hf.ro, hf.rd⟩ hb hr
  · exact .er
omit H in
theorem dr_code (hmix : X.P.follows .mixedOrders = true) {f : Fr} {t : List Item} {id : Nat} {ops : Array Oper} (ht : f.todo = .code (.region id ops true) :: t) (hok : regOk ops.toList (befL [] ops.toList) [] 0 ops.toList = true) {e : AEnd} {bl' : AMode} {M' : Mem} (hS : DrS X.P ⟨befL [] ops.toList, ops.toList, M.nx, []⟩ 0 ops.toList (frTodo f t) bl (memNx M ops.toList.length) e bl' M') : FrS X.P f bl M e bl' M' := by
  obtain ⟨fn, dfd, sz, tm, todo, ds, ro⟩ := f
  have ht : todo = .code (.region id ops true) :: t := ht
  subst ht
  refine ⟨hS.at', fun G w b a c0s cs hs hw hf hb hr => ?_⟩
  have hsch : ∀ tt, Region.schedule (X.P.follows .mixedOrders) ops tt = Region.linearise .any ops tt := fun tt => by
    unfold Region.schedule
    rw [hmix]
    simp
  have hst := stepR_region_draw (P := X.P) (b := b) (a := a) (k := t) (cs := cs) (w := w) (ops := ops) (id := id)
  rw [hsch] at hst
  refine Goal.of (G1 := G) (w1 := { w with drawn := w.drawn + 1 }) (M1 := M) (.one hst) (Ev.congr (M' := M) rfl ⟨rfl, rfl, rfl⟩ (fun _ => rfl) (Nat.le_refl _)) (Ub.refl _ _) ?_
  exact dreg_goal (f := frTodo ⟨fn, dfd, sz, tm, .code (.region id ops true) :: t, ds, ro⟩ t) (w := { w with drawn := w.drawn + 1 }) hS hok (lin_draw (regOk_back hok) (w.tape w.drawn (.order b.fn id))) (hs.congr rfl (fun _ => rfl) (Nat.le_refl _)) hw ⟨hf.fn, hf.kind, hf.sz, hf.rt, hf.ds, hf.ro, hf.rd⟩ hb hr
theorem region_ok (hmix : X.P.follows .mixedOrders = true) {f : Fr} {t : List Item} {id : Nat} {ops : Array Oper} {draw : Bool} (ht : f.todo = .code (.region id ops draw) :: t) : Out er k (jRegion er run ops draw t f bl M k) (FrS X.P f bl M) := by
  obtain ⟨fn, dfd, sz, tm, todo, ds, ro⟩ := f
  have ht : todo = .code (.region id ops draw) :: t := ht
  subst ht
  unfold jRegion
  cases draw with
  | false =>
    refine (H (.reg ops.toList ops.toList (frTodo ⟨fn, dfd, sz, tm, _, ds, ro⟩ t) bl M k)).imp fun e bl' M' hS => ?_
    have hS : RegS X.P ops.toList ops.toList (frTodo ⟨fn, dfd, sz, tm, _, ds, ro⟩ t) bl M e bl' M' := hS
    refine ⟨hS.1, fun G w b a c0s cs hs hw hf hb hr => ?_⟩
    refine goal_reg (f1 := frTodo ⟨fn, dfd, sz, tm, .code (.region id ops false) :: t, ds, ro⟩ t) hS rfl (i := 0) rfl (.one ?_) hs hw (Ev.refl _ _ _) (Ub.refl _ _) (b := b) (a1 := a) ⟨hf.fn, hf.kind, hf.sz, hf.rt, hf.ds, hf.ro, hf.rd⟩ hb hr
    rw [Nat.sub_zero, ← List.range_eq_range']
    exact stepR_region
  | true =>
    show Out er k (jRegD er run (befL [] ops.toList) ops.toList t ⟨fn, dfd, sz, tm, _, ds, ro⟩ bl M k) _
    unfold jRegD
    cases hok : regOk ops.toList (befL [] ops.toList) [] 0 ops.toList with
    | false => exact .er
    | true =>
      refine (H (.dreg ⟨befL [] ops.toList, ops.toList, M.nx, []⟩ 0 ops.toList (frTodo ⟨fn, dfd, sz, tm, _, ds, ro⟩ t) bl (memNx M ops.toList.length) k)).imp fun e bl' M' hS => ?_
      have hS : DrS X.P ⟨befL [] ops.toList, ops.toList, M.nx, []⟩ 0 ops.toList (frTodo ⟨fn, dfd, sz, tm, _, ds, ro⟩ t) bl (memNx M ops.toList.length) e bl' M' := hS
      refine ⟨hS.at', fun G w b a c0s cs hs hw hf hb hr => ?_⟩
      have hsch : ∀ tt, Region.schedule (X.P.follows .mixedOrders) ops tt = Region.linearise .any ops tt := fun tt => by
        unfold Region.schedule
        rw [hmix]
        simp
      have hst := stepR_region_draw (P := X.P) (b := b) (a := a) (k := t) (cs := cs) (w := w) (ops := ops) (id := id)
      rw [hsch] at hst
      refine Goal.of (G1 := G) (w1 := { w with drawn := w.drawn + 1 }) (M1 := M) (.one hst) (Ev.congr (M' := M) rfl ⟨rfl, rfl, rfl⟩ (fun _ => rfl) (Nat.le_refl _)) (Ub.refl _ _) ?_
      exact dreg_goal (f := frTodo ⟨fn, dfd, sz, tm, .code (.region id ops true) :: t, ds, ro⟩ t) (w := { w with drawn := w.drawn + 1 }) hS hok (lin_draw (regOk_back hok) (w.tape w.drawn (.order b.fn id))) (hs.congr rfl (fun _ => rfl) (Nat.le_refl _)) hw ⟨hf.fn, hf.kind, hf.sz, hf.rt, hf.ds, hf.ro, hf.rd⟩ hb hr
end
end Go.Proofs.YtpflobodmglmaaaGreat
set_option linter.unusedVariables false
set_option maxHeartbeats 4000000
namespace Go.Proofs.YtpflobodmglmaaaGreat
section
variable {R : Type} {X : Cx} {er : Nat → R} {run : Job R → R} {k : K R} {bl : AMode} {M : Mem}
theorem invoke_fn {P : Program} (hP : POk P) {f : Nat} {fn : Func} (h1 : P.funcs[f]? = some fn) (h2 : fn.body.isSome = true) (cap args : Array Value) (w : World) : (invoke (.fn (.func f) cap) args).run P w = .ok (.enter f (args ++ cap)) w := by
  have h3 := hP.2 f fn h1 h2
  have h4 : fn.body.isNone = false := by cases hb : fn.body with | none => rw [hb] at h2; cases h2 | some c => rfl
  simp only [invoke, callFunc, Sem.run_bind]
  simp [program, Sem.run, h1, h3, h4, Result.andThen]
theorem ofValue_fn {P : Program} {f : Nat} {first cap vs : Array Value} {w : World} : (Deferred.ofValue (.func (.func f) first cap) vs).run P w = .ok { target := .fn (.func f) cap, args := first ++ vs } w := rfl
/-- Rows of values, one behind the other. -/
theorem RVs.append {G : Gh} {a b : Array Value} {as bs : List AV} (h : RVs G a as) (k : RVs G b bs) : RVs G (a ++ b) (as ++ bs) := by
  refine ⟨by rw [Array.size_append, List.length_append, h.len, k.len], fun j v x h1 h2 => ?_⟩
  rw [Array.getElem?_append] at h1
  rw [List.getElem?_append] at h2
  by_cases e : j < a.size
  · rw [if_pos e] at h1
    rw [if_pos (by rw [← h.len]; exact e)] at h2
    exact h.at' j v x h1 h2
  · rw [if_neg e] at h1
    rw [if_neg (by rw [← h.len]; exact e), ← h.len] at h2
    exact k.at' _ v x h1 h2
theorem RVs.one {G : Gh} {v : Value} {a : AV} (h : RV G v a) : RVs G #[v] [a] := by
  refine ⟨rfl, fun j u x h1 h2 => ?_⟩
  cases j with
  | zero => cases h1; cases h2; exact h
  | succ j => simp at h1
theorem fn_rvs {G : Gh} {f : Nat} {v : Value} {as bs : List AV} (h : RV G v (.fn f as bs)) : ∃ fs cs, v = .func (.func f) fs cs ∧ RVs G fs as ∧ RVs G cs bs := by
  cases h with
  | fn hl hr hl2 hr2 => exact ⟨_, _, rfl, ⟨hl, hr⟩, ⟨hl2, hr2⟩⟩
/-- Entering a loop: the memories with the loop's record, and the frame with the mark. -/
theorem enter_loop {P : Program} {G : Gh} {w : World} {fn sz : Nat} {dfd : Bool} {tm : Tr AV} {todo : List Item} {ds : List AD} {ro : Option Nat} {b : Frame} {a : Act} {ps : Array Nat} {as body : Code} (hs : St G w M) (hro : roOk M ro = true) (hf : FrR G ⟨fn, dfd, sz, tm, todo, ds, ro⟩ b a) :
    ∃ G1 w1 r mark, (Instr.enterLoop b.fn a.tmps ps as body b.roundOf).run P w = .ok (r, mark) w1 ∧ G1.phi (M.nx + 1) = some (r, 0) ∧ St G1 w1 ⟨(M.h.set M.nx .dfr).set (M.nx + 1) (.loop fn sz tm ps as body (dfrOf M ro) .ready none), M.nx + 2, M.lg⟩ ∧
      Ev G w M G1 w1 ⟨(M.h.set M.nx .dfr).set (M.nx + 1) (.loop fn sz tm ps as body (dfrOf M ro) .ready none), M.nx + 2, M.lg⟩ ∧ Ub (· < M.nx) G G1 ∧ ∀ todo', FrR G1 ⟨fn, dfd, sz, tm, todo', dsRange ro M.nx ds, ro⟩ b { a with defers := mark ++ a.defers } := by
  have hfn : b.fn = fn := hf.fn
  have hsz : a.tmps.size = sz := hf.sz
  have hrt : RT G a.tmps tm := hf.rt
  have hds : DsR G a.defers ds := hf.ds
  have f1 : G.phi M.nx = none := phi_none hs (Nat.le_refl _)
  have f2 : G.phi (M.nx + 1) = none := phi_none hs (Nat.le_succ _)
  obtain ⟨sN, eN⟩ := nx_ok (n := 2) hs
  cases ro with
  | none =>
    have hb0 : b.roundOf = none := hf.ro
    have he := run_enterLoop_outer (P := P) (w := w) b.fn a.tmps ps as body
    rw [hb0]
    obtain ⟨s1, e1⟩ := sN.alloc (fid := M.nx) (n := 0) (ob := .deferred (some [])) (k := .dfr) f1 (by show M.nx < M.nx + 2; omega) ⟨rfl, heap_push_eq⟩ (by simp)
    have le1 := e1.le
    have f2' : (G.new M.nx w.heap.size 0).phi (M.nx + 1) = none := by show (if M.nx + 1 = M.nx then _ else _) = _; rw [if_neg (by omega)]; exact f2
    have p1 : (G.new M.nx w.heap.size 0).phi M.nx = some (w.heap.size, 0) := if_pos rfl
    obtain ⟨s2, e2⟩ := s1.alloc (fid := M.nx + 1) (n := 0) (ob := .loop { state := .ready, pending := none, fn := b.fn, tmps := a.tmps, params := ps, assign := as, body, defers := w.heap.size }) (k := .loop fn sz tm ps as body M.nx .ready none) f2' (by show M.nx + 1 < M.nx + 2; omega)
      (by
        have le2 := Gh.new_le (fid := M.nx + 1) (n := 0) s1 f2'
        exact ⟨rfl, a.tmps, w.heap.size, by rw [← hfn]; exact heap_push_eq, hsz, (hrt.mono le1).mono le2, le2.phi _ _ p1⟩) (by simp)
    have le2 := e2.le
    refine ⟨_, _, _, _, he, ?_, s2, (eN.trans e1).trans e2, fun id hid e => ?_, fun todo' => ⟨hf.fn, hf.kind, hf.sz, (hrt.mono le1).mono le2, ⟨⟨_, rfl, le2.phi _ _ p1⟩, (hds.mono le1).mono le2⟩, hb0, hf.rd⟩⟩
    · show (if M.nx + 1 = M.nx + 1 then _ else _) = _
      rw [if_pos rfl]
      show some ((w.heap.push _).size, 0) = _
      rw [Array.size_push]
    · have hid : id < M.nx := hid
      show (if id = M.nx + 1 then _ else if id = M.nx then _ else _) = _
      rw [if_neg (by omega), if_neg (by omega)]
      exact e
  | some l =>
    obtain ⟨r, hb0, hp⟩ : ∃ r, b.roundOf = some r ∧ G.phi l = some (r, 0) := hf.ro
    have hrd : dfd = false := hf.rd (by simp)
    have hlb : ∃ fn' sz' tm' ps' as' body' d' st' pe', M.h.get l = some (.loop fn' sz' tm' ps' as' body' d' st' pe') := by
      unfold roOk at hro
      dsimp only at hro
      split at hro
      · rename_i h; exact ⟨_, _, _, _, _, _, _, _, _, h⟩
      · cases hro
    obtain ⟨fn', sz', tm', ps', as', body', d', st', pe', hl⟩ := hlb
    obtain ⟨L, k1, k2, k3, k4, k5, k6, k7, k8, k9, k10, k11⟩ := loop_put hs hl hp
    have he := run_enterLoop_inner (P := P) k1 b.fn a.tmps ps as body
    rw [hb0]
    have hd : dfrOf M (some l) = d' := by unfold dfrOf; dsimp only; rw [hl]
    rw [hd]
    obtain ⟨s2, e2⟩ := sN.alloc (fid := M.nx + 1) (n := 0) (ob := .loop { state := .ready, pending := none, fn := b.fn, tmps := a.tmps, params := ps, assign := as, body, defers := L.defers }) (k := .loop fn sz tm ps as body d' .ready none) f2 (by show M.nx + 1 < M.nx + 2; omega)
      (by
        have le2 := Gh.new_le (fid := M.nx + 1) (n := 0) hs f2
        exact ⟨rfl, a.tmps, L.defers, by rw [← hfn]; exact heap_push_eq, hsz, hrt.mono le2, le2.phi _ _ k10⟩) (by simp)
    have le2 := e2.le
    have ph : ∀ id, (G.new (M.nx + 1) w.heap.size 0).phi id ≠ none → id ≠ M.nx := fun id h e => by
      rw [e] at h
      refine h ?_
      show (if M.nx = M.nx + 1 then _ else _) = _
      rw [if_neg (by omega)]
      exact f1
    have ogs : ∀ id, id ≠ M.nx → og ⟨(M.h.set M.nx .dfr).set (M.nx + 1) (.loop fn sz tm ps as body d' .ready none), M.nx + 2, M.lg⟩ id = og (newB (memNx M 2) (M.nx + 1) (.loop fn sz tm ps as body d' .ready none)) id := fun id hne => by
      refine og_get ?_
      show ((M.h.set M.nx .dfr).set (M.nx + 1) _).get id = (M.h.set (M.nx + 1) _).get id
      by_cases e : M.nx + 1 = id
      · rw [← e, get_set_self, get_set_self]
      · rw [get_set_ne _ _ e, get_set_ne _ _ e]
        exact get_set_ne _ _ (fun e => hne e.symm)
    refine ⟨_, _, _, _, he, if_pos rfl, s2.ofOg (fun id h => .inl (ogs id (ph id h))) (fun id b bs h => s2.fresh id b bs h), ?_, fun id hid e => ?_, fun todo' => ⟨hf.fn, hf.kind, hf.sz, hrt.mono le2, ?_, ⟨r, hb0, le2.phi _ _ hp⟩, hf.rd⟩⟩
    · refine (eN.trans e2).ofOg (fun _ _ o => o) (fun id h o => ?_) (by show M.nx ≤ M.nx + 2; omega)
      have hne : id ≠ M.nx := fun e => h (by rw [e]; exact f1)
      have o2 := (own_cong (ogs id hne)).1 o
      rcases e2.dom id o2 with o3 | o3
      · exact o3
      · exact absurd o3 h
    · have hid : id < M.nx := hid
      show (if id = M.nx + 1 then _ else _) = _
      rw [if_neg (by omega)]
      exact e
    · show DsR _ ([] ++ a.defers) ds
      rw [List.nil_append]
      exact hds.mono le2
theorem enter_at {fn sz d : Nat} {tm : Tr AV} {ps : Array Nat} {as body : Code} : AT (M.nx ≤ ·) M ⟨(M.h.set M.nx .dfr).set (M.nx + 1) (.loop fn sz tm ps as body d .ready none), M.nx + 2, M.lg⟩ := by
  have gm : ∀ id, ¬ M.nx ≤ id → ((M.h.set M.nx .dfr).set (M.nx + 1) (.loop fn sz tm ps as body d .ready none)).get id = M.h.get id := fun id h => by rw [get_set_ne _ _ (by omega), get_set_ne _ _ (by omega)]
  have gm2 : ∀ id, M.nx + 2 ≤ id → ((M.h.set M.nx .dfr).set (M.nx + 1) (.loop fn sz tm ps as body d .ready none)).get id = M.h.get id := fun id h => by rw [get_set_ne _ _ (by omega), get_set_ne _ _ (by omega)]
  refine ⟨by show M.nx ≤ M.nx + 2; omega, ⟨[], rfl, fun id h _ => gm id h⟩, fun id ⟨q, h1, h2⟩ => ?_, fun hw id ⟨q, h1, h2⟩ => ?_⟩
  · by_cases e : M.nx ≤ id
    · exact .inr e
    · exact .inl ⟨q, by rw [← gm id e]; exact h1, h2⟩
  · by_cases e : M.nx + 2 ≤ id
    · have := hw id ⟨q, by rw [← gm2 id e]; exact h1, h2⟩
      show id < M.nx + 2
      omega
    · show id < M.nx + 2
      omega
end
end Go.Proofs.YtpflobodmglmaaaGreat
set_option linter.unusedVariables false
set_option maxHeartbeats 4000000
namespace Go.Proofs.YtpflobodmglmaaaGreat
section
variable {R : Type} {X : Cx} {er : Nat → R} {run : Job R → R} {k : K R} {bl : AMode} {M : Mem}
theorem resolve_range {P : Program} {a : Act} {g : Operand} {r : Nat} {w : World} : (resolve a.eval (rangeCall g r) 0).run P w = (Deferred.ofValue (a.eval g) #[.func (.yield r) #[] #[]]).run P w := by
  have : (#[.const (.func (.yield r) #[] #[])] : Array Operand).map a.eval = #[.func (.yield r) #[] #[]] := by simp [Act.eval]
  simp only [resolve, this]
theorem out_call (H : ∀ j, Out er j.k (run j) (JobS X.P j)) {j : Job R} {S : AEnd → AMode → Mem → Prop} (h : ∀ e bl M, JobS X.P j e bl M → Out er k (j.k e bl M) S) : Out er k (run j) S := by
  rcases H j with ⟨c, hc⟩ | ⟨e, bl, M, h1, h2⟩
  · exact .inl ⟨c, hc⟩
  · rw [h1]; exact h e bl M h2
variable (hP : POk X.P) (H : ∀ j, Out er j.k (run j) (JobS X.P j))
include hP H
theorem range_ok {f : Fr} {t : List Item} {g : Operand} {ps : Array Nat} {as body : Code} (ht : f.todo = .code (.rangeFunc g ps as body) :: t) : Out er k (jRange er run (evA f.tm g) ps as body t f bl M k) (FrS X.P f bl M) := by
  obtain ⟨fn, dfd, sz, tm, todo, ds, ro⟩ := f
  have ht : todo = .code (.rangeFunc g ps as body) :: t := ht
  subst ht
  obtain ⟨h, nx, lg⟩ := M
  unfold jRange
  split
  · rename_i gf first cap h' nx' lg' fn' dfd' sz' tm' todo' ds' ro' heg hM hf
    cases hM
    cases hf
    cases hro : roOk ⟨h, nx, lg⟩ ro with
    | false => exact .er
    | true =>
      simp only [cond_true]
      refine out_call H (fun e bl2 M2 hS => ?_)
      · dsimp only [Job.k]
        replace hS : CallS X.P gf (first ++ .yld (nx + 1) :: cap) false .run _ e bl2 M2 := hS
        obtain ⟨⟨fg, hfg1, hfg2⟩, at2, hS⟩ := hS
        have at1 : AT ((⟨h, nx, lg⟩ : Mem).nx ≤ ·) ⟨h, nx, lg⟩ _ := enter_at (M := ⟨h, nx, lg⟩) (fn := fn) (sz := sz) (tm := tm) (ps := ps) (as := as) (body := body) (d := dfrOf ⟨h, nx, lg⟩ ro)
        have at12 := at_of at1 at2
        -- the machine, up to the function's end
        have go : ∀ (G : Gh) (w : World) (b : Frame) (a : Act) (cs : List Frame), St G w ⟨h, nx, lg⟩ → WfM ⟨h, nx, lg⟩ → FrR G ⟨fn, dfd, sz, tm, .code (.rangeFunc g ps as body) :: t, ds, ro⟩ b a →
            ∃ G2 w2 r a1 E, Steps X.P (lone (b.atR a (.code (.rangeFunc g ps as body) :: t)) cs w) (lone (back (b.atR a1 (.inRangeFunc r :: t)) E) cs w2) ∧ RE G2 E e ∧ St G2 w2 M2 ∧ Ev G w ⟨h, nx, lg⟩ G2 w2 M2 ∧ Ub (· < nx) G G2 ∧ G2.phi (nx + 1) = some (r, 0) ∧ ∀ todo', FrR G2 ⟨fn, dfd, sz, tm, todo', dsRange ro nx ds, ro⟩ b a1 := fun G w b a cs hs hw hf => by
          obtain ⟨G1, w1, r, mark, l1, l2, l3, l4, l5, l6⟩ := enter_loop (P := X.P) (ps := ps) (as := as) (body := body) hs hro hf
          have hg : RV G1 (a.eval g) (.fn gf first cap) := by
            have := hf.rt.eval g
            have h2 : RV G (a.eval g) (evA tm g) := this
            rw [heg] at h2
            exact h2.mono l4.le
          obtain ⟨fs, cps, v1, v2, v3⟩ := fn_rvs hg
          have hres : (resolve a.eval (rangeCall g r) 0).run X.P w1 = .ok { target := .fn (.func gf) cps, args := fs ++ #[.func (.yield r) #[] #[]] } w1 := by
            rw [resolve_range, v1]; rfl
          have hinv := invoke_fn hP hfg1 hfg2 cps (fs ++ #[.func (.yield r) #[] #[]]) w1
          have hst := stepR_rangeFunc (P := X.P) (k := t) (cs := cs) l1 hres hinv
          have hargs : RVs G1 (fs ++ #[.func (.yield r) #[] #[]] ++ cps) (first ++ .yld (nx + 1) :: cap) := by
            have := (v2.append (RVs.one (.yld l2))).append v3
            rw [List.append_assoc] at this
            exact this
          obtain ⟨G2, w2, cs2, E, m2, g1, g2, g3, g4, g5, g6, g7⟩ := hS G1 w1 _ (b.atR { a with defers := mark ++ a.defers } (.inRangeFunc r :: t) :: cs) (b.atR { a with defers := mark ++ a.defers } (.inRangeFunc r :: t) :: cs) l3 (at1.wf hw) hargs rfl
          have g2 : cs2 = _ := g2
          subst g2
          obtain ⟨fr, rfl, _, hlv⟩ := g3
          have hlv : fr.leaving X.P w2 E := hlv
          have hsteps : Steps X.P (lone (b.atR a (.code (.rangeFunc g ps as body) :: t)) cs w) (lone fr (b.atR { a with defers := mark ++ a.defers } (.inRangeFunc r :: t) :: cs) w2) := .head hst g1
          refine ⟨G2, w2, r, { a with defers := mark ++ a.defers }, E, ?_, g4, g5, l4.trans g6, l5.trans (g7.mono fun id hid => by have hid : id < nx := hid; show id < nx + 2; omega), g6.le.phi _ _ l2, fun todo' => (l6 todo').mono g6.le⟩
          cases E with
          | outgrown => cases e <;> exact g4.elim
          | returned v => exact hsteps.trans (.one (step_leave_returned hlv))
          | panicked ch => exact hsteps.trans (.one (step_leave_panicked hlv))
        cases e with
        | ret v =>
          dsimp only
          unfold jRange2
          split
          · rename_i fn2 sz2 tm2 ps2 as2 body2 d2 st2 pe2 h2 nx2 lg2 hl2
            split
            · exact .er
            · rename_i hbusy
              refine (run_fr H _ bl _ k).imp fun e' bl' M' hS' => ?_
              have hS2 : FrS X.P (frTodo ⟨fn, dfd, sz, tm, .code (.rangeFunc g ps as body) :: t, dsRange ro nx ds, ro⟩ ((pe2.map Item.code).toList ++ t)) bl ⟨h2.set (nx + 1) (.loop fn2 sz2 tm2 ps2 as2 body2 d2 .exhausted pe2), nx2, (nx + 1) :: lg2⟩ e' bl' M' := by cases pe2 <;> exact hS'
              have at3 : AT ((⟨h2, nx2, lg2⟩ : Mem).nx ≤ ·) ⟨h2, nx2, lg2⟩ _ := at_set (k := .loop fn2 sz2 tm2 ps2 as2 body2 d2 .exhausted pe2) (own_loop hl2)
              have at13 := at_of at12 at3
              refine ⟨at_of at13 hS'.1, fun G w b a c0s cs hs hw hf hb hr => ?_⟩
              obtain ⟨G2, w2, r, a1, E, q1, q2, q3, q4, q5, q6, q7⟩ := go G w b a cs hs hw hf
              cases E with
              | outgrown => exact q2.elim
              | panicked ch => exact q2.elim
              | returned x =>
                obtain ⟨L, k1, k2, k3, k4, k5, k6, k7, k8, k9, k10, k11⟩ := loop_put q3 hl2 q6
                have hend := run_endLoop (P := X.P) k1 (by rw [k2]; exact hbusy)
                obtain ⟨s1, s2⟩ := k11 .exhausted pe2
                rw [k3] at hend
                have hbk : back (b.atR a1 (.inRangeFunc r :: t)) (.returned x) = b.atR a1 (.endRangeFunc r :: t) := finish_atR_inRangeFunc r x
                rw [hbk] at q1
                have hst := stepR_endRangeFunc (P := X.P) (b := b) (a := a1) (k := t) (cs := cs) hend
                exact goal_fr (f1 := frTodo ⟨fn, dfd, sz, tm, .code (.rangeFunc g ps as body) :: t, dsRange ro nx ds, ro⟩ ((pe2.map Item.code).toList ++ t)) hS2 (q1.trans (.one hst)) s1 (at13.wf hw) (q4.trans s2) q5 (q7 _) hb hr
          · exact .er
        | pan ch =>
          dsimp only
          refine (run_lv H _ _ bl _ k).imp fun e' bl' M' hS' => ?_
          refine ⟨at_of at12 hS'.1, fun G w b a c0s cs hs hw hf hb hr => ?_⟩
          obtain ⟨G2, w2, r, a1, E, q1, q2, q3, q4, q5, q6, q7⟩ := go G w b a cs hs hw hf
          cases E with
          | outgrown => exact q2.elim
          | returned x => exact q2.elim
          | panicked pc =>
            have hlv : LvR G2 ⟨fn, dfd, sz, tm, .code (.rangeFunc g ps as body) :: t, dsRange ro nx ds, ro⟩ (.pan ch) (back (b.atR a1 (.inRangeFunc r :: t)) (.panicked pc)) :=
              (q7 (.code (.rangeFunc g ps as body) :: t)).lv (m := .panicking pc) (u := .pan ch) q2 (by simp)
            exact goal_lv (f1 := ⟨fn, dfd, sz, tm, .code (.rangeFunc g ps as body) :: t, dsRange ro nx ds, ro⟩) hS' q1 q3 (at12.wf hw) q4 q5 hlv hb hr
  · exact .er
end
end Go.Proofs.YtpflobodmglmaaaGreat
set_option linter.unusedVariables false
set_option maxHeartbeats 4000000
namespace Go.Proofs.YtpflobodmglmaaaGreat
section
variable {R : Type} {X : Cx} {er : Nat → R} {run : Job R → R} {k : K R} {bl : AMode} {M : Mem} {f : Fr} {o : Oper} {all rest : List Oper}
theorem range_cons {i n : Nat} (h : i < n) : List.range' i (n - i) = i :: List.range' (i + 1) (n - (i + 1)) := by
  rw [show n - i = (n - (i + 1)) + 1 by omega]
  rfl
theorem drop_cons {ops : Array Oper} {i : Nat} (h1 : ops.toList = all) (h2 : all.drop i = o :: rest) : i < ops.size ∧ ops[i]? = some o ∧ all.drop (i + 1) = rest := by
  subst h1
  have h3 : ops.toList[i]? = some o := by
    have := congrArg List.head? h2
    rw [List.head?_drop] at this
    exact this
  have hlt : i < ops.size := by
    have := (List.getElem?_eq_some_iff.1 h3).1
    simpa using this
  refine ⟨hlt, by simpa using h3, ?_⟩
  have := congrArg List.tail h2
  rw [List.tail_drop] at this
  exact this
theorem frPut_ok {P : Program} {G : Gh} {b : Frame} {a : Act} {v : Value} {x : AV} (hf : FrR G f b a) (hv : RV G v x) : FrR G (frPut f o x) b (a.put o.dst v) := by
  obtain ⟨fn, dfd, sz, tm, todo, ds, ro⟩ := f
  obtain ⟨r1, r2, r3⟩ := RT.put (o := o) (show RT G a.tmps tm from hf.rt) hf.sz hv
  exact ⟨hf.fn, hf.kind, r2, r1, by show DsR G (a.put o.dst v).defers ds; rw [r3]; exact hf.ds, hf.ro, hf.rd⟩
/-- One operation of the region brings a value. -/
theorem reg_go {r : R} {x : AV} {M1 : Mem} (h : Out er k r (RegS X.P all rest (frPut f o x) bl M1)) (at1 : AT (M.nx ≤ ·) M M1)
    (hst : ∀ (ops : Array Oper) (i : Nat) (G : Gh) (w : World) (b : Frame) (a : Act) (cs : List Frame), ops.toList = all → ops[i]? = some o → St G w M → WfM M → FrR G f b a → ∃ G1 w1 v, Steps X.P (lone (b.atR a (.inRegion ops (i :: List.range' (i + 1) (ops.size - (i + 1))) :: f.todo)) cs w) (lone (b.atR (a.put o.dst v) (.inRegion ops (List.range' (i + 1) (ops.size - (i + 1))) :: f.todo)) cs w1) ∧ RV G1 v x ∧ St G1 w1 M1 ∧ Ev G w M G1 w1 M1 ∧ Ub (· < M.nx) G G1) :
    Out er k r (RegS X.P all (o :: rest) f bl M) := by
  refine h.imp fun e bl' M' hS => ⟨at_of at1 hS.1, fun ops i G w b a c0s cs h1 h2 hs hw hf hb hr => ?_⟩
  obtain ⟨hlt, ho, hd⟩ := drop_cons h1 h2
  obtain ⟨G1, w1, v, s1, r1, t1, e1, u1⟩ := hst ops i G w b a cs h1 ho hs hw hf
  rw [range_cons hlt]
  have fr1 := frPut_ok (P := X.P) (o := o) (hf.mono e1.le) r1
  obtain ⟨fn, dfd, sz, tm, todo, ds, ro⟩ := f
  exact goal_reg (f1 := frPut ⟨fn, dfd, sz, tm, todo, ds, ro⟩ o x) hS h1 hd s1 t1 (at1.wf hw) e1 u1 fr1 hb hr
/-- One operation of the region panics. -/
theorem reg_lv {r : R} {ch : List AE} {M1 : Mem} (h : Out er k r (LvS X.P f (.pan ch) bl M1)) (at1 : AT (M.nx ≤ ·) M M1)
    (hst : ∀ (ops : Array Oper) (i : Nat) (G : Gh) (w : World) (b : Frame) (a : Act) (cs : List Frame) (l : List Nat), ops.toList = all → ops[i]? = some o → St G w M → WfM M → FrR G f b a → ∃ G1 w1 pc, Steps X.P (lone (b.atR a (.inRegion ops (i :: l) :: f.todo)) cs w) (lone ((b.atR a (.inRegion ops (i :: l) :: f.todo)).raise pc) cs w1) ∧ RCh G1 pc ch ∧ St G1 w1 M1 ∧ Ev G w M G1 w1 M1 ∧ Ub (· < M.nx) G G1) :
    Out er k r (RegS X.P all (o :: rest) f bl M) := by
  refine h.imp fun e bl' M' hS => ⟨at_of at1 hS.1, fun ops i G w b a c0s cs h1 h2 hs hw hf hb hr => ?_⟩
  obtain ⟨hlt, ho, hd⟩ := drop_cons h1 h2
  rw [range_cons hlt]
  obtain ⟨G1, w1, pc, s1, r1, t1, e1, u1⟩ := hst ops i G w b a cs (List.range' (i + 1) (ops.size - (i + 1))) h1 ho hs hw hf
  exact goal_lv hS s1 t1 (at1.wf hw) e1 u1 ((hf.mono e1.le).lv (m := .panicking pc) (u := .pan ch) r1 (by simp)) hb hr
theorem run_cv (H : ∀ j, Out er j.k (run j) (JobS X.P j)) (hP : POk X.P) {g : AV} {as : List AV} {nxt : AV → Mem → R} {pan : List AE → Mem → R} :
    (∃ c, jCallV er run g as M nxt pan = er c) ∨ (∃ v M2, jCallV er run g as M nxt pan = nxt v M2 ∧ CvS X.P g as M (.ret v) M2) ∨ ∃ ch M2, jCallV er run g as M nxt pan = pan ch M2 ∧ CvS X.P g as M (.pan ch) M2 := by
  unfold jCallV
  split
  · rename_i gf first cap
    have key : ∀ e bl M2, CallS X.P gf (first ++ (as ++ cap)) false .run M e bl M2 → CvS X.P (.fn gf first cap) as M e M2 := fun e bl M2 ⟨⟨fg, f1, f2⟩, at2, hS⟩ => by
      refine ⟨at2, fun G w gv vs hs hw hg hvs => ?_⟩
      obtain ⟨fs, cps, v1, v2, v3⟩ := fn_rvs hg
      subst v1
      have hargs : RVs G (fs ++ vs ++ cps) (first ++ (as ++ cap)) := by rw [← List.append_assoc]; exact (v2.append hvs).append v3
      refine ⟨_, _, ofValue_fn, invoke_fn hP f1 f2 cps (fs ++ vs) w, .inl ⟨_, _, rfl⟩, fun c cs => ?_⟩
      obtain ⟨G2, w2, cs2, E, m2, g1, g2, g3, g4, g5, g6, g7⟩ := hS G w _ (c :: cs) (c :: cs) hs hw hargs rfl
      have g2 : cs2 = _ := g2
      subst g2
      obtain ⟨fr, rfl, _, hlv⟩ := g3
      have hlv : fr.leaving X.P w2 E := hlv
      refine ⟨G2, w2, E, ?_, g4, g5, g6, g7⟩
      cases E with
      | outgrown => cases e <;> exact g4.elim
      | returned v => exact Steps.trans g1 (.one (step_leave_returned hlv))
      | panicked ch => exact Steps.trans g1 (.one (step_leave_panicked hlv))
    rcases H (.call gf (first ++ (as ++ cap)) false .run M fun e _ M2 => match e with | .ret v => nxt v M2 | .pan ch => pan ch M2) with ⟨c, hc⟩ | ⟨e, bl2, M2, hc, hS⟩
    · exact .inl ⟨c, hc⟩
    · cases e with
      | ret v => exact .inr (.inl ⟨v, M2, hc, key _ _ _ hS⟩)
      | pan ch => exact .inr (.inr ⟨ch, M2, hc, key _ _ _ hS⟩)
  · rename_i l
    have key : ∀ e bl M2, YldS X.P l as M e bl M2 → CvS X.P (.yld l) as M e M2 := fun e bl M2 ⟨at2, hS⟩ => by
      refine ⟨at2, fun G w gv vs hs hw hg hvs => ?_⟩
      cases hg with
      | @yld _ _ r hp =>
        obtain ⟨fn, tm, bas, body, hr, _⟩ := hS G w r vs default [] hs hw hp hvs
        refine ⟨{ target := .fn (.yield r) #[], args := #[] ++ vs }, _, rfl, by simpa [invoke] using hr, .inr ⟨r, fn, tm, bas, body, rfl⟩, fun c cs => ?_⟩
        obtain ⟨fn', tm', bas', body', hr', hG⟩ := hS G w r vs c cs hs hw hp hvs
        rw [hr] at hr'
        cases hr'
        obtain ⟨G2, w2, cs2, E, m2, g1, g2, g3, g4, g5, g6, g7⟩ := hG
        have g2 : cs2 = _ := g2
        subst g2
        obtain ⟨c', cs', hcc, hE⟩ := g3
        cases hcc
        refine ⟨G2, w2, E, ?_, g4, g5, g6, g7⟩
        cases E with
        | outgrown => exact hE.elim
        | returned v => have hE : m2 = _ := hE; rw [hE] at g1; exact g1
        | panicked ch => have hE : m2 = _ := hE; rw [hE] at g1; exact g1
    rcases H (.yld l as M fun e _ M2 => match e with | .ret v => nxt v M2 | .pan ch => pan ch M2) with ⟨c, hc⟩ | ⟨e, bl2, M2, hc, hS⟩
    · exact .inl ⟨c, hc⟩
    · cases e with
      | ret v => exact .inr (.inl ⟨v, M2, hc, key _ _ _ hS⟩)
      | pan ch => exact .inr (.inr ⟨ch, M2, hc, key _ _ _ hS⟩)
  · exact .inl ⟨_, rfl⟩
end
end Go.Proofs.YtpflobodmglmaaaGreat
set_option linter.unusedVariables false
set_option maxHeartbeats 4000000
namespace Go.Proofs.YtpflobodmglmaaaGreat
section
variable {P : Program} {b : Frame} {a : Act} {k : List Item} {cs cs' : List Frame} {w w' : World} {ops : Array Oper} {i : Nat} {rest : List Nat} {o : Oper} {args : Array Operand} {ts : Array TypeId}
theorem exec_recover {ρ : Operand → Value} (hop : o.op = .call ⟨.builtin .recover, args, ts⟩) : (execOp ρ o).run P w = .ok .recover w := by
  obtain ⟨cs, h⟩ := exec_builtin (P := P) (w := w) (ρ := ρ) hop
  rw [h]
  rfl
theorem step_recover {v : Value} (ho : ops[i]? = some o) (hw : Region.wanted o (yielded ops a.tmps) = true) (hop : o.op = .call ⟨.builtin .recover, args, ts⟩) (hk : b.kind = .deferred) (hb : b.roundOf = none) (hrec : recoverD cs = some (v, cs')) :
    step P (lone (b.atR a (.inRegion ops (i :: rest) :: k)) cs w) = .next (lone (b.atR (a.put o.dst v) (.inRegion ops rest :: k)) cs' w) := by
  have hf := Frame.finish_atR b a ops i rest k v
  rw [ho, Option.bind_some] at hf
  rw [← hf]
  refine step_lone_go ?_
  have hr := exec_recover (P := P) (w := w) (ρ := a.eval) hop
  have htr := tryRecover_deferred (fr := b.atR a (.inRegion ops (i :: rest) :: k)) hk cs
  rw [stepGR_op ho hw, Oper.semAt_eq _ _ _ (by rw [hop]; intro c; simp)]
  have hb' : (b.atR a (.inRegion ops (i :: rest) :: k)).roundOf = none := hb
  simp [stepG.apply, Sem.runT_eq, hr, htr, hrec, hb']
theorem step_recover_none (ho : ops[i]? = some o) (hw : Region.wanted o (yielded ops a.tmps) = true) (hop : o.op = .call ⟨.builtin .recover, args, ts⟩) (hk : b.kind = .deferred) (hb : b.roundOf = none) (hrec : recoverD cs = none) :
    step P (lone (b.atR a (.inRegion ops (i :: rest) :: k)) cs w) = .next (lone (b.atR (a.put o.dst .nilIface) (.inRegion ops rest :: k)) cs w) := by
  have hf := Frame.finish_atR b a ops i rest k .nilIface
  rw [ho, Option.bind_some] at hf
  rw [← hf]
  refine step_lone_go ?_
  have hr := exec_recover (P := P) (w := w) (ρ := a.eval) hop
  have htr := tryRecover_deferred (fr := b.atR a (.inRegion ops (i :: rest) :: k)) hk cs
  rw [stepGR_op ho hw, Oper.semAt_eq _ _ _ (by rw [hop]; intro c; simp)]
  have hb' : (b.atR a (.inRegion ops (i :: rest) :: k)).roundOf = none := hb
  simp [stepG.apply, Sem.runT_eq, hr, htr, hrec, hb']
theorem step_deferop {g : Operand} {d : Deferred} (ho : ops[i]? = some o) (hw : Region.wanted o (yielded ops a.tmps) = true) (hop : o.op = .defer ⟨.value g, args, ts⟩) (hb : b.roundOf = none) (hd : (Deferred.ofValue (a.eval g) (args.map a.eval)).run P w = .ok d w) :
    step P (lone (b.atR a (.inRegion ops (i :: rest) :: k)) cs w) = .next (lone (b.atR ({ a with defers := d :: a.defers }.put o.dst undef) (.inRegion ops rest :: k)) cs w) := by
  have hf := Frame.finish_atR b { a with defers := d :: a.defers } ops i rest k undef
  rw [ho, Option.bind_some] at hf
  rw [← hf]
  refine step_lone_go ?_
  have hr : (execOp a.eval o).run P w = .ok (.defer d) w := by
    unfold execOp
    rw [hop]
    simp only [resolve, Sem.run_bind, hd, Result.andThen_ok, Sem.run_pure]
  rw [stepGR_op ho hw, hb, Oper.semAt_none]
  simp [stepG.apply, Sem.runT_eq, hr, Frame.atR]
end
section
variable {R : Type} {X : Cx} {er : Nat → R} {run : Job R → R} {k : K R} {bl : AMode} {M : Mem} {f : Fr} {o : Oper} {all rest : List Oper}
variable (hP : POk X.P) (H : ∀ j, Out er j.k (run j) (JobS X.P j))
include H
theorem run_reg (all rest : List Oper) (f : Fr) (bl : AMode) (M : Mem) (k : K R) : Out er k (run (.reg all rest f bl M k)) (RegS X.P all rest f bl M) := H (.reg all rest f bl M k)
theorem xop_ok (htr : X.tr = false) (hw : wantA all o f.tm = some true) (hd : ∀ c, o.op ≠ .defer c) : Out er k (xOp X er run o all rest f bl M k) (RegS X.P all (o :: rest) f bl M) := by
  unfold xOp
  have hlt : M.nx < (memNx M 1).nx := Nat.lt_succ_self _
  rcases jOp_cases er o X.ty htr (P := X.P) (ev := evA f.tm) (M := memNx M 1) (fid := M.nx) (fun v M2 => run (.reg all rest (frPut f o v) bl M2 k)) (fun v => run (.lv f (.pan [⟨v, false⟩]) bl M k)) with ⟨c, hc⟩ | ⟨v, M2, hv, hc⟩ | ⟨v, hv, hc⟩
  · exact .inl ⟨c, hc⟩
  · rw [hc]
    have at1 : AT (M.nx ≤ ·) M M2 := at_nx.trans (opA_at hlt hv).1 (fun _ e => e) (fun id e => by have e : id = M.nx := e; show M.nx ≤ id; omega)
    refine reg_go (run_reg H all rest (frPut f o v) bl M2 k) at1 fun ops i G w b a cs h1 ho hs hwf hf => ?_
    obtain ⟨sN, eN⟩ := nx_ok (n := 1) hs
    have fn := phi_none hs (Nat.le_refl M.nx)
    have hwt := wantA_ok (ops := ops) (by rw [h1]; exact hw) hf.rt
    obtain ⟨G1, w1, x, r1, r2, r3, r4, r5⟩ := does_wr sN fn hlt (opA_sound sN fn hlt (fun x => hf.rt.eval x) hv)
    exact ⟨G1, w1, x, .one (step_value ho hwt hd r1), r2, r3, eN.trans r4, r5.mono fun id hid => by have hid : id < M.nx := hid; omega⟩
  · rw [hc]
    refine reg_lv (run_lv H f (.pan [⟨v, false⟩]) bl M k) (AT.refl _ _) fun ops i G w b a cs l h1 ho hs hwf hf => ?_
    have hwt := wantA_ok (ops := ops) (by rw [h1]; exact hw) hf.rt
    obtain ⟨x, r1, r2, r3⟩ := opA_panic (P := X.P) (w := w) (fun x => hf.rt.eval x) hv
    exact ⟨G, w, _, .one (step_panic ho hwt hd r1), ⟨rfl, rfl, r2, trivial⟩, hs, Ev.refl _ _ _, Ub.refl _ _⟩
include hP
theorem xcall_ok {g : Operand} {args : Array Operand} {ts : Array TypeId} (hop : o.op = .call ⟨.value g, args, ts⟩) (hw : wantA all o f.tm = some true) : Out er k (xCallV g args X er run o all rest f bl M k) (RegS X.P all (o :: rest) f bl M) := by
  unfold xCallV
  have hd : ∀ c, o.op ≠ .defer c := by rw [hop]; intro c; simp
  rcases run_cv H hP (g := evA f.tm g) (as := args.toList.map (evA f.tm)) (M := M) (nxt := fun v M2 => run (.reg all rest (frPut f o v) bl M2 k)) (pan := fun ch M2 => run (.lv f (.pan ch) bl M2 k)) with ⟨c, hc⟩ | ⟨v, M2, hc, hS⟩ | ⟨ch, M2, hc, hS⟩
  · exact .inl ⟨c, hc⟩
  · rw [hc]
    refine reg_go (run_reg H all rest (frPut f o v) bl M2 k) hS.1 fun ops i G w b a cs h1 ho hs hwf hf => ?_
    have hwt := wantA_ok (ops := ops) (by rw [h1]; exact hw) hf.rt
    have ev : ∀ x, RV G (a.eval x) (evA f.tm x) := fun x => hf.rt.eval x
    obtain ⟨d, nx, c1, c2, c3, c4⟩ := hS.2 G w (a.eval g) (args.map a.eval) hs hwf (ev g) (args_rv ev)
    obtain ⟨G', w', E, t1, t2, t3, t4, t5⟩ := c4 (b.atR a (.inRegion ops (i :: List.range' (i + 1) (ops.size - (i + 1))) :: f.todo)) cs
    cases E with
    | outgrown => exact t2.elim
    | panicked ch => exact t2.elim
    | returned x =>
      refine ⟨G', w', x, .head (step_start ho hwt hd (exec_call hop c1 c2) c3) ?_, t2, t3, t4, t5⟩
      have hbk : back (b.atR a (.inRegion ops (i :: List.range' (i + 1) (ops.size - (i + 1))) :: f.todo)) (.returned x) = b.atR (a.put o.dst x) (.inRegion ops (List.range' (i + 1) (ops.size - (i + 1))) :: f.todo) := by
        show (b.atR a (.inRegion ops (i :: _) :: f.todo)).finish x = _
        rw [Frame.finish_atR, ho, Option.bind_some]
      rw [hbk] at t1
      exact t1
  · rw [hc]
    refine reg_lv (run_lv H f (.pan ch) bl M2 k) hS.1 fun ops i G w b a cs l h1 ho hs hwf hf => ?_
    have hwt := wantA_ok (ops := ops) (by rw [h1]; exact hw) hf.rt
    have ev : ∀ x, RV G (a.eval x) (evA f.tm x) := fun x => hf.rt.eval x
    obtain ⟨d, nx, c1, c2, c3, c4⟩ := hS.2 G w (a.eval g) (args.map a.eval) hs hwf (ev g) (args_rv ev)
    obtain ⟨G', w', E, t1, t2, t3, t4, t5⟩ := c4 (b.atR a (.inRegion ops (i :: l) :: f.todo)) cs
    cases E with
    | outgrown => exact t2.elim
    | returned x => exact t2.elim
    | panicked pc => exact ⟨G', w', pc, .head (step_start ho hwt hd (exec_call hop c1 c2) c3) t1, t2, t3, t4, t5⟩
omit hP
theorem xrec_ok {args : Array Operand} {ts : Array TypeId} (hop : o.op = .call ⟨.builtin .recover, args, ts⟩) (hw : wantA all o f.tm = some true) : Out er k (xRec X er run o all rest f bl M k) (RegS X.P all (o :: rest) f bl M) := by
  unfold xRec
  have key : ∀ (v : AV) (bl2 : AMode), f.dfd = true → (∀ (G : Gh) (u : FrameMode) (c : Frame) (cs0 : List Frame), RM G u bl → (∃ x u2, recoverD ({ c with mode := u } :: cs0) = some (x, { c with mode := u2 } :: cs0) ∧ RV G x v ∧ RM G u2 bl2 ∧ u2 ≠ .run) ∨ (recoverD ({ c with mode := u } :: cs0) = none ∧ v = .nili ∧ bl2 = bl)) →
      Out er k (run (.reg all rest (frPut f o v) bl2 M k)) (RegS X.P all (o :: rest) f bl M) := fun v bl2 hdf hrec => by
    refine (run_reg H all rest (frPut f o v) bl2 M k).imp fun e bl' M' hS => ⟨hS.1, fun ops i G w b a c0s cs h1 h2 hs hwf hf hb hr => ?_⟩
    obtain ⟨hlt, ho, hdr⟩ := drop_cons h1 h2
    rw [range_cons hlt]
    have hwt := wantA_ok (ops := ops) (by rw [h1]; exact hw) hf.rt
    have hro : f.ro = none := by
      cases e : f.ro with
      | none => rfl
      | some l => have := hf.rd (by rw [e]; simp); rw [hdf] at this; cases this
    have hb0 : b.roundOf = none := by have := hf.ro; rw [hro] at this; exact this
    have hk : b.kind = .deferred := by rw [hf.kind, hdf]; rfl
    rw [hdf] at hb
    obtain ⟨c, cs0, u, rfl, rfl, hu, hun⟩ := hb
    rcases hrec G u c cs0 hu with ⟨x, u2, q1, q2, q3, q4⟩ | ⟨q1, rfl, rfl⟩
    · have fr1 := frPut_ok (P := X.P) (o := o) hf q2
      obtain ⟨fn, dfd, sz, tm, todo, ds, ro⟩ := f
      have hdf : dfd = true := hdf
      subst hdf
      exact goal_reg (f1 := frPut ⟨fn, true, sz, tm, todo, ds, ro⟩ o v) (bl := bl2) hS h1 hdr (.one (step_recover ho hwt hop hk hb0 q1)) hs hwf (Ev.refl _ _ _) (Ub.refl _ _) fr1 ⟨c, cs0, u2, rfl, rfl, q3, fun _ => q4⟩ hr
    · have fr1 := frPut_ok (P := X.P) (o := o) hf (v := .nilIface) (x := .nili) .nili
      obtain ⟨fn, dfd, sz, tm, todo, ds, ro⟩ := f
      have hdf : dfd = true := hdf
      subst hdf
      exact goal_reg (f1 := frPut ⟨fn, true, sz, tm, todo, ds, ro⟩ o .nili) hS h1 hdr (.one (step_recover_none ho hwt hop hk hb0 q1)) hs hwf (Ev.refl _ _ _) (Ub.refl _ _) fr1 ⟨c, cs0, u, rfl, rfl, hu, hun⟩ hr
  have none_ : (∀ (G : Gh) (u : FrameMode) (c : Frame) (cs0 : List Frame), RM G u bl → recoverD ({ c with mode := u } :: cs0) = none) → f.dfd = true → Out er k (run (.reg all rest (frPut f o .nili) bl M k)) (RegS X.P all (o :: rest) f bl M) := fun h hdf =>
    key .nili bl hdf fun G u c cs0 hu => .inr ⟨h G u c cs0 hu, rfl, rfl⟩
  unfold jRecover
  split
  · rename_i v older hdf
    refine key v (.pan (⟨v, true⟩ :: older)) hdf fun G u c cs0 hu => .inl ?_
    cases u with
    | run => exact hu.elim
    | returning => exact hu.elim
    | panicking ch =>
      cases ch with
      | nil => exact hu.elim
      | cons p ps =>
        obtain ⟨h1, h2, h3, h4⟩ := hu
        obtain ⟨pv, prec, pg⟩ := p
        have h1 : prec = false := h1
        have h2 : pg = false := h2
        subst h1; subst h2
        exact ⟨pv, .panicking ({ v := pv, recovered := true } :: ps), rfl, h3, ⟨rfl, rfl, h3, h4⟩, by simp⟩
  · rename_i b0 x0 bl' hdf hbl
    refine none_ (fun G u c cs0 hu => ?_) hdf
    cases u with
    | run => rfl
    | returning => rfl
    | panicking ch =>
      cases ch with
      | nil => rfl
      | cons p ps =>
        cases b0 with
        | run => exact hu.elim
        | ret => exact hu.elim
        | pan l =>
          cases l with
          | nil => exact hu.elim
          | cons q l =>
            obtain ⟨qv, qr⟩ := q
            obtain ⟨h1, h2, h3, h4⟩ := hu
            obtain ⟨pv, prec, pg⟩ := p
            cases qr with
            | false => exact (hbl qv l rfl).elim
            | true =>
              have h1 : prec = true := h1
              subst h1
              rfl
  · exact .er
theorem xdef_ok {g : Operand} {args : Array Operand} {ts : Array TypeId} (hop : o.op = .defer ⟨.value g, args, ts⟩) (hw : wantA all o f.tm = some true) : Out er k (xDefV g args X er run o all rest f bl M k) (RegS X.P all (o :: rest) f bl M) := by
  unfold xDefV jDefer
  split
  · rename_i gf first cap hg hro
    refine (run_reg H all rest _ bl M k).imp fun e bl' M' hS => ⟨hS.1, fun ops i G w b a c0s cs h1 h2 hs hwf hf hb hr => ?_⟩
    obtain ⟨hlt, ho, hdr⟩ := drop_cons h1 h2
    rw [range_cons hlt]
    have hwt := wantA_ok (ops := ops) (by rw [h1]; exact hw) hf.rt
    have hb0 : b.roundOf = none := by have := hf.ro; rw [hro] at this; exact this
    have ev : ∀ x, RV G (a.eval x) (evA f.tm x) := fun x => hf.rt.eval x
    have hgv := ev g
    rw [hg] at hgv
    obtain ⟨fs, cps, v1, v2, v3⟩ := fn_rvs hgv
    have hd : (Deferred.ofValue (a.eval g) (args.map a.eval)).run X.P w = .ok { target := .fn (.func gf) cps, args := fs ++ args.map a.eval } w := by rw [v1]; rfl
    have hargs : RVs G (fs ++ args.map a.eval ++ cps) (first ++ (args.toList.map (evA f.tm) ++ cap)) := by rw [← List.append_assoc]; exact (v2.append (args_rv ev)).append v3
    have fr1 := frPut_ok (P := X.P) (o := o) hf (v := undef) (x := .undef) .undef
    obtain ⟨fn, dfd, sz, tm, todo, ds, ro⟩ := f
    have hdd : ∀ d : Deferred, ({ a with defers := d :: a.defers }.put o.dst undef).tmps = (a.put o.dst undef).tmps ∧ ({ a with defers := d :: a.defers }.put o.dst undef).defers = d :: a.defers := fun d => by cases o.dst <;> exact ⟨rfl, rfl⟩
    refine goal_reg (f1 := frDs (frPut ⟨fn, dfd, sz, tm, todo, ds, ro⟩ o .undef) (.call gf (first ++ (args.toList.map (evA tm) ++ cap)) :: ds)) hS h1 hdr (.one (step_deferop ho hwt hop hb0 hd)) hs hwf (Ev.refl _ _ _) (Ub.refl _ _) ⟨fr1.fn, fr1.kind, ?_, ?_, ?_, fr1.ro, fr1.rd⟩ hb hr
    · rw [(hdd _).1]; exact fr1.sz
    · rw [(hdd _).1]; exact fr1.rt
    · rw [(hdd _).2]; exact ⟨⟨cps, rfl, hargs⟩, hf.ds⟩
  · exact .er
include hP
theorem kx_ok (htr : X.tr = false) (hw : wantA all o f.tm = some true) : Out er k (kX o.op X er run o all rest f bl M k) (RegS X.P all (o :: rest) f bl M) := by
  cases hop : o.op with
  | call c =>
    obtain ⟨callee, args, ts⟩ := c
    cases callee with
    | value g => exact xcall_ok hP H hop hw
    | invoke r n => exact .er
    | builtin b =>
      have hd : ∀ c, o.op ≠ .defer c := by rw [hop]; intro c; simp
      cases b with
      | recover => exact xrec_ok H hop hw
      | _ => exact xop_ok H htr hw hd
  | defer c =>
    obtain ⟨callee, args, ts⟩ := c
    cases callee with
    | value g => exact xdef_ok H hop hw
    | _ => exact .er
  | go c => exact .er
  | _ => exact xop_ok H htr hw (by rw [hop]; intro c; simp)
omit hP H in
theorem reg_ext {P : Program} {tm1 : Tr AV} {e : AEnd} {bl' : AMode} {M' : Mem} (h : RegS P all rest (frTm f tm1) bl M e bl' M') (he : ∀ t, tm1.get t = f.tm.get t) : RegS P all rest f bl M e bl' M' :=
  ⟨h.1, fun ops i G w b a c0s cs h1 h2 hs hw hf hb hr => h.2 ops i G w b a c0s cs h1 h2 hs hw ⟨hf.fn, hf.kind, hf.sz, fun t => (by show RV G _ ((tm1.get t).getD .undef); rw [he t]; exact hf.rt t), hf.ds, hf.ro, hf.rd⟩ hb hr⟩
theorem reg_step (htr : X.tr = false) : Out er k (jReg X er run all rest f bl M k) (RegS X.P all rest f bl M) := by
  unfold jReg
  split
  · refine (run_fr H f bl M k).imp fun e bl' M' hS => ⟨hS.1, fun ops i G w b a c0s cs h1 h2 hs hwf hf hb hr => ?_⟩
    have : ops.size - i = 0 := by
      have := congrArg List.length h2
      rw [List.length_drop, ← h1] at this
      simpa using this
    rw [this]
    exact goal_fr hS (.one stepR_region_end) hs hwf (Ev.refl _ _ _) (Ub.refl _ _) hf hb hr
  · rename_i o rest
    unfold jReg1
    split
    · rename_i hg
      exact kx_ok hP H htr (by unfold wantA; rw [hg])
    · rename_i j want hg
      rcases jGuard0_want er all o f hg (fun f => kX o.op X er run o all rest f bl M k) (fun f => run (.reg all rest (frPut f o .undef) bl M k)) with ⟨c, hc⟩ | ⟨tm1, hx, ⟨hw, hc⟩ | ⟨hw, hc⟩⟩
      · exact .inl ⟨c, hc⟩
      · rw [hc]; exact (kx_ok (f := frTm f tm1) hP H htr hw).imp fun e bl' M' hS => reg_ext hS hx
      · rw [hc]
        refine Out.imp (S := RegS X.P all (o :: rest) (frTm f tm1) bl M) ?_ fun e bl' M' hS => reg_ext hS hx
        replace hw : wantA all o (frTm f tm1).tm = some false := hw
        generalize frTm f tm1 = f at hw ⊢
        refine reg_go (run_reg H all rest (frPut f o .undef) bl M k) (AT.refl _ _) fun ops i G w b a cs h1 ho hs hwf hf => ?_
        have hwt := wantA_ok (ops := ops) (by rw [h1]; exact hw) hf.rt
        exact ⟨G, w, undef, .one (step_skip ho hwt), .undef, hs, Ev.refl _ _ _, Ub.refl _ _⟩
end
end Go.Proofs.YtpflobodmglmaaaGreat
set_option linter.unusedVariables false
set_option maxHeartbeats 4000000
namespace Go.Proofs.YtpflobodmglmaaaGreat
section
variable {R : Type} {X : Cx} {er : Nat → R} {run : Job R → R} {k : K R} {bl : AMode} {M : Mem}
variable (hP : POk X.P) (H : ∀ j, Out er j.k (run j) (JobS X.P j))
include hP H
/-! Both ways of an if at once. -/
omit hP H in
theorem quiet_w {op : Op} (h : quietOp op = true) : isW op = false ∧ isN op = false ∧ ∀ c, op ≠ .defer c := by
  cases op <;> first | exact ⟨rfl, rfl, fun c => by simp⟩ | cases h
omit hP H in
theorem spD_ok {P : Program} {all : List Oper} {base sz : Nat} {bl : AMode} {M : Mem} {e : AEnd} {bl' : AMode} {M' : Mem} : ∀ (rest : List Oper) (bef : List Nat) (seen : List Rec) (i : Nat) (tm tm1 : Tr AV), spD P base M sz bef seen i rest tm = some tm1 →
    (∀ t, tm1.get t = tm.get t ∨ ∃ o ∈ rest, o.dst = some t) ∧ ∀ f : Fr, f.tm = tm → f.sz = sz → FrS P (frTm f tm1) bl M e bl' M' → DrS P ⟨bef, all, base, seen⟩ i rest f bl M e bl' M'
  | [], bef, seen, i, tm, tm1, h => by
    have h : some tm = some tm1 := by unfold spD at h; exact h
    cases h
    refine ⟨fun t => .inl rfl, fun f h1 h2 hS => dr_nil ?_⟩
    subst h1
    exact hS
  | o :: rest, [], seen, i, tm, tm1, h => by unfold spD at h; cases h
  | o :: rest, b :: bef, seen, i, tm, tm1, h => by
    unfold spD at h
    cases hq : quietOp o.op && noGuard o with
    | false => rw [hq] at h; cases h
    | true =>
      rw [hq] at h
      simp only [cond_true] at h
      simp only [Bool.and_eq_true] at hq
      obtain ⟨q1, q2⟩ := hq
      obtain ⟨w1, w2, w3⟩ := quiet_w q1
      have hg : o.guard = none := by
        unfold noGuard at q2
        split at q2
        · assumption
        · cases q2
      split at h
      · rename_i v M2 hv
        cases hok : okOrder b ⟨i, false, readsOf o.op (evA tm) (base + i), [], M.nx⟩ seen with
        | false => rw [hok] at h; cases h
        | true =>
          rw [hok] at h
          simp only [cond_true] at h
          have hM2 : M2 = ⟨M.h, M.nx, []⟩ := by
            have := opA_read (P := P) (M2 := ⟨M.h, M.nx, []⟩) (M := ⟨M.h, M.nx, []⟩) (fid := base + i) (ev := evA tm) w1 w2 (fun _ _ => rfl)
            rw [hv] at this
            simp only [AR.at, AR.val.injEq, true_and] at this
            exact this
          subst hM2
          obtain ⟨r1, r2⟩ := spD_ok (all := all) rest bef _ (i + 1) _ tm1 h
          refine ⟨fun t => ?_, fun f h1 h2 hS => ?_⟩
          · rcases r1 t with r | ⟨o', m1, m2⟩
            · by_cases e : (setDst sz tm o v).get t = tm.get t
              · exact .inl (r.trans e)
              · exact .inr ⟨o, List.mem_cons_self .., (setDst_chg e).1⟩
            · exact .inr ⟨o', List.mem_cons_of_mem _ m1, m2⟩
          · subst h1
            subst h2
            have hw : wantA all o f.tm = some true := by unfold wantA; rw [hg]
            have hE : Ent P all base i o f.tm M v M (some ⟨i, false, readsOf o.op (evA f.tm) (base + i), [], M.nx⟩) := .inr ⟨hw, w3, _, _, rfl, by rw [w1], .inl ⟨hv, rfl⟩⟩
            refine dr_cons hE ⟨rfl, hok⟩ (r2 (frPut f o v) rfl rfl ?_)
            exact hS
      · cases h
omit hP H in
theorem fr_stp {P : Program} {f : Fr} {t : List Item} {e : AEnd} {bl' : AMode} {M' : Mem} (hS : FrS P (frTodo f t) bl M e bl' M') (hst : ∀ (G : Gh) (w : World) (b : Frame) (a : Act) (cs : List Frame), St G w M → FrR G f b a → step P (lone (b.atR a f.todo) cs w) = .next (lone (b.atR a t) cs w)) : FrS P f bl M e bl' M' := by
  obtain ⟨fn, dfd, sz, tm, todo, ds, ro⟩ := f
  refine ⟨hS.1, fun G w b a c0s cs hs hw hf hb hr => ?_⟩
  exact (hS.2 G w b a c0s cs hs hw ⟨hf.fn, hf.kind, hf.sz, hf.rt, hf.ds, hf.ro, hf.rd⟩ hb hr).step (hst G w b a cs hs hf)
omit hP H in
theorem fr_nx {P : Program} {f : Fr} {n : Nat} {e : AEnd} {bl' : AMode} {M' : Mem} (hS : FrS P f bl (memNx M n) e bl' M') : FrS P f bl M e bl' M' := by
  refine ⟨at_of at_nx hS.1, fun G w b a c0s cs hs hw hf hb hr => ?_⟩
  obtain ⟨s1, s2⟩ := nx_ok (n := n) hs
  exact (hS.2 G w b a c0s cs s1 (wf_nx hw) hf hb hr).of (.refl _ _) s2 (Ub.refl _ _)
omit hP H in
theorem fr_weak {P : Program} {f : Fr} {tm' : Tr AV} {e : AEnd} {bl' : AMode} {M' : Mem} (hS : FrS P (frTm f tm') bl M e bl' M') (hr : ∀ G ts, RT G ts f.tm → RT G ts tm') : FrS P f bl M e bl' M' :=
  ⟨hS.1, fun G w b a c0s cs hs hw hf hb hro => hS.2 G w b a c0s cs hs hw ⟨hf.fn, hf.kind, hf.sz, hr _ _ hf.rt, hf.ds, hf.ro, hf.rd⟩ hb hro⟩
omit hP H in
theorem mixV_rv {G : Gh} {v : Value} {t : Bool} {a b : AV} (h : RV G v (bif t then a else b)) : RV G v (mixV t a b) := by
  unfold mixV
  split
  · rename_i k x k' y
    cases hk : kEq k k' with
    | false => exact .top _
    | true =>
      have := kEq_eq hk
      subst this
      cases t <;> exact h
  · cases t <;> exact h
  · exact .top _
omit hP H in
theorem mix_rt {G : Gh} {ts : Array Value} {t : Bool} {A B : Tr AV} (hC : ∀ x, RV G (ts.getD x undef) (bif t then (A.get x).getD .undef else (B.get x).getD .undef)) : ∀ (ops : List Oper) (T : Tr AV), (∀ x, RV G (ts.getD x undef) ((T.get x).getD .undef) ∨ ∃ o ∈ ops, o.dst = some x) → RT G ts (mixT t A B ops T)
  | [], T, h => fun x => by
    rcases h x with h | ⟨o, ho, _⟩
    · exact h
    · cases ho
  | o :: os, T, h => by
    unfold mixT
    split
    · rename_i d hd
      refine mix_rt hC os _ fun x => ?_
      by_cases e : d = x
      · subst e
        rw [get_set_self]
        exact .inl (mixV_rv (hC d))
      · rw [get_set_ne _ _ e]
        rcases h x with h | ⟨o', m1, m2⟩
        · exact .inl h
        · rcases List.mem_cons.1 m1 with rfl | m1
          · rw [hd] at m2
            exact absurd (Option.some.inj m2) e
          · exact .inr ⟨o', m1, m2⟩
    · rename_i hd
      refine mix_rt hC os T fun x => ?_
      rcases h x with h | ⟨o', m1, m2⟩
      · exact .inl h
      · rcases List.mem_cons.1 m1 with rfl | m1
        · rw [hd] at m2; cases m2
        · exact .inr ⟨o', m1, m2⟩
omit hP H in
theorem quiet_M {op : Op} {P : Program} {ev : Operand → AV} {M M2 : Mem} {fid : Nat} {v : AV} (q : quietOp op = true) (hv : opA op P ev M fid = .val v M2) : M2 = M := by
  obtain ⟨w1, w2, w3⟩ := quiet_w q
  have := opA_read (P := P) (M2 := M) (M := M) (fid := fid) (ev := ev) w1 w2 (fun _ _ => rfl)
  rw [hv] at this
  simp only [AR.at, AR.val.injEq, true_and] at this
  exact this
omit hP H in
theorem spR_ok {sz : Nat} {all : List Oper} {e : AEnd} {bl' : AMode} {M' : Mem} : ∀ (rest : List Oper) (M : Mem) (tm tm1 : Tr AV) (M1 : Mem), spR X.P sz rest M tm = some (tm1, M1) →
    (∀ t, tm1.get t = tm.get t ∨ ∃ o ∈ rest, o.dst = some t) ∧ (∀ f, FrS X.P f bl M1 e bl' M' → FrS X.P f bl M e bl' M') ∧ ∀ f : Fr, f.tm = tm → f.sz = sz → FrS X.P (frTm f tm1) bl M1 e bl' M' → RegS X.P all rest f bl M e bl' M'
  | [], M, tm, tm1, M1, h => by
    have h : some (tm, M) = some (tm1, M1) := by unfold spR at h; exact h
    cases h
    refine ⟨fun t => .inl rfl, fun f h => h, fun f h1 h2 hS => ?_⟩
    subst h1
    have hS : FrS X.P f bl M e bl' M' := hS
    refine ⟨hS.1, fun ops i G w b a c0s cs h1 h2 hs hwf hf hb hr => ?_⟩
    have : ops.size - i = 0 := by
      have := congrArg List.length h2
      rw [List.length_drop, ← h1] at this
      simpa using this
    rw [this]
    exact goal_fr hS (.one stepR_region_end) hs hwf (Ev.refl _ _ _) (Ub.refl _ _) hf hb hr
  | o :: rest, M, tm, tm1, M1, h => by
    unfold spR at h
    cases hq : quietOp o.op && noGuard o with
    | false => rw [hq] at h; cases h
    | true =>
      rw [hq] at h
      simp only [cond_true] at h
      simp only [Bool.and_eq_true] at hq
      obtain ⟨q1, q2⟩ := hq
      obtain ⟨w1, w2, w3⟩ := quiet_w q1
      have hg : o.guard = none := by
        unfold noGuard at q2
        split at q2
        · assumption
        · cases q2
      split at h
      · rename_i v M2 hv
        have hM2 := quiet_M q1 hv
        subst hM2
        obtain ⟨r1, r2, r3⟩ := spR_ok (all := all) rest (memNx M 1) _ tm1 M1 h
        refine ⟨fun t => ?_, fun f hS => fr_nx (r2 f hS), fun f h1 h2 hS => ?_⟩
        · rcases r1 t with r | ⟨o', m1, m2⟩
          · by_cases e : (setDst sz tm o v).get t = tm.get t
            · exact .inl (r.trans e)
            · exact .inr ⟨o, List.mem_cons_self .., (setDst_chg e).1⟩
          · exact .inr ⟨o', List.mem_cons_of_mem _ m1, m2⟩
        · subst h1
          subst h2
          have hS2 : RegS X.P all rest (frPut f o v) bl (memNx M 1) e bl' M' := r3 (frPut f o v) rfl rfl hS
          have hw : wantA all o f.tm = some true := by unfold wantA; rw [hg]
          have hlt : M.nx < (memNx M 1).nx := Nat.lt_succ_self _
          have at1 : AT (M.nx ≤ ·) M (memNx M 1) := at_nx
          have out := reg_go (X := X) (R := Option (AEnd × AMode × Mem)) (er := fun _ => none) (k := fun e bl M => some (e, bl, M)) (r := some (e, bl', M')) (x := v) (o := o) (all := all) (rest := rest) (f := f) (bl := bl) (M := M) (M1 := memNx M 1) (.inr ⟨e, bl', M', rfl, hS2⟩) at1 fun ops i G w b a cs h1 ho hs hwf hf => by
            obtain ⟨sN, eN⟩ := nx_ok (n := 1) hs
            have fn := phi_none hs (Nat.le_refl M.nx)
            have hwt := wantA_ok (ops := ops) (by rw [h1]; exact hw) hf.rt
            obtain ⟨G1, w1, x, r1, r2, r3, r4, r5⟩ := does_wr sN fn hlt (opA_sound sN fn hlt (fun x => hf.rt.eval x) hv)
            exact ⟨G1, w1, x, .one (step_value ho hwt w3 r1), r2, r3, eN.trans r4, r5.mono fun id hid => by have hid : id < M.nx := hid; omega⟩
          rcases out with ⟨c, hc⟩ | ⟨e2, bl2, M2, hc, hS3⟩
          · cases hc
          · cases hc
            exact hS3
      · cases h
omit hP H in
theorem merge_ok (hmix : X.P.follows .mixedOrders = true) {f fm : Fr} {Mm : Mem} {c : Operand} {x y : Code} {t : List Item} {e : AEnd} {bl' : AMode} {M' : Mem} (ht : f.todo = .code (.cond c x y) :: t) (hm : mergeC X.P (evA f.tm c) x y f M = some (fm, Mm)) (hS : FrS X.P (frTodo fm t) bl Mm e bl' M') : FrS X.P f bl M e bl' M' := by
  unfold mergeC at hm
  split at hm
  · rename_i tb id ops hc
    unfold mergeR at hm
    cases hok : regOk ops.toList (befL [] ops.toList) [] 0 ops.toList with
    | false => rw [hok] at hm; cases hm
    | true =>
      rw [hok] at hm
      simp only [cond_true] at hm
      split at hm
      · rename_i A hA
        simp only [Option.some.injEq, Prod.mk.injEq] at hm
        obtain ⟨rfl, rfl⟩ := hm
        have hv : ∀ (G : Gh) (b : Frame) (a : Act), FrR G f b a → a.eval c = .bool tb := fun G b a hf => by
          have := hf.rt.eval c
          rw [hc] at this
          exact this.bool_inv
        have hS : FrS X.P (frTm (frTodo f t) (mixT tb A f.tm ops.toList f.tm)) bl (memNx M ops.toList.length) e bl' M' := hS
        cases tb with
        | true =>
          obtain ⟨r1, r2⟩ := spD_ok (all := ops.toList) (bl := bl) (e := e) (bl' := bl') (M' := M') _ _ _ _ _ _ hA
          refine fr_stp (t := .code (.region id ops true) :: t) (dr_code hmix (t := t) (id := id) (ops := ops) rfl hok ?_) (fun G w b a cs _ hf => by rw [ht]; exact stepR_cond (hv G b a hf))
          refine r2 (frTodo f t) rfl rfl ?_
          refine fr_weak (tm' := mixT true A f.tm ops.toList f.tm) hS fun G ts hr => mix_rt (fun x => hr x) _ _ fun x => ?_
          rcases r1 x with r | r
          · left
            rw [← r]
            exact hr x
          · exact .inr r
        | false =>
          refine fr_stp (t := .code .skip :: t) (fr_stp (t := t) (fr_nx (n := ops.toList.length) (fr_weak (tm' := mixT false A f.tm ops.toList f.tm) hS fun G ts hr => mix_rt (fun x => hr x) _ _ fun x => .inl (hr x))) (fun G w b a cs _ hf => stepR_skip)) (fun G w b a cs _ hf => by rw [ht]; exact stepR_cond (hv G b a hf))
      · cases hm
  · rename_i tb id ops hc
    unfold mergeN at hm
    split at hm
    · rename_i A M2 hA
      simp only [Option.some.injEq, Prod.mk.injEq] at hm
      obtain ⟨rfl, rfl⟩ := hm
      have hv : ∀ (G : Gh) (b : Frame) (a : Act), FrR G f b a → a.eval c = .bool tb := fun G b a hf => by
        have := hf.rt.eval c
        rw [hc] at this
        exact this.bool_inv
      have hS : FrS X.P (frTm (frTodo f t) (mixT tb A f.tm ops.toList f.tm)) bl M2 e bl' M' := hS
      obtain ⟨r1, r2, r3⟩ := spR_ok (X := X) (all := ops.toList) (bl := bl) (e := e) (bl' := bl') (M' := M') _ _ _ _ _ hA
      cases tb with
      | true =>
        have hR := r3 (frTodo f t) rfl rfl (fr_weak (tm' := mixT true A f.tm ops.toList f.tm) hS fun G ts hr => mix_rt (fun x => hr x) _ _ fun x => by
          rcases r1 x with r | r
          · left
            rw [← r]
            exact hr x
          · exact .inr r)
        have hC : FrS X.P (frTodo f (.code (.region id ops false) :: t)) bl M e bl' M' := by
          obtain ⟨fn, dfd, sz, tm, todo, ds, ro⟩ := f
          refine ⟨hR.1, fun G w b a c0s cs hs hw hf hb hr => ?_⟩
          refine goal_reg (f1 := frTodo ⟨fn, dfd, sz, tm, todo, ds, ro⟩ t) hR rfl (i := 0) rfl (.one ?_) hs hw (Ev.refl _ _ _) (Ub.refl _ _) (b := b) (a1 := a) ⟨hf.fn, hf.kind, hf.sz, hf.rt, hf.ds, hf.ro, hf.rd⟩ hb hr
          rw [Nat.sub_zero, ← List.range_eq_range']
          exact stepR_region
        exact fr_stp hC (fun G w b a cs _ hf => by rw [ht]; exact stepR_cond (hv G b a hf))
      | false =>
        exact fr_stp (t := .code .skip :: t) (fr_stp (t := t) (fr_weak (tm' := mixT false A f.tm ops.toList f.tm) (r2 _ hS) fun G ts hr => mix_rt (fun x => hr x) _ _ fun x => .inl (hr x)) (fun G w b a cs _ hf => stepR_skip)) (fun G w b a cs _ hf => by rw [ht]; exact stepR_cond (hv G b a hf))
    · cases hm
  · cases hm
/-- A frame that runs. -/
theorem fr_step (f : Fr) : Out er k (jFr X er run f bl M k) (FrS X.P f bl M) := by
  unfold jFr
  cases ht : f.todo with
  | nil =>
    exact fin_ok H (fun _ _ w b a cs hb => by rw [ht]; exact stepR_end hb) (fun b a c cs w w' r v h1 h2 h3 => by rw [ht]; exact stepR_round_end h1 h2 h3)
  | cons it t =>
    cases it with
    | code c =>
      cases c with
      | skip => exact fr_go (run_fr H _ bl M k) (fun G w b a cs _ _ => by rw [ht]; exact stepR_skip)
      | region id ops draw => exact region_ok H hP.1 ht
      | seq x y => exact fr_go (run_fr H _ bl M k) (fun G w b a cs _ _ => by rw [ht]; exact stepR_seq)
      | cond c x y =>
        show Out er k (jMerge (bif X.mg f.fn then mergeC X.P (evA f.tm c) x y f M else none) run t bl k (jCond er run (evA f.tm c) x y t f bl M k)) _
        unfold jMerge
        split
        · rename_i fm Mm hmm
          have hmm : mergeC X.P (evA f.tm c) x y f M = some (fm, Mm) := by
            cases hmg : X.mg f.fn with
            | true => rw [hmg] at hmm; exact hmm
            | false => rw [hmg] at hmm; cases hmm
          exact (run_fr H (frTodo fm t) bl Mm k).imp fun e bl' M' hS => merge_ok hP.1 ht hmm hS
        unfold jCond
        split
        · rename_i tb hc
          have hv : ∀ (G : Gh) (b : Frame) (a : Act), FrR G f b a → a.eval c = .bool tb := fun G b a hf => by
            have := hf.rt.eval c
            rw [hc] at this
            exact this.bool_inv
          cases tb with
          | true => exact fr_go (run_fr H _ bl M k) (fun G w b a cs _ hf => by rw [ht]; exact stepR_cond (hv G b a hf))
          | false => exact fr_go (run_fr H _ bl M k) (fun G w b a cs _ hf => by rw [ht]; exact stepR_cond (hv G b a hf))
        · exact .er
      | block id c => exact fr_go (run_fr H _ bl M k) (fun G w b a cs _ _ => by rw [ht]; exact stepR_block)
      | loop c => exact fr_go (run_fr H _ bl M k) (fun G w b a cs _ _ => by rw [ht]; exact stepR_loop)
      | rangeFunc g ps as body => exact range_ok hP H ht
      | exit id =>
        show Out er k (jExit er run (exitTo id t) id f bl M k) _
        unfold jExit
        split
        · rename_i k' hk
          exact fr_go (run_fr H _ bl M k) (fun G w b a cs _ _ => by rw [ht]; exact stepR_exit hk)
        · rename_i hk
          exact fin_ok H (fun _ h => by cases h) (fun b a c cs w w' r v h1 h2 h3 => by rw [ht]; exact stepR_round_exit h1 h2 hk h3)
      | ret =>
        exact fin_ok H (fun _ _ w b a cs hb => by rw [ht]; exact stepR_ret hb) (fun b a c cs w w' r v h1 h2 h3 => by rw [ht]; exact stepR_round_ret h1 h2 h3)
      | _ => exact .er
    | inBlock id => exact fr_go (run_fr H _ bl M k) (fun G w b a cs _ _ => by rw [ht]; exact stepR_inBlock)
    | inLoop c => exact fr_go (run_fr H _ bl M k) (fun G w b a cs _ _ => by rw [ht]; exact stepR_inLoop)
    | beginRound =>
      show Out er k (match f.ro with | some l => jBegin er run (M.h.get l) l (frTodo f t) bl M k | none => er 104) _
      cases hro : f.ro with
      | none => exact .er
      | some l => exact begin_ok H hro ht
    | _ => exact .er
end
end Go.Proofs.YtpflobodmglmaaaGreat
set_option linter.unusedVariables false
set_option maxHeartbeats 4000000
namespace Go.Proofs.YtpflobodmglmaaaGreat
section
variable {R : Type} {X : Cx} {er : Nat → R} {run : Job R → R} {k : K R} {bl : AMode} {M : Mem} {f : Fr} {o : Oper} {rest : List Oper}
variable (hP : POk X.P) (H : ∀ j, Out er j.k (run j) (JobS X.P j))
include H
theorem run_dreg (d : Dr) (i : Nat) (rest : List Oper) (f : Fr) (bl : AMode) (M : Mem) (k : K R) : Out er k (run (.dreg d i rest f bl M k)) (DrS X.P d i rest f bl M) := H (.dreg d i rest f bl M k)
theorem next_ok {bef : List Nat} {all : List Oper} {base : Nat} {seen : List Rec} {i b : Nat} {rd : List Nat} {v : AV} {M2 : Mem} (hE : Ent X.P all base i o f.tm M v ⟨M2.h, M2.nx, M2.lg ++ M.lg⟩ (some ⟨i, isW o.op, rd, M2.lg, M.nx⟩)) :
    Out er k (jNext er run ⟨bef, all, base, seen⟩ i b o rd M.nx rest M.lg f bl k v M2) (DrS X.P ⟨b :: bef, all, base, seen⟩ i (o :: rest) f bl M) := by
  unfold jNext
  obtain ⟨h, nx, lg2⟩ := M2
  dsimp only
  cases hok : okOrder b ⟨i, isW o.op, rd, lg2, M.nx⟩ seen with
  | false => exact .er
  | true => exact (run_dreg H _ _ _ _ _ _ _).imp fun e bl' M' hS => dr_cons hE ⟨rfl, hok⟩ hS
theorem dpan_ok {bef : List Nat} {all : List Oper} {base : Nat} {seen : List Rec} {i b : Nat} {ch : List AE} {M2 : Mem} (hE : Pan X.P all base i o f.tm M ch M2) :
    Out er k (dPan er run ⟨bef, all, base, seen⟩ i b M.lg f bl k ch M2) (DrS X.P ⟨b :: bef, all, base, seen⟩ i (o :: rest) f bl M) := by
  unfold dPan
  obtain ⟨h, nx, lg2⟩ := M2
  dsimp only
  cases hok : allBit i bef && okOrder b ⟨i, true, [], [], nx⟩ seen with
  | false => exact .er
  | true =>
    simp only [Bool.and_eq_true] at hok
    exact (run_lv H _ _ _ _ _).imp fun e bl' M' hS => dr_pan hE hok.1 hok.2 hS
theorem dop_ok (htr : X.tr = false) {bef : List Nat} {all : List Oper} {base : Nat} {seen : List Rec} {i b : Nat} (hw : wantA all o f.tm = some true) (hd : ∀ c, o.op ≠ .defer c) : Out er k (dOp X er run o ⟨bef, all, base, seen⟩ i b rest f bl M.h M.nx M.lg k) (DrS X.P ⟨b :: bef, all, base, seen⟩ i (o :: rest) f bl M) := by
  unfold dOp
  rcases jOp_cases er o X.ty htr (P := X.P) (ev := evA f.tm) (M := ⟨M.h, M.nx, []⟩) (fid := base + i) (jNext er run ⟨bef, all, base, seen⟩ i b o (readsOf o.op (evA f.tm) (base + i)) M.nx rest M.lg f bl k) (fun v => dPan er run ⟨bef, all, base, seen⟩ i b M.lg f bl k [⟨v, false⟩] ⟨M.h, M.nx, []⟩) with ⟨c, hc⟩ | ⟨v, M2, hv, hc⟩ | ⟨v, hv, hc⟩
  · exact .inl ⟨c, hc⟩
  · dsimp only; rw [hc]
    exact next_ok H (.inr ⟨hw, hd, M2, _, rfl, rfl, .inl ⟨hv, rfl⟩⟩)
  · dsimp only; rw [hc]
    exact dpan_ok H ⟨hw, hd, .inl ⟨v, hv, rfl, rfl⟩⟩
include hP
theorem dexec_ok (htr : X.tr = false) {bef : List Nat} {all : List Oper} {base : Nat} {seen : List Rec} {i b : Nat} (hw : wantA all o f.tm = some true) : Out er k (dExec X er run o ⟨bef, all, base, seen⟩ i b rest f bl M.h M.nx M.lg k) (DrS X.P ⟨b :: bef, all, base, seen⟩ i (o :: rest) f bl M) := by
  unfold dExec
  split
  · rename_i c hop
    have hd : ∀ c, o.op ≠ .defer c := by rw [hop]; intro c; simp
    obtain ⟨callee, args, ts⟩ := c
    cases callee with
    | value g =>
      show Out er k (jCallV er run (evA f.tm g) (args.toList.map (evA f.tm)) ⟨M.h, M.nx, []⟩ (jNext er run ⟨bef, all, base, seen⟩ i b o [] M.nx rest M.lg f bl k) (dPan er run ⟨bef, all, base, seen⟩ i b M.lg f bl k)) _
      rcases run_cv H hP (g := evA f.tm g) (as := args.toList.map (evA f.tm)) (M := ⟨M.h, M.nx, []⟩) (nxt := jNext er run ⟨bef, all, base, seen⟩ i b o [] M.nx rest M.lg f bl k) (pan := dPan er run ⟨bef, all, base, seen⟩ i b M.lg f bl k) with ⟨c, hc⟩ | ⟨v, M2, hc, hS⟩ | ⟨ch, M2, hc, hS⟩
      · exact .inl ⟨c, hc⟩
      · rw [hc]
        exact next_ok H (.inr ⟨hw, hd, M2, _, rfl, rfl, .inr ⟨g, args, ts, hop, hS⟩⟩)
      · rw [hc]
        exact dpan_ok H ⟨hw, hd, .inr ⟨g, args, ts, hop, hS⟩⟩
    | invoke r n => exact .er
    | builtin bb =>
      cases bb with
      | recover => exact .er
      | _ => exact dop_ok H htr hw hd
  · exact .er
  · rename_i h1 h2
    exact dop_ok H htr hw h2
theorem dreg_step (htr : X.tr = false) (d : Dr) (i : Nat) : Out er k (jDReg X er run d i rest f bl M k) (DrS X.P d i rest f bl M) := by
  unfold jDReg
  obtain ⟨h, nx, lg⟩ := M
  split
  · rename_i M2 d2 hM
    cases hM
    exact (run_fr H f bl _ k).imp fun e bl' M' hS => dr_nil hS
  · rename_i o rest h' nx' lg' b bef all base seen hM
    cases hM
    unfold dReg1
    split
    · rename_i hg
      exact dexec_ok (M := ⟨h, nx, lg⟩) hP H htr (by unfold wantA; rw [hg])
    · rename_i j want hg
      rcases jGuard0_want er all o f hg (fun f => dExec X er run o ⟨bef, all, base, seen⟩ i b rest f bl h nx lg k) (fun f => run (.dreg ⟨bef, all, base, seen⟩ (i + 1) rest (frPut f o .undef) bl ⟨h, nx, lg⟩ k)) with ⟨c, hc⟩ | ⟨tm1, hx, ⟨hw, hc⟩ | ⟨hw, hc⟩⟩
      · exact .inl ⟨c, hc⟩
      · dsimp only; rw [hc]; exact (dexec_ok (M := ⟨h, nx, lg⟩) (f := frTm f tm1) hP H htr hw).imp fun e bl' M' hS => dr_ext hS hx
      · dsimp only; rw [hc]
        refine Out.imp (S := DrS X.P ⟨b :: bef, all, base, seen⟩ i (o :: rest) (frTm f tm1) bl ⟨h, nx, lg⟩) ?_ fun e bl' M' hS => dr_ext hS hx
        replace hw : wantA all o (frTm f tm1).tm = some false := hw
        generalize frTm f tm1 = f at hw ⊢
        exact (run_dreg H _ _ _ _ _ _ _).imp fun e bl' M' hS => dr_cons (.inl ⟨hw, rfl, rfl, rfl⟩) rfl hS
  · exact .er
end
section
variable {P : Program} {G : Gh} {w : World} {M : Mem}
theorem nth_get {α : Type} : ∀ (l : List α) (j : Nat), nth l j = l[j]?
  | [], j => rfl
  | a :: l, 0 => rfl
  | a :: l, j + 1 => nth_get l j
theorem resOf_ok {f : Nat} {l : List ResultVar} (h : resOf P f = some l) : ∃ fn, P.funcs[f]? = some fn ∧ fn.results.toList = l := by
  unfold resOf at h
  rw [nth_get] at h
  split at h
  · rename_i fn hf
    cases h
    exact ⟨fn, by simpa using hf, rfl⟩
  · cases h
theorem bodyOf_ok {f : Nat} {c : Code} {n : Nat} (h : bodyOf P f = some (c, n)) : ∃ fn, P.funcs[f]? = some fn ∧ fn.body = some c ∧ fn.ntmps = n := by
  unfold bodyOf at h
  rw [nth_get] at h
  split at h
  · rename_i fn hf
    split at h
    · rename_i c' hb
      cases h
      exact ⟨fn, by simpa using hf, hb, rfl⟩
    · cases h
  · cases h
def resF (ts : Array Value) (r : ResultVar) : Sem Value := match r with | .tmp t => pure (ts.getD t undef) | .cell a t => do loadVar t (← asAddr (ts.getD a undef))
/-- What a function hands back. -/
theorem res_list {ts : Array Value} {tm : Tr AV} (hs : St G w M) (hr : RT G ts tm) : ∀ (rs : List ResultVar) (l : List AV), resA P tm M rs = some l → ∃ vs : List Value, (rs.mapM (resF ts)).run P w = .ok vs w ∧ RVs G vs.toArray l
  | [], l, h => by
    cases h
    exact ⟨[], rfl, rfl, fun j v a h => by simp at h⟩
  | .tmp t :: rs, l, h => by
    unfold resA at h
    split at h
    · rename_i l' hl
      cases h
      obtain ⟨vs, h1, h2⟩ := res_list hs hr rs l' hl
      refine ⟨ts.getD t undef :: vs, ?_, ?_⟩
      · simp only [List.mapM_cons, resF, Sem.run_bind, Sem.run_pure, Result.andThen_ok, h1]
      · have := (RVs.one (hr t)).append h2
        simpa using this
    · cases h
  | .cell a t :: rs, l, h => by
    unfold resA at h
    unfold resA1 at h
    split at h
    · rename_i c cs l' hp hl
      unfold resA2 at h
      split at h
      · rename_i v hpk
        cases hc : c with
        | false => rw [hc] at h; cases h
        | true =>
          rw [hc] at h
          cases h
          subst hc
          obtain ⟨vs, h1, h2⟩ := res_list hs hr rs l' hl
          obtain ⟨ad, x, q1, q2, q3⟩ := loadVar_ok (P := P) hs (hr a) hp hpk
          refine ⟨x :: vs, ?_, ?_⟩
          · simp only [List.mapM_cons, resF, Sem.run_bind, Sem.run_pure, Result.andThen_ok, h1, q1, asAddr, q2]
          · have := (RVs.one q3).append h2
            simpa using this
      · cases h
    · cases h
theorem results_ok {fn : Func} {ts : Array Value} {tm : Tr AV} {l : List AV} (hs : St G w M) (hr : RT G ts tm) (h : resA P tm M fn.results.toList = some l) : ∃ v, (results fn ts).run P w = .ok v w ∧ RV G v (resV l) := by
  obtain ⟨vs, h1, h2⟩ := res_list hs hr _ _ h
  have h3 : (fn.results.mapM (resF ts)).run P w = .ok vs.toArray w := by
    rw [Array.mapM_eq_mapM_toList]
    simp only [Sem.run_map, h1, Result.andThen_ok]
  have h4 : results fn ts = (do let vs ← fn.results.mapM (resF ts); pure (if h : vs.size = 1 then vs[0] else .tuple vs)) := by
    unfold results
    have : (fun | .tmp t => (pure (ts.getD t undef) : Sem Value) | .cell a t => do loadVar t (← asAddr (ts.getD a undef)) : ResultVar → Sem Value) = resF ts := by
      funext r
      cases r <;> rfl
    rw [← this]
    rfl
  rw [h4]
  simp only [Sem.run_bind, h3, Result.andThen_ok, Sem.run_pure]
  refine ⟨_, rfl, ?_⟩
  match vs, l, h2 with
  | [v], [a], h2 => exact h2.at' 0 v a rfl rfl
  | [], [], h2 => exact .tup h2.len h2.at'
  | v :: v' :: vs, a :: a' :: l, h2 =>
    rw [dif_neg (by simp)]
    exact .tup h2.len h2.at'
  | [], _ :: _, h2 => exact absurd h2.len (by simp)
  | [v], [], h2 => exact absurd h2.len (by simp)
  | [v], _ :: _ :: _, h2 => exact absurd h2.len (by simp)
  | _ :: _ :: _, [], h2 => exact absurd h2.len (by simp)
  | _ :: _ :: _, [_], h2 => exact absurd h2.len (by simp)
end
end Go.Proofs.YtpflobodmglmaaaGreat
set_option linter.unusedVariables false
set_option maxHeartbeats 4000000
namespace Go.Proofs.YtpflobodmglmaaaGreat
section
variable {P : Program} {G : Gh} {w w' : World} {M : Mem}
/-- A block is given up and written. -/
theorem St.shut {id b base : Nat} (hs : St G w M) (ho : Own M id) (hp : G.phi id = some (b, base)) (hw : ∀ x, x ≠ b → w'.heap[x]? = w.heap[x]?) (hsz : w'.heap.size = w.heap.size) (hos : w'.os = w.os ∧ w'.tape = w.tape ∧ w'.output = w.output) (lg : List Nat) :
    St G w' ⟨M.h.set id .gone, M.nx, lg⟩ ∧ Ev G w M G w' ⟨M.h.set id .gone, M.nx, lg⟩ := by
  have gm : ∀ i, (M.h.set id .gone).get i = if id = i then some .gone else M.h.get i := fun i => get_set _ _ _ _
  have own : ∀ i, Own ⟨M.h.set id .gone, M.nx, lg⟩ i → Own M i := fun i ⟨q, h1, h2⟩ => by
    by_cases e : id = i
    · rw [← e]; exact ho
    · change (M.h.set id .gone).get i = _ at h1
      rw [gm, if_neg e] at h1
      exact ⟨q, h1, h2⟩
  constructor
  · refine ⟨fun i q b' base' h1 h2 => ?_, fun i i' b' base1 base2 o1 o2 h1 h2 => hs.inj i i' b' base1 base2 (own i o1) (own i' o2) h1 h2, fun i b' base' h => by rw [hsz]; exact hs.lt _ _ _ h, hs.fresh, fun b' i v h => ?_, fun b' v h => ?_, fun i b' base' j o1 h => hs.sep i b' base' j (own i o1) h, fun i b' base' o1 h => hs.sep2 i b' base' (own i o1) h⟩
    · change (M.h.set id .gone).get i = _ at h1
      rw [gm] at h1
      by_cases e : id = i
      · rw [if_pos e] at h1
        cases h1
        trivial
      · rw [if_neg e] at h1
        by_cases hb : b' = b
        · subst hb
          by_cases hq : q = .gone
          · subst hq; trivial
          · exact absurd (hs.inj id i b' base base' ho ⟨q, h1, hq⟩ hp h2) e
        · exact (hs.blk i q b' base' h1 h2).mono (GLe.refl G) (hw b' hb) h2
    · have hb : b' ≠ b := fun e => by rw [e, hs.sep id b base i ho hp] at h; cases h
      have := hs.con b' i v h
      unfold World.cell? at this ⊢
      rw [hw b' hb]
      exact this
    · have hb : b' ≠ b := fun e => by rw [e, hs.sep2 id b base ho hp] at h; cases h
      obtain ⟨c, h1⟩ := hs.cob b' v h
      exact ⟨c, by rw [hw b' hb]; exact h1⟩
  · exact ⟨GLe.refl G, fun _ _ _ h => .inl h, fun _ _ _ h => .inl h, fun _ _ h => .inl h, fun _ _ => rfl, fun b' _ hn => hw b' (fun e => hn ⟨id, base, ho, by rw [e]; exact hp⟩), by omega, hos, Nat.le_refl _, fun i o1 => .inl (own i o1)⟩
theorem settle_ok {m : FrameMode} {u : AMode} (h : RM G m u) : RM G (settle m) (settleA u) ∧ (m ≠ .run → settle m ≠ .run) := by
  cases m with
  | run =>
    cases u with
    | run => exact ⟨trivial, fun h => h⟩
    | _ => exact h.elim
  | returning =>
    cases u with
    | ret => exact ⟨trivial, fun h => h⟩
    | _ => exact h.elim
  | panicking ch =>
    cases u with
    | run => exact h.elim
    | ret => exact h.elim
    | pan l =>
      cases ch with
      | nil =>
        cases l with
        | nil => exact ⟨trivial, fun h => h⟩
        | cons q l => exact h.elim
      | cons p ps =>
        cases l with
        | nil => exact h.elim
        | cons q l =>
          obtain ⟨h1, h2, h3, h4⟩ := h
          obtain ⟨qv, qr⟩ := q
          obtain ⟨pv, prec, pg⟩ := p
          have h1 : prec = qr := h1
          have h2 : pg = false := h2
          subst h1; subst h2
          have dw : ∀ (ps : List PanicEntry) (l : List AE), RCh G ps l → ps.dropWhile (!·.goexit) = [] := fun ps => by
            induction ps with
            | nil => intro l _; rfl
            | cons p ps ih =>
              intro l h
              cases l with
              | nil => exact h.elim
              | cons q l =>
                have hg : p.goexit = false := h.2.1
                simp only [List.dropWhile_cons, hg, Bool.not_false, if_true]
                exact ih l h.2.2.2
          cases prec with
          | false => exact ⟨⟨rfl, rfl, h3, h4⟩, fun h => h⟩
          | true =>
            have e : settle (.panicking ({ v := pv, recovered := true } :: ps)) = .returning := by
              unfold settle
              dsimp only
              rw [dw ps l h4]
            exact ⟨by rw [e]; trivial, fun _ => by rw [e]; simp⟩
theorem RCh.append : ∀ {ch ps : List PanicEntry} {l old : List AE}, RCh G ch l → RCh G ps old → RCh G (ch ++ ps) (l ++ old)
  | [], ps, [], old, _, h => h
  | p :: ch, ps, q :: l, old, ⟨h1, h2, h3, h4⟩, h => ⟨h1, h2, h3, RCh.append h4 h⟩
theorem raised_ok {m : FrameMode} {u : AMode} {ch : List PanicEntry} {l : List AE} (h : RM G m u) (hc : RCh G ch l) : RM G (raised m ch) (raisedA u l) ∧ raised m ch ≠ .run := by
  cases m with
  | run =>
    cases u with
    | run => exact ⟨hc, by simp [raised]⟩
    | _ => exact h.elim
  | returning =>
    cases u with
    | ret => exact ⟨hc, by simp [raised]⟩
    | _ => exact h.elim
  | panicking ps =>
    cases u with
    | pan old => exact ⟨hc.append h, by simp [raised]⟩
    | _ => exact h.elim
theorem enterT_get : ∀ (args : List AV) (i : Nat) (t : Tr AV) (j : Nat), (enterT args i t).get j = if i ≤ j ∧ j < i + args.length then args[j - i]? else t.get j
  | [], i, t, j => by
    rw [if_neg (by simp only [List.length_nil]; omega)]
    rfl
  | a :: args, i, t, j => by
    show (enterT args (i + 1) (t.set i a)).get j = _
    rw [enterT_get args (i + 1) (t.set i a) j]
    by_cases e : i = j
    · subst e
      rw [if_neg (by omega), if_pos (by simp), get_set_self]
      simp
    · by_cases h : i + 1 ≤ j ∧ j < i + 1 + args.length
      · rw [if_pos h, if_pos (by simp only [List.length_cons]; omega)]
        rw [show j - i = (j - (i + 1)) + 1 by omega]
        rfl
      · rw [if_neg h, if_neg (by simp only [List.length_cons]; omega), get_set_ne _ _ e]
theorem enter_rt {vs : Array Value} {args : List AV} {n : Nat} (h : RVs G vs args) : RT G (vs ++ Array.replicate n undef) (enterT args 0 .nil) := by
  intro t
  rw [enterT_get, Array.getD_eq_getD_getElem?, Array.getElem?_append]
  by_cases e : t < vs.size
  · have e2 : t < args.length := by rw [← h.len]; exact e
    rw [if_pos e, if_pos (by omega), Nat.sub_zero]
    have h1 : vs[t]? = some vs[t] := Array.getElem?_eq_getElem e
    have h2 : args[t]? = some args[t] := List.getElem?_eq_getElem e2
    rw [h1, h2]
    exact h.at' t _ _ h1 h2
  · rw [if_neg e, if_neg (by rw [← h.len]; omega), get_nil, Array.getElem?_replicate]
    split <;> exact .undef
theorem setPs_rt {sz : Nat} : ∀ (ps : List Nat) (vs : List Value) (args : List AV) (ts : Array Value) (tm : Tr AV), RVs G vs.toArray args → RT G ts tm → ts.size = sz → RT G ((ps.zip vs).foldl (fun tmps (p : Nat × Value) => tmps.setIfInBounds p.1 p.2) ts) (setPs sz ps args tm) ∧ ((ps.zip vs).foldl (fun tmps (p : Nat × Value) => tmps.setIfInBounds p.1 p.2) ts).size = sz
  | [], vs, args, ts, tm, h, hr, hs => by
    simp only [List.zip_nil_left, List.foldl_nil]
    exact ⟨hr, hs⟩
  | p :: ps, [], args, ts, tm, h, hr, hs => by
    cases args with
    | nil => exact ⟨hr, hs⟩
    | cons a args => exact absurd h.len (by simp)
  | p :: ps, v :: vs, args, ts, tm, h, hr, hs => by
    cases args with
    | nil => exact absurd h.len (by simp)
    | cons a args =>
      simp only [List.zip_cons_cons, List.foldl_cons]
      exact setPs_rt ps vs args _ _ ⟨by have := h.len; simpa using this, fun j v a h1 h2 => h.at' (j + 1) v a (by simpa using h1) (by simpa using h2)⟩ (hr.set hs (h.at' 0 v a rfl rfl)) (by simpa using hs)
end
section
variable {R : Type} {X : Cx} {er : Nat → R} {run : Job R → R} {k : K R} {bl : AMode} {M : Mem} {f : Fr}
theorem lv0_ok {P : Program} {u : AMode} (hds : f.ds = []) (hro : f.ro = none) (hX : X.P = P) : Out er k (jLv0 X er f u bl M k) (LvS P f u bl M) := by
  subst hX
  unfold jLv0
  split
  · rename_i l hl
    obtain ⟨fn, h1, h2⟩ := resOf_ok hl
    have dnil : ∀ {G : Gh} {ds : List Deferred}, DsR G ds f.ds → ds = [] := fun {G ds} h => by
      rw [hds] at h
      cases ds with
      | nil => rfl
      | cons d ds => exact h.elim
    split
    · unfold jRes
      split
      · rename_i l' hl'
        refine .inr ⟨_, _, _, rfl, AT.refl _ _, fun G w fr c0s cs hs hw hf hb hr => ?_⟩
        rw [← h2] at hl'
        obtain ⟨v, r1, r2⟩ := results_ok (P := X.P) hs hf.rt hl'
        have hmode : fr.mode = .returning := by
          have := hf.mode
          cases e : fr.mode with
          | returning => rfl
          | run => rw [e] at this; exact this.elim
          | panicking ch => rw [e] at this; exact this.elim
        have hfn : X.P.funcs[fr.fn]? = some fn := by rw [hf.fn]; exact h1
        refine ⟨G, w, cs, .returned v, _, Steps.refl _ _, hb, ?_, r2, hs, Ev.refl _ _ _, Ub.refl _ _⟩
        rw [hro]
        refine ⟨fr, rfl, hf.fn, ?_⟩
        have hk := hf.kind
        cases hd : f.dfd with
        | true => rw [hd] at hk; exact ⟨hk, hmode, dnil hf.ds, fn, hfn, r1⟩
        | false => rw [hd] at hk; exact ⟨hmode, dnil hf.ds, hk, fn, hfn, r1⟩
      · exact .er
    · rename_i ch
      refine .inr ⟨_, _, _, rfl, AT.refl _ _, fun G w fr c0s cs hs hw hf hb hr => ?_⟩
      have hmode : ∃ pc, fr.mode = .panicking pc ∧ RCh G pc ch := by
        have := hf.mode
        cases e : fr.mode with
        | returning => rw [e] at this; exact this.elim
        | run => rw [e] at this; exact this.elim
        | panicking pc => rw [e] at this; exact ⟨pc, rfl, this⟩
      obtain ⟨pc, hmode, hch⟩ := hmode
      have hfn : X.P.funcs[fr.fn]? = some fn := by rw [hf.fn]; exact h1
      refine ⟨G, w, cs, .panicked pc, _, Steps.refl _ _, hb, ?_, hch, hs, Ev.refl _ _ _, Ub.refl _ _⟩
      rw [hro]
      refine ⟨fr, rfl, hf.fn, ?_⟩
      have hk := hf.kind
      cases hd : f.dfd with
      | true => rw [hd] at hk; exact ⟨hk, hmode, dnil hf.ds, fn, hfn⟩
      | false => exact ⟨hmode, dnil hf.ds, fn, hfn⟩
    · exact .er
  · exact .er
theorem rnd_ok {ch : List AE} (hds : f.ds = []) {l : Nat} (hro : f.ro = some l) : Out er k (jRnd er (resOf X.P f.fn) ch bl M k) (LvS X.P f (.pan ch) bl M) := by
  unfold jRnd
  split
  · rename_i l hl
    obtain ⟨fn, h1, h2⟩ := resOf_ok hl
    refine .inr ⟨_, _, _, rfl, AT.refl _ _, fun G w fr c0s cs hs hw hf hb hr => ?_⟩
    have hmode : ∃ pc, fr.mode = .panicking pc ∧ RCh G pc ch := by
      have := hf.mode
      cases e : fr.mode with
      | returning => rw [e] at this; exact this.elim
      | run => rw [e] at this; exact this.elim
      | panicking pc => rw [e] at this; exact ⟨pc, rfl, this⟩
    obtain ⟨pc, hmode, hch⟩ := hmode
    have hd : fr.defers = [] := by
      have := hf.ds
      rw [hds] at this
      cases e : fr.defers with
      | nil => rfl
      | cons d ds => rw [e] at this; exact this.elim
    have hcs : ∃ c cs0, cs = c :: cs0 := by
      cases hdf : f.dfd with
      | false =>
        rw [hdf] at hb
        have hb : cs = c0s := hb
        subst hb
        cases cs with
        | nil => exact absurd rfl (hr (by rw [hro]; simp))
        | cons c cs => exact ⟨c, cs, rfl⟩
      | true =>
        rw [hdf] at hb
        obtain ⟨c, cs0, u, rfl, rfl, _⟩ := hb
        exact ⟨_, _, rfl⟩
    obtain ⟨c, cs0, rfl⟩ := hcs
    have hfn : X.P.funcs[fr.fn]? = some fn := by rw [hf.fn]; exact h1
    refine ⟨G, w, c :: cs0, .panicked pc, _, .one (step_leave_panicked (fr := fr) (chain := pc) ⟨hmode, hd, fn, hfn⟩), hb, ?_, hch, hs, Ev.refl _ _ _, Ub.refl _ _⟩
    rw [hro]
    exact ⟨c, cs0, rfl, rfl⟩
  · exact .er
variable (hP : POk X.P) (H : ∀ j, Out er j.k (run j) (JobS X.P j))
include hP H
theorem lv_step (u : AMode) : Out er k (jLv X er run f u bl M k) (LvS X.P f u bl M) := by
  unfold jLv
  split
  · rename_i l hro
    split
    · rename_i ch hds
      exact rnd_ok hds hro
    · exact .er
  · rename_i hro
    split
    · rename_i hds
      exact lv0_ok hds hro rfl
    · rename_i id ds hds
      split
      · rename_i hid
        refine (run_lv H (frDs f ds) u bl _ k).imp fun e bl' M' hS => ?_
        have at1 : AT (M.nx ≤ ·) M ⟨M.h.set id .gone, M.nx, id :: M.lg⟩ := at_set ⟨_, hid, by simp⟩
        refine ⟨at_of at1 hS.1, fun G w fr c0s cs hs hw hf hb hr => ?_⟩
        have hd := hf.ds
        rw [hds] at hd
        cases hfd : fr.defers with
        | nil => rw [hfd] at hd; exact hd.elim
        | cons d ds' =>
          rw [hfd] at hd
          obtain ⟨⟨r, ht, hp⟩, hd'⟩ := hd
          obtain ⟨_, hblk⟩ := hs.blk id .dfr r 0 hid hp
          have htk := run_takeDeferred (P := X.P) hblk
          have hst := step_collected (P := X.P) (cs := cs) hf.run hfd ht htk
          obtain ⟨s1, s2⟩ := hs.shut (w' := w.putObj r (.deferred none)) ⟨_, hid, by simp⟩ hp (fun x hx => World.putObj_heap_other hx) World.putObj_size ⟨rfl, rfl, rfl⟩ (id :: M.lg)
          obtain ⟨fn, dfd, sz, tm, todo, dss, ro⟩ := f
          exact goal_lv (f1 := frDs ⟨fn, dfd, sz, tm, todo, dss, ro⟩ ds) (fr1 := { fr with defers := [] ++ ds' }) hS (.one hst) s1 (at1.wf hw) s2 (Ub.refl _ _) ⟨hf.fn, hf.kind, hf.rt, hd', hf.mode, hf.run⟩ hb hr
      · exact .er
    · rename_i g args ds hds
      refine out_call H (fun e u' M2 hS => ?_)
      dsimp only [Job.k]
      replace hS : CallS X.P g args true u M e u' M2 := hS
      obtain ⟨⟨fg, hfg1, hfg2⟩, at1, hS⟩ := hS
      have go : ∀ (G : Gh) (w : World) (fr : Frame) (cs : List Frame), St G w M → WfM M → LvR G f u fr → ∃ G2 w2 u2 fr2 ds' E, Steps X.P (lone fr cs w) (lone fr2 ({ fr with defers := ds', mode := u2 } :: cs) w2) ∧ RM G2 u2 u' ∧ u2 ≠ .run ∧ fr2.kind = .deferred ∧ fr2.going X.P w2 E ∧ RE G2 E e ∧ St G2 w2 M2 ∧ Ev G w M G2 w2 M2 ∧ Ub (· < M.nx) G G2 ∧ DsR G2 ds' ds := fun G w fr cs hs hw hf => by
        have hd := hf.ds
        rw [hds] at hd
        cases hfd : fr.defers with
        | nil => rw [hfd] at hd; exact hd.elim
        | cons d ds' =>
          rw [hfd] at hd
          obtain ⟨⟨cap, ht, hargs⟩, hd'⟩ := hd
          have hinv : (invoke d.target d.args).run X.P w = .ok (.enter g (d.args ++ cap)) w := by rw [ht]; exact invoke_fn hP hfg1 hfg2 cap d.args w
          have hst := step_defer (P := X.P) (cs := cs) hf.run hfd ht hinv
          obtain ⟨G2, w2, cs2, E, m2, g1, g2, g3, g4, g5, g6, g7⟩ := hS G w _ ({ fr with defers := ds' } :: cs) ({ fr with defers := ds' } :: cs) hs hw hargs ⟨_, _, fr.mode, rfl, rfl, hf.mode, fun h => h⟩
          obtain ⟨c, cs0, u2, e1, e2, e3, e4⟩ := g2
          cases e1
          subst e2
          obtain ⟨fr2, rfl, _, hk2, hg2⟩ := g3
          exact ⟨G2, w2, u2, fr2, ds', E, .head hst g1, e3, e4 hf.run, hk2, hg2, g4, g5, g6, g7, hd'.mono g6.le⟩
      cases e with
      | ret v =>
        dsimp only
        refine (run_lv H (frDs f ds) (settleA u') bl M2 k).imp fun e bl' M' hS' => ⟨at_of at1 hS'.1, fun G w fr c0s cs hs hw hf hb hr => ?_⟩
        obtain ⟨G2, w2, u2, fr2, ds', E, q1, q2, q3, q4, q5, q6, q7, q8, q9, q10⟩ := go G w fr cs hs hw hf
        cases E with
        | outgrown => exact q6.elim
        | panicked ch => exact q6.elim
        | returned x =>
          have hst := step_going_returned (P := X.P) (c := { fr with defers := ds', mode := u2 }) (cs := cs) q4 q5
          obtain ⟨k1, k2⟩ := settle_ok q2
          obtain ⟨fn, dfd, sz, tm, todo, dss, ro⟩ := f
          exact goal_lv (f1 := frDs ⟨fn, dfd, sz, tm, todo, dss, ro⟩ ds) (fr1 := { fr with defers := ds', mode := settle u2 }) hS' (q1.trans (.one hst)) q7 (at1.wf hw) q8 q9 ⟨hf.fn, hf.kind, hf.rt.mono q8.le, q10, k1, k2 q3⟩ hb hr
      | pan ch =>
        dsimp only
        refine (run_lv H (frDs f ds) (raisedA u' ch) bl M2 k).imp fun e bl' M' hS' => ⟨at_of at1 hS'.1, fun G w fr c0s cs hs hw hf hb hr => ?_⟩
        obtain ⟨G2, w2, u2, fr2, ds', E, q1, q2, q3, q4, q5, q6, q7, q8, q9, q10⟩ := go G w fr cs hs hw hf
        cases E with
        | outgrown => exact q6.elim
        | returned x => exact q6.elim
        | panicked pc =>
          have hst := step_going_panicked (P := X.P) (c := { fr with defers := ds', mode := u2 }) (cs := cs) q5
          obtain ⟨k1, k2⟩ := raised_ok q2 q6
          obtain ⟨fn, dfd, sz, tm, todo, dss, ro⟩ := f
          exact goal_lv (f1 := frDs ⟨fn, dfd, sz, tm, todo, dss, ro⟩ ds) (fr1 := { fr with defers := ds', mode := raised u2 pc }) hS' (q1.trans (.one hst)) q7 (at1.wf hw) q8 q9 ⟨hf.fn, hf.kind, hf.rt.mono q8.le, q10, k1, k2⟩ hb hr
end
end Go.Proofs.YtpflobodmglmaaaGreat
set_option linter.unusedVariables false
set_option maxHeartbeats 4000000
namespace Go.Proofs.YtpflobodmglmaaaGreat
/-- What is told of calls is so. -/
def CtOK (X : Cx) : Prop := X.tr = false ∧ ∀ (R : Type) (f : Nat) (args : List AV) (M : Mem) (sp : (AEnd → Mem → R) → R), X.ct R f args M = some sp → ∀ k : AEnd → Mem → R, ∃ e M', sp k = k e M' ∧ ∀ bl, CallS X.P f args false bl M e bl M'
section
variable {R : Type} {X : Cx} {er : Nat → R} {run : Job R → R} {k : K R} {bl : AMode} {M : Mem}
variable (H : ∀ j, Out er j.k (run j) (JobS X.P j))
include H
theorem enter_ok (f : Nat) (args : List AV) (dfd : Bool) : Out er k (jEnter er run (bodyOf X.P f) f args dfd bl M k) (CallS X.P f args dfd bl M) := by
  unfold jEnter
  split
  · rename_i c n hb
    obtain ⟨fn, h1, h2, h3⟩ := bodyOf_ok hb
    cases hle : Nat.ble args.length n with
    | false => exact .er
    | true =>
      have hle : args.length ≤ n := by simpa using hle
      refine (run_fr H ⟨f, dfd, n, enterT args 0 .nil, [.code c], [], none⟩ bl M k).imp fun e bl' M' hS => ⟨⟨fn, h1, by rw [h2]; rfl⟩, hS.1, fun G w vs c0s cs hs hw hv hb => ?_⟩
      have he : Frame.enter X.P f vs (kindOf dfd) = ({ (default : Frame) with fn := f, kind := kindOf dfd, roundOf := none } : Frame).atR ⟨vs ++ Array.replicate (n - vs.size) undef, []⟩ [.code c] := by
        simp [Frame.enter, Frame.atR, h1, h2, h3]
      rw [he]
      refine hS.2 G w _ _ c0s cs hs hw ⟨rfl, rfl, ?_, enter_rt hv, trivial, rfl, fun h => absurd rfl h⟩ hb (fun h => absurd rfl h)
      have := hv.len
      simp only [Array.size_append, Array.size_replicate]
      omega
  · exact .er
theorem call_step (hC : CtOK X) (f : Nat) (args : List AV) (dfd : Bool) : Out er k (jCall0 X er run f args dfd bl M k) (CallS X.P f args dfd bl M) := by
  unfold jCall0
  cases dfd with
  | true => exact enter_ok H f args true
  | false =>
    show Out er k (jCall X er run (X.ct R f args M) f args false bl M k) _
    unfold jCall
    split
    · rename_i sp hsp
      obtain ⟨e, M', h1, h2⟩ := hC.2 R f args M sp hsp (fun e M' => k e bl M')
      exact .inr ⟨e, bl, M', h1, h2 bl⟩
    · exact enter_ok H f args false
theorem yld_step (l : Nat) (args : List AV) : Out er k (jYld er run (M.h.get l) l args M k) (YldS X.P l args M) := by
  unfold jYld
  split
  · rename_i fn sz tm ps as body d pe hl
    cases hle : Nat.beq args.length ps.toList.length with
    | false => exact .er
    | true =>
      have hle : args.length = ps.toList.length := by simpa using hle
      refine (run_fr H ⟨fn, false, sz, setPs sz ps.toList args tm, [.code as, .beginRound, .code body], [], some l⟩ .run M k).imp fun e bl' M' hS => ⟨hS.1, fun G w r vs c cs hs hw hp hv => ?_⟩
      obtain ⟨L, k1, k2, k3, k4, k5, k6, k7, k8, k9, k10, k11⟩ := loop_put hs hl hp
      have hsz : vs.size = L.params.size := by rw [hv.len, hle, k5]; simp
      have hrun := run_yield (P := X.P) k1 hsz
      refine ⟨_, _, _, _, hrun, ?_⟩
      have hz := setPs_rt (G := G) ps.toList vs.toList args L.tmps tm (by simpa using hv) k9 k8
      have hzip : (L.params.zip vs).foldl (fun tmps (x : Tmp × Value) => match x with | (t, a) => tmps.setIfInBounds t a) L.tmps = (ps.toList.zip vs.toList).foldl (fun tmps (p : Nat × Value) => tmps.setIfInBounds p.1 p.2) L.tmps := by
        rw [k5, ← Array.foldl_toList, Array.toList_zip]
      rw [hzip]
      have he : Frame.round r L.fn ((ps.toList.zip vs.toList).foldl (fun tmps (p : Nat × Value) => tmps.setIfInBounds p.1 p.2) L.tmps) L.assign L.body .normal = ({ (default : Frame) with fn := L.fn, kind := .normal, roundOf := some r } : Frame).atR ⟨(ps.toList.zip vs.toList).foldl (fun tmps (p : Nat × Value) => tmps.setIfInBounds p.1 p.2) L.tmps, []⟩ [.code as, .beginRound, .code body] := by
        simp [Frame.round, Frame.atR, k6, k7]
      rw [he, k4]
      exact hS.2 G w _ _ (c :: cs) (c :: cs) hs hw ⟨rfl, rfl, hz.2, hz.1, trivial, ⟨r, rfl, hp⟩, fun _ => rfl⟩ rfl (fun _ => by simp)
  · exact .er
end
/-- All jobs. -/
theorem all_ok {R : Type} {X : Cx} (hP : POk X.P) (hC : CtOK X) (er : Nat → R) : ∀ (n : Nat) (j : Job R), Out er j.k (runJ X er n j) (JobS X.P j)
  | 0, j => .inl ⟨99, rfl⟩
  | n + 1, j => by
    have H := all_ok hP hC er n
    cases j with
    | fr f bl M k => exact fr_step hP H f
    | reg all rest f bl M k => exact reg_step hP H hC.1
    | dreg d i rest f bl M k => exact dreg_step hP H hC.1 d i
    | lv f u bl M k => exact lv_step hP H u
    | call f args dfd bl M k => exact call_step H hC f args dfd
    | yld l args M k => exact yld_step H l args
/-- No memory at all. -/
def G0 : Gh := ⟨fun _ => none, fun _ _ => none, fun _ => none, fun _ => 0⟩
theorem st0 (w : World) : St G0 w M0 := by
  constructor
  · intro id k b base h
    rw [show M0.h.get id = none from get_nil id] at h
    cases h
  all_goals
    intros
    rename_i h
    cases h
theorem wf0 : WfM M0 := fun id ⟨k, h, _⟩ => by rw [show M0.h.get id = none from get_nil id] at h; cases h
/-- A law that evaluates to true. -/
theorem law_calls {X : Cx} (hP : POk X.P) (hC : CtOK X) {n f : Nat} {args : List AV} {vs : Array Value} {w : World} (hv : RVs G0 vs args) (h : law X n f args = 0) :
    Calls X.P f vs w fun e w' => e = .returned (.bool true) ∧ w'.heap.size ≥ w.heap.size ∧ (∀ b, b < w.heap.size → w'.heap[b]? = w.heap[b]?) ∧ w'.os = w.os ∧ w'.tape = w.tape ∧ w'.output = w.output := by
  intro cs
  unfold law at h
  rcases all_ok hP hC (fun c => Nat.succ c) n (.call f args false .run M0 lawK) with ⟨c, hc⟩ | ⟨e, bl, M', hc, hS⟩
  · rw [hc] at h; cases h
  · have hc : runJ X (fun c => Nat.succ c) n (.call f args false .run M0 lawK) = lawK e bl M' := hc
    rw [hc] at h
    have he : e = .ret (.bool true) := by
      cases e with
      | pan l => cases h
      | ret v =>
        cases v with
        | bool b =>
          cases b with
          | true => rfl
          | false => cases h
        | _ => cases h
    subst he
    obtain ⟨_, _, hG⟩ := (show CallS X.P f args false .run M0 _ bl M' from hS)
    obtain ⟨G', w', cs', E, m', g1, g2, g3, g4, g5, g6, g7⟩ := hG G0 w vs cs cs (st0 w) wf0 hv rfl
    have g2 : cs' = cs := g2
    subst g2
    obtain ⟨fr, rfl, hfn, hlv⟩ := g3
    cases E with
    | outgrown => exact g4.elim
    | panicked ch => exact g4.elim
    | returned v =>
      have hvv : v = .bool true := RV.bool_inv g4
      subst hvv
      refine ⟨.returned (.bool true), w', fr, ⟨rfl, g6.size, fun b hb => g6.keep b hb (fun ⟨id, base, ⟨k, hk, _⟩, _⟩ => ?_), g6.os⟩, g1, hfn, hlv⟩
      rw [show M0.h.get id = none from get_nil id] at hk
      cases hk
end Go.Proofs.YtpflobodmglmaaaGreat
set_option linter.unusedVariables false
set_option maxHeartbeats 4000000
namespace Go.Proofs.YtpflobodmglmaaaGreat
section
variable {P : Program} {G G' : Gh} {w w' : World} {M M' : Mem}
/-- The world grows; what is known stays. -/
theorem St.grow (hs : St G w M) (hk : ∀ b, b < w.heap.size → w'.heap[b]? = w.heap[b]?) (hsz : w.heap.size ≤ w'.heap.size) : St G w' M := by
  refine ⟨fun id k b base h1 h2 => (hs.blk id k b base h1 h2).same (hk b (hs.lt _ _ _ h2)), hs.inj, fun id b base h => Nat.lt_of_lt_of_le (hs.lt id b base h) hsz, hs.fresh, fun b i v h => ?_, fun b v h => ?_, hs.sep, hs.sep2⟩
  · have h' := hs.con b i v h
    have hlt : b < w.heap.size := World.block_lt_of_cell? _ _ h'
    unfold World.cell? at h' ⊢
    rw [hk b hlt]
    exact h'
  · obtain ⟨c, h'⟩ := hs.cob b v h
    exact ⟨c, by rw [hk b (Array.getElem?_eq_some_iff.1 h').1]; exact h'⟩
/-- A call that was run without any memory: it brings the same in every memory, if it brings a truth. -/
theorem law_ct {X : Cx} (hP : POk X.P) (hC : CtOK X) {n f : Nat} {args : List AV} (ha : ∀ (G : Gh) (vs : Array Value), RVs G vs args → RVs G0 vs args) (h : law X n f args = 0) (bl : AMode) (M : Mem) : CallS X.P f args false bl M (.ret (.bool true)) bl M := by
  unfold law at h
  rcases all_ok hP hC (fun c => Nat.succ c) n (.call f args false .run M0 lawK) with ⟨c, hc⟩ | ⟨e, bl, M', hc, hS⟩
  · rw [hc] at h; cases h
  · have hc : runJ X (fun c => Nat.succ c) n (.call f args false .run M0 lawK) = lawK e bl M' := hc
    rw [hc] at h
    have he : e = .ret (.bool true) := by
      cases e with
      | pan l => cases h
      | ret v =>
        cases v with
        | bool b =>
          cases b with
          | true => rfl
          | false => cases h
        | _ => cases h
    subst he
    obtain ⟨h1, _, hG⟩ := (show CallS X.P f args false .run M0 _ bl M' from hS)
    refine ⟨h1, AT.refl _ _, fun G w vs c0s cs hs hw hv hb => ?_⟩
    have hb : cs = c0s := hb
    subst hb
    obtain ⟨G', w', cs', E, m', g1, g2, g3, g4, g5, g6, g7⟩ := hG G0 w vs cs cs (st0 w) wf0 (ha G vs hv) rfl
    have g2 : cs' = cs := g2
    subst g2
    have keep : ∀ b, b < w.heap.size → w'.heap[b]? = w.heap[b]? := fun b hb => g6.keep b hb (fun ⟨id, base, ⟨k, hk, _⟩, _⟩ => by rw [show M0.h.get id = none from get_nil id] at hk; cases hk)
    refine ⟨G, w', cs', E, m', g1, rfl, g3, ?_, hs.grow keep g6.size, ⟨GLe.refl G, fun _ _ _ h => .inl h, fun _ _ _ h => .inl h, fun _ _ h => .inl h, fun _ _ => rfl, fun b hb _ => keep b hb, g6.size, g6.os, Nat.le_refl _, fun _ h => .inl h⟩, Ub.refl _ _⟩
    cases E with
    | outgrown => exact g4.elim
    | panicked ch => exact g4.elim
    | returned v =>
      have hvv : v = .bool true := RV.bool_inv g4
      subst hvv
      exact RV.bool _
end
/-- One function without arguments that answers true. -/
def ctT (R : Type) (args : List AV) (M : Mem) : Option ((AEnd → Mem → R) → R) := match args with
  | [] => some (fun k => k (.ret (.bool true)) M)
  | _ => none
def X1 (P : Program) (f0 : Nat) : Cx := { P := P, ct := fun R f args M => bif Nat.beq f f0 then ctT R args M else none }
theorem ct1 {X : Cx} (hP : POk X.P) (hC : CtOK X) {n f0 : Nat} (h : law X n f0 [] = 0) : CtOK (X1 X.P f0) := by
  refine ⟨rfl, ?_⟩
  intro R f args M sp hsp k
  have hs2 : (bif Nat.beq f f0 then ctT R args M else none) = some sp := hsp
  clear hsp
  cases hf : Nat.beq f f0 with
  | false => rw [hf] at hs2; cases hs2
  | true =>
    rw [hf] at hs2
    have hs3 : ctT R args M = some sp := hs2
    have hf : f = f0 := by simpa using hf
    subst hf
    cases args with
    | nil =>
      cases hs3
      exact ⟨_, M, rfl, fun bl => law_ct hP hC (fun G vs h => ⟨h.len, fun j v a h1 h2 => by simp at h2⟩) h bl M⟩
    | cons a as => cases hs3

open Go.RowKit in
theorem law_walk {X : Cx} (hP : POk X.P) (hC : CtOK X) {n f : Nat} {args : List AV} {vs : Array Value} {w : World} (hv : RVs G0 vs args) (h : law X n f args = 0) : Calls X.P f vs w fun e w' => e = .returned (.bool true) ∧ Below w.heap.size w w' := by
  intro cs
  obtain ⟨e, w', fr, ⟨h1, h2, h3, h4, h5, h6⟩, rest⟩ := law_calls hP hC (w := w) hv h cs
  exact ⟨e, w', fr, ⟨h1, h4, h5, h6, h2, h3⟩, rest⟩
end Go.Proofs.YtpflobodmglmaaaGreat
set_option linter.unusedVariables false
set_option maxHeartbeats 4000000
namespace Go.Proofs.YtpflobodmglmaaaGreat
/-- All that is there, as it is. -/
def Gw (w : World) : Gh := ⟨fun _ => none, fun b i => w.cell? ⟨b, i, none⟩, fun _ => none, fun _ => 0⟩
theorem stw (w : World) : St (Gw w) w M0 := by
  refine ⟨fun id k b base h => ?_, fun id id' b base base' _ _ h => ?_, fun id b base h => ?_, fun id b base h => ?_, fun b i v h => h, fun b v h => ?_, fun id b base i _ h => ?_, fun id b base _ h => ?_⟩
  · rw [show M0.h.get id = none from get_nil id] at h; cases h
  all_goals cases h
open Go.RowKit in
theorem law_walkG {X : Cx} (hP : POk X.P) (hC : CtOK X) {n f : Nat} {args : List AV} {vs : Array Value} {w : World} (hv : RVs (Gw w) vs args) (h : law X n f args = 0) : Calls X.P f vs w fun e w' => e = .returned (.bool true) ∧ Below w.heap.size w w' := by
  intro cs
  unfold law at h
  rcases all_ok hP hC (fun c => Nat.succ c) n (.call f args false .run M0 lawK) with ⟨c, hc⟩ | ⟨e, bl, M', hc, hS⟩
  · rw [hc] at h; cases h
  · have hc : runJ X (fun c => Nat.succ c) n (.call f args false .run M0 lawK) = lawK e bl M' := hc
    rw [hc] at h
    have he : e = .ret (.bool true) := by
      cases e with
      | pan l => cases h
      | ret v =>
        cases v with
        | bool b =>
          cases b with
          | true => rfl
          | false => cases h
        | _ => cases h
    subst he
    obtain ⟨_, _, hG⟩ := (show CallS X.P f args false .run M0 _ bl M' from hS)
    obtain ⟨G', w', cs', E, m', g1, g2, g3, g4, g5, g6, g7⟩ := hG (Gw w) w vs cs cs (stw w) wf0 hv rfl
    have g2 : cs' = cs := g2
    subst g2
    obtain ⟨fr, rfl, hfn, hlv⟩ := g3
    cases E with
    | outgrown => exact g4.elim
    | panicked ch => exact g4.elim
    | returned v =>
      have hvv : v = .bool true := RV.bool_inv g4
      subst hvv
      exact ⟨.returned (.bool true), w', fr, ⟨rfl, g6.os.1, g6.os.2.1, g6.os.2.2, g6.size, fun b hb => g6.keep b hb (fun ⟨id, base, ⟨k, hk, _⟩, _⟩ => by rw [show M0.h.get id = none from get_nil id] at hk; cases hk)⟩, g1, hfn, hlv⟩
def gzz (z : Nat → Int) (i : Nat) : List AV := [.int .i64 (z i)]
/-- A slice of numbers that came in. -/
theorem rv_ints {w : World} {b o len cap : Nat} {zs : List Int} (hl : len ≤ cap) (hz : len ≤ zs.length) (hc : ∀ i, i < zs.length → w.cell? ((⟨b, o, none⟩ : Addr).add i) = some (.int .i64 (zs.getD i 0))) : RV (Gw w) (.slice (some ⟨b, o, none⟩) len cap) (.lst false false len (gzz fun i => zs.getD i 0)) := by
  refine RV.lst (sz := 1) (fun i _ => .int .i64 (zs.getD i 0)) hl (fun h => by cases h) (fun i _ => rfl) (fun i j a hi h => ?_) (fun i j a hi h => ?_)
  · cases j with
    | zero =>
      show w.cell? ⟨b, o + (i * 1 + 0), none⟩ = _
      have := hc i (by omega)
      unfold Addr.add at this
      by_cases e : i = 0
      · rw [if_pos e] at this
        subst e
        simpa using this
      · rw [if_neg e] at this
        simpa using this
    | succ j => simp [gzz] at h
  · cases j with
    | zero =>
      have : a = .int .i64 (zs.getD i 0) := by simpa [gzz] using h.symm
      rw [this]
      exact .int _ _
    | succ j => simp [gzz] at h
theorem spot_of {P : Program} {w : World} {r : Reach} {base : Nat} {t e : TypeId} {x : Addr} {l c : Nat} (hu : P.underlying t = some (.slice e)) (h : Value.okWide P w r base t (.slice (some x) l c)) : x.spot = none := by
  unfold Value.okWide at h
  rw [hu] at h
  unfold Cell.okWide at h
  rw [hu] at h
  unfold Cell.ok at h
  rw [hu] at h
  exact h.2.2.2.1
end Go.Proofs.YtpflobodmglmaaaGreat
