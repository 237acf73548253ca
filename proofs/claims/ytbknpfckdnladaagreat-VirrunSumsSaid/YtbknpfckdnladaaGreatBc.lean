/- A drawn region, walked along any listing. No condition. -/
import Derived.Test.YtbknpfckdnladaaGreatBb
set_option linter.unusedVariables false
set_option maxHeartbeats 4000000
namespace Go.Proofs.YtbknpfckdnladaaGreat
section
variable {P : Program} {ops : Array Oper} {base sz st : Nat} {m : Nat → Mem} {tm : Nat → Tr AV} {v : Nat → AV} {rc : Nat → Option Rec} {D : List Nat} {G G' : Gh} {w w' : World} {Ms : Mem} {T : Tr AV} {a : Act} {i : Nat} {o : Oper}
theorem exec_call {ρ : Operand → Value} {g : Operand} {args : Array Operand} {ts : Array TypeId} {d : Deferred} {nx : Next} (ho : o.op = .call ⟨.value g, args, ts⟩) (h1 : (Deferred.ofValue (ρ g) (args.map ρ)).run P w = .ok d w) (h2 : (invoke d.target d.args).run P w = .ok nx w) : (execOp ρ o).run P w = .ok nx w := by
  unfold execOp
  rw [ho]
  simp only [resolve, Sem.run_bind, h1, Result.andThen_ok, h2]
theorem step_start {b : Frame} {k : List Item} {cs : List Frame} {rest : List Nat} {nx : Next} (ho : ops[i]? = some o) (hw : Region.wanted o (yielded ops a.tmps) = true) (hd : ∀ c, o.op ≠ .defer c) (hr : (execOp a.eval o).run P w = .ok nx w') (hn : (∃ f args, nx = .enter f args) ∨ ∃ l f tm as body, nx = .round l f tm as body) :
    step P (lone (b.atR a (.inRegion ops (i :: rest) :: k)) cs w) = .next (lone (startF P nx) (b.atR a (.inRegion ops (i :: rest) :: k) :: cs) w') := by
  rcases hn with ⟨f, args, rfl⟩ | ⟨l, f, tm, as, body, rfl⟩
  · exact step_enter ho hw hd hr
  · refine step_lone_go ?_
    rw [stepGR_op ho hw, Oper.semAt_eq _ _ _ hd]
    simp [stepG.apply, Sem.runT_eq, hr, Frame.atR, startF]
theorem wantA_congr {T tm : Tr AV} {l : List Oper} (h : Ag T tm (looks l o)) : wantA l o T = wantA l o tm := by
  unfold wantA
  cases hg : o.guard with
  | none => rfl
  | some p =>
    obtain ⟨j, want⟩ := p
    dsimp only
    cases hd : gdst l j with
    | none => rfl
    | some d =>
      dsimp only
      have : d ∈ looks l o := by
        unfold looks
        rw [hg]
        dsimp only
        rw [hd]
        exact List.mem_cons_self ..
      rw [h d this]
theorem looks_tmps {l : List Oper} {t : Nat} (h : t ∈ opTmps o.op) : t ∈ looks l o := by
  unfold looks
  split
  · split
    · exact List.mem_cons_of_mem _ h
    · exact h
  · exact h
theorem args_rv {ρ : Operand → Value} {ev : Operand → AV} {args : Array Operand} (hx : ∀ x, RV G (ρ x) (ev x)) : RVs G (args.map ρ) (args.toList.map ev) := by
  have := RV.mem (l := args.toList) (fun x _ => hx x)
  have e : (args.toList.map ρ).toArray = args.map ρ := by apply Array.ext'; simp
  rw [e] at this
  exact this
theorem step_skip {b : Frame} {k : List Item} {cs : List Frame} {rest : List Nat} (ho : ops[i]? = some o) (hw : Region.wanted o (yielded ops a.tmps) = false) :
    step P (lone (b.atR a (.inRegion ops (i :: rest) :: k)) cs w) = .next (lone (b.atR (a.put o.dst undef) (.inRegion ops rest :: k)) cs w) := by
  have := stepR_op_skip (P := P) (b := b) (a := a) (k := k) (cs := cs) (w := w) (ops := ops) (i := i) (rest := rest) (by rw [ho]; simpa using hw)
  rw [ho, Option.bind_some] at this
  exact this
/-- One operation, wherever it comes. -/
theorem Reg.exec (hR : Reg P ops base sz st m tm v rc) (hI : Inv ops base sz st m tm rc D G w Ms T a) (hi : i < st) (ho : ops[i]? = some o) (hiD : i ∉ D) (hb : ∀ j, Bf ops.toList j i → j ∈ D) (b : Frame) (k : List Item) (cs : List Frame) (rest : List Nat) :
    ∃ G' w' Ms' T' a', Steps P (lone (b.atR a (.inRegion ops (i :: rest) :: k)) cs w) (lone (b.atR a' (.inRegion ops rest :: k)) cs w') ∧ a'.defers = a.defers ∧ Inv ops base sz st m tm rc (i :: D) G' w' Ms' T' a' ∧ Ev G w Ms G' w' Ms' ∧ Ub (· < base) G G' := by
  have szs := hR.st_le
  have n0 := (hR.nx_of st (Nat.le_refl _)).1
  have ni := (hR.nx_of i (by omega)).1
  obtain ⟨o', e1, e2, e3⟩ := hR.ent hi
  rw [ho] at e1
  cases e1
  have lk := looks_eq hR hI (by omega) ho hiD hb
  have lk2 : Ag T (tm i) (opTmps o.op) := fun t ht => lk t (looks_tmps ht)
  have wc := wantA_congr lk
  have ev : ∀ x, RV G (a.eval x) (evA T x) := fun x => hI.rt.eval x
  rcases e3 with ⟨h1, h2, h3, h4⟩ | ⟨h1, hd, M2, rd, h3, h4, h5⟩
  · rw [← wc] at h1
    have hw := wantA_ok h1 hI.rt
    exact ⟨G, w, Ms, _, _, .one (step_skip ho hw), (RT.put (o := o) hI.rt hI.sz (v := undef) (x := .undef) .undef).2.2, after_q hR hI hi ho hiD hb (fun id => by rw [h3]) e2 (x := undef) (by rw [h2]; exact .undef), Ev.refl _ _ _, Ub.refl _ _⟩
  · rw [← wc] at h1
    have hw := wantA_ok h1 hI.rt
    have hm1 : (m (i + 1)).h = M2.h := by rw [h3]
    have hm2 : (m (i + 1)).nx = M2.nx := by rw [h3]
    have dfr : ∀ x : Value, (a.put o.dst x).defers = a.defers := fun x => by cases o.dst <;> rfl
    -- writers before and behind
    have w1 : isW o.op = true → ∀ j r, j < i → rc j = some r → r.w = true → j ∈ D := fun hwr j r hj hr hrw => by
      rcases hR.pair hj hi hr h4 with e | ⟨e, _⟩ | ⟨_, e, _⟩ | ⟨e, _⟩
      · exact hb j e
      · rw [hrw] at e; cases e
      · have e : isW o.op = false := e
        rw [hwr] at e; cases e
      · rw [hrw] at e; cases e
    have w2 : isW o.op = true → ∀ j r, i < j → j < st → rc j = some r → r.w = true → j ∉ D := fun hwr j r hj hj2 hr hrw hD => by
      rcases hR.pair hj hj2 h4 hr with e | ⟨e, _⟩ | ⟨_, e, _⟩ | ⟨e, _⟩
      · exact hiD (hI.cl j hD i e)
      · have e : isW o.op = false := e
        rw [hwr] at e; cases e
      · rw [hrw] at e; cases e
      · have e : isW o.op = false := e
        rw [hwr] at e; cases e
    have s1 : isW o.op = true → St G w ⟨(m i).h, (m i).nx, []⟩ := fun hwr => st_w hR hI (by omega) hiD (w1 hwr) (w2 hwr) (hI.fr i _ hi hiD h4 hwr)
    have hf := hI.unb i (by omega) hiD
    rcases h5 with ⟨h5, h6⟩ | ⟨g, args, ts, h5, h6⟩
    · obtain ⟨q1, q2⟩ := opA_congr (P := P) (M := ⟨(m i).h, (m i).nx, []⟩) (fid := base + i) lk2
      rw [← q1] at h5
      rw [← q2] at h6
      cases hwr : isW o.op with
      | true =>
        obtain ⟨G', w', x, r1, r2, r3, r4, r5⟩ := (opA_sound (s1 hwr) hf (by show base + i < (m i).nx; omega) ev h5).2 hwr
        obtain ⟨C, c1, c2⟩ := after_w hR hI hi ho hiD hb (w1 hwr) (w2 hwr) (s1 hwr) r3 r4 (fun id hn _ e => r5 id hn e) hm1 hm2 e2 r2
        exact ⟨G', w', C, _, _, .one (step_value ho hw hd r1), dfr x, c1, c2, r5.mono fun id hid => by omega⟩
      | false =>
        cases hn : isN o.op with
        | true =>
          obtain ⟨kb, hk, hM2, hrd, hany⟩ := opA_make hn h5
          have h7 := hany Ms
          rcases (opA_sound hI.s hf (by rw [hI.nx]; omega) ev h7).1 hwr with ⟨e, _⟩ | ⟨_, kb', ⟨hk', x, ob, n, r1, r2, r3⟩, he⟩
          · rw [hn] at e; cases e
          · have hkk : kb = kb' := by
              have g1 : (newB Ms (base + i) kb).h.get (base + i) = some kb := get_set_self _ _ _
              have g2 : (newB Ms (base + i) kb').h.get (base + i) = some kb' := get_set_self _ _ _
              rw [he, g2] at g1
              cases g1; rfl
            subst hkk
            obtain ⟨c1, c2⟩ := after_m (r := ⟨i, isW o.op, rd, M2.lg, (m i).nx⟩) hR hI hi ho hiD hb hk (by rw [hm1, hM2]; rfl) h4 hwr (by show rd = _; rw [h6, hrd]) e2 r2 r3
            refine ⟨_, _, _, _, _, .one (step_value ho hw hd (.inl r1)), dfr x, c1, c2, fun id hid e => ?_⟩
            show (if id = base + i then _ else _) = _
            rw [if_neg (by have hid : id < base := hid; omega)]
            exact e
        | false =>
          have self := opA_read (P := P) (M2 := ⟨(m i).h, (m i).nx, []⟩) (M := ⟨(m i).h, (m i).nx, []⟩) (fid := base + i) (ev := evA T) hwr hn (fun _ _ => rfl)
          rw [h5] at self
          have hM2 : M2 = ⟨(m i).h, (m i).nx, []⟩ := by cases self; rfl
          have own := read_own h5 hn
          have phi := read_phi (G := G) (ρ := a.eval) ev hn (fid := base + i)
          have same : ∀ id ∈ readsOf o.op (evA T) (base + i), Ms.h.get id = (m i).h.get id := fun id hid => by
            have ho1 : Own (m i) id := own id hid
            have hp := phi id hid
            refine (own_eq (M := m i) (N := Ms) ?_ ho1).symm
            refine ((hI.mem id hp).at' (by omega) (fun j hj hne => ?_) (fun j k1 k2 hne hD => ?_)).symm
            · obtain ⟨r, hr, c1, c2⟩ := hR.chg (j := j) (by omega) hne
              refine Classical.byContradiction fun hnD => ?_
              have hnb : id = base + j → False := fun e => hp (by rw [e]; exact hI.unb j (by omega) hnD)
              cases hrw : r.w with
              | false => exact hnb (c1 hrw).1
              | true =>
                rcases hR.pair hj hi hr h4 with e | ⟨e, _⟩ | ⟨_, _, e⟩ | ⟨e, _⟩
                · exact hnD (hb j e)
                · rw [hrw] at e; cases e
                · obtain ⟨x1, x2⟩ := e id (by show id ∈ rd; rw [h6]; exact hid)
                  rcases c2 hrw with y | y | y
                  · exact x2 y
                  · exact hnb y
                  · omega
                · rw [hrw] at e; cases e
            · have hij : j ≠ i := fun e => hiD (e ▸ hD)
              obtain ⟨r, hr, c1, c2⟩ := hR.chg (j := j) k2 hne
              have hnb : id = base + j → False := fun e => by rw [e] at ho1; exact (hR.nx_of i (by omega)).2.2 j (by omega) (by omega) ho1
              cases hrw : r.w with
              | false => exact hnb (c1 hrw).1
              | true =>
                rcases hR.pair (i := i) (j := j) (by omega) k2 h4 hr with e | ⟨_, e⟩ | ⟨_, e, _⟩ | ⟨_, _, e⟩
                · exact hiD (hI.cl j hD i e)
                · rw [hrw] at e; cases e
                · rw [hrw] at e; cases e
                · obtain ⟨x1, x2⟩ := e id (by show id ∈ rd; rw [h6]; exact hid)
                  rcases c2 hrw with y | y | y
                  · exact x2 y
                  · exact hnb y
                  · omega
          have h7 := opA_read (P := P) (M2 := Ms) (M := ⟨(m i).h, (m i).nx, []⟩) (fid := base + i) (ev := evA T) hwr hn same
          rw [h5] at h7
          have h7 : opA o.op P (evA T) Ms (base + i) = .val (v i) Ms := h7
          rcases (opA_sound hI.s hf (by rw [hI.nx]; omega) ev h7).1 hwr with ⟨_, ⟨x, r1, r2⟩, _⟩ | ⟨e, _⟩
          · exact ⟨G, w, Ms, _, _, .one (step_value ho hw hd (.inl r1)), dfr x, after_q hR hI hi ho hiD hb (fun id => og_get (by rw [hm1, hM2])) e2 r2, Ev.refl _ _ _, Ub.refl _ _⟩
          · rw [hn] at e; cases e
    · have hwr : isW o.op = true := by rw [h5]; rfl
      have hag : evA T g = evA (tm i) g ∧ args.toList.map (evA T) = args.toList.map (evA (tm i)) := by
        have l2 : Ag T (tm i) (oT g ++ oTs args.toList) := by
          have : opTmps o.op = oT g ++ oTs args.toList := by rw [h5]; rfl
          rw [← this]; exact lk2
        exact ⟨Ag.one l2.left, l2.right.map⟩
      rw [← hag.1, ← hag.2] at h6
      obtain ⟨d, nx, c1, c2, c3, c4⟩ := h6.2 G w (a.eval g) (args.map a.eval) (s1 hwr) (hR.nx_of i (by omega)).2.1 (ev g) (args_rv ev)
      obtain ⟨G', w', E, t1, t2, t3, t4, t5⟩ := c4 (b.atR a (.inRegion ops (i :: rest) :: k)) cs
      cases E with
      | outgrown => exact t2.elim
      | panicked ch => exact t2.elim
      | returned x =>
        have r2 : RV G' x (v i) := t2
        have t5 : Ub (· < (m i).nx) G G' := t5
        obtain ⟨C, q1, q2⟩ := after_w hR hI hi ho hiD hb (w1 hwr) (w2 hwr) (s1 hwr) t3 t4 (fun id _ hn e => t5 id hn e) hm1 hm2 e2 r2
        have hbk : back (b.atR a (.inRegion ops (i :: rest) :: k)) (.returned x) = b.atR (a.put o.dst x) (.inRegion ops rest :: k) := by
          show (b.atR a (.inRegion ops (i :: rest) :: k)).finish x = _
          rw [Frame.finish_atR, ho, Option.bind_some]
        rw [hbk] at t1
        exact ⟨G', w', C, _, _, .head (step_start ho hw hd (exec_call h5 c1 c2) c3) t1, dfr x, q1, q2, t5.mono fun id hid => by omega⟩
/-- An operation that panics: where the trace ends. -/
theorem Reg.pan (hR : Reg P ops base sz st m tm v rc) (hI : Inv ops base sz st m tm rc D G w Ms T a) (ho : ops[st]? = some o) (hb : ∀ j, Bf ops.toList j st → j ∈ D) {ch : List AE} {M2 : Mem} (hp : Pan P ops.toList base st o (tm st) (m st) ch M2) (w1 : ∀ j r, j < st → rc j = some r → r.w = true → Bf ops.toList j st) (b : Frame) (k : List Item) (cs : List Frame) (rest : List Nat) :
    ∃ G' w' pc, Steps P (lone (b.atR a (.inRegion ops (st :: rest) :: k)) cs w) (lone ((b.atR a (.inRegion ops (st :: rest) :: k)).raise pc) cs w') ∧ RCh G' pc ch ∧ St G' w' M2 ∧ Ev G w Ms G' w' ⟨M2.h, max M2.nx Ms.nx, []⟩ ∧ Ub (· < base) G G' := by
  have szs := hR.st_le
  have n0 := (hR.nx_of st (Nat.le_refl _)).1
  have hiD : st ∉ D := fun h => by have := hI.dl st h; omega
  have lk := looks_eq hR hI (Nat.le_refl _) ho hiD hb
  have lk2 : Ag T (tm st) (opTmps o.op) := fun t ht => lk t (looks_tmps ht)
  have wc := wantA_congr lk
  have ev : ∀ x, RV G (a.eval x) (evA T x) := fun x => hI.rt.eval x
  obtain ⟨h1, hd, h5⟩ := hp
  rw [← wc] at h1
  have hw := wantA_ok h1 hI.rt
  have v1 : ∀ j r, j < st → rc j = some r → r.w = true → j ∈ D := fun j r hj hr hrw => hb j (w1 j r hj hr hrw)
  have s1 : St G w ⟨(m st).h, (m st).nx, []⟩ := st_w hR hI (Nat.le_refl _) hiD v1 (fun j r _ _ => by omega) (fun id hp => by
    cases e : G.phi id with
    | none => exact absurd e hp
    | some y => rw [← hI.nx]; exact hI.s.fresh id y.1 y.2 e)
  have same : ∀ id, G.phi id ≠ none → og Ms id = og (m st) id := fun id hp => (mem_w hR hI (Nat.le_refl _) hiD v1 (fun j r _ _ => by omega) id hp).elim (fun e => e) (fun ⟨j, h1, h2, _⟩ => by omega)
  have fin : ∀ {G' : Gh} {w' : World}, Ev G w ⟨(m st).h, (m st).nx, []⟩ G' w' M2 → Ev G w Ms G' w' ⟨M2.h, max M2.nx Ms.nx, []⟩ := fun {G' w'} e =>
    e.ofOg (fun id hp o => (own_cong (same id hp)).2 o) (fun id hp o => by
      rcases e.dom id o with o | e
      · exact (own_cong (same id hp)).2 o
      · exact absurd e hp) (Nat.le_max_right _ _)
  rcases h5 with ⟨x, h5, rfl, rfl⟩ | ⟨g, args, ts, h5, h6⟩
  · obtain ⟨q1, q2⟩ := opA_congr (P := P) (M := ⟨(m st).h, (m st).nx, []⟩) (fid := base + st) lk2
    rw [← q1] at h5
    obtain ⟨pv, r1, r2, r3⟩ := opA_panic (P := P) (w := w) ev h5
    exact ⟨G, w, _, .one (step_panic ho hw hd r1), ⟨rfl, rfl, r2, trivial⟩, s1, fin (Ev.refl _ _ _), Ub.refl _ _⟩
  · have hag : evA T g = evA (tm st) g ∧ args.toList.map (evA T) = args.toList.map (evA (tm st)) := by
      have l2 : Ag T (tm st) (oT g ++ oTs args.toList) := by
        have : opTmps o.op = oT g ++ oTs args.toList := by rw [h5]; rfl
        rw [← this]; exact lk2
      exact ⟨Ag.one l2.left, l2.right.map⟩
    rw [← hag.1, ← hag.2] at h6
    obtain ⟨d, nx, c1, c2, c3, c4⟩ := h6.2 G w (a.eval g) (args.map a.eval) s1 (hR.nx_of st (Nat.le_refl _)).2.1 (ev g) (args_rv ev)
    obtain ⟨G', w', E, t1, t2, t3, t4, t5⟩ := c4 (b.atR a (.inRegion ops (st :: rest) :: k)) cs
    cases E with
    | outgrown => exact t2.elim
    | returned x => exact t2.elim
    | panicked pc =>
      have t5 : Ub (· < (m st).nx) G G' := t5
      exact ⟨G', w', pc, .head (step_start ho hw hd (exec_call h5 c1 c2) c3) t1, t2, t3, fin t4, t5.mono fun id hid => by omega⟩
end
end Go.Proofs.YtbknpfckdnladaaGreat
