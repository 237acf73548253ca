/- Jobs: a frame on its way out, calls; all jobs. No condition. -/
import Derived.Test.YtbknpfckdnladaaGreatBk
set_option linter.unusedVariables false
set_option maxHeartbeats 4000000
namespace Go.Proofs.YtbknpfckdnladaaGreat
section
variable {P : Program} {G : Gh} {w w' : World} {M : Mem}
/-- A block is given up and written. -/
theorem St.shut {id b base : Nat} (hs : St G w M) (ho : Own M id) (hp : G.phi id = some (b, base)) (hw : ∀ x, x ≠ b → w'.heap[x]? = w.heap[x]?) (hsz : w'.heap.size = w.heap.size) (hos : w'.os = w.os ∧ w'.tape = w.tape ∧ w'.output = w.output) (lg : List Nat) :
    St G w' ⟨M.h.set id .gone, M.nx, lg⟩ ∧ Ev G w M G w' ⟨M.h.set id .gone, M.nx, lg⟩ := by
  have gm : ∀ i, (M.h.set id .gone).get i = if id = i then some .gone else M.h.get i := fun i => get_set _ _ _ _
  have own : ∀ i, Own ⟨M.h.set id .gone, M.nx, lg⟩ i → Own M i := fun i ⟨q, h1, h2⟩ => by
    by_cases e : id = i
    · rw [← e]; exact ho
    · change (M.h.set id .gone).get i = _ at h1
      rw [gm, if_neg e] at h1
      exact ⟨q, h1, h2⟩
  constructor
  · refine ⟨fun i q b' base' h1 h2 => ?_, fun i i' b' base1 base2 o1 o2 h1 h2 => hs.inj i i' b' base1 base2 (own i o1) (own i' o2) h1 h2, fun i b' base' h => by rw [hsz]; exact hs.lt _ _ _ h, hs.fresh, fun b' i v h => ?_, fun b' v h => ?_, fun i b' base' j o1 h => hs.sep i b' base' j (own i o1) h, fun i b' base' o1 h => hs.sep2 i b' base' (own i o1) h⟩
    · change (M.h.set id .gone).get i = _ at h1
      rw [gm] at h1
      by_cases e : id = i
      · rw [if_pos e] at h1
        cases h1
        trivial
      · rw [if_neg e] at h1
        by_cases hb : b' = b
        · subst hb
          by_cases hq : q = .gone
          · subst hq; trivial
          · exact absurd (hs.inj id i b' base base' ho ⟨q, h1, hq⟩ hp h2) e
        · exact (hs.blk i q b' base' h1 h2).mono (GLe.refl G) (hw b' hb) h2
    · have hb : b' ≠ b := fun e => by rw [e, hs.sep id b base i ho hp] at h; cases h
      have := hs.con b' i v h
      unfold World.cell? at this ⊢
      rw [hw b' hb]
      exact this
    · have hb : b' ≠ b := fun e => by rw [e, hs.sep2 id b base ho hp] at h; cases h
      obtain ⟨c, h1⟩ := hs.cob b' v h
      exact ⟨c, by rw [hw b' hb]; exact h1⟩
  · exact ⟨GLe.refl G, fun _ _ _ h => .inl h, fun _ _ _ h => .inl h, fun _ _ h => .inl h, fun _ _ => rfl, fun b' _ hn => hw b' (fun e => hn ⟨id, base, ho, by rw [e]; exact hp⟩), by omega, hos, Nat.le_refl _, fun i o1 => .inl (own i o1)⟩
theorem settle_ok {m : FrameMode} {u : AMode} (h : RM G m u) : RM G (settle m) (settleA u) ∧ (m ≠ .run → settle m ≠ .run) := by
  cases m with
  | run =>
    cases u with
    | run => exact ⟨trivial, fun h => h⟩
    | _ => exact h.elim
  | returning =>
    cases u with
    | ret => exact ⟨trivial, fun h => h⟩
    | _ => exact h.elim
  | panicking ch =>
    cases u with
    | run => exact h.elim
    | ret => exact h.elim
    | pan l =>
      cases ch with
      | nil =>
        cases l with
        | nil => exact ⟨trivial, fun h => h⟩
        | cons q l => exact h.elim
      | cons p ps =>
        cases l with
        | nil => exact h.elim
        | cons q l =>
          obtain ⟨h1, h2, h3, h4⟩ := h
          obtain ⟨qv, qr⟩ := q
          obtain ⟨pv, prec, pg⟩ := p
          have h1 : prec = qr := h1
          have h2 : pg = false := h2
          subst h1; subst h2
          have dw : ∀ (ps : List PanicEntry) (l : List AE), RCh G ps l → ps.dropWhile (!·.goexit) = [] := fun ps => by
            induction ps with
            | nil => intro l _; rfl
            | cons p ps ih =>
              intro l h
              cases l with
              | nil => exact h.elim
              | cons q l =>
                have hg : p.goexit = false := h.2.1
                simp only [List.dropWhile_cons, hg, Bool.not_false, if_true]
                exact ih l h.2.2.2
          cases prec with
          | false => exact ⟨⟨rfl, rfl, h3, h4⟩, fun h => h⟩
          | true =>
            have e : settle (.panicking ({ v := pv, recovered := true } :: ps)) = .returning := by
              unfold settle
              dsimp only
              rw [dw ps l h4]
            exact ⟨by rw [e]; trivial, fun _ => by rw [e]; simp⟩
theorem RCh.append : ∀ {ch ps : List PanicEntry} {l old : List AE}, RCh G ch l → RCh G ps old → RCh G (ch ++ ps) (l ++ old)
  | [], ps, [], old, _, h => h
  | p :: ch, ps, q :: l, old, ⟨h1, h2, h3, h4⟩, h => ⟨h1, h2, h3, RCh.append h4 h⟩
theorem raised_ok {m : FrameMode} {u : AMode} {ch : List PanicEntry} {l : List AE} (h : RM G m u) (hc : RCh G ch l) : RM G (raised m ch) (raisedA u l) ∧ raised m ch ≠ .run := by
  cases m with
  | run =>
    cases u with
    | run => exact ⟨hc, by simp [raised]⟩
    | _ => exact h.elim
  | returning =>
    cases u with
    | ret => exact ⟨hc, by simp [raised]⟩
    | _ => exact h.elim
  | panicking ps =>
    cases u with
    | pan old => exact ⟨hc.append h, by simp [raised]⟩
    | _ => exact h.elim
theorem enterT_get : ∀ (args : List AV) (i : Nat) (t : Tr AV) (j : Nat), (enterT args i t).get j = if i ≤ j ∧ j < i + args.length then args[j - i]? else t.get j
  | [], i, t, j => by
    rw [if_neg (by simp only [List.length_nil]; omega)]
    rfl
  | a :: args, i, t, j => by
    show (enterT args (i + 1) (t.set i a)).get j = _
    rw [enterT_get args (i + 1) (t.set i a) j]
    by_cases e : i = j
    · subst e
      rw [if_neg (by omega), if_pos (by simp), get_set_self]
      simp
    · by_cases h : i + 1 ≤ j ∧ j < i + 1 + args.length
      · rw [if_pos h, if_pos (by simp only [List.length_cons]; omega)]
        rw [show j - i = (j - (i + 1)) + 1 by omega]
        rfl
      · rw [if_neg h, if_neg (by simp only [List.length_cons]; omega), get_set_ne _ _ e]
theorem enter_rt {vs : Array Value} {args : List AV} {n : Nat} (h : RVs G vs args) : RT G (vs ++ Array.replicate n undef) (enterT args 0 .nil) := by
  intro t
  rw [enterT_get, Array.getD_eq_getD_getElem?, Array.getElem?_append]
  by_cases e : t < vs.size
  · have e2 : t < args.length := by rw [← h.len]; exact e
    rw [if_pos e, if_pos (by omega), Nat.sub_zero]
    have h1 : vs[t]? = some vs[t] := Array.getElem?_eq_getElem e
    have h2 : args[t]? = some args[t] := List.getElem?_eq_getElem e2
    rw [h1, h2]
    exact h.at' t _ _ h1 h2
  · rw [if_neg e, if_neg (by rw [← h.len]; omega), get_nil, Array.getElem?_replicate]
    split <;> exact .undef
theorem setPs_rt {sz : Nat} : ∀ (ps : List Nat) (vs : List Value) (args : List AV) (ts : Array Value) (tm : Tr AV), RVs G vs.toArray args → RT G ts tm → ts.size = sz → RT G ((ps.zip vs).foldl (fun tmps (p : Nat × Value) => tmps.setIfInBounds p.1 p.2) ts) (setPs sz ps args tm) ∧ ((ps.zip vs).foldl (fun tmps (p : Nat × Value) => tmps.setIfInBounds p.1 p.2) ts).size = sz
  | [], vs, args, ts, tm, h, hr, hs => by
    simp only [List.zip_nil_left, List.foldl_nil]
    exact ⟨hr, hs⟩
  | p :: ps, [], args, ts, tm, h, hr, hs => by
    cases args with
    | nil => exact ⟨hr, hs⟩
    | cons a args => exact absurd h.len (by simp)
  | p :: ps, v :: vs, args, ts, tm, h, hr, hs => by
    cases args with
    | nil => exact absurd h.len (by simp)
    | cons a args =>
      simp only [List.zip_cons_cons, List.foldl_cons]
      exact setPs_rt ps vs args _ _ ⟨by have := h.len; simpa using this, fun j v a h1 h2 => h.at' (j + 1) v a (by simpa using h1) (by simpa using h2)⟩ (hr.set hs (h.at' 0 v a rfl rfl)) (by simpa using hs)
end
section
variable {R : Type} {X : Cx} {er : Nat → R} {run : Job R → R} {k : K R} {bl : AMode} {M : Mem} {f : Fr}
theorem lv0_ok {P : Program} {u : AMode} (hds : f.ds = []) (hro : f.ro = none) (hX : X.P = P) : Out er k (jLv0 X er f u bl M k) (LvS P f u bl M) := by
  subst hX
  unfold jLv0
  split
  · rename_i l hl
    obtain ⟨fn, h1, h2⟩ := resOf_ok hl
    have dnil : ∀ {G : Gh} {ds : List Deferred}, DsR G ds f.ds → ds = [] := fun {G ds} h => by
      rw [hds] at h
      cases ds with
      | nil => rfl
      | cons d ds => exact h.elim
    split
    · unfold jRes
      split
      · rename_i l' hl'
        refine .inr ⟨_, _, _, rfl, AT.refl _ _, fun G w fr c0s cs hs hw hf hb hr => ?_⟩
        rw [← h2] at hl'
        obtain ⟨v, r1, r2⟩ := results_ok (P := X.P) hs hf.rt hl'
        have hmode : fr.mode = .returning := by
          have := hf.mode
          cases e : fr.mode with
          | returning => rfl
          | run => rw [e] at this; exact this.elim
          | panicking ch => rw [e] at this; exact this.elim
        have hfn : X.P.funcs[fr.fn]? = some fn := by rw [hf.fn]; exact h1
        refine ⟨G, w, cs, .returned v, _, Steps.refl _ _, hb, ?_, r2, hs, Ev.refl _ _ _, Ub.refl _ _⟩
        rw [hro]
        refine ⟨fr, rfl, hf.fn, ?_⟩
        have hk := hf.kind
        cases hd : f.dfd with
        | true => rw [hd] at hk; exact ⟨hk, hmode, dnil hf.ds, fn, hfn, r1⟩
        | false => rw [hd] at hk; exact ⟨hmode, dnil hf.ds, hk, fn, hfn, r1⟩
      · exact .er
    · rename_i ch
      refine .inr ⟨_, _, _, rfl, AT.refl _ _, fun G w fr c0s cs hs hw hf hb hr => ?_⟩
      have hmode : ∃ pc, fr.mode = .panicking pc ∧ RCh G pc ch := by
        have := hf.mode
        cases e : fr.mode with
        | returning => rw [e] at this; exact this.elim
        | run => rw [e] at this; exact this.elim
        | panicking pc => rw [e] at this; exact ⟨pc, rfl, this⟩
      obtain ⟨pc, hmode, hch⟩ := hmode
      have hfn : X.P.funcs[fr.fn]? = some fn := by rw [hf.fn]; exact h1
      refine ⟨G, w, cs, .panicked pc, _, Steps.refl _ _, hb, ?_, hch, hs, Ev.refl _ _ _, Ub.refl _ _⟩
      rw [hro]
      refine ⟨fr, rfl, hf.fn, ?_⟩
      have hk := hf.kind
      cases hd : f.dfd with
      | true => rw [hd] at hk; exact ⟨hk, hmode, dnil hf.ds, fn, hfn⟩
      | false => exact ⟨hmode, dnil hf.ds, fn, hfn⟩
    · exact .er
  · exact .er
theorem rnd_ok {ch : List AE} (hds : f.ds = []) {l : Nat} (hro : f.ro = some l) : Out er k (jRnd er (resOf X.P f.fn) ch bl M k) (LvS X.P f (.pan ch) bl M) := by
  unfold jRnd
  split
  · rename_i l hl
    obtain ⟨fn, h1, h2⟩ := resOf_ok hl
    refine .inr ⟨_, _, _, rfl, AT.refl _ _, fun G w fr c0s cs hs hw hf hb hr => ?_⟩
    have hmode : ∃ pc, fr.mode = .panicking pc ∧ RCh G pc ch := by
      have := hf.mode
      cases e : fr.mode with
      | returning => rw [e] at this; exact this.elim
      | run => rw [e] at this; exact this.elim
      | panicking pc => rw [e] at this; exact ⟨pc, rfl, this⟩
    obtain ⟨pc, hmode, hch⟩ := hmode
    have hd : fr.defers = [] := by
      have := hf.ds
      rw [hds] at this
      cases e : fr.defers with
      | nil => rfl
      | cons d ds => rw [e] at this; exact this.elim
    have hcs : ∃ c cs0, cs = c :: cs0 := by
      cases hdf : f.dfd with
      | false =>
        rw [hdf] at hb
        have hb : cs = c0s := hb
        subst hb
        cases cs with
        | nil => exact absurd rfl (hr (by rw [hro]; simp))
        | cons c cs => exact ⟨c, cs, rfl⟩
      | true =>
        rw [hdf] at hb
        obtain ⟨c, cs0, u, rfl, rfl, _⟩ := hb
        exact ⟨_, _, rfl⟩
    obtain ⟨c, cs0, rfl⟩ := hcs
    have hfn : X.P.funcs[fr.fn]? = some fn := by rw [hf.fn]; exact h1
    refine ⟨G, w, c :: cs0, .panicked pc, _, .one (step_leave_panicked (fr := fr) (chain := pc) ⟨hmode, hd, fn, hfn⟩), hb, ?_, hch, hs, Ev.refl _ _ _, Ub.refl _ _⟩
    rw [hro]
    exact ⟨c, cs0, rfl, rfl⟩
  · exact .er
variable (hP : POk X.P) (H : ∀ j, Out er j.k (run j) (JobS X.P j))
include hP H
theorem lv_step (u : AMode) : Out er k (jLv X er run f u bl M k) (LvS X.P f u bl M) := by
  unfold jLv
  split
  · rename_i l hro
    split
    · rename_i ch hds
      exact rnd_ok hds hro
    · exact .er
  · rename_i hro
    split
    · rename_i hds
      exact lv0_ok hds hro rfl
    · rename_i id ds hds
      split
      · rename_i hid
        refine (run_lv H (frDs f ds) u bl _ k).imp fun e bl' M' hS => ?_
        have at1 : AT (M.nx ≤ ·) M ⟨M.h.set id .gone, M.nx, id :: M.lg⟩ := at_set ⟨_, hid, by simp⟩
        refine ⟨at_of at1 hS.1, fun G w fr c0s cs hs hw hf hb hr => ?_⟩
        have hd := hf.ds
        rw [hds] at hd
        cases hfd : fr.defers with
        | nil => rw [hfd] at hd; exact hd.elim
        | cons d ds' =>
          rw [hfd] at hd
          obtain ⟨⟨r, ht, hp⟩, hd'⟩ := hd
          obtain ⟨_, hblk⟩ := hs.blk id .dfr r 0 hid hp
          have htk := run_takeDeferred (P := X.P) hblk
          have hst := step_collected (P := X.P) (cs := cs) hf.run hfd ht htk
          obtain ⟨s1, s2⟩ := hs.shut (w' := w.putObj r (.deferred none)) ⟨_, hid, by simp⟩ hp (fun x hx => World.putObj_heap_other hx) World.putObj_size ⟨rfl, rfl, rfl⟩ (id :: M.lg)
          obtain ⟨fn, dfd, sz, tm, todo, dss, ro⟩ := f
          exact goal_lv (f1 := frDs ⟨fn, dfd, sz, tm, todo, dss, ro⟩ ds) (fr1 := { fr with defers := [] ++ ds' }) hS (.one hst) s1 (at1.wf hw) s2 (Ub.refl _ _) ⟨hf.fn, hf.kind, hf.rt, hd', hf.mode, hf.run⟩ hb hr
      · exact .er
    · rename_i g args ds hds
      refine out_call H (fun e u' M2 hS => ?_)
      dsimp only [Job.k]
      replace hS : CallS X.P g args true u M e u' M2 := hS
      obtain ⟨⟨fg, hfg1, hfg2⟩, at1, hS⟩ := hS
      have go : ∀ (G : Gh) (w : World) (fr : Frame) (cs : List Frame), St G w M → WfM M → LvR G f u fr → ∃ G2 w2 u2 fr2 ds' E, Steps X.P (lone fr cs w) (lone fr2 ({ fr with defers := ds', mode := u2 } :: cs) w2) ∧ RM G2 u2 u' ∧ u2 ≠ .run ∧ fr2.kind = .deferred ∧ fr2.going X.P w2 E ∧ RE G2 E e ∧ St G2 w2 M2 ∧ Ev G w M G2 w2 M2 ∧ Ub (· < M.nx) G G2 ∧ DsR G2 ds' ds := fun G w fr cs hs hw hf => by
        have hd := hf.ds
        rw [hds] at hd
        cases hfd : fr.defers with
        | nil => rw [hfd] at hd; exact hd.elim
        | cons d ds' =>
          rw [hfd] at hd
          obtain ⟨⟨cap, ht, hargs⟩, hd'⟩ := hd
          have hinv : (invoke d.target d.args).run X.P w = .ok (.enter g (d.args ++ cap)) w := by rw [ht]; exact invoke_fn hP hfg1 hfg2 cap d.args w
          have hst := step_defer (P := X.P) (cs := cs) hf.run hfd ht hinv
          obtain ⟨G2, w2, cs2, E, m2, g1, g2, g3, g4, g5, g6, g7⟩ := hS G w _ ({ fr with defers := ds' } :: cs) ({ fr with defers := ds' } :: cs) hs hw hargs ⟨_, _, fr.mode, rfl, rfl, hf.mode, fun h => h⟩
          obtain ⟨c, cs0, u2, e1, e2, e3, e4⟩ := g2
          cases e1
          subst e2
          obtain ⟨fr2, rfl, _, hk2, hg2⟩ := g3
          exact ⟨G2, w2, u2, fr2, ds', E, .head hst g1, e3, e4 hf.run, hk2, hg2, g4, g5, g6, g7, hd'.mono g6.le⟩
      cases e with
      | ret v =>
        dsimp only
        refine (run_lv H (frDs f ds) (settleA u') bl M2 k).imp fun e bl' M' hS' => ⟨at_of at1 hS'.1, fun G w fr c0s cs hs hw hf hb hr => ?_⟩
        obtain ⟨G2, w2, u2, fr2, ds', E, q1, q2, q3, q4, q5, q6, q7, q8, q9, q10⟩ := go G w fr cs hs hw hf
        cases E with
        | outgrown => exact q6.elim
        | panicked ch => exact q6.elim
        | returned x =>
          have hst := step_going_returned (P := X.P) (c := { fr with defers := ds', mode := u2 }) (cs := cs) q4 q5
          obtain ⟨k1, k2⟩ := settle_ok q2
          obtain ⟨fn, dfd, sz, tm, todo, dss, ro⟩ := f
          exact goal_lv (f1 := frDs ⟨fn, dfd, sz, tm, todo, dss, ro⟩ ds) (fr1 := { fr with defers := ds', mode := settle u2 }) hS' (q1.trans (.one hst)) q7 (at1.wf hw) q8 q9 ⟨hf.fn, hf.kind, hf.rt.mono q8.le, q10, k1, k2 q3⟩ hb hr
      | pan ch =>
        dsimp only
        refine (run_lv H (frDs f ds) (raisedA u' ch) bl M2 k).imp fun e bl' M' hS' => ⟨at_of at1 hS'.1, fun G w fr c0s cs hs hw hf hb hr => ?_⟩
        obtain ⟨G2, w2, u2, fr2, ds', E, q1, q2, q3, q4, q5, q6, q7, q8, q9, q10⟩ := go G w fr cs hs hw hf
        cases E with
        | outgrown => exact q6.elim
        | returned x => exact q6.elim
        | panicked pc =>
          have hst := step_going_panicked (P := X.P) (c := { fr with defers := ds', mode := u2 }) (cs := cs) q5
          obtain ⟨k1, k2⟩ := raised_ok q2 q6
          obtain ⟨fn, dfd, sz, tm, todo, dss, ro⟩ := f
          exact goal_lv (f1 := frDs ⟨fn, dfd, sz, tm, todo, dss, ro⟩ ds) (fr1 := { fr with defers := ds', mode := raised u2 pc }) hS' (q1.trans (.one hst)) q7 (at1.wf hw) q8 q9 ⟨hf.fn, hf.kind, hf.rt.mono q8.le, q10, k1, k2⟩ hb hr
end
end Go.Proofs.YtbknpfckdnladaaGreat
