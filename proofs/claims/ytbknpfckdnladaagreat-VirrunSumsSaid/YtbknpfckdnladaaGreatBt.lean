/- What was run in a small memory, in a great one that holds as much: calls, and frames at a loop's head. No condition. -/
import Derived.Test.YtbknpfckdnladaaGreatBs
set_option linter.unusedVariables false
set_option maxHeartbeats 4000000
namespace Go.Proofs.YtbknpfckdnladaaGreat
/-- The first block tells all that the second does. -/
def Wk (k k' : Blk) : Prop := k ≠ .gone ∧ ∀ (G : Gh) (w : World) (b base : Nat), BlkR G w b base k → BlkR G w b base k'
def Sub (D : List Nat) (m M : Mem) : Prop := ∀ id ∈ D, ∃ k k', M.h.get id = some k ∧ m.h.get id = some k' ∧ Wk k k'
/-- A small memory that knows only itself. -/
structure Small (D : List Nat) (m : Mem) : Prop where
  lt : ∀ id ∈ D, id < m.nx
  dom : ∀ id, Own m id → id ∈ D
  ok : ∀ id ∈ D, ∀ k, m.h.get id = some k → okB D k = true
/-- What is left of it. -/
structure New (D : List Nat) (m1 : Mem) (N : List (Nat × Blk)) : Prop where
  all : N.map (·.1) = D
  nd : D.Nodup
  ok : ∀ p ∈ N, okB D p.2 = true ∧ p.2 ≠ .gone
  is : ∀ p ∈ N, ∃ k, m1.h.get p.1 = some k ∧ Wk k p.2
section
variable {P : Program} {D : List Nat} {m m1 M : Mem} {N : List (Nat × Blk)}
theorem Sub.own (hM : Sub D m M) (hm : Small D m) {id : Nat} (o : Own m id) : Own M id := by
  obtain ⟨k, k', e1, _, e3, _⟩ := hM id (hm.dom id o)
  exact ⟨k, e1, e3⟩
theorem new_at (hn : New D m1 N) (hM : Sub D m M) (hm : Small D m) (h2 : AT (m.nx ≤ ·) m m1) : AT (M.nx ≤ ·) M (putN M N) ∧ ∀ id, Own (putN M N) id → Own M id := by
  have own : ∀ id, Own (putN M N) id → Own M id := fun id o => by
    by_cases hi : id ∈ N.map (·.1)
    · obtain ⟨k, k', e1, _, e3, _⟩ := hM id (by rw [← hn.all]; exact hi)
      exact ⟨k, e1, e3⟩
    · obtain ⟨k, e1, e2⟩ := o
      exact ⟨k, by rw [← fold_out N M.h hi]; exact e1, e2⟩
  exact ⟨⟨Nat.le_refl _, ⟨N.map (·.1), rfl, fun id _ h => fold_out N M.h h⟩, fun id o => .inl (own id o), fun h id o => h id (own id o)⟩, own⟩
/-- The ghost of the small memory. -/
noncomputable def gOf (D : List Nat) (G : Gh) : Gh := ⟨fun id => if id ∈ D then G.phi id else none, G.con, G.cob, G.tot⟩
theorem gOf_in {G : Gh} {id : Nat} {x : Nat × Nat} (h : (gOf D G).phi id = some x) : id ∈ D ∧ G.phi id = some x := by
  have h : (if id ∈ D then G.phi id else none) = some x := h
  by_cases e : id ∈ D
  · rw [if_pos e] at h; exact ⟨e, h⟩
  · rw [if_neg e] at h; cases h
theorem gOf_eq {G : Gh} : ∀ id ∈ D, G.phi id = (gOf D G).phi id := fun id h => (if_pos h).symm
theorem gOf_tot {G : Gh} : ∀ id ∈ D, ∀ b base, G.phi id = some (b, base) → (gOf D G).tot b = G.tot b := fun _ _ _ _ _ => rfl
theorem small_st {G : Gh} {w : World} (hs : St G w M) (hM : Sub D m M) (hm : Small D m) : St (gOf D G) w m ∧ WfM m := by
  refine ⟨⟨fun id k b base e1 e2 => ?_, fun id id' b b1 b2 o1 o2 e1 e2 => ?_, fun id b base e => ?_, fun id b base e => ?_, hs.con, hs.cob, fun id b base i o e => ?_, fun id b base o e => ?_⟩, fun id o => hm.lt id (hm.dom id o)⟩
  · obtain ⟨d, e2⟩ := gOf_in e2
    obtain ⟨k1, k2, q1, q2, q3, q4⟩ := hM id d
    rw [q2] at e1
    cases e1
    exact okB_tr gOf_eq gOf_tot (hm.ok id d k q2) d e2 (q4 G w b base (hs.blk id k1 b base q1 e2))
  · exact hs.inj id id' b b1 b2 (hM.own hm o1) (hM.own hm o2) (gOf_in e1).2 (gOf_in e2).2
  · exact hs.lt id b base (gOf_in e).2
  · exact hm.lt id (gOf_in e).1
  · exact hs.sep id b base i (hM.own hm o) (gOf_in e).2
  · exact hs.sep2 id b base (hM.own hm o) (gOf_in e).2
theorem small_goal {G : Gh} {w : World} {mach : Machine} {ro : Option Nat} {fn : Nat} {c0s : List Frame} {r : AV} {bl' : AMode} (hs : St G w M) (hM : Sub D m M) (hm : Small D m) (hn : New D m1 N) (hr : okA D r = true) (h2 : AT (m.nx ≤ ·) m m1)
    (hg : Goal P (gOf D G) w m mach ro false fn c0s (.ret r) bl' m1) : Goal P G w M mach ro false fn c0s (.ret r) bl' (putN M N) := by
  obtain ⟨g', w', cs', E, m', q1, q2, q3, q4, q5, q6, q7⟩ := hg
  have own := (new_at hn hM hm h2).2
  have hpb : ∀ id ∈ D, g'.phi id = G.phi id := fun id d => by
    cases e : G.phi id with
    | none => exact q7 id (hm.lt id d) (by rw [← gOf_eq id d]; exact e)
    | some x => exact q6.le.phi id x (by rw [← gOf_eq id d]; exact e)
  have htb : ∀ id ∈ D, ∀ b base, g'.phi id = some (b, base) → G.tot b = g'.tot b := fun id d b base e => by
    rw [hpb id d] at e
    exact (q6.le.tot id b base (by rw [← gOf_eq id d]; exact e)).symm
  have ob : ∀ b, OwnB (gOf D G) m b → OwnB G M b := fun b ⟨id, base, o, e⟩ => ⟨id, base, hM.own hm o, (gOf_in e).2⟩
  refine ⟨G, w', cs', E, m', q1, q2, q3, ?_, ?_, ?_, Ub.refl _ _⟩
  · cases E with
    | returned v => exact okA_tr hpb htb hr q4
    | panicked ch => exact q4.elim
    | outgrown => exact q4.elim
  · refine ⟨fun id k b base e1 e2 => ?_, fun id id' b b1 b2 o1 o2 e1 e2 => hs.inj id id' b b1 b2 (own _ o1) (own _ o2) e1 e2, fun id b base e => Nat.lt_of_lt_of_le (hs.lt id b base e) q6.size, hs.fresh, fun b i v e => q5.con b i v (q6.le.con b i v e), fun b v e => q5.cob b v (q6.le.cob b v e), fun id b base i o e => hs.sep id b base i (own _ o) e, fun id b base o e => hs.sep2 id b base (own _ o) e⟩
    by_cases hi : id ∈ N.map (·.1)
    · have hd : id ∈ D := by rw [← hn.all]; exact hi
      obtain ⟨p, hp, rfl⟩ := List.mem_map.1 hi
      have e2' : g'.phi p.1 = some (b, base) := by rw [hpb p.1 hd]; exact e2
      have : (putN M N).h.get p.1 = some p.2 := fold_in N M.h (by rw [hn.all]; exact hn.nd) hp
      rw [e1] at this
      cases this
      obtain ⟨k1, p4, p5⟩ := hn.is p hp
      exact okB_tr hpb htb (hn.ok p hp).1 hd e2' (p5.2 _ _ _ _ (q5.blk p.1 k1 b base p4 e2'))
    · have hd : id ∉ D := by rw [← hn.all]; exact hi
      rw [show (putN M N).h.get id = M.h.get id from fold_out N M.h hi] at e1
      by_cases hk : k = .gone
      · subst hk; trivial
      · refine (hs.blk id k b base e1 e2).same (q6.keep b (hs.lt id b base e2) fun ⟨id2, base2, o2, p2⟩ => ?_)
        have := hs.inj id id2 b base base2 ⟨k, e1, hk⟩ (hM.own hm o2) e2 (gOf_in p2).2
        exact hd (this ▸ (gOf_in p2).1)
  · exact ⟨GLe.refl G, fun _ _ _ h => .inl h, fun _ _ _ h => .inl h, fun _ _ h => .inl h, fun _ _ => rfl, fun b hb hn => q6.keep b hb (fun o => hn (ob b o)), q6.size, q6.os, Nat.le_refl _, fun id o => .inl (own id o)⟩
theorem small_call {f : Nat} {args : List AV} {r : AV} {bl : AMode} (hS : CallS P f args false bl m (.ret r) bl m1) (hm : Small D m) (hargs : args.all (okA D) = true) (hr : okA D r = true) (hn : New D m1 N) (hM : Sub D m M) : CallS P f args false bl M (.ret r) bl (putN M N) := by
  obtain ⟨h1, h2, h3⟩ := hS
  refine ⟨h1, (new_at hn hM hm h2).1, fun G w vs c0s cs hs hw hv hb => ?_⟩
  obtain ⟨sg, wg⟩ := small_st hs hM hm
  exact small_goal hs hM hm hn hr h2 (h3 (gOf D G) w vs c0s cs sg wg (okAs_tr gOf_eq gOf_tot hargs hv) hb)
/-- A frame that knows only the small memory. -/
structure SmallF (D : List Nat) (f : Fr) : Prop where
  tm : ∀ t, okA D ((f.tm.get t).getD .undef) = true
  ds : ∀ d ∈ f.ds, ∃ g as, d = .call g as ∧ as.all (okA D) = true
  ro : f.ro = none
  dfd : f.dfd = false
theorem DsR.small {G G' : Gh} (hp : ∀ id ∈ D, G.phi id = G'.phi id) (ht : ∀ id ∈ D, ∀ b base, G.phi id = some (b, base) → G'.tot b = G.tot b) : ∀ {ds : List Deferred} {as : List AD}, (∀ d ∈ as, ∃ g l, d = .call g l ∧ l.all (okA D) = true) → DsR G ds as → DsR G' ds as
  | [], [], _, _ => trivial
  | d :: ds, a :: as, h, hd => by
    obtain ⟨g, l, rfl, hl⟩ := h a (List.mem_cons_self ..)
    obtain ⟨⟨cap, q1, q2⟩, q3⟩ := hd
    exact ⟨⟨cap, q1, okAs_tr hp ht hl q2⟩, DsR.small hp ht (fun d hd => h d (List.mem_cons_of_mem _ hd)) q3⟩
  | [], _ :: _, _, h => by cases h
  | _ :: _, [], _, h => by cases h
theorem small_fr {f : Fr} {r : AV} {bl bl' : AMode} (hS : FrS P f bl m (.ret r) bl' m1) (hm : Small D m) (hf : SmallF D f) (hr : okA D r = true) (hn : New D m1 N) (hM : Sub D m M) : FrS P f bl M (.ret r) bl' (putN M N) := by
  obtain ⟨h2, h3⟩ := hS
  refine ⟨(new_at hn hM hm h2).1, fun G w b a c0s cs hs hw hfr hb hro => ?_⟩
  obtain ⟨sg, wg⟩ := small_st hs hM hm
  have hb' : Bel f.dfd (gOf D G) bl c0s cs := by
    rw [hf.dfd] at hb ⊢
    exact hb
  have := h3 (gOf D G) w b a c0s cs sg wg ⟨hfr.fn, hfr.kind, hfr.sz, fun t => okA_tr gOf_eq gOf_tot (hf.tm t) (hfr.rt t), DsR.small gOf_eq gOf_tot hf.ds hfr.ds, (by
    have := hfr.ro
    rw [hf.ro] at this ⊢
    exact this), hfr.rd⟩ hb' hro
  rw [hf.dfd] at this ⊢
  exact small_goal hs hM hm hn hr h2 this
end
/-! Clean memories: no more than these blocks. -/
noncomputable section
def rowL (l : List (List AV)) (i : Nat) : List AV := (nth l i).getD []
/-- A row by its elements. -/
def normB (b : Option Blk) : Option Blk := match b with
  | some (.row sz n g) => some (.row sz n (rowL ((List.range n).map g)))
  | b => b
def cl (nx : Nat) (N : List (Nat × Blk)) : Mem := putN ⟨.nil, nx, []⟩ N
def notGone (k : Blk) : Bool := match k with | .gone => false | _ => true
end
theorem normB_wk {b : Option Blk} {k : Blk} (h : normB b = some k) (hg : notGone k = true) : ∃ k0, b = some k0 ∧ Wk k0 k := by
  unfold normB at h
  split at h
  · rename_i sz n g
    cases h
    refine ⟨_, rfl, by simp, fun G w b base hb => ?_⟩
    refine BEq.blk (.inr ⟨sz, n, g, _, rfl, rfl, fun i hi => ?_⟩) hb
    unfold rowL
    rw [nth_eq, List.getElem?_map, List.getElem?_range hi]
    rfl
  · refine ⟨k, h, fun e => ?_, fun _ _ _ _ hb => hb⟩
    subst e
    cases hg
theorem map_some {α β : Type} {f : α → Option β} : ∀ {l : List α} {r : List (α × β)}, l = r.map (·.1) → l.map f = r.map (fun p => some p.2) → ∀ p ∈ r, f p.1 = some p.2
  | l, [], _, _, p, hp => by cases hp
  | l, q :: r, h1, h2, p, hp => by
    subst h1
    simp only [List.map_cons, List.cons.injEq] at h2
    rcases List.mem_cons.1 hp with rfl | hp
    · exact h2.1
    · exact map_some (l := r.map (·.1)) rfl h2.2 p hp
section
variable {D : List Nat} {m1 : Mem} {N : List (Nat × Blk)} {nx : Nat}
theorem cl_get (hd : (N.map (·.1)).Nodup) {p : Nat × Blk} (hp : p ∈ N) : (cl nx N).h.get p.1 = some p.2 := fold_in N .nil hd hp
/-- What an evaluation tells of a memory. -/
theorem new_of (h1 : N.map (·.1) = D) (hd : D.Nodup) (hok : (N.all fun p => okB D p.2 && notGone p.2) = true) (h : D.map (fun id => normB (m1.h.get id)) = N.map fun p => some p.2) : New D m1 N := by
  have hq : ∀ p ∈ N, okB D p.2 = true ∧ notGone p.2 = true := fun p hp => by
    have := List.all_eq_true.1 hok p hp
    simpa only [Bool.and_eq_true] using this
  refine ⟨h1, hd, fun p hp => ⟨(hq p hp).1, fun e => ?_⟩, fun p hp => ?_⟩
  · have := (hq p hp).2
    rw [e] at this
    cases this
  · exact normB_wk (map_some (f := fun id => normB (m1.h.get id)) h1.symm h p hp) (hq p hp).2
theorem New.sub (h : New D m1 N) : Sub D (cl nx N) m1 := fun id hid => by
  rw [← h.all] at hid
  obtain ⟨p, hp, rfl⟩ := List.mem_map.1 hid
  obtain ⟨k, e1, e2⟩ := h.is p hp
  exact ⟨k, p.2, e1, cl_get (by rw [h.all]; exact h.nd) hp, e2⟩
theorem cl_small (h1 : N.map (·.1) = D) (hd : D.Nodup) (hok : (N.all fun p => okB D p.2 && notGone p.2) = true) (hlt : (D.all fun id => Nat.blt id nx) = true) : Small D (cl nx N) := by
  refine ⟨fun id hid => by have := List.all_eq_true.1 hlt id hid; show id < nx; simpa using this, fun id ⟨k, e1, e2⟩ => ?_, fun id hid k e => ?_⟩
  · by_cases hi : id ∈ N.map (·.1)
    · rw [← h1]; exact hi
    · rw [show (cl nx N).h.get id = (Tr.nil : Tr Blk).get id from fold_out N .nil hi, get_nil] at e1
      cases e1
  · rw [← h1] at hid
    obtain ⟨p, hp, rfl⟩ := List.mem_map.1 hid
    rw [cl_get (by rw [h1]; exact hd) hp] at e
    cases e
    have := List.all_eq_true.1 hok p hp
    simp only [Bool.and_eq_true] at this
    exact this.1
/-- What a clean memory becomes. -/
theorem put_new (h1 : N.map (·.1) = D) (hd : D.Nodup) (hok : (N.all fun p => okB D p.2 && notGone p.2) = true) : New D (putN m1 N) N := by
  have hq : ∀ p ∈ N, okB D p.2 = true ∧ p.2 ≠ .gone := fun p hp => by
    have := List.all_eq_true.1 hok p hp
    simp only [Bool.and_eq_true] at this
    refine ⟨this.1, fun e => ?_⟩
    rw [e] at this
    cases this.2
  exact ⟨h1, hd, hq, fun p hp => ⟨p.2, fold_in N m1.h (by rw [h1]; exact hd) hp, (hq p hp).2, fun _ _ _ _ h => h⟩⟩
end
/-! A run that is left at a loop's head. -/
noncomputable section
def isHead (fn : Nat) {R : Type} (j : Job R) : Bool := match j with | .fr ⟨f, _, _, _, .inLoop _ :: _, _, _⟩ _ _ _ => Nat.beq f fn | _ => false
def runS (fn : Nat) (X : Cx) {R : Type} (er : Nat → R) (base : Job R → R) (n : Nat) : Job R → R := Nat.rec (fun _ => er 99) (fun _ ih j => bif isHead fn j then base j else stepJ X er ih j) n
end
theorem step_ok {R : Type} {X : Cx} (hP : POk X.P) (hC : CtOK X) {er : Nat → R} {run : Job R → R} (H : ∀ j, Out er j.k (run j) (JobS X.P j)) (j : Job R) : Out er j.k (stepJ X er run j) (JobS X.P j) := by
  cases j with
  | fr f bl M k => exact fr_step hP H f
  | reg all rest f bl M k => exact reg_step hP H
  | dreg d i rest f bl M k => exact dreg_step hP H d i
  | lv f u bl M k => exact lv_step hP H u
  | call f args dfd bl M k => exact call_step H hC f args dfd
  | yld l args M k => exact yld_step H l args
theorem runS_ok {R : Type} {X : Cx} (hP : POk X.P) (hC : CtOK X) {er : Nat → R} {base : Job R → R} (H : ∀ j, Out er j.k (base j) (JobS X.P j)) (fn : Nat) : ∀ (n : Nat) (j : Job R), Out er j.k (runS fn X er base n j) (JobS X.P j)
  | 0, j => .inl ⟨99, rfl⟩
  | n + 1, j => by
    show Out er j.k (bif isHead fn j then base j else stepJ X er (runS fn X er base n) j) _
    cases isHead fn j with
    | true => exact H j
    | false => exact step_ok hP hC (runS_ok hP hC H fn n) j
open Classical in
/-- From a job to another that it comes to. -/
theorem job_to {X : Cx} (hP : POk X.P) (hC : CtOK X) {fn n : Nat} {j : (R : Type) → K R → Job R} {f1 : Fr} {m1 : Mem} {bl1 : AMode} (hk : ∀ R k, (j R k).k = k)
    (h : ∀ (R : Type) (er : Nat → R) (base : Job R → R) (k : K R), stepJ X er (runS fn X er base n) (j R k) = base (.fr f1 bl1 m1 k)) {e : AEnd} {bl' : AMode} {M' : Mem} (hS : FrS X.P f1 bl1 m1 e bl' M') : JobS X.P (j (Option (AEnd × AMode × Mem)) fun e bl M => some (e, bl, M)) e bl' M' := by
  let base : Job (Option (AEnd × AMode × Mem)) → Option (AEnd × AMode × Mem) := fun j => if JobS X.P j e bl' M' then j.k e bl' M' else none
  have H : ∀ j, Out (fun _ => none) j.k (base j) (JobS X.P j) := fun j => by
    by_cases hj : JobS X.P j e bl' M'
    · exact .inr ⟨e, bl', M', if_pos hj, hj⟩
    · exact .inl ⟨0, if_neg hj⟩
  have out := step_ok hP hC (runS_ok hP hC H fn n) (j _ fun e bl M => some (e, bl, M))
  rw [h, hk] at out
  have hb : base (.fr f1 bl1 m1 fun e bl M => some (e, bl, M)) = some (e, bl', M') := if_pos hS
  rw [hb] at out
  rcases out with ⟨c, hc⟩ | ⟨e2, bl2, M2, hc, hS2⟩
  · cases hc
  · cases hc
    exact hS2
/-- From a job to its end. -/
theorem job_end {X : Cx} (hP : POk X.P) (hC : CtOK X) {fn n : Nat} {j : (R : Type) → K R → Job R} (hk : ∀ R k, (j R k).k = k) {e : AEnd} {bl' : AMode} {M' : Mem}
    (h : ∀ (R : Type) (er : Nat → R) (base : Job R → R) (k : K R), stepJ X er (runS fn X er base n) (j R k) = k e bl' M') : JobS X.P (j (Option (AEnd × AMode × Mem)) fun e bl M => some (e, bl, M)) e bl' M' := by
  have H : ∀ j : Job (Option (AEnd × AMode × Mem)), Out (fun _ => none) j.k ((fun _ => none) j) (JobS X.P j) := fun j => .inl ⟨0, rfl⟩
  have out := step_ok hP hC (runS_ok hP hC H fn n) (j _ fun e bl M => some (e, bl, M))
  rw [h, hk] at out
  rcases out with ⟨c, hc⟩ | ⟨e2, bl2, M2, hc, hS2⟩
  · cases hc
  · cases hc
    exact hS2
end Go.Proofs.YtbknpfckdnladaaGreat
