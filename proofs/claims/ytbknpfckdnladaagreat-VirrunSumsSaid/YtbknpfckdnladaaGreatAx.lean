/- Frames, ends and what a job brings, related. No condition. -/
import Derived.Test.YtbknpfckdnladaaGreatAw
import Derived.RangeFuncRecord
import Derived.RangeFuncNested
set_option linter.unusedVariables false
set_option maxHeartbeats 4000000
namespace Go.Proofs.YtbknpfckdnladaaGreat
section
variable {P : Program} {G G' : Gh} {w w' : World} {M M' : Mem}
def WfM (M : Mem) : Prop := ∀ id, Own M id → id < M.nx
def DsR (G : Gh) : List Deferred → List AD → Prop
  | [], [] => True
  | d :: ds, .coll id :: as => (∃ r, d.target = .collected r ∧ G.phi id = some (r, 0)) ∧ DsR G ds as
  | d :: ds, .call f args :: as => (∃ cap, d.target = .fn (.func f) cap ∧ RVs G (d.args ++ cap) args) ∧ DsR G ds as
  | _, _ => False
theorem DsR.mono (k : GLe G G') : ∀ {ds : List Deferred} {as : List AD}, DsR G ds as → DsR G' ds as
  | [], [], _ => trivial
  | d :: ds, .coll id :: as, ⟨⟨r, h1, h2⟩, h3⟩ => ⟨⟨r, h1, k.phi _ _ h2⟩, DsR.mono k h3⟩
  | d :: ds, .call f args :: as, ⟨⟨cap, h1, h2⟩, h3⟩ => ⟨⟨cap, h1, h2.mono k⟩, DsR.mono k h3⟩
def RoR (G : Gh) (b ro : Option Nat) : Prop := match ro with | none => b = none | some l => ∃ r, b = some r ∧ G.phi l = some (r, 0)
theorem RoR.mono (k : GLe G G') {b ro : Option Nat} (h : RoR G b ro) : RoR G' b ro := by
  cases ro with
  | none => exact h
  | some l => obtain ⟨r, h1, h2⟩ := h; exact ⟨r, h1, k.phi _ _ h2⟩
def kindOf (d : Bool) : CallKind := if d then .deferred else .normal
/-- A frame that runs. -/
structure FrR (G : Gh) (f : Fr) (b : Frame) (a : Act) : Prop where
  fn : b.fn = f.fn
  kind : b.kind = kindOf f.dfd
  sz : a.tmps.size = f.sz
  rt : RT G a.tmps f.tm
  ds : DsR G a.defers f.ds
  ro : RoR G b.roundOf f.ro
  rd : f.ro ≠ none → f.dfd = false
theorem FrR.mono {f : Fr} {b : Frame} {a : Act} (h : FrR G f b a) (k : GLe G G') : FrR G' f b a := ⟨h.fn, h.kind, h.sz, h.rt.mono k, h.ds.mono k, h.ro.mono k, h.rd⟩
/-- A frame on its way out. -/
structure LvR (G : Gh) (f : Fr) (u : AMode) (fr : Frame) : Prop where
  fn : fr.fn = f.fn
  kind : fr.kind = kindOf f.dfd
  rt : RT G fr.tmps f.tm
  ds : DsR G fr.defers f.ds
  mode : RM G fr.mode u
  run : fr.mode ≠ .run
theorem FrR.lv {f : Fr} {b : Frame} {a : Act} {todo : List Item} {m : FrameMode} {u : AMode} (h : FrR G f b a) (hm : RM G m u) (hr : m ≠ .run) : LvR G f u { b.atR a todo with mode := m } :=
  ⟨h.fn, h.kind, h.rt, h.ds, hm, hr⟩
theorem LvR.mono {f : Fr} {u : AMode} {fr : Frame} (h : LvR G f u fr) (k : GLe G G') : LvR G' f u fr := ⟨h.fn, h.kind, h.rt.mono k, h.ds.mono k, h.mode.mono k, h.run⟩
/-- What lies below: a frame of deferred calls knows the one that it was called from. -/
def Bel (dfd : Bool) (G : Gh) (bl : AMode) (c0s cs : List Frame) : Prop := match dfd with
  | false => cs = c0s
  | true => ∃ c cs0 u, c0s = c :: cs0 ∧ cs = { c with mode := u } :: cs0 ∧ RM G u bl ∧ (c.mode ≠ .run → u ≠ .run)
theorem Bel.mono (k : GLe G G') {dfd : Bool} {bl : AMode} {c0s cs : List Frame} (h : Bel dfd G bl c0s cs) : Bel dfd G' bl c0s cs := by
  cases dfd with
  | false => exact h
  | true => obtain ⟨c, cs0, u, h1, h2, h3, h4⟩ := h; exact ⟨c, cs0, u, h1, h2, h3.mono k, h4⟩
/-- How a frame ends. -/
def Fin (P : Program) (ro : Option Nat) (dfd : Bool) (fn : Nat) (cs : List Frame) (w : World) (E : Ending) (m : Machine) : Prop := match ro with
  | none => ∃ fr, m = lone fr cs w ∧ fr.fn = fn ∧ (match dfd with | true => fr.kind = .deferred ∧ fr.going P w E | false => fr.leaving P w E)
  | some _ => ∃ c cs0, cs = c :: cs0 ∧ (match E with | .returned v => m = lone (c.finish v) cs0 w | .panicked ch => m = lone (c.raise ch) cs0 w | .outgrown => False)
def Goal (P : Program) (G : Gh) (w : World) (M : Mem) (m : Machine) (ro : Option Nat) (dfd : Bool) (fn : Nat) (c0s : List Frame) (e : AEnd) (bl' : AMode) (M' : Mem) : Prop :=
  ∃ G' w' cs' E m', Steps P m m' ∧ Bel dfd G' bl' c0s cs' ∧ Fin P ro dfd fn cs' w' E m' ∧ RE G' E e ∧ St G' w' M' ∧ Ev G w M G' w' M' ∧ Ub (· < M.nx) G G'
theorem Goal.of {m m1 : Machine} {G1 : Gh} {w1 : World} {M1 : Mem} {ro : Option Nat} {dfd : Bool} {fn : Nat} {c0s : List Frame} {e : AEnd} {bl' : AMode} (h : Steps P m m1) (ev : Ev G w M G1 w1 M1) (ub : Ub (· < M.nx) G G1) (g : Goal P G1 w1 M1 m1 ro dfd fn c0s e bl' M') : Goal P G w M m ro dfd fn c0s e bl' M' := by
  obtain ⟨G', w', cs', E, m', h1, h2, h3, h4, h5, h6, h7⟩ := g
  exact ⟨G', w', cs', E, m', h.trans h1, h2, h3, h4, h5, ev.trans h6, ub.trans (h7.mono fun id hi => Nat.lt_of_lt_of_le hi ev.nx)⟩
theorem Goal.step {m m1 : Machine} {ro : Option Nat} {dfd : Bool} {fn : Nat} {c0s : List Frame} {e : AEnd} {bl' : AMode} (h : step P m = .next m1) (g : Goal P G w M m1 ro dfd fn c0s e bl' M') : Goal P G w M m ro dfd fn c0s e bl' M' :=
  g.of (.one h) (Ev.refl G w M) (Ub.refl _ G)
/-! What jobs bring. -/
def FrS (P : Program) (f : Fr) (bl : AMode) (M : Mem) (e : AEnd) (bl' : AMode) (M' : Mem) : Prop :=
  AT (M.nx ≤ ·) M M' ∧ ∀ G w b a c0s cs, St G w M → WfM M → FrR G f b a → Bel f.dfd G bl c0s cs → (f.ro ≠ none → c0s ≠ []) → Goal P G w M (lone (b.atR a f.todo) cs w) f.ro f.dfd f.fn c0s e bl' M'
def RegS (P : Program) (all rest : List Oper) (f : Fr) (bl : AMode) (M : Mem) (e : AEnd) (bl' : AMode) (M' : Mem) : Prop :=
  AT (M.nx ≤ ·) M M' ∧ ∀ (ops : Array Oper) (i : Nat) G w b a c0s cs, ops.toList = all → all.drop i = rest → St G w M → WfM M → FrR G f b a → Bel f.dfd G bl c0s cs → (f.ro ≠ none → c0s ≠ []) → Goal P G w M (lone (b.atR a (.inRegion ops (List.range' i (ops.size - i)) :: f.todo)) cs w) f.ro f.dfd f.fn c0s e bl' M'
def LvS (P : Program) (f : Fr) (u bl : AMode) (M : Mem) (e : AEnd) (bl' : AMode) (M' : Mem) : Prop :=
  AT (M.nx ≤ ·) M M' ∧ ∀ G w fr c0s cs, St G w M → WfM M → LvR G f u fr → Bel f.dfd G bl c0s cs → (f.ro ≠ none → c0s ≠ []) → Goal P G w M (lone fr cs w) f.ro f.dfd f.fn c0s e bl' M'
def CallS (P : Program) (f : Nat) (args : List AV) (dfd : Bool) (bl : AMode) (M : Mem) (e : AEnd) (bl' : AMode) (M' : Mem) : Prop :=
  (∃ fn, P.funcs[f]? = some fn ∧ fn.body.isSome = true) ∧ AT (M.nx ≤ ·) M M' ∧ ∀ G w vs c0s cs, St G w M → WfM M → RVs G vs args → Bel dfd G bl c0s cs → Goal P G w M (lone (Frame.enter P f vs (kindOf dfd)) cs w) none dfd f c0s e bl' M'
def YldS (P : Program) (l : Nat) (args : List AV) (M : Mem) (e : AEnd) (bl' : AMode) (M' : Mem) : Prop :=
  AT (M.nx ≤ ·) M M' ∧ ∀ G w r vs c cs, St G w M → WfM M → G.phi l = some (r, 0) → RVs G vs args → ∃ fn tm as body, (Instr.yield r vs).run P w = .ok (.round r fn tm as body) w ∧ Goal P G w M (lone (Frame.round r fn tm as body .normal) (c :: cs) w) (some l) false fn (c :: cs) e bl' M'
theorem FrS.of {f f1 : Fr} {bl bl1 : AMode} {M1 : Mem} {e : AEnd} {bl' : AMode} (h : FrS P f1 bl1 M1 e bl' M') (at1 : AT (M.nx ≤ ·) M M1) (k : AT (M.nx ≤ ·) M M' → FrS P f bl M e bl' M') : FrS P f bl M e bl' M' :=
  k (at1.trans h.1 (fun _ h => h) (fun id h => Nat.le_trans at1.nx h))
theorem at_of {M1 : Mem} (at1 : AT (M.nx ≤ ·) M M1) (h : AT (M1.nx ≤ ·) M1 M') : AT (M.nx ≤ ·) M M' := at1.trans h (fun _ h => h) (fun id h => Nat.le_trans at1.nx h)
def back (c : Frame) : Ending → Frame
  | .returned v => c.finish v
  | .panicked ch => c.raise ch
  | .outgrown => c
def startF (P : Program) : Next → Frame
  | .enter f args => Frame.enter P f args .normal
  | .round l f tm as body => Frame.round l f tm as body .normal
  | _ => default
/-- A call of a value. -/
def CvS (P : Program) (g : AV) (as : List AV) (M : Mem) (e : AEnd) (M' : Mem) : Prop :=
  AT (M.nx ≤ ·) M M' ∧ ∀ G w gv vs, St G w M → WfM M → RV G gv g → RVs G vs as → ∃ d nx, (Deferred.ofValue gv vs).run P w = .ok d w ∧ (invoke d.target d.args).run P w = .ok nx w ∧ ((∃ f args, nx = .enter f args) ∨ ∃ l f tm as body, nx = .round l f tm as body) ∧
    ∀ c cs, ∃ G' w' E, Steps P (lone (startF P nx) (c :: cs) w) (lone (back c E) cs w') ∧ RE G' E e ∧ St G' w' M' ∧ Ev G w M G' w' M' ∧ Ub (· < M.nx) G G'
/-- A job's answer: an error, or what was to go on with it. -/
def Out {R : Type} (er : Nat → R) (k : K R) (r : R) (S : AEnd → AMode → Mem → Prop) : Prop := (∃ c, r = er c) ∨ ∃ e bl M, r = k e bl M ∧ S e bl M
theorem Out.imp {R : Type} {er : Nat → R} {k : K R} {r : R} {S T : AEnd → AMode → Mem → Prop} (h : Out er k r S) (i : ∀ e bl M, S e bl M → T e bl M) : Out er k r T := by
  rcases h with h | ⟨e, bl, M, h1, h2⟩
  · exact .inl h
  · exact .inr ⟨e, bl, M, h1, i _ _ _ h2⟩
theorem Out.er {R : Type} {er : Nat → R} {k : K R} {c : Nat} {S : AEnd → AMode → Mem → Prop} : Out er k (er c) S := .inl ⟨c, rfl⟩
/-- More room for ids. -/
theorem nx_ok {n : Nat} (hs : St G w M) : St G w (memNx M n) ∧ Ev G w M G w (memNx M n) := ⟨hs.congr rfl (fun _ => rfl) (Nat.le_add_right _ _), .congr rfl ⟨rfl, rfl, rfl⟩ (fun _ => rfl) (Nat.le_add_right _ _)⟩
theorem at_nx {n : Nat} : AT (M.nx ≤ ·) M (memNx M n) := ⟨Nat.le_add_right _ _, ⟨[], rfl, fun _ _ _ => rfl⟩, fun _ h => .inl h, fun h id o => Nat.lt_of_lt_of_le (h id o) (Nat.le_add_right _ _)⟩
theorem wf_nx {n : Nat} (h : WfM M) : WfM (memNx M n) := fun id o => Nat.lt_of_lt_of_le (h id o) (Nat.le_add_right _ _)
theorem phi_none {id : Nat} (hs : St G w M) (h : M.nx ≤ id) : G.phi id = none := by
  cases e : G.phi id with
  | none => rfl
  | some x => have := hs.fresh id x.1 x.2 e; omega
/-- Guards. -/
noncomputable def wantA (ops : List Oper) (o : Oper) (tm : Tr AV) : Option Bool := match o.guard with
  | none => some true
  | some (j, want) => (match gdst ops j with
    | none => none
    | some d => (match tm.get d with
      | some .top => none
      | some (.bool b) => some (b == want)
      | _ => some false))
def frTm (f : Fr) (tm : Tr AV) : Fr := { f with tm := tm }
theorem jGuard0_want {R : Type} (er : Nat → R) (ops : List Oper) (o : Oper) (f : Fr) {j : Nat} {want : Bool} (hg : o.guard = some (j, want)) (yes no : Fr → R) :
    (∃ c, jGuard0 er (gdst ops j) f want yes no = er c) ∨ ∃ tm1 : Tr AV, (∀ t, tm1.get t = f.tm.get t) ∧ ((wantA ops o tm1 = some true ∧ jGuard0 er (gdst ops j) f want yes no = yes (frTm f tm1)) ∨ (wantA ops o tm1 = some false ∧ jGuard0 er (gdst ops j) f want yes no = no (frTm f tm1))) := by
  obtain ⟨fn, dfd, sz, tm, todo, ds, ro⟩ := f
  unfold jGuard0 wantA
  rw [hg]
  dsimp only
  cases gdst ops j with
  | none => exact .inl ⟨_, rfl⟩
  | some d =>
    dsimp only
    cases hv : tm.get d with
    | none => exact .inr ⟨tm, fun _ => rfl, .inr ⟨by rw [hv], rfl⟩⟩
    | some v =>
      have key : ∀ b, v = .bool b → ∀ t, (tm.set d (.bool b)).get t = tm.get t := fun b e t => by
        by_cases h : d = t
        · rw [← h, get_set_self, hv, e]
        · exact get_set_ne _ _ h
      cases v with
      | top => exact .inl ⟨_, rfl⟩
      | bool b =>
        refine .inr ⟨tm.set d (.bool b), key b rfl, ?_⟩
        rw [get_set_self]
        cases b <;> cases want <;> first | exact .inl ⟨rfl, rfl⟩ | exact .inr ⟨rfl, rfl⟩
      | _ => exact .inr ⟨tm, fun _ => rfl, .inr ⟨by rw [hv], rfl⟩⟩
theorem wantA_ok {ops : Array Oper} {o : Oper} {tm : Tr AV} {ts : Array Value} {t : Bool} (h : wantA ops.toList o tm = some t) (hr : RT G ts tm) : Region.wanted o (yielded ops ts) = t := by
  unfold wantA at h
  unfold Region.wanted
  split at h
  · rename_i hg; cases h; rw [hg]
  · rename_i j want hg
    rw [hg]
    have nthg : ∀ (l : List Oper) (j : Nat), nth l j = l[j]? := fun l => by
      induction l with
      | nil => intro j; rfl
      | cons a l ih =>
        intro j
        cases j with
        | zero => rfl
        | succ j => exact ih j
    split at h
    · cases h
    · rename_i d hd
      have hd' : (ops[j]?).bind (·.dst) = some d := by
        unfold gdst at hd
        rw [nthg] at hd
        rw [← Array.getElem?_toList]
        cases hx : ops.toList[j]? with
        | none => rw [hx] at hd; cases hd
        | some p => rw [hx] at hd; exact hd
      have hv := hr d
      have key : ∀ (v : Value), ts.getD d undef = v → v ≠ undef → ts[d]? = some v := fun v e ne => by
        rw [Array.getD_eq_getD_getElem?] at e
        cases hx : ts[d]? with
        | none => rw [hx] at e; exact absurd e.symm ne
        | some y => rw [hx] at e; exact congrArg some e
      have nb : (∀ b, ts.getD d undef ≠ .bool b) → ∀ b, yielded ops ts j ≠ some b := fun hn b e => by
        unfold yielded at e
        rw [hd'] at e
        simp only [Option.bind_some] at e
        split at e
        · rename_i b' hb
          exact hn b' (by rw [Array.getD_eq_getD_getElem?, hb]; rfl)
        · cases e
      dsimp only
      split at h
      · cases h
      · rename_i b hb
        cases h
        rw [hb] at hv
        have e1 : ts.getD d undef = .bool b := hv.bool_inv
        have : yielded ops ts j = some b := by
          unfold yielded
          rw [hd']
          simp only [Option.bind_some]
          rw [key _ e1 (by unfold undef; simp)]
        rw [this]
        cases b <;> cases want <;> rfl
      · rename_i h1 h2
        cases h
        have : ∀ b, ts.getD d undef ≠ .bool b := fun b e => by
          rw [e] at hv
          cases hx : tm.get d with
          | none => rw [hx] at hv; cases hv
          | some x =>
            rw [hx] at hv
            cases hv with
            | top => exact h1 hx
            | bool => exact h2 _ hx
        have := nb this
        cases hy : yielded ops ts j with
        | none => rfl
        | some b => exact absurd hy (this b)
end
end Go.Proofs.YtbknpfckdnladaaGreat
