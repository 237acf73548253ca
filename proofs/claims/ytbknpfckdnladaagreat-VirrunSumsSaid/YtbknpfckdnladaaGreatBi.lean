/- Jobs: a region in its listed order. No condition. -/
import Derived.Test.YtbknpfckdnladaaGreatBh
set_option linter.unusedVariables false
set_option maxHeartbeats 4000000
namespace Go.Proofs.YtbknpfckdnladaaGreat
section
variable {R : Type} {X : Cx} {er : Nat → R} {run : Job R → R} {k : K R} {bl : AMode} {M : Mem} {f : Fr} {o : Oper} {all rest : List Oper}
theorem range_cons {i n : Nat} (h : i < n) : List.range' i (n - i) = i :: List.range' (i + 1) (n - (i + 1)) := by
  rw [show n - i = (n - (i + 1)) + 1 by omega]
  rfl
theorem drop_cons {ops : Array Oper} {i : Nat} (h1 : ops.toList = all) (h2 : all.drop i = o :: rest) : i < ops.size ∧ ops[i]? = some o ∧ all.drop (i + 1) = rest := by
  subst h1
  have h3 : ops.toList[i]? = some o := by
    have := congrArg List.head? h2
    rw [List.head?_drop] at this
    exact this
  have hlt : i < ops.size := by
    have := (List.getElem?_eq_some_iff.1 h3).1
    simpa using this
  refine ⟨hlt, by simpa using h3, ?_⟩
  have := congrArg List.tail h2
  rw [List.tail_drop] at this
  exact this
theorem frPut_ok {P : Program} {G : Gh} {b : Frame} {a : Act} {v : Value} {x : AV} (hf : FrR G f b a) (hv : RV G v x) : FrR G (frPut f o x) b (a.put o.dst v) := by
  obtain ⟨fn, dfd, sz, tm, todo, ds, ro⟩ := f
  obtain ⟨r1, r2, r3⟩ := RT.put (o := o) (show RT G a.tmps tm from hf.rt) hf.sz hv
  exact ⟨hf.fn, hf.kind, r2, r1, by show DsR G (a.put o.dst v).defers ds; rw [r3]; exact hf.ds, hf.ro, hf.rd⟩
/-- One operation of the region brings a value. -/
theorem reg_go {r : R} {x : AV} {M1 : Mem} (h : Out er k r (RegS X.P all rest (frPut f o x) bl M1)) (at1 : AT (M.nx ≤ ·) M M1)
    (hst : ∀ (ops : Array Oper) (i : Nat) (G : Gh) (w : World) (b : Frame) (a : Act) (cs : List Frame), ops.toList = all → ops[i]? = some o → St G w M → WfM M → FrR G f b a → ∃ G1 w1 v, Steps X.P (lone (b.atR a (.inRegion ops (i :: List.range' (i + 1) (ops.size - (i + 1))) :: f.todo)) cs w) (lone (b.atR (a.put o.dst v) (.inRegion ops (List.range' (i + 1) (ops.size - (i + 1))) :: f.todo)) cs w1) ∧ RV G1 v x ∧ St G1 w1 M1 ∧ Ev G w M G1 w1 M1 ∧ Ub (· < M.nx) G G1) :
    Out er k r (RegS X.P all (o :: rest) f bl M) := by
  refine h.imp fun e bl' M' hS => ⟨at_of at1 hS.1, fun ops i G w b a c0s cs h1 h2 hs hw hf hb hr => ?_⟩
  obtain ⟨hlt, ho, hd⟩ := drop_cons h1 h2
  obtain ⟨G1, w1, v, s1, r1, t1, e1, u1⟩ := hst ops i G w b a cs h1 ho hs hw hf
  rw [range_cons hlt]
  have fr1 := frPut_ok (P := X.P) (o := o) (hf.mono e1.le) r1
  obtain ⟨fn, dfd, sz, tm, todo, ds, ro⟩ := f
  exact goal_reg (f1 := frPut ⟨fn, dfd, sz, tm, todo, ds, ro⟩ o x) hS h1 hd s1 t1 (at1.wf hw) e1 u1 fr1 hb hr
/-- One operation of the region panics. -/
theorem reg_lv {r : R} {ch : List AE} {M1 : Mem} (h : Out er k r (LvS X.P f (.pan ch) bl M1)) (at1 : AT (M.nx ≤ ·) M M1)
    (hst : ∀ (ops : Array Oper) (i : Nat) (G : Gh) (w : World) (b : Frame) (a : Act) (cs : List Frame) (l : List Nat), ops.toList = all → ops[i]? = some o → St G w M → WfM M → FrR G f b a → ∃ G1 w1 pc, Steps X.P (lone (b.atR a (.inRegion ops (i :: l) :: f.todo)) cs w) (lone ((b.atR a (.inRegion ops (i :: l) :: f.todo)).raise pc) cs w1) ∧ RCh G1 pc ch ∧ St G1 w1 M1 ∧ Ev G w M G1 w1 M1 ∧ Ub (· < M.nx) G G1) :
    Out er k r (RegS X.P all (o :: rest) f bl M) := by
  refine h.imp fun e bl' M' hS => ⟨at_of at1 hS.1, fun ops i G w b a c0s cs h1 h2 hs hw hf hb hr => ?_⟩
  obtain ⟨hlt, ho, hd⟩ := drop_cons h1 h2
  rw [range_cons hlt]
  obtain ⟨G1, w1, pc, s1, r1, t1, e1, u1⟩ := hst ops i G w b a cs (List.range' (i + 1) (ops.size - (i + 1))) h1 ho hs hw hf
  exact goal_lv hS s1 t1 (at1.wf hw) e1 u1 ((hf.mono e1.le).lv (m := .panicking pc) (u := .pan ch) r1 (by simp)) hb hr
theorem run_cv (H : ∀ j, Out er j.k (run j) (JobS X.P j)) (hP : POk X.P) {g : AV} {as : List AV} {nxt : AV → Mem → R} {pan : List AE → Mem → R} :
    (∃ c, jCallV er run g as M nxt pan = er c) ∨ (∃ v M2, jCallV er run g as M nxt pan = nxt v M2 ∧ CvS X.P g as M (.ret v) M2) ∨ ∃ ch M2, jCallV er run g as M nxt pan = pan ch M2 ∧ CvS X.P g as M (.pan ch) M2 := by
  unfold jCallV
  split
  · rename_i gf first cap
    have key : ∀ e bl M2, CallS X.P gf (first ++ (as ++ cap)) false .run M e bl M2 → CvS X.P (.fn gf first cap) as M e M2 := fun e bl M2 ⟨⟨fg, f1, f2⟩, at2, hS⟩ => by
      refine ⟨at2, fun G w gv vs hs hw hg hvs => ?_⟩
      obtain ⟨fs, cps, v1, v2, v3⟩ := fn_rvs hg
      subst v1
      have hargs : RVs G (fs ++ vs ++ cps) (first ++ (as ++ cap)) := by rw [← List.append_assoc]; exact (v2.append hvs).append v3
      refine ⟨_, _, ofValue_fn, invoke_fn hP f1 f2 cps (fs ++ vs) w, .inl ⟨_, _, rfl⟩, fun c cs => ?_⟩
      obtain ⟨G2, w2, cs2, E, m2, g1, g2, g3, g4, g5, g6, g7⟩ := hS G w _ (c :: cs) (c :: cs) hs hw hargs rfl
      have g2 : cs2 = _ := g2
      subst g2
      obtain ⟨fr, rfl, _, hlv⟩ := g3
      have hlv : fr.leaving X.P w2 E := hlv
      refine ⟨G2, w2, E, ?_, g4, g5, g6, g7⟩
      cases E with
      | outgrown => cases e <;> exact g4.elim
      | returned v => exact Steps.trans g1 (.one (step_leave_returned hlv))
      | panicked ch => exact Steps.trans g1 (.one (step_leave_panicked hlv))
    rcases H (.call gf (first ++ (as ++ cap)) false .run M fun e _ M2 => match e with | .ret v => nxt v M2 | .pan ch => pan ch M2) with ⟨c, hc⟩ | ⟨e, bl2, M2, hc, hS⟩
    · exact .inl ⟨c, hc⟩
    · cases e with
      | ret v => exact .inr (.inl ⟨v, M2, hc, key _ _ _ hS⟩)
      | pan ch => exact .inr (.inr ⟨ch, M2, hc, key _ _ _ hS⟩)
  · rename_i l
    have key : ∀ e bl M2, YldS X.P l as M e bl M2 → CvS X.P (.yld l) as M e M2 := fun e bl M2 ⟨at2, hS⟩ => by
      refine ⟨at2, fun G w gv vs hs hw hg hvs => ?_⟩
      cases hg with
      | @yld _ r hp =>
        obtain ⟨fn, tm, bas, body, hr, _⟩ := hS G w r vs default [] hs hw hp hvs
        refine ⟨{ target := .fn (.yield r) #[], args := #[] ++ vs }, _, rfl, by simpa [invoke] using hr, .inr ⟨r, fn, tm, bas, body, rfl⟩, fun c cs => ?_⟩
        obtain ⟨fn', tm', bas', body', hr', hG⟩ := hS G w r vs c cs hs hw hp hvs
        rw [hr] at hr'
        cases hr'
        obtain ⟨G2, w2, cs2, E, m2, g1, g2, g3, g4, g5, g6, g7⟩ := hG
        have g2 : cs2 = _ := g2
        subst g2
        obtain ⟨c', cs', hcc, hE⟩ := g3
        cases hcc
        refine ⟨G2, w2, E, ?_, g4, g5, g6, g7⟩
        cases E with
        | outgrown => exact hE.elim
        | returned v => have hE : m2 = _ := hE; rw [hE] at g1; exact g1
        | panicked ch => have hE : m2 = _ := hE; rw [hE] at g1; exact g1
    rcases H (.yld l as M fun e _ M2 => match e with | .ret v => nxt v M2 | .pan ch => pan ch M2) with ⟨c, hc⟩ | ⟨e, bl2, M2, hc, hS⟩
    · exact .inl ⟨c, hc⟩
    · cases e with
      | ret v => exact .inr (.inl ⟨v, M2, hc, key _ _ _ hS⟩)
      | pan ch => exact .inr (.inr ⟨ch, M2, hc, key _ _ _ hS⟩)
  · exact .inl ⟨_, rfl⟩
end
end Go.Proofs.YtbknpfckdnladaaGreat
