/- Jobs: a range over a function; a frame's step. No condition. -/
import Derived.Test.YtbknpfckdnladaaGreatBg
set_option linter.unusedVariables false
set_option maxHeartbeats 4000000
namespace Go.Proofs.YtbknpfckdnladaaGreat
section
variable {R : Type} {X : Cx} {er : Nat → R} {run : Job R → R} {k : K R} {bl : AMode} {M : Mem}
theorem resolve_range {P : Program} {a : Act} {g : Operand} {r : Nat} {w : World} : (resolve a.eval (rangeCall g r) 0).run P w = (Deferred.ofValue (a.eval g) #[.func (.yield r) #[] #[]]).run P w := by
  have : (#[.const (.func (.yield r) #[] #[])] : Array Operand).map a.eval = #[.func (.yield r) #[] #[]] := by simp [Act.eval]
  simp only [resolve, this]
theorem out_call (H : ∀ j, Out er j.k (run j) (JobS X.P j)) {j : Job R} {S : AEnd → AMode → Mem → Prop} (h : ∀ e bl M, JobS X.P j e bl M → Out er k (j.k e bl M) S) : Out er k (run j) S := by
  rcases H j with ⟨c, hc⟩ | ⟨e, bl, M, h1, h2⟩
  · exact .inl ⟨c, hc⟩
  · rw [h1]; exact h e bl M h2
variable (hP : POk X.P) (H : ∀ j, Out er j.k (run j) (JobS X.P j))
include hP H
theorem range_ok {f : Fr} {t : List Item} {g : Operand} {ps : Array Nat} {as body : Code} (ht : f.todo = .code (.rangeFunc g ps as body) :: t) : Out er k (jRange er run (evA f.tm g) ps as body t f bl M k) (FrS X.P f bl M) := by
  obtain ⟨fn, dfd, sz, tm, todo, ds, ro⟩ := f
  have ht : todo = .code (.rangeFunc g ps as body) :: t := ht
  subst ht
  obtain ⟨h, nx, lg⟩ := M
  unfold jRange
  split
  · rename_i gf first cap h' nx' lg' fn' dfd' sz' tm' todo' ds' ro' heg hM hf
    cases hM
    cases hf
    cases hro : roOk ⟨h, nx, lg⟩ ro with
    | false => exact .er
    | true =>
      simp only [cond_true]
      refine out_call H (fun e bl2 M2 hS => ?_)
      · dsimp only [Job.k]
        replace hS : CallS X.P gf (first ++ .yld (nx + 1) :: cap) false .run _ e bl2 M2 := hS
        obtain ⟨⟨fg, hfg1, hfg2⟩, at2, hS⟩ := hS
        have at1 : AT ((⟨h, nx, lg⟩ : Mem).nx ≤ ·) ⟨h, nx, lg⟩ _ := enter_at (M := ⟨h, nx, lg⟩) (fn := fn) (sz := sz) (tm := tm) (ps := ps) (as := as) (body := body) (d := dfrOf ⟨h, nx, lg⟩ ro)
        have at12 := at_of at1 at2
        -- the machine, up to the function's end
        have go : ∀ (G : Gh) (w : World) (b : Frame) (a : Act) (cs : List Frame), St G w ⟨h, nx, lg⟩ → WfM ⟨h, nx, lg⟩ → FrR G ⟨fn, dfd, sz, tm, .code (.rangeFunc g ps as body) :: t, ds, ro⟩ b a →
            ∃ G2 w2 r a1 E, Steps X.P (lone (b.atR a (.code (.rangeFunc g ps as body) :: t)) cs w) (lone (back (b.atR a1 (.inRangeFunc r :: t)) E) cs w2) ∧ RE G2 E e ∧ St G2 w2 M2 ∧ Ev G w ⟨h, nx, lg⟩ G2 w2 M2 ∧ Ub (· < nx) G G2 ∧ G2.phi (nx + 1) = some (r, 0) ∧ ∀ todo', FrR G2 ⟨fn, dfd, sz, tm, todo', dsRange ro nx ds, ro⟩ b a1 := fun G w b a cs hs hw hf => by
          obtain ⟨G1, w1, r, mark, l1, l2, l3, l4, l5, l6⟩ := enter_loop (P := X.P) (ps := ps) (as := as) (body := body) hs hro hf
          have hg : RV G1 (a.eval g) (.fn gf first cap) := by
            have := hf.rt.eval g
            have h2 : RV G (a.eval g) (evA tm g) := this
            rw [heg] at h2
            exact h2.mono l4.le
          obtain ⟨fs, cps, v1, v2, v3⟩ := fn_rvs hg
          have hres : (resolve a.eval (rangeCall g r) 0).run X.P w1 = .ok { target := .fn (.func gf) cps, args := fs ++ #[.func (.yield r) #[] #[]] } w1 := by
            rw [resolve_range, v1]; rfl
          have hinv := invoke_fn hP hfg1 hfg2 cps (fs ++ #[.func (.yield r) #[] #[]]) w1
          have hst := stepR_rangeFunc (P := X.P) (k := t) (cs := cs) l1 hres hinv
          have hargs : RVs G1 (fs ++ #[.func (.yield r) #[] #[]] ++ cps) (first ++ .yld (nx + 1) :: cap) := by
            have := (v2.append (RVs.one (.yld l2))).append v3
            rw [List.append_assoc] at this
            exact this
          obtain ⟨G2, w2, cs2, E, m2, g1, g2, g3, g4, g5, g6, g7⟩ := hS G1 w1 _ (b.atR { a with defers := mark ++ a.defers } (.inRangeFunc r :: t) :: cs) (b.atR { a with defers := mark ++ a.defers } (.inRangeFunc r :: t) :: cs) l3 (at1.wf hw) hargs rfl
          have g2 : cs2 = _ := g2
          subst g2
          obtain ⟨fr, rfl, _, hlv⟩ := g3
          have hlv : fr.leaving X.P w2 E := hlv
          have hsteps : Steps X.P (lone (b.atR a (.code (.rangeFunc g ps as body) :: t)) cs w) (lone fr (b.atR { a with defers := mark ++ a.defers } (.inRangeFunc r :: t) :: cs) w2) := .head hst g1
          refine ⟨G2, w2, r, { a with defers := mark ++ a.defers }, E, ?_, g4, g5, l4.trans g6, l5.trans (g7.mono fun id hid => by have hid : id < nx := hid; show id < nx + 2; omega), g6.le.phi _ _ l2, fun todo' => (l6 todo').mono g6.le⟩
          cases E with
          | outgrown => cases e <;> exact g4.elim
          | returned v => exact hsteps.trans (.one (step_leave_returned hlv))
          | panicked ch => exact hsteps.trans (.one (step_leave_panicked hlv))
        cases e with
        | ret v =>
          dsimp only
          unfold jRange2
          split
          · rename_i fn2 sz2 tm2 ps2 as2 body2 d2 st2 pe2 h2 nx2 lg2 hl2
            split
            · exact .er
            · rename_i hbusy
              refine (run_fr H _ bl _ k).imp fun e' bl' M' hS' => ?_
              have hS2 : FrS X.P (frTodo ⟨fn, dfd, sz, tm, .code (.rangeFunc g ps as body) :: t, dsRange ro nx ds, ro⟩ ((pe2.map Item.code).toList ++ t)) bl ⟨h2.set (nx + 1) (.loop fn2 sz2 tm2 ps2 as2 body2 d2 .exhausted pe2), nx2, (nx + 1) :: lg2⟩ e' bl' M' := by cases pe2 <;> exact hS'
              have at3 : AT ((⟨h2, nx2, lg2⟩ : Mem).nx ≤ ·) ⟨h2, nx2, lg2⟩ _ := at_set (k := .loop fn2 sz2 tm2 ps2 as2 body2 d2 .exhausted pe2) (own_loop hl2)
              have at13 := at_of at12 at3
              refine ⟨at_of at13 hS'.1, fun G w b a c0s cs hs hw hf hb hr => ?_⟩
              obtain ⟨G2, w2, r, a1, E, q1, q2, q3, q4, q5, q6, q7⟩ := go G w b a cs hs hw hf
              cases E with
              | outgrown => exact q2.elim
              | panicked ch => exact q2.elim
              | returned x =>
                obtain ⟨L, k1, k2, k3, k4, k5, k6, k7, k8, k9, k10, k11⟩ := loop_put q3 hl2 q6
                have hend := run_endLoop (P := X.P) k1 (by rw [k2]; exact hbusy)
                obtain ⟨s1, s2⟩ := k11 .exhausted pe2
                rw [k3] at hend
                have hbk : back (b.atR a1 (.inRangeFunc r :: t)) (.returned x) = b.atR a1 (.endRangeFunc r :: t) := finish_atR_inRangeFunc r x
                rw [hbk] at q1
                have hst := stepR_endRangeFunc (P := X.P) (b := b) (a := a1) (k := t) (cs := cs) hend
                exact goal_fr (f1 := frTodo ⟨fn, dfd, sz, tm, .code (.rangeFunc g ps as body) :: t, dsRange ro nx ds, ro⟩ ((pe2.map Item.code).toList ++ t)) hS2 (q1.trans (.one hst)) s1 (at13.wf hw) (q4.trans s2) q5 (q7 _) hb hr
          · exact .er
        | pan ch =>
          dsimp only
          refine (run_lv H _ _ bl _ k).imp fun e' bl' M' hS' => ?_
          refine ⟨at_of at12 hS'.1, fun G w b a c0s cs hs hw hf hb hr => ?_⟩
          obtain ⟨G2, w2, r, a1, E, q1, q2, q3, q4, q5, q6, q7⟩ := go G w b a cs hs hw hf
          cases E with
          | outgrown => exact q2.elim
          | returned x => exact q2.elim
          | panicked pc =>
            have hlv : LvR G2 ⟨fn, dfd, sz, tm, .code (.rangeFunc g ps as body) :: t, dsRange ro nx ds, ro⟩ (.pan ch) (back (b.atR a1 (.inRangeFunc r :: t)) (.panicked pc)) :=
              (q7 (.code (.rangeFunc g ps as body) :: t)).lv (m := .panicking pc) (u := .pan ch) q2 (by simp)
            exact goal_lv (f1 := ⟨fn, dfd, sz, tm, .code (.rangeFunc g ps as body) :: t, dsRange ro nx ds, ro⟩) hS' q1 q3 (at12.wf hw) q4 q5 hlv hb hr
  · exact .er
end
end Go.Proofs.YtbknpfckdnladaaGreat
