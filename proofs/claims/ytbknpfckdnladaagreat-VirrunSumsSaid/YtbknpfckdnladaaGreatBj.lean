/- Jobs: operations of a region in its listed order. No condition. -/
import Derived.Test.YtbknpfckdnladaaGreatBi
set_option linter.unusedVariables false
set_option maxHeartbeats 4000000
namespace Go.Proofs.YtbknpfckdnladaaGreat
section
variable {P : Program} {b : Frame} {a : Act} {k : List Item} {cs cs' : List Frame} {w w' : World} {ops : Array Oper} {i : Nat} {rest : List Nat} {o : Oper} {args : Array Operand} {ts : Array TypeId}
theorem exec_recover {ρ : Operand → Value} (hop : o.op = .call ⟨.builtin .recover, args, ts⟩) : (execOp ρ o).run P w = .ok .recover w := by
  obtain ⟨cs, h⟩ := exec_builtin (P := P) (w := w) (ρ := ρ) hop
  rw [h]
  rfl
theorem step_recover {v : Value} (ho : ops[i]? = some o) (hw : Region.wanted o (yielded ops a.tmps) = true) (hop : o.op = .call ⟨.builtin .recover, args, ts⟩) (hk : b.kind = .deferred) (hb : b.roundOf = none) (hrec : recoverD cs = some (v, cs')) :
    step P (lone (b.atR a (.inRegion ops (i :: rest) :: k)) cs w) = .next (lone (b.atR (a.put o.dst v) (.inRegion ops rest :: k)) cs' w) := by
  have hf := Frame.finish_atR b a ops i rest k v
  rw [ho, Option.bind_some] at hf
  rw [← hf]
  refine step_lone_go ?_
  have hr := exec_recover (P := P) (w := w) (ρ := a.eval) hop
  have htr := tryRecover_deferred (fr := b.atR a (.inRegion ops (i :: rest) :: k)) hk cs
  rw [stepGR_op ho hw, Oper.semAt_eq _ _ _ (by rw [hop]; intro c; simp)]
  have hb' : (b.atR a (.inRegion ops (i :: rest) :: k)).roundOf = none := hb
  simp [stepG.apply, Sem.runT_eq, hr, htr, hrec, hb']
theorem step_recover_none (ho : ops[i]? = some o) (hw : Region.wanted o (yielded ops a.tmps) = true) (hop : o.op = .call ⟨.builtin .recover, args, ts⟩) (hk : b.kind = .deferred) (hb : b.roundOf = none) (hrec : recoverD cs = none) :
    step P (lone (b.atR a (.inRegion ops (i :: rest) :: k)) cs w) = .next (lone (b.atR (a.put o.dst .nilIface) (.inRegion ops rest :: k)) cs w) := by
  have hf := Frame.finish_atR b a ops i rest k .nilIface
  rw [ho, Option.bind_some] at hf
  rw [← hf]
  refine step_lone_go ?_
  have hr := exec_recover (P := P) (w := w) (ρ := a.eval) hop
  have htr := tryRecover_deferred (fr := b.atR a (.inRegion ops (i :: rest) :: k)) hk cs
  rw [stepGR_op ho hw, Oper.semAt_eq _ _ _ (by rw [hop]; intro c; simp)]
  have hb' : (b.atR a (.inRegion ops (i :: rest) :: k)).roundOf = none := hb
  simp [stepG.apply, Sem.runT_eq, hr, htr, hrec, hb']
theorem step_deferop {g : Operand} {d : Deferred} (ho : ops[i]? = some o) (hw : Region.wanted o (yielded ops a.tmps) = true) (hop : o.op = .defer ⟨.value g, args, ts⟩) (hb : b.roundOf = none) (hd : (Deferred.ofValue (a.eval g) (args.map a.eval)).run P w = .ok d w) :
    step P (lone (b.atR a (.inRegion ops (i :: rest) :: k)) cs w) = .next (lone (b.atR ({ a with defers := d :: a.defers }.put o.dst undef) (.inRegion ops rest :: k)) cs w) := by
  have hf := Frame.finish_atR b { a with defers := d :: a.defers } ops i rest k undef
  rw [ho, Option.bind_some] at hf
  rw [← hf]
  refine step_lone_go ?_
  have hr : (execOp a.eval o).run P w = .ok (.defer d) w := by
    unfold execOp
    rw [hop]
    simp only [resolve, Sem.run_bind, hd, Result.andThen_ok, Sem.run_pure]
  rw [stepGR_op ho hw, hb, Oper.semAt_none]
  simp [stepG.apply, Sem.runT_eq, hr, Frame.atR]
end
section
variable {R : Type} {X : Cx} {er : Nat → R} {run : Job R → R} {k : K R} {bl : AMode} {M : Mem} {f : Fr} {o : Oper} {all rest : List Oper}
variable (hP : POk X.P) (H : ∀ j, Out er j.k (run j) (JobS X.P j))
include H
theorem run_reg (all rest : List Oper) (f : Fr) (bl : AMode) (M : Mem) (k : K R) : Out er k (run (.reg all rest f bl M k)) (RegS X.P all rest f bl M) := H (.reg all rest f bl M k)
theorem xop_ok (hw : wantA all o f.tm = some true) (hd : ∀ c, o.op ≠ .defer c) : Out er k (xOp X er run o all rest f bl M k) (RegS X.P all (o :: rest) f bl M) := by
  unfold xOp
  have hlt : M.nx < (memNx M 1).nx := Nat.lt_succ_self _
  rcases jOp_cases er o (X.mg f.fn) (P := X.P) (ev := evA f.tm) (M := memNx M 1) (fid := M.nx) (fun v M2 => run (.reg all rest (frPut f o v) bl M2 k)) (fun v => run (.lv f (.pan [⟨v, false⟩]) bl M k)) with ⟨c, hc⟩ | ⟨v, M2, hv, hc⟩ | ⟨v, hv, hc⟩
  · exact .inl ⟨c, hc⟩
  · rw [hc]
    have at1 : AT (M.nx ≤ ·) M M2 := at_nx.trans (opA_at hlt hv).1 (fun _ e => e) (fun id e => by have e : id = M.nx := e; show M.nx ≤ id; omega)
    refine reg_go (run_reg H all rest (frPut f o v) bl M2 k) at1 fun ops i G w b a cs h1 ho hs hwf hf => ?_
    obtain ⟨sN, eN⟩ := nx_ok (n := 1) hs
    have fn := phi_none hs (Nat.le_refl M.nx)
    have hwt := wantA_ok (ops := ops) (by rw [h1]; exact hw) hf.rt
    obtain ⟨G1, w1, x, r1, r2, r3, r4, r5⟩ := does_wr sN fn hlt (opA_sound sN fn hlt (fun x => hf.rt.eval x) hv)
    exact ⟨G1, w1, x, .one (step_value ho hwt hd r1), r2, r3, eN.trans r4, r5.mono fun id hid => by have hid : id < M.nx := hid; omega⟩
  · rw [hc]
    refine reg_lv (run_lv H f (.pan [⟨v, false⟩]) bl M k) (AT.refl _ _) fun ops i G w b a cs l h1 ho hs hwf hf => ?_
    have hwt := wantA_ok (ops := ops) (by rw [h1]; exact hw) hf.rt
    obtain ⟨x, r1, r2, r3⟩ := opA_panic (P := X.P) (w := w) (fun x => hf.rt.eval x) hv
    exact ⟨G, w, _, .one (step_panic ho hwt hd r1), ⟨rfl, rfl, r2, trivial⟩, hs, Ev.refl _ _ _, Ub.refl _ _⟩
include hP
theorem xcall_ok {g : Operand} {args : Array Operand} {ts : Array TypeId} (hop : o.op = .call ⟨.value g, args, ts⟩) (hw : wantA all o f.tm = some true) : Out er k (xCallV g args X er run o all rest f bl M k) (RegS X.P all (o :: rest) f bl M) := by
  unfold xCallV
  have hd : ∀ c, o.op ≠ .defer c := by rw [hop]; intro c; simp
  rcases run_cv H hP (g := evA f.tm g) (as := args.toList.map (evA f.tm)) (M := M) (nxt := fun v M2 => run (.reg all rest (frPut f o v) bl M2 k)) (pan := fun ch M2 => run (.lv f (.pan ch) bl M2 k)) with ⟨c, hc⟩ | ⟨v, M2, hc, hS⟩ | ⟨ch, M2, hc, hS⟩
  · exact .inl ⟨c, hc⟩
  · rw [hc]
    refine reg_go (run_reg H all rest (frPut f o v) bl M2 k) hS.1 fun ops i G w b a cs h1 ho hs hwf hf => ?_
    have hwt := wantA_ok (ops := ops) (by rw [h1]; exact hw) hf.rt
    have ev : ∀ x, RV G (a.eval x) (evA f.tm x) := fun x => hf.rt.eval x
    obtain ⟨d, nx, c1, c2, c3, c4⟩ := hS.2 G w (a.eval g) (args.map a.eval) hs hwf (ev g) (args_rv ev)
    obtain ⟨G', w', E, t1, t2, t3, t4, t5⟩ := c4 (b.atR a (.inRegion ops (i :: List.range' (i + 1) (ops.size - (i + 1))) :: f.todo)) cs
    cases E with
    | outgrown => exact t2.elim
    | panicked ch => exact t2.elim
    | returned x =>
      refine ⟨G', w', x, .head (step_start ho hwt hd (exec_call hop c1 c2) c3) ?_, t2, t3, t4, t5⟩
      have hbk : back (b.atR a (.inRegion ops (i :: List.range' (i + 1) (ops.size - (i + 1))) :: f.todo)) (.returned x) = b.atR (a.put o.dst x) (.inRegion ops (List.range' (i + 1) (ops.size - (i + 1))) :: f.todo) := by
        show (b.atR a (.inRegion ops (i :: _) :: f.todo)).finish x = _
        rw [Frame.finish_atR, ho, Option.bind_some]
      rw [hbk] at t1
      exact t1
  · rw [hc]
    refine reg_lv (run_lv H f (.pan ch) bl M2 k) hS.1 fun ops i G w b a cs l h1 ho hs hwf hf => ?_
    have hwt := wantA_ok (ops := ops) (by rw [h1]; exact hw) hf.rt
    have ev : ∀ x, RV G (a.eval x) (evA f.tm x) := fun x => hf.rt.eval x
    obtain ⟨d, nx, c1, c2, c3, c4⟩ := hS.2 G w (a.eval g) (args.map a.eval) hs hwf (ev g) (args_rv ev)
    obtain ⟨G', w', E, t1, t2, t3, t4, t5⟩ := c4 (b.atR a (.inRegion ops (i :: l) :: f.todo)) cs
    cases E with
    | outgrown => exact t2.elim
    | returned x => exact t2.elim
    | panicked pc => exact ⟨G', w', pc, .head (step_start ho hwt hd (exec_call hop c1 c2) c3) t1, t2, t3, t4, t5⟩
omit hP
theorem xrec_ok {args : Array Operand} {ts : Array TypeId} (hop : o.op = .call ⟨.builtin .recover, args, ts⟩) (hw : wantA all o f.tm = some true) : Out er k (xRec X er run o all rest f bl M k) (RegS X.P all (o :: rest) f bl M) := by
  unfold xRec
  have key : ∀ (v : AV) (bl2 : AMode), f.dfd = true → (∀ (G : Gh) (u : FrameMode) (c : Frame) (cs0 : List Frame), RM G u bl → (∃ x u2, recoverD ({ c with mode := u } :: cs0) = some (x, { c with mode := u2 } :: cs0) ∧ RV G x v ∧ RM G u2 bl2 ∧ u2 ≠ .run) ∨ (recoverD ({ c with mode := u } :: cs0) = none ∧ v = .nili ∧ bl2 = bl)) →
      Out er k (run (.reg all rest (frPut f o v) bl2 M k)) (RegS X.P all (o :: rest) f bl M) := fun v bl2 hdf hrec => by
    refine (run_reg H all rest (frPut f o v) bl2 M k).imp fun e bl' M' hS => ⟨hS.1, fun ops i G w b a c0s cs h1 h2 hs hwf hf hb hr => ?_⟩
    obtain ⟨hlt, ho, hdr⟩ := drop_cons h1 h2
    rw [range_cons hlt]
    have hwt := wantA_ok (ops := ops) (by rw [h1]; exact hw) hf.rt
    have hro : f.ro = none := by
      cases e : f.ro with
      | none => rfl
      | some l => have := hf.rd (by rw [e]; simp); rw [hdf] at this; cases this
    have hb0 : b.roundOf = none := by have := hf.ro; rw [hro] at this; exact this
    have hk : b.kind = .deferred := by rw [hf.kind, hdf]; rfl
    rw [hdf] at hb
    obtain ⟨c, cs0, u, rfl, rfl, hu, hun⟩ := hb
    rcases hrec G u c cs0 hu with ⟨x, u2, q1, q2, q3, q4⟩ | ⟨q1, rfl, rfl⟩
    · have fr1 := frPut_ok (P := X.P) (o := o) hf q2
      obtain ⟨fn, dfd, sz, tm, todo, ds, ro⟩ := f
      have hdf : dfd = true := hdf
      subst hdf
      exact goal_reg (f1 := frPut ⟨fn, true, sz, tm, todo, ds, ro⟩ o v) (bl := bl2) hS h1 hdr (.one (step_recover ho hwt hop hk hb0 q1)) hs hwf (Ev.refl _ _ _) (Ub.refl _ _) fr1 ⟨c, cs0, u2, rfl, rfl, q3, fun _ => q4⟩ hr
    · have fr1 := frPut_ok (P := X.P) (o := o) hf (v := .nilIface) (x := .nili) .nili
      obtain ⟨fn, dfd, sz, tm, todo, ds, ro⟩ := f
      have hdf : dfd = true := hdf
      subst hdf
      exact goal_reg (f1 := frPut ⟨fn, true, sz, tm, todo, ds, ro⟩ o .nili) hS h1 hdr (.one (step_recover_none ho hwt hop hk hb0 q1)) hs hwf (Ev.refl _ _ _) (Ub.refl _ _) fr1 ⟨c, cs0, u, rfl, rfl, hu, hun⟩ hr
  have none_ : (∀ (G : Gh) (u : FrameMode) (c : Frame) (cs0 : List Frame), RM G u bl → recoverD ({ c with mode := u } :: cs0) = none) → f.dfd = true → Out er k (run (.reg all rest (frPut f o .nili) bl M k)) (RegS X.P all (o :: rest) f bl M) := fun h hdf =>
    key .nili bl hdf fun G u c cs0 hu => .inr ⟨h G u c cs0 hu, rfl, rfl⟩
  unfold jRecover
  split
  · rename_i v older hdf
    refine key v (.pan (⟨v, true⟩ :: older)) hdf fun G u c cs0 hu => .inl ?_
    cases u with
    | run => exact hu.elim
    | returning => exact hu.elim
    | panicking ch =>
      cases ch with
      | nil => exact hu.elim
      | cons p ps =>
        obtain ⟨h1, h2, h3, h4⟩ := hu
        obtain ⟨pv, prec, pg⟩ := p
        have h1 : prec = false := h1
        have h2 : pg = false := h2
        subst h1; subst h2
        exact ⟨pv, .panicking ({ v := pv, recovered := true } :: ps), rfl, h3, ⟨rfl, rfl, h3, h4⟩, by simp⟩
  · rename_i b0 x0 bl' hdf hbl
    refine none_ (fun G u c cs0 hu => ?_) hdf
    cases u with
    | run => rfl
    | returning => rfl
    | panicking ch =>
      cases ch with
      | nil => rfl
      | cons p ps =>
        cases b0 with
        | run => exact hu.elim
        | ret => exact hu.elim
        | pan l =>
          cases l with
          | nil => exact hu.elim
          | cons q l =>
            obtain ⟨qv, qr⟩ := q
            obtain ⟨h1, h2, h3, h4⟩ := hu
            obtain ⟨pv, prec, pg⟩ := p
            cases qr with
            | false => exact (hbl qv l rfl).elim
            | true =>
              have h1 : prec = true := h1
              subst h1
              rfl
  · exact .er
theorem xdef_ok {g : Operand} {args : Array Operand} {ts : Array TypeId} (hop : o.op = .defer ⟨.value g, args, ts⟩) (hw : wantA all o f.tm = some true) : Out er k (xDefV g args X er run o all rest f bl M k) (RegS X.P all (o :: rest) f bl M) := by
  unfold xDefV jDefer
  split
  · rename_i gf first cap hg hro
    refine (run_reg H all rest _ bl M k).imp fun e bl' M' hS => ⟨hS.1, fun ops i G w b a c0s cs h1 h2 hs hwf hf hb hr => ?_⟩
    obtain ⟨hlt, ho, hdr⟩ := drop_cons h1 h2
    rw [range_cons hlt]
    have hwt := wantA_ok (ops := ops) (by rw [h1]; exact hw) hf.rt
    have hb0 : b.roundOf = none := by have := hf.ro; rw [hro] at this; exact this
    have ev : ∀ x, RV G (a.eval x) (evA f.tm x) := fun x => hf.rt.eval x
    have hgv := ev g
    rw [hg] at hgv
    obtain ⟨fs, cps, v1, v2, v3⟩ := fn_rvs hgv
    have hd : (Deferred.ofValue (a.eval g) (args.map a.eval)).run X.P w = .ok { target := .fn (.func gf) cps, args := fs ++ args.map a.eval } w := by rw [v1]; rfl
    have hargs : RVs G (fs ++ args.map a.eval ++ cps) (first ++ (args.toList.map (evA f.tm) ++ cap)) := by rw [← List.append_assoc]; exact (v2.append (args_rv ev)).append v3
    have fr1 := frPut_ok (P := X.P) (o := o) hf (v := undef) (x := .undef) .undef
    obtain ⟨fn, dfd, sz, tm, todo, ds, ro⟩ := f
    have hdd : ∀ d : Deferred, ({ a with defers := d :: a.defers }.put o.dst undef).tmps = (a.put o.dst undef).tmps ∧ ({ a with defers := d :: a.defers }.put o.dst undef).defers = d :: a.defers := fun d => by cases o.dst <;> exact ⟨rfl, rfl⟩
    refine goal_reg (f1 := frDs (frPut ⟨fn, dfd, sz, tm, todo, ds, ro⟩ o .undef) (.call gf (first ++ (args.toList.map (evA tm) ++ cap)) :: ds)) hS h1 hdr (.one (step_deferop ho hwt hop hb0 hd)) hs hwf (Ev.refl _ _ _) (Ub.refl _ _) ⟨fr1.fn, fr1.kind, ?_, ?_, ?_, fr1.ro, fr1.rd⟩ hb hr
    · rw [(hdd _).1]; exact fr1.sz
    · rw [(hdd _).1]; exact fr1.rt
    · rw [(hdd _).2]; exact ⟨⟨cps, rfl, hargs⟩, hf.ds⟩
  · exact .er
include hP
theorem kx_ok (hw : wantA all o f.tm = some true) : Out er k (kX o.op X er run o all rest f bl M k) (RegS X.P all (o :: rest) f bl M) := by
  cases hop : o.op with
  | call c =>
    obtain ⟨callee, args, ts⟩ := c
    cases callee with
    | value g => exact xcall_ok hP H hop hw
    | invoke r n => exact .er
    | builtin b =>
      have hd : ∀ c, o.op ≠ .defer c := by rw [hop]; intro c; simp
      cases b with
      | recover => exact xrec_ok H hop hw
      | _ => exact xop_ok H hw hd
  | defer c =>
    obtain ⟨callee, args, ts⟩ := c
    cases callee with
    | value g => exact xdef_ok H hop hw
    | _ => exact .er
  | go c => exact .er
  | _ => exact xop_ok H hw (by rw [hop]; intro c; simp)
omit hP H in
theorem reg_ext {P : Program} {tm1 : Tr AV} {e : AEnd} {bl' : AMode} {M' : Mem} (h : RegS P all rest (frTm f tm1) bl M e bl' M') (he : ∀ t, tm1.get t = f.tm.get t) : RegS P all rest f bl M e bl' M' :=
  ⟨h.1, fun ops i G w b a c0s cs h1 h2 hs hw hf hb hr => h.2 ops i G w b a c0s cs h1 h2 hs hw ⟨hf.fn, hf.kind, hf.sz, fun t => (by show RV G _ ((tm1.get t).getD .undef); rw [he t]; exact hf.rt t), hf.ds, hf.ro, hf.rd⟩ hb hr⟩
theorem reg_step : Out er k (jReg X er run all rest f bl M k) (RegS X.P all rest f bl M) := by
  unfold jReg
  split
  · refine (run_fr H f bl M k).imp fun e bl' M' hS => ⟨hS.1, fun ops i G w b a c0s cs h1 h2 hs hwf hf hb hr => ?_⟩
    have : ops.size - i = 0 := by
      have := congrArg List.length h2
      rw [List.length_drop, ← h1] at this
      simpa using this
    rw [this]
    exact goal_fr hS (.one stepR_region_end) hs hwf (Ev.refl _ _ _) (Ub.refl _ _) hf hb hr
  · rename_i o rest
    unfold jReg1
    split
    · rename_i hg
      exact kx_ok hP H (by unfold wantA; rw [hg])
    · rename_i j want hg
      rcases jGuard0_want er all o f hg (fun f => kX o.op X er run o all rest f bl M k) (fun f => run (.reg all rest (frPut f o .undef) bl M k)) with ⟨c, hc⟩ | ⟨tm1, hx, ⟨hw, hc⟩ | ⟨hw, hc⟩⟩
      · exact .inl ⟨c, hc⟩
      · rw [hc]; exact (kx_ok (f := frTm f tm1) hP H hw).imp fun e bl' M' hS => reg_ext hS hx
      · rw [hc]
        refine Out.imp (S := RegS X.P all (o :: rest) (frTm f tm1) bl M) ?_ fun e bl' M' hS => reg_ext hS hx
        replace hw : wantA all o (frTm f tm1).tm = some false := hw
        generalize frTm f tm1 = f at hw ⊢
        refine reg_go (run_reg H all rest (frPut f o .undef) bl M k) (AT.refl _ _) fun ops i G w b a cs h1 ho hs hwf hf => ?_
        have hwt := wantA_ok (ops := ops) (by rw [h1]; exact hw) hf.rt
        exact ⟨G, w, undef, .one (step_skip ho hwt), .undef, hs, Ev.refl _ _ _, Ub.refl _ _⟩
end
end Go.Proofs.YtbknpfckdnladaaGreat
