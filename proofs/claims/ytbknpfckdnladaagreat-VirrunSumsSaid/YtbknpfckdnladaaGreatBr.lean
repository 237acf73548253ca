/- Jobs: both ways of an if at once; a frame's step. No condition. -/
import Derived.Test.YtbknpfckdnladaaGreatBj
set_option linter.unusedVariables false
set_option maxHeartbeats 4000000
namespace Go.Proofs.YtbknpfckdnladaaGreat
section
variable {R : Type} {X : Cx} {er : Nat → R} {run : Job R → R} {k : K R} {bl : AMode} {M : Mem}
variable (hP : POk X.P) (H : ∀ j, Out er j.k (run j) (JobS X.P j))
include hP H
/-! Both ways of an if at once. -/
omit hP H in
theorem quiet_w {op : Op} (h : quietOp op = true) : isW op = false ∧ isN op = false ∧ ∀ c, op ≠ .defer c := by
  cases op <;> first | exact ⟨rfl, rfl, fun c => by simp⟩ | cases h
omit hP H in
theorem spD_ok {P : Program} {all : List Oper} {base sz : Nat} {bl : AMode} {M : Mem} {e : AEnd} {bl' : AMode} {M' : Mem} : ∀ (rest : List Oper) (bef : List Nat) (seen : List Rec) (i : Nat) (tm tm1 : Tr AV), spD P base M sz bef seen i rest tm = some tm1 →
    (∀ t, tm1.get t = tm.get t ∨ ∃ o ∈ rest, o.dst = some t) ∧ ∀ f : Fr, f.tm = tm → f.sz = sz → FrS P (frTm f tm1) bl M e bl' M' → DrS P ⟨bef, all, base, seen⟩ i rest f bl M e bl' M'
  | [], bef, seen, i, tm, tm1, h => by
    have h : some tm = some tm1 := by unfold spD at h; exact h
    cases h
    refine ⟨fun t => .inl rfl, fun f h1 h2 hS => dr_nil ?_⟩
    subst h1
    exact hS
  | o :: rest, [], seen, i, tm, tm1, h => by unfold spD at h; cases h
  | o :: rest, b :: bef, seen, i, tm, tm1, h => by
    unfold spD at h
    cases hq : quietOp o.op && noGuard o with
    | false => rw [hq] at h; cases h
    | true =>
      rw [hq] at h
      simp only [cond_true] at h
      simp only [Bool.and_eq_true] at hq
      obtain ⟨q1, q2⟩ := hq
      obtain ⟨w1, w2, w3⟩ := quiet_w q1
      have hg : o.guard = none := by
        unfold noGuard at q2
        split at q2
        · assumption
        · cases q2
      split at h
      · rename_i v M2 hv
        cases hok : okOrder b ⟨i, false, readsOf o.op (evA tm) (base + i), [], M.nx⟩ seen with
        | false => rw [hok] at h; cases h
        | true =>
          rw [hok] at h
          simp only [cond_true] at h
          have hM2 : M2 = ⟨M.h, M.nx, []⟩ := by
            have := opA_read (P := P) (M2 := ⟨M.h, M.nx, []⟩) (M := ⟨M.h, M.nx, []⟩) (fid := base + i) (ev := evA tm) w1 w2 (fun _ _ => rfl)
            rw [hv] at this
            simp only [AR.at, AR.val.injEq, true_and] at this
            exact this
          subst hM2
          obtain ⟨r1, r2⟩ := spD_ok (all := all) rest bef _ (i + 1) _ tm1 h
          refine ⟨fun t => ?_, fun f h1 h2 hS => ?_⟩
          · rcases r1 t with r | ⟨o', m1, m2⟩
            · by_cases e : (setDst sz tm o v).get t = tm.get t
              · exact .inl (r.trans e)
              · exact .inr ⟨o, List.mem_cons_self .., (setDst_chg e).1⟩
            · exact .inr ⟨o', List.mem_cons_of_mem _ m1, m2⟩
          · subst h1
            subst h2
            have hw : wantA all o f.tm = some true := by unfold wantA; rw [hg]
            have hE : Ent P all base i o f.tm M v M (some ⟨i, false, readsOf o.op (evA f.tm) (base + i), [], M.nx⟩) := .inr ⟨hw, w3, _, _, rfl, by rw [w1], .inl ⟨hv, rfl⟩⟩
            refine dr_cons hE ⟨rfl, hok⟩ (r2 (frPut f o v) rfl rfl ?_)
            exact hS
      · cases h
omit hP H in
theorem fr_stp {P : Program} {f : Fr} {t : List Item} {e : AEnd} {bl' : AMode} {M' : Mem} (hS : FrS P (frTodo f t) bl M e bl' M') (hst : ∀ (G : Gh) (w : World) (b : Frame) (a : Act) (cs : List Frame), St G w M → FrR G f b a → step P (lone (b.atR a f.todo) cs w) = .next (lone (b.atR a t) cs w)) : FrS P f bl M e bl' M' := by
  obtain ⟨fn, dfd, sz, tm, todo, ds, ro⟩ := f
  refine ⟨hS.1, fun G w b a c0s cs hs hw hf hb hr => ?_⟩
  exact (hS.2 G w b a c0s cs hs hw ⟨hf.fn, hf.kind, hf.sz, hf.rt, hf.ds, hf.ro, hf.rd⟩ hb hr).step (hst G w b a cs hs hf)
omit hP H in
theorem fr_nx {P : Program} {f : Fr} {n : Nat} {e : AEnd} {bl' : AMode} {M' : Mem} (hS : FrS P f bl (memNx M n) e bl' M') : FrS P f bl M e bl' M' := by
  refine ⟨at_of at_nx hS.1, fun G w b a c0s cs hs hw hf hb hr => ?_⟩
  obtain ⟨s1, s2⟩ := nx_ok (n := n) hs
  exact (hS.2 G w b a c0s cs s1 (wf_nx hw) hf hb hr).of (.refl _ _) s2 (Ub.refl _ _)
omit hP H in
theorem fr_weak {P : Program} {f : Fr} {tm' : Tr AV} {e : AEnd} {bl' : AMode} {M' : Mem} (hS : FrS P (frTm f tm') bl M e bl' M') (hr : ∀ G ts, RT G ts f.tm → RT G ts tm') : FrS P f bl M e bl' M' :=
  ⟨hS.1, fun G w b a c0s cs hs hw hf hb hro => hS.2 G w b a c0s cs hs hw ⟨hf.fn, hf.kind, hf.sz, hr _ _ hf.rt, hf.ds, hf.ro, hf.rd⟩ hb hro⟩
omit hP H in
theorem mixV_rv {G : Gh} {v : Value} {t : Bool} {a b : AV} (h : RV G v (bif t then a else b)) : RV G v (mixV t a b) := by
  unfold mixV
  split
  · rename_i k x k' y
    cases hk : kEq k k' with
    | false => exact .top _
    | true =>
      have := kEq_eq hk
      subst this
      cases t <;> exact h
  · cases t <;> exact h
  · exact .top _
omit hP H in
theorem mix_rt {G : Gh} {ts : Array Value} {t : Bool} {A B : Tr AV} (hC : ∀ x, RV G (ts.getD x undef) (bif t then (A.get x).getD .undef else (B.get x).getD .undef)) : ∀ (ops : List Oper) (T : Tr AV), (∀ x, RV G (ts.getD x undef) ((T.get x).getD .undef) ∨ ∃ o ∈ ops, o.dst = some x) → RT G ts (mixT t A B ops T)
  | [], T, h => fun x => by
    rcases h x with h | ⟨o, ho, _⟩
    · exact h
    · cases ho
  | o :: os, T, h => by
    unfold mixT
    split
    · rename_i d hd
      refine mix_rt hC os _ fun x => ?_
      by_cases e : d = x
      · subst e
        rw [get_set_self]
        exact .inl (mixV_rv (hC d))
      · rw [get_set_ne _ _ e]
        rcases h x with h | ⟨o', m1, m2⟩
        · exact .inl h
        · rcases List.mem_cons.1 m1 with rfl | m1
          · rw [hd] at m2
            exact absurd (Option.some.inj m2) e
          · exact .inr ⟨o', m1, m2⟩
    · rename_i hd
      refine mix_rt hC os T fun x => ?_
      rcases h x with h | ⟨o', m1, m2⟩
      · exact .inl h
      · rcases List.mem_cons.1 m1 with rfl | m1
        · rw [hd] at m2; cases m2
        · exact .inr ⟨o', m1, m2⟩
omit hP H in
theorem quiet_M {op : Op} {P : Program} {ev : Operand → AV} {M M2 : Mem} {fid : Nat} {v : AV} (q : quietOp op = true) (hv : opA op P ev M fid = .val v M2) : M2 = M := by
  obtain ⟨w1, w2, w3⟩ := quiet_w q
  have := opA_read (P := P) (M2 := M) (M := M) (fid := fid) (ev := ev) w1 w2 (fun _ _ => rfl)
  rw [hv] at this
  simp only [AR.at, AR.val.injEq, true_and] at this
  exact this
omit hP H in
theorem spR_ok {sz : Nat} {all : List Oper} {e : AEnd} {bl' : AMode} {M' : Mem} : ∀ (rest : List Oper) (M : Mem) (tm tm1 : Tr AV) (M1 : Mem), spR X.P sz rest M tm = some (tm1, M1) →
    (∀ t, tm1.get t = tm.get t ∨ ∃ o ∈ rest, o.dst = some t) ∧ (∀ f, FrS X.P f bl M1 e bl' M' → FrS X.P f bl M e bl' M') ∧ ∀ f : Fr, f.tm = tm → f.sz = sz → FrS X.P (frTm f tm1) bl M1 e bl' M' → RegS X.P all rest f bl M e bl' M'
  | [], M, tm, tm1, M1, h => by
    have h : some (tm, M) = some (tm1, M1) := by unfold spR at h; exact h
    cases h
    refine ⟨fun t => .inl rfl, fun f h => h, fun f h1 h2 hS => ?_⟩
    subst h1
    have hS : FrS X.P f bl M e bl' M' := hS
    refine ⟨hS.1, fun ops i G w b a c0s cs h1 h2 hs hwf hf hb hr => ?_⟩
    have : ops.size - i = 0 := by
      have := congrArg List.length h2
      rw [List.length_drop, ← h1] at this
      simpa using this
    rw [this]
    exact goal_fr hS (.one stepR_region_end) hs hwf (Ev.refl _ _ _) (Ub.refl _ _) hf hb hr
  | o :: rest, M, tm, tm1, M1, h => by
    unfold spR at h
    cases hq : quietOp o.op && noGuard o with
    | false => rw [hq] at h; cases h
    | true =>
      rw [hq] at h
      simp only [cond_true] at h
      simp only [Bool.and_eq_true] at hq
      obtain ⟨q1, q2⟩ := hq
      obtain ⟨w1, w2, w3⟩ := quiet_w q1
      have hg : o.guard = none := by
        unfold noGuard at q2
        split at q2
        · assumption
        · cases q2
      split at h
      · rename_i v M2 hv
        have hM2 := quiet_M q1 hv
        subst hM2
        obtain ⟨r1, r2, r3⟩ := spR_ok (all := all) rest (memNx M 1) _ tm1 M1 h
        refine ⟨fun t => ?_, fun f hS => fr_nx (r2 f hS), fun f h1 h2 hS => ?_⟩
        · rcases r1 t with r | ⟨o', m1, m2⟩
          · by_cases e : (setDst sz tm o v).get t = tm.get t
            · exact .inl (r.trans e)
            · exact .inr ⟨o, List.mem_cons_self .., (setDst_chg e).1⟩
          · exact .inr ⟨o', List.mem_cons_of_mem _ m1, m2⟩
        · subst h1
          subst h2
          have hS2 : RegS X.P all rest (frPut f o v) bl (memNx M 1) e bl' M' := r3 (frPut f o v) rfl rfl hS
          have hw : wantA all o f.tm = some true := by unfold wantA; rw [hg]
          have hlt : M.nx < (memNx M 1).nx := Nat.lt_succ_self _
          have at1 : AT (M.nx ≤ ·) M (memNx M 1) := at_nx
          have out := reg_go (X := X) (R := Option (AEnd × AMode × Mem)) (er := fun _ => none) (k := fun e bl M => some (e, bl, M)) (r := some (e, bl', M')) (x := v) (o := o) (all := all) (rest := rest) (f := f) (bl := bl) (M := M) (M1 := memNx M 1) (.inr ⟨e, bl', M', rfl, hS2⟩) at1 fun ops i G w b a cs h1 ho hs hwf hf => by
            obtain ⟨sN, eN⟩ := nx_ok (n := 1) hs
            have fn := phi_none hs (Nat.le_refl M.nx)
            have hwt := wantA_ok (ops := ops) (by rw [h1]; exact hw) hf.rt
            obtain ⟨G1, w1, x, r1, r2, r3, r4, r5⟩ := does_wr sN fn hlt (opA_sound sN fn hlt (fun x => hf.rt.eval x) hv)
            exact ⟨G1, w1, x, .one (step_value ho hwt w3 r1), r2, r3, eN.trans r4, r5.mono fun id hid => by have hid : id < M.nx := hid; omega⟩
          rcases out with ⟨c, hc⟩ | ⟨e2, bl2, M2, hc, hS3⟩
          · cases hc
          · cases hc
            exact hS3
      · cases h
omit hP H in
theorem merge_ok (hmix : X.P.follows .mixedOrders = true) {f fm : Fr} {Mm : Mem} {c : Operand} {x y : Code} {t : List Item} {e : AEnd} {bl' : AMode} {M' : Mem} (ht : f.todo = .code (.cond c x y) :: t) (hm : mergeC X.P (evA f.tm c) x y f M = some (fm, Mm)) (hS : FrS X.P (frTodo fm t) bl Mm e bl' M') : FrS X.P f bl M e bl' M' := by
  unfold mergeC at hm
  split at hm
  · rename_i tb id ops hc
    unfold mergeR at hm
    cases hok : regOk ops.toList (befL [] ops.toList) [] 0 ops.toList with
    | false => rw [hok] at hm; cases hm
    | true =>
      rw [hok] at hm
      simp only [cond_true] at hm
      split at hm
      · rename_i A hA
        simp only [Option.some.injEq, Prod.mk.injEq] at hm
        obtain ⟨rfl, rfl⟩ := hm
        have hv : ∀ (G : Gh) (b : Frame) (a : Act), FrR G f b a → a.eval c = .bool tb := fun G b a hf => by
          have := hf.rt.eval c
          rw [hc] at this
          exact this.bool_inv
        have hS : FrS X.P (frTm (frTodo f t) (mixT tb A f.tm ops.toList f.tm)) bl (memNx M ops.toList.length) e bl' M' := hS
        cases tb with
        | true =>
          obtain ⟨r1, r2⟩ := spD_ok (all := ops.toList) (bl := bl) (e := e) (bl' := bl') (M' := M') _ _ _ _ _ _ hA
          refine fr_stp (t := .code (.region id ops true) :: t) (dr_code hmix (t := t) (id := id) (ops := ops) rfl hok ?_) (fun G w b a cs _ hf => by rw [ht]; exact stepR_cond (hv G b a hf))
          refine r2 (frTodo f t) rfl rfl ?_
          refine fr_weak (tm' := mixT true A f.tm ops.toList f.tm) hS fun G ts hr => mix_rt (fun x => hr x) _ _ fun x => ?_
          rcases r1 x with r | r
          · left
            rw [← r]
            exact hr x
          · exact .inr r
        | false =>
          refine fr_stp (t := .code .skip :: t) (fr_stp (t := t) (fr_nx (n := ops.toList.length) (fr_weak (tm' := mixT false A f.tm ops.toList f.tm) hS fun G ts hr => mix_rt (fun x => hr x) _ _ fun x => .inl (hr x))) (fun G w b a cs _ hf => stepR_skip)) (fun G w b a cs _ hf => by rw [ht]; exact stepR_cond (hv G b a hf))
      · cases hm
  · rename_i tb id ops hc
    unfold mergeN at hm
    split at hm
    · rename_i A M2 hA
      simp only [Option.some.injEq, Prod.mk.injEq] at hm
      obtain ⟨rfl, rfl⟩ := hm
      have hv : ∀ (G : Gh) (b : Frame) (a : Act), FrR G f b a → a.eval c = .bool tb := fun G b a hf => by
        have := hf.rt.eval c
        rw [hc] at this
        exact this.bool_inv
      have hS : FrS X.P (frTm (frTodo f t) (mixT tb A f.tm ops.toList f.tm)) bl M2 e bl' M' := hS
      obtain ⟨r1, r2, r3⟩ := spR_ok (X := X) (all := ops.toList) (bl := bl) (e := e) (bl' := bl') (M' := M') _ _ _ _ _ hA
      cases tb with
      | true =>
        have hR := r3 (frTodo f t) rfl rfl (fr_weak (tm' := mixT true A f.tm ops.toList f.tm) hS fun G ts hr => mix_rt (fun x => hr x) _ _ fun x => by
          rcases r1 x with r | r
          · left
            rw [← r]
            exact hr x
          · exact .inr r)
        have hC : FrS X.P (frTodo f (.code (.region id ops false) :: t)) bl M e bl' M' := by
          obtain ⟨fn, dfd, sz, tm, todo, ds, ro⟩ := f
          refine ⟨hR.1, fun G w b a c0s cs hs hw hf hb hr => ?_⟩
          refine goal_reg (f1 := frTodo ⟨fn, dfd, sz, tm, todo, ds, ro⟩ t) hR rfl (i := 0) rfl (.one ?_) hs hw (Ev.refl _ _ _) (Ub.refl _ _) (b := b) (a1 := a) ⟨hf.fn, hf.kind, hf.sz, hf.rt, hf.ds, hf.ro, hf.rd⟩ hb hr
          rw [Nat.sub_zero, ← List.range_eq_range']
          exact stepR_region
        exact fr_stp hC (fun G w b a cs _ hf => by rw [ht]; exact stepR_cond (hv G b a hf))
      | false =>
        exact fr_stp (t := .code .skip :: t) (fr_stp (t := t) (fr_weak (tm' := mixT false A f.tm ops.toList f.tm) (r2 _ hS) fun G ts hr => mix_rt (fun x => hr x) _ _ fun x => .inl (hr x)) (fun G w b a cs _ hf => stepR_skip)) (fun G w b a cs _ hf => by rw [ht]; exact stepR_cond (hv G b a hf))
    · cases hm
  · cases hm
/-- A frame that runs. -/
theorem fr_step (f : Fr) : Out er k (jFr X er run f bl M k) (FrS X.P f bl M) := by
  unfold jFr
  cases ht : f.todo with
  | nil =>
    exact fin_ok H (fun _ _ w b a cs hb => by rw [ht]; exact stepR_end hb) (fun b a c cs w w' r v h1 h2 h3 => by rw [ht]; exact stepR_round_end h1 h2 h3)
  | cons it t =>
    cases it with
    | code c =>
      cases c with
      | skip => exact fr_go (run_fr H _ bl M k) (fun G w b a cs _ _ => by rw [ht]; exact stepR_skip)
      | region id ops draw => exact region_ok H hP.1 ht
      | seq x y => exact fr_go (run_fr H _ bl M k) (fun G w b a cs _ _ => by rw [ht]; exact stepR_seq)
      | cond c x y =>
        show Out er k (jMerge (bif X.mg f.fn then mergeC X.P (evA f.tm c) x y f M else none) run t bl k (jCond er run (evA f.tm c) x y t f bl M k)) _
        unfold jMerge
        split
        · rename_i fm Mm hmm
          have hmm : mergeC X.P (evA f.tm c) x y f M = some (fm, Mm) := by
            cases hmg : X.mg f.fn with
            | true => rw [hmg] at hmm; exact hmm
            | false => rw [hmg] at hmm; cases hmm
          exact (run_fr H (frTodo fm t) bl Mm k).imp fun e bl' M' hS => merge_ok hP.1 ht hmm hS
        unfold jCond
        split
        · rename_i tb hc
          have hv : ∀ (G : Gh) (b : Frame) (a : Act), FrR G f b a → a.eval c = .bool tb := fun G b a hf => by
            have := hf.rt.eval c
            rw [hc] at this
            exact this.bool_inv
          cases tb with
          | true => exact fr_go (run_fr H _ bl M k) (fun G w b a cs _ hf => by rw [ht]; exact stepR_cond (hv G b a hf))
          | false => exact fr_go (run_fr H _ bl M k) (fun G w b a cs _ hf => by rw [ht]; exact stepR_cond (hv G b a hf))
        · exact .er
      | block id c => exact fr_go (run_fr H _ bl M k) (fun G w b a cs _ _ => by rw [ht]; exact stepR_block)
      | loop c => exact fr_go (run_fr H _ bl M k) (fun G w b a cs _ _ => by rw [ht]; exact stepR_loop)
      | rangeFunc g ps as body => exact range_ok hP H ht
      | exit id =>
        show Out er k (jExit er run (exitTo id t) id f bl M k) _
        unfold jExit
        split
        · rename_i k' hk
          exact fr_go (run_fr H _ bl M k) (fun G w b a cs _ _ => by rw [ht]; exact stepR_exit hk)
        · rename_i hk
          exact fin_ok H (fun _ h => by cases h) (fun b a c cs w w' r v h1 h2 h3 => by rw [ht]; exact stepR_round_exit h1 h2 hk h3)
      | ret =>
        exact fin_ok H (fun _ _ w b a cs hb => by rw [ht]; exact stepR_ret hb) (fun b a c cs w w' r v h1 h2 h3 => by rw [ht]; exact stepR_round_ret h1 h2 h3)
      | _ => exact .er
    | inBlock id => exact fr_go (run_fr H _ bl M k) (fun G w b a cs _ _ => by rw [ht]; exact stepR_inBlock)
    | inLoop c => exact fr_go (run_fr H _ bl M k) (fun G w b a cs _ _ => by rw [ht]; exact stepR_inLoop)
    | beginRound =>
      show Out er k (match f.ro with | some l => jBegin er run (M.h.get l) l (frTodo f t) bl M k | none => er 104) _
      cases hro : f.ro with
      | none => exact .er
      | some l => exact begin_ok H hro ht
    | _ => exact .er
end
end Go.Proofs.YtbknpfckdnladaaGreat
