/- Jobs: a drawn region, a frame on its way out, calls; all jobs. No condition. -/
import Derived.Test.YtbknpfckdnladaaGreatBr
set_option linter.unusedVariables false
set_option maxHeartbeats 4000000
namespace Go.Proofs.YtbknpfckdnladaaGreat
section
variable {R : Type} {X : Cx} {er : Nat → R} {run : Job R → R} {k : K R} {bl : AMode} {M : Mem} {f : Fr} {o : Oper} {rest : List Oper}
variable (hP : POk X.P) (H : ∀ j, Out er j.k (run j) (JobS X.P j))
include H
theorem run_dreg (d : Dr) (i : Nat) (rest : List Oper) (f : Fr) (bl : AMode) (M : Mem) (k : K R) : Out er k (run (.dreg d i rest f bl M k)) (DrS X.P d i rest f bl M) := H (.dreg d i rest f bl M k)
theorem next_ok {bef : List Nat} {all : List Oper} {base : Nat} {seen : List Rec} {i b : Nat} {rd : List Nat} {v : AV} {M2 : Mem} (hE : Ent X.P all base i o f.tm M v ⟨M2.h, M2.nx, M2.lg ++ M.lg⟩ (some ⟨i, isW o.op, rd, M2.lg, M.nx⟩)) :
    Out er k (jNext er run ⟨bef, all, base, seen⟩ i b o rd M.nx rest M.lg f bl k v M2) (DrS X.P ⟨b :: bef, all, base, seen⟩ i (o :: rest) f bl M) := by
  unfold jNext
  obtain ⟨h, nx, lg2⟩ := M2
  dsimp only
  cases hok : okOrder b ⟨i, isW o.op, rd, lg2, M.nx⟩ seen with
  | false => exact .er
  | true => exact (run_dreg H _ _ _ _ _ _ _).imp fun e bl' M' hS => dr_cons hE ⟨rfl, hok⟩ hS
theorem dpan_ok {bef : List Nat} {all : List Oper} {base : Nat} {seen : List Rec} {i b : Nat} {ch : List AE} {M2 : Mem} (hE : Pan X.P all base i o f.tm M ch M2) :
    Out er k (dPan er run ⟨bef, all, base, seen⟩ i b M.lg f bl k ch M2) (DrS X.P ⟨b :: bef, all, base, seen⟩ i (o :: rest) f bl M) := by
  unfold dPan
  obtain ⟨h, nx, lg2⟩ := M2
  dsimp only
  cases hok : allBit i bef && okOrder b ⟨i, true, [], [], nx⟩ seen with
  | false => exact .er
  | true =>
    simp only [Bool.and_eq_true] at hok
    exact (run_lv H _ _ _ _ _).imp fun e bl' M' hS => dr_pan hE hok.1 hok.2 hS
theorem dop_ok {bef : List Nat} {all : List Oper} {base : Nat} {seen : List Rec} {i b : Nat} (hw : wantA all o f.tm = some true) (hd : ∀ c, o.op ≠ .defer c) : Out er k (dOp X er run o ⟨bef, all, base, seen⟩ i b rest f bl M.h M.nx M.lg k) (DrS X.P ⟨b :: bef, all, base, seen⟩ i (o :: rest) f bl M) := by
  unfold dOp
  rcases jOp_cases er o (X.mg f.fn) (P := X.P) (ev := evA f.tm) (M := ⟨M.h, M.nx, []⟩) (fid := base + i) (jNext er run ⟨bef, all, base, seen⟩ i b o (readsOf o.op (evA f.tm) (base + i)) M.nx rest M.lg f bl k) (fun v => dPan er run ⟨bef, all, base, seen⟩ i b M.lg f bl k [⟨v, false⟩] ⟨M.h, M.nx, []⟩) with ⟨c, hc⟩ | ⟨v, M2, hv, hc⟩ | ⟨v, hv, hc⟩
  · exact .inl ⟨c, hc⟩
  · dsimp only; rw [hc]
    exact next_ok H (.inr ⟨hw, hd, M2, _, rfl, rfl, .inl ⟨hv, rfl⟩⟩)
  · dsimp only; rw [hc]
    exact dpan_ok H ⟨hw, hd, .inl ⟨v, hv, rfl, rfl⟩⟩
include hP
theorem dexec_ok {bef : List Nat} {all : List Oper} {base : Nat} {seen : List Rec} {i b : Nat} (hw : wantA all o f.tm = some true) : Out er k (dExec X er run o ⟨bef, all, base, seen⟩ i b rest f bl M.h M.nx M.lg k) (DrS X.P ⟨b :: bef, all, base, seen⟩ i (o :: rest) f bl M) := by
  unfold dExec
  split
  · rename_i c hop
    have hd : ∀ c, o.op ≠ .defer c := by rw [hop]; intro c; simp
    obtain ⟨callee, args, ts⟩ := c
    cases callee with
    | value g =>
      show Out er k (jCallV er run (evA f.tm g) (args.toList.map (evA f.tm)) ⟨M.h, M.nx, []⟩ (jNext er run ⟨bef, all, base, seen⟩ i b o [] M.nx rest M.lg f bl k) (dPan er run ⟨bef, all, base, seen⟩ i b M.lg f bl k)) _
      rcases run_cv H hP (g := evA f.tm g) (as := args.toList.map (evA f.tm)) (M := ⟨M.h, M.nx, []⟩) (nxt := jNext er run ⟨bef, all, base, seen⟩ i b o [] M.nx rest M.lg f bl k) (pan := dPan er run ⟨bef, all, base, seen⟩ i b M.lg f bl k) with ⟨c, hc⟩ | ⟨v, M2, hc, hS⟩ | ⟨ch, M2, hc, hS⟩
      · exact .inl ⟨c, hc⟩
      · rw [hc]
        exact next_ok H (.inr ⟨hw, hd, M2, _, rfl, rfl, .inr ⟨g, args, ts, hop, hS⟩⟩)
      · rw [hc]
        exact dpan_ok H ⟨hw, hd, .inr ⟨g, args, ts, hop, hS⟩⟩
    | invoke r n => exact .er
    | builtin bb =>
      cases bb with
      | recover => exact .er
      | _ => exact dop_ok H hw hd
  · exact .er
  · rename_i h1 h2
    exact dop_ok H hw h2
theorem dreg_step (d : Dr) (i : Nat) : Out er k (jDReg X er run d i rest f bl M k) (DrS X.P d i rest f bl M) := by
  unfold jDReg
  obtain ⟨h, nx, lg⟩ := M
  split
  · rename_i M2 d2 hM
    cases hM
    exact (run_fr H f bl _ k).imp fun e bl' M' hS => dr_nil hS
  · rename_i o rest h' nx' lg' b bef all base seen hM
    cases hM
    unfold dReg1
    split
    · rename_i hg
      exact dexec_ok (M := ⟨h, nx, lg⟩) hP H (by unfold wantA; rw [hg])
    · rename_i j want hg
      rcases jGuard0_want er all o f hg (fun f => dExec X er run o ⟨bef, all, base, seen⟩ i b rest f bl h nx lg k) (fun f => run (.dreg ⟨bef, all, base, seen⟩ (i + 1) rest (frPut f o .undef) bl ⟨h, nx, lg⟩ k)) with ⟨c, hc⟩ | ⟨tm1, hx, ⟨hw, hc⟩ | ⟨hw, hc⟩⟩
      · exact .inl ⟨c, hc⟩
      · dsimp only; rw [hc]; exact (dexec_ok (M := ⟨h, nx, lg⟩) (f := frTm f tm1) hP H hw).imp fun e bl' M' hS => dr_ext hS hx
      · dsimp only; rw [hc]
        refine Out.imp (S := DrS X.P ⟨b :: bef, all, base, seen⟩ i (o :: rest) (frTm f tm1) bl ⟨h, nx, lg⟩) ?_ fun e bl' M' hS => dr_ext hS hx
        replace hw : wantA all o (frTm f tm1).tm = some false := hw
        generalize frTm f tm1 = f at hw ⊢
        exact (run_dreg H _ _ _ _ _ _ _).imp fun e bl' M' hS => dr_cons (.inl ⟨hw, rfl, rfl, rfl⟩) rfl hS
  · exact .er
end
section
variable {P : Program} {G : Gh} {w : World} {M : Mem}
theorem nth_get {α : Type} : ∀ (l : List α) (j : Nat), nth l j = l[j]?
  | [], j => rfl
  | a :: l, 0 => rfl
  | a :: l, j + 1 => nth_get l j
theorem resOf_ok {f : Nat} {l : List ResultVar} (h : resOf P f = some l) : ∃ fn, P.funcs[f]? = some fn ∧ fn.results.toList = l := by
  unfold resOf at h
  rw [nth_get] at h
  split at h
  · rename_i fn hf
    cases h
    exact ⟨fn, by simpa using hf, rfl⟩
  · cases h
theorem bodyOf_ok {f : Nat} {c : Code} {n : Nat} (h : bodyOf P f = some (c, n)) : ∃ fn, P.funcs[f]? = some fn ∧ fn.body = some c ∧ fn.ntmps = n := by
  unfold bodyOf at h
  rw [nth_get] at h
  split at h
  · rename_i fn hf
    split at h
    · rename_i c' hb
      cases h
      exact ⟨fn, by simpa using hf, hb, rfl⟩
    · cases h
  · cases h
def resF (ts : Array Value) (r : ResultVar) : Sem Value := match r with | .tmp t => pure (ts.getD t undef) | .cell a t => do loadVar t (← asAddr (ts.getD a undef))
/-- What a function hands back. -/
theorem res_list {ts : Array Value} {tm : Tr AV} (hs : St G w M) (hr : RT G ts tm) : ∀ (rs : List ResultVar) (l : List AV), resA P tm M rs = some l → ∃ vs : List Value, (rs.mapM (resF ts)).run P w = .ok vs w ∧ RVs G vs.toArray l
  | [], l, h => by
    cases h
    exact ⟨[], rfl, rfl, fun j v a h => by simp at h⟩
  | .tmp t :: rs, l, h => by
    unfold resA at h
    split at h
    · rename_i l' hl
      cases h
      obtain ⟨vs, h1, h2⟩ := res_list hs hr rs l' hl
      refine ⟨ts.getD t undef :: vs, ?_, ?_⟩
      · simp only [List.mapM_cons, resF, Sem.run_bind, Sem.run_pure, Result.andThen_ok, h1]
      · have := (RVs.one (hr t)).append h2
        simpa using this
    · cases h
  | .cell a t :: rs, l, h => by
    unfold resA at h
    unfold resA1 at h
    split at h
    · rename_i c cs l' hp hl
      unfold resA2 at h
      split at h
      · rename_i v hpk
        cases hc : c with
        | false => rw [hc] at h; cases h
        | true =>
          rw [hc] at h
          cases h
          subst hc
          obtain ⟨vs, h1, h2⟩ := res_list hs hr rs l' hl
          obtain ⟨ad, x, q1, q2, q3⟩ := loadVar_ok (P := P) hs (hr a) hp hpk
          refine ⟨x :: vs, ?_, ?_⟩
          · simp only [List.mapM_cons, resF, Sem.run_bind, Sem.run_pure, Result.andThen_ok, h1, q1, asAddr, q2]
          · have := (RVs.one q3).append h2
            simpa using this
      · cases h
    · cases h
theorem results_ok {fn : Func} {ts : Array Value} {tm : Tr AV} {l : List AV} (hs : St G w M) (hr : RT G ts tm) (h : resA P tm M fn.results.toList = some l) : ∃ v, (results fn ts).run P w = .ok v w ∧ RV G v (resV l) := by
  obtain ⟨vs, h1, h2⟩ := res_list hs hr _ _ h
  have h3 : (fn.results.mapM (resF ts)).run P w = .ok vs.toArray w := by
    rw [Array.mapM_eq_mapM_toList]
    simp only [Sem.run_map, h1, Result.andThen_ok]
  have h4 : results fn ts = (do let vs ← fn.results.mapM (resF ts); pure (if h : vs.size = 1 then vs[0] else .tuple vs)) := by
    unfold results
    have : (fun | .tmp t => (pure (ts.getD t undef) : Sem Value) | .cell a t => do loadVar t (← asAddr (ts.getD a undef)) : ResultVar → Sem Value) = resF ts := by
      funext r
      cases r <;> rfl
    rw [← this]
    rfl
  rw [h4]
  simp only [Sem.run_bind, h3, Result.andThen_ok, Sem.run_pure]
  refine ⟨_, rfl, ?_⟩
  match vs, l, h2 with
  | [v], [a], h2 => exact h2.at' 0 v a rfl rfl
  | [], [], h2 => exact .tup h2.len h2.at'
  | v :: v' :: vs, a :: a' :: l, h2 =>
    rw [dif_neg (by simp)]
    exact .tup h2.len h2.at'
  | [], _ :: _, h2 => exact absurd h2.len (by simp)
  | [v], [], h2 => exact absurd h2.len (by simp)
  | [v], _ :: _ :: _, h2 => exact absurd h2.len (by simp)
  | _ :: _ :: _, [], h2 => exact absurd h2.len (by simp)
  | _ :: _ :: _, [_], h2 => exact absurd h2.len (by simp)
end
end Go.Proofs.YtbknpfckdnladaaGreat
