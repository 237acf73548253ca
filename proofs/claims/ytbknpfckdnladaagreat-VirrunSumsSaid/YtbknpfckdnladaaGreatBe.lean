/- Jobs: what they are to bring. No condition. -/
import Derived.Test.YtbknpfckdnladaaGreatBd
set_option linter.unusedVariables false
set_option maxHeartbeats 4000000
namespace Go.Proofs.YtbknpfckdnladaaGreat
section
variable {R : Type}
def Job.k : Job R → K R
  | .fr _ _ _ k => k
  | .reg _ _ _ _ _ k => k
  | .dreg _ _ _ _ _ _ k => k
  | .lv _ _ _ _ k => k
  | .call _ _ _ _ _ k => k
  | .yld _ _ _ k => k
def JobS (P : Program) : Job R → AEnd → AMode → Mem → Prop
  | .fr f bl M _ => FrS P f bl M
  | .reg all rest f bl M _ => RegS P all rest f bl M
  | .dreg d i rest f bl M _ => DrS P d i rest f bl M
  | .lv f u bl M _ => LvS P f u bl M
  | .call f args dfd bl M _ => CallS P f args dfd bl M
  | .yld l args M _ => YldS P l args M
/-- A program whose functions with a body are called as they are. -/
def POk (P : Program) : Prop := P.follows .mixedOrders = true ∧ ∀ (f : Nat) (fn : Func), P.funcs[f]? = some fn → fn.body.isSome = true → (fn.name == "runtime.NumGoroutine") = false
end
section
variable {P : Program} {G G1 : Gh} {w w1 : World} {M M1 M' : Mem} {m : Machine} {e : AEnd} {bl bl' : AMode} {c0s cs : List Frame}
theorem goal_fr {f1 : Fr} {b : Frame} {a1 : Act} (h : FrS P f1 bl M1 e bl' M') (s : Steps P m (lone (b.atR a1 f1.todo) cs w1)) (st : St G1 w1 M1) (wf : WfM M1) (ev : Ev G w M G1 w1 M1) (ub : Ub (· < M.nx) G G1) (fr : FrR G1 f1 b a1) (hb : Bel f1.dfd G bl c0s cs) (hr : f1.ro ≠ none → c0s ≠ []) : Goal P G w M m f1.ro f1.dfd f1.fn c0s e bl' M' :=
  (h.2 G1 w1 b a1 c0s cs st wf fr (hb.mono ev.le) hr).of s ev ub
theorem goal_lv {f1 : Fr} {u : AMode} {fr1 : Frame} (h : LvS P f1 u bl M1 e bl' M') (s : Steps P m (lone fr1 cs w1)) (st : St G1 w1 M1) (wf : WfM M1) (ev : Ev G w M G1 w1 M1) (ub : Ub (· < M.nx) G G1) (fr : LvR G1 f1 u fr1) (hb : Bel f1.dfd G bl c0s cs) (hr : f1.ro ≠ none → c0s ≠ []) : Goal P G w M m f1.ro f1.dfd f1.fn c0s e bl' M' :=
  (h.2 G1 w1 fr1 c0s cs st wf fr (hb.mono ev.le) hr).of s ev ub
theorem goal_reg {all rest : List Oper} {f1 : Fr} {b : Frame} {a1 : Act} {ops : Array Oper} {i : Nat} (h : RegS P all rest f1 bl M1 e bl' M') (h1 : ops.toList = all) (h2 : all.drop i = rest) (s : Steps P m (lone (b.atR a1 (.inRegion ops (List.range' i (ops.size - i)) :: f1.todo)) cs w1)) (st : St G1 w1 M1) (wf : WfM M1) (ev : Ev G w M G1 w1 M1) (ub : Ub (· < M.nx) G G1) (fr : FrR G1 f1 b a1) (hb : Bel f1.dfd G bl c0s cs) (hr : f1.ro ≠ none → c0s ≠ []) : Goal P G w M m f1.ro f1.dfd f1.fn c0s e bl' M' :=
  (h.2 ops i G1 w1 b a1 c0s cs h1 h2 st wf fr (hb.mono ev.le) hr).of s ev ub
theorem at_set {S : Nat → Prop} {id : Nat} {k : Blk} (ho : Own M id) : AT S M ⟨M.h.set id k, M.nx, id :: M.lg⟩ := by
  have own : ∀ i, Own ⟨M.h.set id k, M.nx, id :: M.lg⟩ i → Own M i := fun i ⟨q, h1, h2⟩ => by
    by_cases e : id = i
    · rw [← e]; exact ho
    · exact ⟨q, by rw [← h1]; exact (get_set_ne _ _ e).symm, h2⟩
  exact ⟨Nat.le_refl _, ⟨[id], rfl, fun i _ hn => get_set_ne _ _ (fun e => hn (by simp [e]))⟩, fun i o => .inl (own i o), fun h i o => h i (own i o)⟩
/-- A loop's record, and what becomes of it. -/
theorem loop_put {l r fn sz d : Nat} {tm : Tr AV} {ps : Array Nat} {as body : Code} {st : LoopState} {pe : Option Code} (hs : St G w M) (hl : M.h.get l = some (.loop fn sz tm ps as body d st pe)) (hp : G.phi l = some (r, 0)) :
    ∃ L : Loop, w.heap[r]? = some (.loop L) ∧ L.state = st ∧ L.pending = pe ∧ L.fn = fn ∧ L.params = ps ∧ L.assign = as ∧ L.body = body ∧ L.tmps.size = sz ∧ RT G L.tmps tm ∧ G.phi d = some (L.defers, 0) ∧
      ∀ st' pe', St G (w.putObj r (.loop { L with state := st', pending := pe' })) ⟨M.h.set l (.loop fn sz tm ps as body d st' pe'), M.nx, l :: M.lg⟩ ∧ Ev G w M G (w.putObj r (.loop { L with state := st', pending := pe' })) ⟨M.h.set l (.loop fn sz tm ps as body d st' pe'), M.nx, l :: M.lg⟩ := by
  obtain ⟨_, ts, db, h1, h2, h3, h4⟩ := hs.blk l _ r 0 hl hp
  refine ⟨_, h1, rfl, rfl, rfl, rfl, rfl, rfl, h2, h3, h4, fun st' pe' => ?_⟩
  have hlt : r < w.heap.size := (Array.getElem?_eq_some_iff.1 h1).1
  have hB : BlkR G (w.putObj r (.loop { state := st', pending := pe', fn, tmps := ts, params := ps, assign := as, body, defers := db })) r 0 (.loop fn sz tm ps as body d st' pe') := ⟨rfl, ts, db, World.putObj_heap_same hlt, h2, h3, h4⟩
  exact hs.put ⟨_, hl, by simp⟩ hp (fun x hx => World.putObj_heap_other hx) World.putObj_size ⟨rfl, rfl, rfl⟩ hB (by simp) _
theorem own_loop {l fn sz d : Nat} {tm : Tr AV} {ps : Array Nat} {as body : Code} {st : LoopState} {pe : Option Code} (hl : M.h.get l = some (.loop fn sz tm ps as body d st pe)) : Own M l := ⟨_, hl, by simp⟩
/-- A round's end. -/
theorem fin2_ok {R : Type} {er : Nat → R} {k : K R} {f : Fr} {l : Nat} {jump : Option Code} (hro : f.ro = some l)
    (hst : ∀ (b : Frame) (a : Act) (c : Frame) (cs : List Frame) (w w' : World) (r : Nat) (v : Value), b.roundOf = some r → b.kind = .normal → (Instr.endRound r jump).run P w = .ok v w' → step P (lone (b.atR a f.todo) (c :: cs) w) = .next (lone (c.finish v) cs w')) :
    Out er k (jFin2 er (M.h.get l) l f.ds jump M bl k) (FrS P f bl M) := by
  unfold jFin2
  split
  · rename_i fn sz tm ps as body d st pe h nx lg hds hl
    have key : ∀ (st' : LoopState) (pe' : Option Code), st' = (if jump.isNone then .ready else .done) → jump = pe' → FrS P f bl ⟨h, nx, lg⟩ (.ret (.bool jump.isNone)) bl ⟨h.set l (.loop fn sz tm ps as body d st' pe'), nx, l :: lg⟩ := fun st' pe' e1 e2 => by
      subst e1
      subst e2
      refine ⟨at_set (own_loop hl), fun G w b a c0s cs hs hw hf hb hr => ?_⟩
      obtain ⟨r, hr1, hr2⟩ : ∃ r, b.roundOf = some r ∧ G.phi l = some (r, 0) := by have := hf.ro; rw [hro] at this; exact this
      have hdf : f.dfd = false := hf.rd (by rw [hro]; simp)
      obtain ⟨L, k1, k2, k3, k4, k5, k6, k7, k8, k9, k10, k11⟩ := loop_put hs hl hr2
      rw [hdf] at hb
      have hb : cs = c0s := hb
      subst hb
      cases cs with
      | nil => exact absurd rfl (hr (by rw [hro]; simp))
      | cons c cs =>
        have hk : b.kind = .normal := by rw [hf.kind, hdf]; rfl
        have hrun := run_endRound (P := P) jump k1
        have hstep := hst b a c cs w _ r _ hr1 hk hrun
        obtain ⟨s1, s2⟩ := k11 (if jump.isNone then .ready else .done) jump
        refine ⟨G, _, c :: cs, .returned (.bool jump.isNone), _, .one hstep, ?_, ?_, ?_, s1, s2, Ub.refl _ _⟩
        · rw [hdf]; exact rfl
        · rw [hro]; exact ⟨c, cs, rfl, rfl⟩
        · exact .bool _
    cases jump with
    | none => exact .inr ⟨_, _, _, rfl, key .ready none rfl rfl⟩
    | some c => exact .inr ⟨_, _, _, rfl, key .done (some c) rfl rfl⟩
  · exact .er
end
end Go.Proofs.YtbknpfckdnladaaGreat
