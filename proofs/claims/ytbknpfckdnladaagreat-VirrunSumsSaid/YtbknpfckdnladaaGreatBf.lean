/- Jobs: a frame that runs. No condition. -/
import Derived.Test.YtbknpfckdnladaaGreatBe
set_option linter.unusedVariables false
set_option maxHeartbeats 4000000
namespace Go.Proofs.YtbknpfckdnladaaGreat
section
variable {R : Type} {X : Cx} {er : Nat → R} {run : Job R → R} {k : K R} {bl : AMode} {M : Mem}
/-- A plain step of a frame. -/
theorem fr_go {P : Program} {f : Fr} {t : List Item} {r : R} (h : Out er k r (FrS P (frTodo f t) bl M)) (hst : ∀ (G : Gh) (w : World) (b : Frame) (a : Act) (cs : List Frame), St G w M → FrR G f b a → step P (lone (b.atR a f.todo) cs w) = .next (lone (b.atR a t) cs w)) : Out er k r (FrS P f bl M) := by
  obtain ⟨fn, dfd, sz, tm, todo, ds, ro⟩ := f
  refine h.imp fun e bl' M' hS => ⟨hS.1, fun G w b a c0s cs hs hw hf hb hr => ?_⟩
  exact (hS.2 G w b a c0s cs hs hw ⟨hf.fn, hf.kind, hf.sz, hf.rt, hf.ds, hf.ro, hf.rd⟩ hb hr).step (hst G w b a cs hs hf)
theorem fr_lv {P : Program} {f : Fr} {r : R} (hro : f.ro = none) (h : Out er k r (LvS P f .ret bl M)) (hst : ∀ (w : World) (b : Frame) (a : Act) (cs : List Frame), b.roundOf = none → step P (lone (b.atR a f.todo) cs w) = .next (lone { b.atR a f.todo with mode := .returning } cs w)) : Out er k r (FrS P f bl M) := by
  refine h.imp fun e bl' M' hS => ⟨hS.1, fun G w b a c0s cs hs hw hf hb hr => ?_⟩
  have hb0 : b.roundOf = none := by have := hf.ro; rw [hro] at this; exact this
  exact (hS.2 G w _ c0s cs hs hw (hf.lv (todo := f.todo) (m := .returning) (u := .ret) trivial (by simp)) hb hr).step (hst w b a cs hb0)
variable (H : ∀ j, Out er j.k (run j) (JobS X.P j))
include H
theorem run_fr (f : Fr) (bl : AMode) (M : Mem) (k : K R) : Out er k (run (.fr f bl M k)) (FrS X.P f bl M) := H (.fr f bl M k)
theorem run_lv (f : Fr) (u bl : AMode) (M : Mem) (k : K R) : Out er k (run (.lv f u bl M k)) (LvS X.P f u bl M) := H (.lv f u bl M k)
theorem fin_ok {f : Fr} {jump : Option Code} {fnb : Bool}
    (h1 : f.ro = none → fnb = true → ∀ (w : World) (b : Frame) (a : Act) (cs : List Frame), b.roundOf = none → step X.P (lone (b.atR a f.todo) cs w) = .next (lone { b.atR a f.todo with mode := .returning } cs w))
    (h2 : ∀ (b : Frame) (a : Act) (c : Frame) (cs : List Frame) (w w' : World) (r : Nat) (v : Value), b.roundOf = some r → b.kind = .normal → (Instr.endRound r jump).run X.P w = .ok v w' → step X.P (lone (b.atR a f.todo) (c :: cs) w) = .next (lone (c.finish v) cs w')) :
    Out er k (jFin er run jump fnb f bl M k) (FrS X.P f bl M) := by
  unfold jFin
  cases hro : f.ro with
  | none =>
    cases hf : fnb with
    | true => exact fr_lv hro (run_lv H f .ret bl M k) (h1 hro hf)
    | false => exact .er
  | some l => exact fin2_ok hro h2
theorem begin_ok {f : Fr} {t : List Item} {l : Nat} (hro : f.ro = some l) (ht : f.todo = .beginRound :: t) : Out er k (jBegin er run (M.h.get l) l (frTodo f t) bl M k) (FrS X.P f bl M) := by
  unfold jBegin
  split
  · rename_i fn sz tm ps as body d pe h nx lg hl
    refine (run_fr H _ bl _ k).imp fun e bl' M' hS => ?_
    have at1 : AT ((⟨h, nx, lg⟩ : Mem).nx ≤ ·) ⟨h, nx, lg⟩ ⟨h.set l (.loop fn sz tm ps as body d .busy pe), nx, l :: lg⟩ := at_set (M := ⟨h, nx, lg⟩) (own_loop hl)
    refine ⟨at_of at1 hS.1, fun G w b a c0s cs hs hw hf hb hr => ?_⟩
    obtain ⟨r, hr1, hr2⟩ : ∃ r, b.roundOf = some r ∧ G.phi l = some (r, 0) := by have := hf.ro; rw [hro] at this; exact this
    obtain ⟨L, k1, k2, k3, k4, k5, k6, k7, k8, k9, k10, k11⟩ := loop_put hs hl hr2
    have hrun := run_beginRound (P := X.P) k1 k2
    have hstep := stepR_beginRound (P := X.P) (b := b) (a := a) (k := t) (cs := cs) hr1 hrun
    obtain ⟨s1, s2⟩ := k11 .busy pe
    have e1 : ({ L with state := .busy, pending := pe } : Loop) = { L with state := .busy } := by rw [← k3]
    rw [e1] at s1 s2
    obtain ⟨fn', dfd', sz', tm', todo', ds', ro'⟩ := f
    have ht : todo' = .beginRound :: t := ht
    subst ht
    exact goal_fr (f1 := frTodo ⟨fn', dfd', sz', tm', .beginRound :: t, ds', ro'⟩ t) hS (.one hstep) s1 (at1.wf hw) s2 (Ub.refl _ _) ⟨hf.fn, hf.kind, hf.sz, hf.rt, hf.ds, hf.ro, hf.rd⟩ hb hr
  · exact .er
omit H in
theorem dr_code (hmix : X.P.follows .mixedOrders = true) {f : Fr} {t : List Item} {id : Nat} {ops : Array Oper} (ht : f.todo = .code (.region id ops true) :: t) (hok : regOk ops.toList (befL [] ops.toList) [] 0 ops.toList = true) {e : AEnd} {bl' : AMode} {M' : Mem} (hS : DrS X.P ⟨befL [] ops.toList, ops.toList, M.nx, []⟩ 0 ops.toList (frTodo f t) bl (memNx M ops.toList.length) e bl' M') : FrS X.P f bl M e bl' M' := by
  obtain ⟨fn, dfd, sz, tm, todo, ds, ro⟩ := f
  have ht : todo = .code (.region id ops true) :: t := ht
  subst ht
  refine ⟨hS.at', fun G w b a c0s cs hs hw hf hb hr => ?_⟩
  have hsch : ∀ tt, Region.schedule (X.P.follows .mixedOrders) ops tt = Region.linearise .any ops tt := fun tt => by
    unfold Region.schedule
    rw [hmix]
    simp
  have hst := stepR_region_draw (P := X.P) (b := b) (a := a) (k := t) (cs := cs) (w := w) (ops := ops) (id := id)
  rw [hsch] at hst
  refine Goal.of (G1 := G) (w1 := { w with drawn := w.drawn + 1 }) (M1 := M) (.one hst) (Ev.congr (M' := M) rfl ⟨rfl, rfl, rfl⟩ (fun _ => rfl) (Nat.le_refl _)) (Ub.refl _ _) ?_
  exact dreg_goal (f := frTodo ⟨fn, dfd, sz, tm, .code (.region id ops true) :: t, ds, ro⟩ t) (w := { w with drawn := w.drawn + 1 }) hS hok (lin_draw (regOk_back hok) (w.tape w.drawn (.order b.fn id))) (hs.congr rfl (fun _ => rfl) (Nat.le_refl _)) hw ⟨hf.fn, hf.kind, hf.sz, hf.rt, hf.ds, hf.ro, hf.rd⟩ hb hr
theorem region_ok (hmix : X.P.follows .mixedOrders = true) {f : Fr} {t : List Item} {id : Nat} {ops : Array Oper} {draw : Bool} (ht : f.todo = .code (.region id ops draw) :: t) : Out er k (jRegion er run ops draw t f bl M k) (FrS X.P f bl M) := by
  obtain ⟨fn, dfd, sz, tm, todo, ds, ro⟩ := f
  have ht : todo = .code (.region id ops draw) :: t := ht
  subst ht
  unfold jRegion
  cases draw with
  | false =>
    refine (H (.reg ops.toList ops.toList (frTodo ⟨fn, dfd, sz, tm, _, ds, ro⟩ t) bl M k)).imp fun e bl' M' hS => ?_
    have hS : RegS X.P ops.toList ops.toList (frTodo ⟨fn, dfd, sz, tm, _, ds, ro⟩ t) bl M e bl' M' := hS
    refine ⟨hS.1, fun G w b a c0s cs hs hw hf hb hr => ?_⟩
    refine goal_reg (f1 := frTodo ⟨fn, dfd, sz, tm, .code (.region id ops false) :: t, ds, ro⟩ t) hS rfl (i := 0) rfl (.one ?_) hs hw (Ev.refl _ _ _) (Ub.refl _ _) (b := b) (a1 := a) ⟨hf.fn, hf.kind, hf.sz, hf.rt, hf.ds, hf.ro, hf.rd⟩ hb hr
    rw [Nat.sub_zero, ← List.range_eq_range']
    exact stepR_region
  | true =>
    show Out er k (jRegD er run (befL [] ops.toList) ops.toList t ⟨fn, dfd, sz, tm, _, ds, ro⟩ bl M k) _
    unfold jRegD
    cases hok : regOk ops.toList (befL [] ops.toList) [] 0 ops.toList with
    | false => exact .er
    | true =>
      refine (H (.dreg ⟨befL [] ops.toList, ops.toList, M.nx, []⟩ 0 ops.toList (frTodo ⟨fn, dfd, sz, tm, _, ds, ro⟩ t) bl (memNx M ops.toList.length) k)).imp fun e bl' M' hS => ?_
      have hS : DrS X.P ⟨befL [] ops.toList, ops.toList, M.nx, []⟩ 0 ops.toList (frTodo ⟨fn, dfd, sz, tm, _, ds, ro⟩ t) bl (memNx M ops.toList.length) e bl' M' := hS
      refine ⟨hS.at', fun G w b a c0s cs hs hw hf hb hr => ?_⟩
      have hsch : ∀ tt, Region.schedule (X.P.follows .mixedOrders) ops tt = Region.linearise .any ops tt := fun tt => by
        unfold Region.schedule
        rw [hmix]
        simp
      have hst := stepR_region_draw (P := X.P) (b := b) (a := a) (k := t) (cs := cs) (w := w) (ops := ops) (id := id)
      rw [hsch] at hst
      refine Goal.of (G1 := G) (w1 := { w with drawn := w.drawn + 1 }) (M1 := M) (.one hst) (Ev.congr (M' := M) rfl ⟨rfl, rfl, rfl⟩ (fun _ => rfl) (Nat.le_refl _)) (Ub.refl _ _) ?_
      exact dreg_goal (f := frTodo ⟨fn, dfd, sz, tm, .code (.region id ops true) :: t, ds, ro⟩ t) (w := { w with drawn := w.drawn + 1 }) hS hok (lin_draw (regOk_back hok) (w.tape w.drawn (.order b.fn id))) (hs.congr rfl (fun _ => rfl) (Nat.le_refl _)) hw ⟨hf.fn, hf.kind, hf.sz, hf.rt, hf.ds, hf.ro, hf.rd⟩ hb hr
end
end Go.Proofs.YtbknpfckdnladaaGreat
