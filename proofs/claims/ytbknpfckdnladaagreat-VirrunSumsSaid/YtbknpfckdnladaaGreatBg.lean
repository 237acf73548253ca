/- Jobs: a frame that runs, each item; a range over a function. No condition. -/
import Derived.Test.YtbknpfckdnladaaGreatBf
set_option linter.unusedVariables false
set_option maxHeartbeats 4000000
namespace Go.Proofs.YtbknpfckdnladaaGreat
section
variable {R : Type} {X : Cx} {er : Nat → R} {run : Job R → R} {k : K R} {bl : AMode} {M : Mem}
theorem invoke_fn {P : Program} (hP : POk P) {f : Nat} {fn : Func} (h1 : P.funcs[f]? = some fn) (h2 : fn.body.isSome = true) (cap args : Array Value) (w : World) : (invoke (.fn (.func f) cap) args).run P w = .ok (.enter f (args ++ cap)) w := by
  have h3 := hP.2 f fn h1 h2
  have h4 : fn.body.isNone = false := by cases hb : fn.body with | none => rw [hb] at h2; cases h2 | some c => rfl
  simp only [invoke, callFunc, Sem.run_bind]
  simp [program, Sem.run, h1, h3, h4, Result.andThen]
theorem ofValue_fn {P : Program} {f : Nat} {first cap vs : Array Value} {w : World} : (Deferred.ofValue (.func (.func f) first cap) vs).run P w = .ok { target := .fn (.func f) cap, args := first ++ vs } w := rfl
/-- Rows of values, one behind the other. -/
theorem RVs.append {G : Gh} {a b : Array Value} {as bs : List AV} (h : RVs G a as) (k : RVs G b bs) : RVs G (a ++ b) (as ++ bs) := by
  refine ⟨by rw [Array.size_append, List.length_append, h.len, k.len], fun j v x h1 h2 => ?_⟩
  rw [Array.getElem?_append] at h1
  rw [List.getElem?_append] at h2
  by_cases e : j < a.size
  · rw [if_pos e] at h1
    rw [if_pos (by rw [← h.len]; exact e)] at h2
    exact h.at' j v x h1 h2
  · rw [if_neg e] at h1
    rw [if_neg (by rw [← h.len]; exact e), ← h.len] at h2
    exact k.at' _ v x h1 h2
theorem RVs.one {G : Gh} {v : Value} {a : AV} (h : RV G v a) : RVs G #[v] [a] := by
  refine ⟨rfl, fun j u x h1 h2 => ?_⟩
  cases j with
  | zero => cases h1; cases h2; exact h
  | succ j => simp at h1
theorem fn_rvs {G : Gh} {f : Nat} {v : Value} {as bs : List AV} (h : RV G v (.fn f as bs)) : ∃ fs cs, v = .func (.func f) fs cs ∧ RVs G fs as ∧ RVs G cs bs := by
  cases h with
  | fn hl hr hl2 hr2 => exact ⟨_, _, rfl, ⟨hl, hr⟩, ⟨hl2, hr2⟩⟩
/-- Entering a loop: the memories with the loop's record, and the frame with the mark. -/
theorem enter_loop {P : Program} {G : Gh} {w : World} {fn sz : Nat} {dfd : Bool} {tm : Tr AV} {todo : List Item} {ds : List AD} {ro : Option Nat} {b : Frame} {a : Act} {ps : Array Nat} {as body : Code} (hs : St G w M) (hro : roOk M ro = true) (hf : FrR G ⟨fn, dfd, sz, tm, todo, ds, ro⟩ b a) :
    ∃ G1 w1 r mark, (Instr.enterLoop b.fn a.tmps ps as body b.roundOf).run P w = .ok (r, mark) w1 ∧ G1.phi (M.nx + 1) = some (r, 0) ∧ St G1 w1 ⟨(M.h.set M.nx .dfr).set (M.nx + 1) (.loop fn sz tm ps as body (dfrOf M ro) .ready none), M.nx + 2, M.lg⟩ ∧
      Ev G w M G1 w1 ⟨(M.h.set M.nx .dfr).set (M.nx + 1) (.loop fn sz tm ps as body (dfrOf M ro) .ready none), M.nx + 2, M.lg⟩ ∧ Ub (· < M.nx) G G1 ∧ ∀ todo', FrR G1 ⟨fn, dfd, sz, tm, todo', dsRange ro M.nx ds, ro⟩ b { a with defers := mark ++ a.defers } := by
  have hfn : b.fn = fn := hf.fn
  have hsz : a.tmps.size = sz := hf.sz
  have hrt : RT G a.tmps tm := hf.rt
  have hds : DsR G a.defers ds := hf.ds
  have f1 : G.phi M.nx = none := phi_none hs (Nat.le_refl _)
  have f2 : G.phi (M.nx + 1) = none := phi_none hs (Nat.le_succ _)
  obtain ⟨sN, eN⟩ := nx_ok (n := 2) hs
  cases ro with
  | none =>
    have hb0 : b.roundOf = none := hf.ro
    have he := run_enterLoop_outer (P := P) (w := w) b.fn a.tmps ps as body
    rw [hb0]
    obtain ⟨s1, e1⟩ := sN.alloc (fid := M.nx) (n := 0) (ob := .deferred (some [])) (k := .dfr) f1 (by show M.nx < M.nx + 2; omega) ⟨rfl, heap_push_eq⟩ (by simp)
    have le1 := e1.le
    have f2' : (G.new M.nx w.heap.size 0).phi (M.nx + 1) = none := by show (if M.nx + 1 = M.nx then _ else _) = _; rw [if_neg (by omega)]; exact f2
    have p1 : (G.new M.nx w.heap.size 0).phi M.nx = some (w.heap.size, 0) := if_pos rfl
    obtain ⟨s2, e2⟩ := s1.alloc (fid := M.nx + 1) (n := 0) (ob := .loop { state := .ready, pending := none, fn := b.fn, tmps := a.tmps, params := ps, assign := as, body, defers := w.heap.size }) (k := .loop fn sz tm ps as body M.nx .ready none) f2' (by show M.nx + 1 < M.nx + 2; omega)
      (by
        have le2 := Gh.new_le (fid := M.nx + 1) (n := 0) s1 f2'
        exact ⟨rfl, a.tmps, w.heap.size, by rw [← hfn]; exact heap_push_eq, hsz, (hrt.mono le1).mono le2, le2.phi _ _ p1⟩) (by simp)
    have le2 := e2.le
    refine ⟨_, _, _, _, he, ?_, s2, (eN.trans e1).trans e2, fun id hid e => ?_, fun todo' => ⟨hf.fn, hf.kind, hf.sz, (hrt.mono le1).mono le2, ⟨⟨_, rfl, le2.phi _ _ p1⟩, (hds.mono le1).mono le2⟩, hb0, hf.rd⟩⟩
    · show (if M.nx + 1 = M.nx + 1 then _ else _) = _
      rw [if_pos rfl]
      show some ((w.heap.push _).size, 0) = _
      rw [Array.size_push]
    · have hid : id < M.nx := hid
      show (if id = M.nx + 1 then _ else if id = M.nx then _ else _) = _
      rw [if_neg (by omega), if_neg (by omega)]
      exact e
  | some l =>
    obtain ⟨r, hb0, hp⟩ : ∃ r, b.roundOf = some r ∧ G.phi l = some (r, 0) := hf.ro
    have hrd : dfd = false := hf.rd (by simp)
    have hlb : ∃ fn' sz' tm' ps' as' body' d' st' pe', M.h.get l = some (.loop fn' sz' tm' ps' as' body' d' st' pe') := by
      unfold roOk at hro
      dsimp only at hro
      split at hro
      · rename_i h; exact ⟨_, _, _, _, _, _, _, _, _, h⟩
      · cases hro
    obtain ⟨fn', sz', tm', ps', as', body', d', st', pe', hl⟩ := hlb
    obtain ⟨L, k1, k2, k3, k4, k5, k6, k7, k8, k9, k10, k11⟩ := loop_put hs hl hp
    have he := run_enterLoop_inner (P := P) k1 b.fn a.tmps ps as body
    rw [hb0]
    have hd : dfrOf M (some l) = d' := by unfold dfrOf; dsimp only; rw [hl]
    rw [hd]
    obtain ⟨s2, e2⟩ := sN.alloc (fid := M.nx + 1) (n := 0) (ob := .loop { state := .ready, pending := none, fn := b.fn, tmps := a.tmps, params := ps, assign := as, body, defers := L.defers }) (k := .loop fn sz tm ps as body d' .ready none) f2 (by show M.nx + 1 < M.nx + 2; omega)
      (by
        have le2 := Gh.new_le (fid := M.nx + 1) (n := 0) hs f2
        exact ⟨rfl, a.tmps, L.defers, by rw [← hfn]; exact heap_push_eq, hsz, hrt.mono le2, le2.phi _ _ k10⟩) (by simp)
    have le2 := e2.le
    have ph : ∀ id, (G.new (M.nx + 1) w.heap.size 0).phi id ≠ none → id ≠ M.nx := fun id h e => by
      rw [e] at h
      refine h ?_
      show (if M.nx = M.nx + 1 then _ else _) = _
      rw [if_neg (by omega)]
      exact f1
    have ogs : ∀ id, id ≠ M.nx → og ⟨(M.h.set M.nx .dfr).set (M.nx + 1) (.loop fn sz tm ps as body d' .ready none), M.nx + 2, M.lg⟩ id = og (newB (memNx M 2) (M.nx + 1) (.loop fn sz tm ps as body d' .ready none)) id := fun id hne => by
      refine og_get ?_
      show ((M.h.set M.nx .dfr).set (M.nx + 1) _).get id = (M.h.set (M.nx + 1) _).get id
      by_cases e : M.nx + 1 = id
      · rw [← e, get_set_self, get_set_self]
      · rw [get_set_ne _ _ e, get_set_ne _ _ e]
        exact get_set_ne _ _ (fun e => hne e.symm)
    refine ⟨_, _, _, _, he, if_pos rfl, s2.ofOg (fun id h => .inl (ogs id (ph id h))) (fun id b bs h => s2.fresh id b bs h), ?_, fun id hid e => ?_, fun todo' => ⟨hf.fn, hf.kind, hf.sz, hrt.mono le2, ?_, ⟨r, hb0, le2.phi _ _ hp⟩, hf.rd⟩⟩
    · refine (eN.trans e2).ofOg (fun _ _ o => o) (fun id h o => ?_) (by show M.nx ≤ M.nx + 2; omega)
      have hne : id ≠ M.nx := fun e => h (by rw [e]; exact f1)
      have o2 := (own_cong (ogs id hne)).1 o
      rcases e2.dom id o2 with o3 | o3
      · exact o3
      · exact absurd o3 h
    · have hid : id < M.nx := hid
      show (if id = M.nx + 1 then _ else _) = _
      rw [if_neg (by omega)]
      exact e
    · show DsR _ ([] ++ a.defers) ds
      rw [List.nil_append]
      exact hds.mono le2
theorem enter_at {fn sz d : Nat} {tm : Tr AV} {ps : Array Nat} {as body : Code} : AT (M.nx ≤ ·) M ⟨(M.h.set M.nx .dfr).set (M.nx + 1) (.loop fn sz tm ps as body d .ready none), M.nx + 2, M.lg⟩ := by
  have gm : ∀ id, ¬ M.nx ≤ id → ((M.h.set M.nx .dfr).set (M.nx + 1) (.loop fn sz tm ps as body d .ready none)).get id = M.h.get id := fun id h => by rw [get_set_ne _ _ (by omega), get_set_ne _ _ (by omega)]
  have gm2 : ∀ id, M.nx + 2 ≤ id → ((M.h.set M.nx .dfr).set (M.nx + 1) (.loop fn sz tm ps as body d .ready none)).get id = M.h.get id := fun id h => by rw [get_set_ne _ _ (by omega), get_set_ne _ _ (by omega)]
  refine ⟨by show M.nx ≤ M.nx + 2; omega, ⟨[], rfl, fun id h _ => gm id h⟩, fun id ⟨q, h1, h2⟩ => ?_, fun hw id ⟨q, h1, h2⟩ => ?_⟩
  · by_cases e : M.nx ≤ id
    · exact .inr e
    · exact .inl ⟨q, by rw [← gm id e]; exact h1, h2⟩
  · by_cases e : M.nx + 2 ≤ id
    · have := hw id ⟨q, by rw [← gm2 id e]; exact h1, h2⟩
      show id < M.nx + 2
      omega
    · show id < M.nx + 2
      omega
end
end Go.Proofs.YtbknpfckdnladaaGreat
