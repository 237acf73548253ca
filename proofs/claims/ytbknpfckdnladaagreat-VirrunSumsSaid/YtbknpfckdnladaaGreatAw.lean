/- Frames, related. No condition. -/
import Derived.Test.YtbknpfckdnladaaGreatAv
set_option linter.unusedVariables false
set_option maxHeartbeats 4000000
namespace Go.Proofs.YtbknpfckdnladaaGreat
section
variable {P : Program} {G G' : Gh} {w w' : World} {M M' : Mem}
theorem getD_set {ts : Array Value} {d t : Nat} {v : Value} : (ts.setIfInBounds d v).getD t undef = if d = t ∧ d < ts.size then v else ts.getD t undef := by
  rw [Array.getD_eq_getD_getElem?, Array.getD_eq_getD_getElem?, Array.getElem?_setIfInBounds]
  by_cases e : d = t
  · subst e
    by_cases h : d < ts.size
    · simp [h]
    · simp [h]
  · simp [e]
theorem RT.set {ts : Array Value} {tm : Tr AV} {d sz : Nat} {v : Value} {a : AV} (h : RT G ts tm) (hs : ts.size = sz) (hv : RV G v a) : RT G (ts.setIfInBounds d v) (setT sz tm d a) := by
  intro t
  rw [getD_set]
  unfold setT
  by_cases hlt : d < sz
  · have e : Nat.blt d sz = true := by simpa using hlt
    rw [e]
    show RV G _ (((tm.set d a).get t).getD .undef)
    rw [get_set]
    by_cases e2 : d = t
    · rw [if_pos ⟨e2, by omega⟩, if_pos e2]; exact hv
    · rw [if_neg (fun h => e2 h.1), if_neg e2]; exact h t
  · have e : Nat.blt d sz = false := by
      cases hh : Nat.blt d sz with
      | false => rfl
      | true => exact absurd (by simpa using hh) hlt
    rw [e, if_neg (fun h => hlt (by omega))]
    exact h t
theorem RT.put {a : Act} {tm : Tr AV} {sz : Nat} {o : Oper} {v : Value} {x : AV} (h : RT G a.tmps tm) (hs : a.tmps.size = sz) (hv : RV G v x) : RT G (a.put o.dst v).tmps (setDst sz tm o x) ∧ (a.put o.dst v).tmps.size = sz ∧ (a.put o.dst v).defers = a.defers := by
  unfold setDst
  cases o.dst with
  | none => exact ⟨h, hs, rfl⟩
  | some d => exact ⟨h.set hs hv, by simpa [Act.put] using hs, rfl⟩
theorem RT.top {sz : Nat} {ts : Array Value} (hs : ts.size = sz) : ∀ (ops : List Oper) (tm tm' : Tr AV) , (∀ t, RV G (ts.getD t undef) ((tm.get t).getD .undef) ∨ ∃ o ∈ ops, o.dst = some t ∧ t < sz) → RT G ts (topAll sz ops tm)
  | [], tm, _, h => fun t => by
    rcases h t with h | ⟨o, ho, _⟩
    · exact h
    · cases ho
  | o :: os, tm, _, h => by
    refine RT.top hs os _ tm fun t => ?_
    unfold setDst
    cases hd : o.dst with
    | none =>
      rcases h t with h | ⟨p, hp, h1, h2⟩
      · exact .inl h
      · rcases List.mem_cons.1 hp with rfl | hp
        · rw [hd] at h1; cases h1
        · exact .inr ⟨p, hp, h1, h2⟩
    | some d =>
      unfold setT
      by_cases hlt : d < sz
      · have e : Nat.blt d sz = true := by simpa using hlt
        simp only [e, cond_true]
        by_cases e2 : d = t
        · refine .inl ?_
          show RV G _ (((tm.set d .top).get t).getD .undef)
          rw [get_set, if_pos e2]
          exact .top _
        · have e3 : ((tm.set d .top).get t) = tm.get t := get_set_ne _ _ e2
          show RV G _ (((tm.set d .top).get t).getD .undef) ∨ _
          rw [e3]
          rcases h t with h | ⟨p, hp, h1, h2⟩
          · exact .inl h
          · rcases List.mem_cons.1 hp with rfl | hp
            · rw [hd] at h1; cases h1; exact absurd rfl e2
            · exact .inr ⟨p, hp, h1, h2⟩
      · have e : Nat.blt d sz = false := by
          cases hh : Nat.blt d sz with
          | false => rfl
          | true => exact absurd (by simpa using hh) hlt
        simp only [e, cond_false]
        rcases h t with h | ⟨p, hp, h1, h2⟩
        · exact .inl h
        · rcases List.mem_cons.1 hp with rfl | hp
          · rw [hd] at h1; cases h1; exact absurd h2 hlt
          · exact .inr ⟨p, hp, h1, h2⟩
end
end Go.Proofs.YtbknpfckdnladaaGreat
