/- What holds of the walker's state at all times, plainly. -/
import Derived.Test.YtocloacbbbhkcaaOne
namespace Go.Proofs.Ytocloacbbbhkcaa

theorem good_one {σ σ' : Wk} {name : ByteArray} {width beg : Int} {d : Nat} (hG : σ.Good) (hd : 1 ≤ d) (hdw : d ≤ σ.ways.length) (h : oneS σ name width beg d = .ok σ') : σ'.Good ∧ σ'.ways.length = d + 1 := by
  unfold oneS at h
  split at h
  · cases h
  split at h
  · cases h
  rename_i hn
  split at h
  · cases h
  split at h
  · cases h
  rename_i hw
  simp only [Classical.not_not] at hw
  obtain ⟨q, hq⟩ : ∃ q, σ.ways[d - 1]? = some q := ⟨σ.ways[d - 1]'(by omega), List.getElem?_eq_getElem _⟩
  obtain ⟨hr, hb⟩ := hG.wy _ _ hq
  obtain ⟨hl, hf⟩ := hG.wi _ _ hq
  have key : ∀ p roots, placeS σ d width beg = .ok (p, roots) → (0 ≤ p.root ∧ p.root ≤ 200) ∧ (0 ≤ p.beg ∧ 0 ≤ p.width ∧ p.beg + p.width ≤ 64) ∧ 0 ≤ roots ∧ roots ≤ σ.roots + 1 := by
    intro p roots hp
    have := hG.ro
    unfold placeS at hp
    split at hp
    · split at hp
      · cases hp; refine ⟨⟨?_, ?_⟩, ⟨?_, ?_, ?_⟩, ?_, ?_⟩ <;> (try simp only []) <;> omega
      · cases hp
    · rw [hq] at hp
      simp only [] at hp
      split at hp
      · cases hp; refine ⟨⟨?_, ?_⟩, ⟨?_, ?_, ?_⟩, ?_, ?_⟩ <;> (try simp only []) <;> omega
      · cases hp
  cases hp : placeS σ d width beg with
  | error e => rw [hp] at h; cases h
  | ok pr =>
    obtain ⟨p, roots⟩ := pr
    obtain ⟨k1, k2, k3, k4⟩ := key p roots hp
    rw [hp] at h
    simp only [] at h
    split at h
    · cases h
    · cases h
      have := hG.rn
      have := hG.ln
      have := hG.lp
      have ew : (tookS σ name d p roots).ways = σ.ways.take (d - 1) ++ [(q.1, q.2 ++ [p]), (p, [])] := by simp [tookS, hq]
      have el : (σ.ways.take (d - 1)).length = d - 1 := by rw [List.length_take]; omega
      have en : (tookS σ name d p roots).names.length = σ.names.length + 1 := by simp [tookS]
      have mem : ∀ (j : Nat) (x : Pl × List Pl), (tookS σ name d p roots).ways[j]? = some x → (σ.ways[j]? = some x) ∨ x = (q.1, q.2 ++ [p]) ∨ x = (p, []) := by
        intro j x hx
        rw [ew] at hx
        by_cases hj : j < d - 1
        · rw [List.getElem?_append_left (by omega), List.getElem?_take, if_pos hj] at hx; exact Or.inl hx
        · rw [List.getElem?_append_right (by omega), el] at hx
          match hjd : j - (d - 1), hx with
          | 0, hx => simp at hx; exact Or.inr (Or.inl hx.symm)
          | 1, hx => simp at hx; exact Or.inr (Or.inr hx.symm)
          | n + 2, hx => simp at hx
      refine ⟨⟨by simp [tookS]; omega, ⟨by simp only [tookS]; omega, by simp only [tookS]; omega⟩, by rw [en]; omega, by rw [en]; simp only [tookS]; omega, fun j x hx => ?_, fun j x hx => ?_⟩, by rw [ew]; simp; omega⟩
      · rcases mem j x hx with h | h | h
        · exact hG.wy j x h
        · subst h; exact ⟨hr, hb⟩
        · subst h; exact ⟨k1, k2⟩
      · rcases mem j x hx with h | h | h
        · have := hG.wi j x h; exact ⟨by rw [en]; omega, this.2⟩
        · subst h
          refine ⟨by rw [en]; simp; omega, fun y hy => ?_⟩
          rcases List.mem_append.1 hy with h | h
          · exact hf y h
          · simp at h; subst h; refine ⟨⟨?_, ?_⟩, ⟨?_, ?_⟩, ⟨?_, ?_⟩⟩ <;> omega
        · subst h; exact ⟨by simp, fun y hy => by simp at hy⟩
end Go.Proofs.Ytocloacbbbhkcaa
