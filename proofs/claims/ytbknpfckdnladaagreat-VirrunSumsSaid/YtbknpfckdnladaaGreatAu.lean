/- What the check of a region tells. No condition. -/
import Derived.Test.YtbknpfckdnladaaGreatAt
set_option linter.unusedVariables false
set_option maxHeartbeats 4000000
namespace Go.Proofs.YtbknpfckdnladaaGreat
theorem apAll_spec {b : Nat} {l : List Nat} {d : Option Nat} : ∀ r : List (Nat × List Nat × Option Nat), apAll b l d r = true → ∀ p ∈ r, b.testBit p.1 = true ∨ apT l d p.2.1 p.2.2 = true
  | [], _, p, hp => by cases hp
  | (j, l', d') :: r, h, p, hp => by
    unfold apAll at h
    simp only [Bool.and_eq_true, Bool.or_eq_true] at h
    rcases List.mem_cons.1 hp with rfl | hp
    · exact h.1
    · exact apAll_spec r h.2 p hp
theorem regOk_spec {all : List Oper} : ∀ (bs : List Nat) (seen : List (Nat × List Nat × Option Nat)) (i : Nat) (os : List Oper), regOk all bs seen i os = true → ∀ k o, os[k]? = some o → ∃ b, bs[k]? = some b ∧ b < 2 ^ (i + k) ∧ (∀ p ∈ seen, b.testBit p.1 = true ∨ apT (looks all o) o.dst p.2.1 p.2.2 = true) ∧ ∀ k' o', k' < k → os[k']? = some o' → b.testBit (i + k') = true ∨ apT (looks all o) o.dst (looks all o') o'.dst = true
  | bs, seen, i, [], h, k, o, ho => by simp at ho
  | [], seen, i, o' :: os, h, k, o, ho => by simp [regOk] at h
  | b :: bs, seen, i, o0 :: os, h, k, o, ho => by
    unfold regOk at h
    simp only [Bool.and_eq_true, Nat.blt_eq] at h
    obtain ⟨⟨h1, h2⟩, h3⟩ := h
    cases k with
    | zero =>
      cases ho
      exact ⟨b, rfl, by simpa using h1, apAll_spec _ h2, fun k' o' hk => by omega⟩
    | succ k =>
      obtain ⟨c, hc1, hc2, hc3, hc4⟩ := regOk_spec bs _ (i + 1) os h3 k o ho
      refine ⟨c, hc1, by rw [show i + (k + 1) = i + 1 + k by omega]; exact hc2, fun p hp => hc3 p (List.mem_cons_of_mem _ hp), fun k' o' hk ho' => ?_⟩
      cases k' with
      | zero => cases ho'; exact hc3 _ (List.mem_cons_self ..)
      | succ k' => rw [show i + (k' + 1) = i + 1 + k' by omega]; exact hc4 k' o' (by omega) ho'
theorem regOk_back {ops : List Oper} (h : regOk ops (befL [] ops) [] 0 ops = true) : Back ops := by
  intro i j hij
  unfold Bf at hij
  by_cases hj : j < ops.length
  · obtain ⟨b, hb, hlt, _⟩ := regOk_spec _ _ _ _ h j ops[j] (List.getElem?_eq_getElem hj)
    rw [List.getD_eq_getElem?_getD, hb] at hij
    simp only [Option.getD_some, Nat.zero_add] at hij hlt
    refine Classical.byContradiction fun hge => ?_
    have : b < 2 ^ i := Nat.lt_of_lt_of_le hlt (Nat.pow_le_pow_right (by omega) (by omega))
    rw [Nat.testBit_lt_two_pow this] at hij
    cases hij
  · rw [List.getD_eq_getElem?_getD, List.getElem?_eq_none (by rw [befL_len]; omega)] at hij
    simp at hij
/-- Unordered operations are apart. -/
theorem regOk_apart {ops : List Oper} (h : regOk ops (befL [] ops) [] 0 ops = true) {i j : Nat} {o p : Oper} (hi : ops[i]? = some o) (hj : ops[j]? = some p) (hij : i < j) (hn : ¬ Bf ops i j) : apT (looks ops p) p.dst (looks ops o) o.dst = true := by
  obtain ⟨b, hb, _, _, h4⟩ := regOk_spec _ _ _ _ h j p hj
  rcases h4 i o hij hi with e | e
  · refine absurd ?_ hn
    unfold Bf
    rw [List.getD_eq_getElem?_getD, hb]
    simpa using e
  · exact e
end Go.Proofs.YtbknpfckdnladaaGreat
