/- Drawn orders. No condition. -/
import Derived.Test.YtbknpfckdnladaaGreatAs
set_option linter.unusedVariables false
set_option maxHeartbeats 4000000
namespace Go.Proofs.YtbknpfckdnladaaGreat
theorem befT_bit (acc : List Nat) (j : Nat) : ∀ es : List Edge, (befT acc es).testBit j = true ↔ ∃ e ∈ es, Region.binds .any e = true ∧ (j = e.on ∨ (acc.getD e.on 0).testBit j = true)
  | [] => by simp [befT]
  | e :: es => by
    have ih := befT_bit acc j es
    unfold befT
    cases hb : Region.binds .any e with
    | false =>
      simp only [cond_false, ih, List.mem_cons, exists_eq_or_imp, hb, Bool.false_eq_true, false_and, false_or]
    | true =>
      simp only [cond_true, Nat.testBit_or, Bool.or_eq_true, ih, List.mem_cons, exists_eq_or_imp, hb, true_and, Nat.testBit_two_pow, decide_eq_true_eq, eq_comm (a := j)]
theorem befL_len : ∀ (l : List Oper) (acc : List Nat), (befL acc l).length = l.length
  | [], _ => rfl
  | o :: l, acc => by show (befL _ l).length + 1 = l.length + 1; rw [befL_len l]
theorem befL_get : ∀ (l : List Oper) (acc : List Nat) (i : Nat) (o : Oper), l[i]? = some o → (befL acc l)[i]? = some (befT (acc ++ (befL acc l).take i) o.after.toList)
  | [], _, i, o, h => by simp at h
  | o' :: l, acc, 0, o, h => by cases h; simp [befL]
  | o' :: l, acc, i + 1, o, h => by
    have := befL_get l (acc ++ [befT acc o'.after.toList]) i o h
    show (befL (acc ++ [befT acc o'.after.toList]) l)[i]? = _
    rw [this]
    simp [befL]
/-- i is to come before j. -/
def Bf (ops : List Oper) (i j : Nat) : Prop := ((befL [] ops).getD j 0).testBit i = true
/-- Only what comes earlier in the text binds. -/
def Back (ops : List Oper) : Prop := ∀ i j, Bf ops i j → i < j
theorem bf_edge {ops : List Oper} {i j : Nat} {o : Oper} (ho : ops[j]? = some o) (hb : Back ops) : Bf ops i j ↔ ∃ e ∈ o.after.toList, Region.binds .any e = true ∧ (i = e.on ∨ Bf ops i e.on) := by
  unfold Bf
  have hg := befL_get ops [] j o ho
  rw [List.getD_eq_getElem?_getD, hg]
  simp only [Option.getD_some, List.nil_append]
  rw [befT_bit]
  refine exists_congr fun e => and_congr_right fun he => and_congr_right fun hbi => ?_
  have hlt : e.on < j := hb _ _ (by
    unfold Bf
    rw [List.getD_eq_getElem?_getD, hg]
    simp only [Option.getD_some, List.nil_append]
    exact (befT_bit _ _ _).2 ⟨e, he, hbi, .inl rfl⟩)
  rw [List.getD_eq_getElem?_getD, List.getD_eq_getElem?_getD, List.getElem?_take_of_lt hlt]
/-- A listing, from a set that is done. -/
inductive Lin (ops : List Oper) : List Nat → List Nat → Prop
  | nil {D : List Nat} (h : ∀ i, i < ops.length → i ∈ D) : Lin ops D []
  | cons {D l : List Nat} {i : Nat} (hi : i < ops.length) (hn : i ∉ D) (hb : ∀ j, Bf ops j i → j ∈ D) (h : Lin ops (i :: D) l) : Lin ops D (i :: l)
/-- How many are not done. -/
def cnt (D : List Nat) : Nat → Nat
  | 0 => 0
  | n + 1 => cnt D n + (if n ∈ D then 0 else 1)
theorem cnt_cons {D : List Nat} {i : Nat} (hn : i ∉ D) : ∀ n, (n ≤ i → cnt (i :: D) n = cnt D n) ∧ (i < n → cnt (i :: D) n + 1 = cnt D n)
  | 0 => ⟨fun _ => rfl, fun h => by omega⟩
  | n + 1 => by
    obtain ⟨h1, h2⟩ := cnt_cons hn n
    refine ⟨fun h => ?_, fun h => ?_⟩
    · have hne : n ≠ i := by omega
      simp only [cnt, List.mem_cons, hne, false_or]
      rw [h1 (by omega)]
    · by_cases e : n = i
      · subst e
        simp only [cnt, List.mem_cons, true_or, if_true, if_neg hn]
        rw [h1 (Nat.le_refl _)]
      · simp only [cnt, List.mem_cons, e, false_or]
        have := h2 (by omega)
        omega
theorem cnt_zero {D : List Nat} : ∀ n, cnt D n = 0 → ∀ i, i < n → i ∈ D
  | 0, _, i, h => by omega
  | n + 1, h, i, hi => by
    unfold cnt at h
    by_cases e : n ∈ D
    · by_cases e2 : i = n
      · rw [e2]; exact e
      · exact cnt_zero n (by omega) i (by omega)
    · rw [if_neg e] at h; omega
theorem lin_go {ops : Array Oper} (hb : Back ops.toList) : ∀ (fuel t : Nat) (listed : Array Bool) (D : List Nat), listed.size = ops.size → (∀ i, i < ops.size → (listed.getD i true = true ↔ i ∈ D)) → (∀ i j, i ∈ D → Bf ops.toList j i → j ∈ D) → cnt D ops.size ≤ fuel →
    Lin ops.toList D (Region.linearise.go .any ops fuel t listed []) := by
  intro fuel
  induction fuel with
  | zero =>
    intro t listed D hsz hl hc hn
    refine .nil fun i hi => cnt_zero _ (Nat.le_zero.1 hn) i (by simpa using hi)
  | succ fuel ih =>
    intro t listed D hsz hl hc hn
    have ld : ∀ i, i < ops.size → listed.getD i false = listed.getD i true := fun i hi => by
      rw [Array.getD_eq_getD_getElem?, Array.getD_eq_getD_getElem?, Array.getElem?_eq_getElem (by omega)]; rfl
    simp only [Region.linearise.go]
    change Lin ops.toList D (match (Region.ready .any ops listed)[t % (Region.ready .any ops listed).length]? with
      | some i => Region.linearise.go .any ops fuel (t / (Region.ready .any ops listed).length) (listed.setIfInBounds i true) [i]
      | none => [].reverse)
    cases hi : (Region.ready .any ops listed)[t % (Region.ready .any ops listed).length]? with
    | none =>
      have hnil : Region.ready .any ops listed = [] := by
        cases hr : Region.ready .any ops listed with
        | nil => rfl
        | cons x xs =>
          rw [hr] at hi
          have hlt : t % (x :: xs).length < (x :: xs).length := Nat.mod_lt _ (by simp)
          simp at hi
          simp at hlt
          omega
      refine .nil fun i hi => ?_
      have hi : i < ops.size := by simpa using hi
      induction i using Nat.strongRecOn with
      | _ i ihi =>
      refine Classical.byContradiction fun hD => ?_
      have : i ∈ Region.ready .any ops listed := by
        refine mem_ready.2 ⟨?_, ops[i], Array.getElem?_eq_getElem hi, fun e he hbi => ?_⟩
        · cases h : listed.getD i true with
          | false => rfl
          | true => exact absurd ((hl i hi).1 h) hD
        · have hbf : Bf ops.toList e.on i := (bf_edge (o := ops[i]) (by simp [hi]) hb).2 ⟨e, by simpa using he, hbi, .inl rfl⟩
          have hlt := hb _ _ hbf
          have := ihi e.on hlt (by have := hi; simp only [Array.length_toList] at *; omega) (by omega)
          rw [ld _ (by omega)]
          exact (hl _ (by omega)).2 this
      rw [hnil] at this
      cases this
    | some i =>
      have hr : i ∈ Region.ready .any ops listed := List.mem_of_getElem? hi
      obtain ⟨h0, o, ho, hall⟩ := mem_ready.1 hr
      have hlt : i < ops.size := (Array.getElem?_eq_some_iff.1 ho).1
      have hD : i ∉ D := fun e => by
        have := (hl i hlt).2 e
        rw [h0] at this; cases this
      have hbb : ∀ j, Bf ops.toList j i → j ∈ D := fun j hj => by
        obtain ⟨e, he, hbi, hor⟩ := (bf_edge (o := o) (by simpa using ho) hb).1 hj
        have hlte : e.on < i := hb _ _ ((bf_edge (o := o) (by simpa using ho) hb).2 ⟨e, he, hbi, .inl rfl⟩)
        have h1 := hall e (by simpa using he) hbi
        rw [ld _ (by omega)] at h1
        have h2 := (hl _ (by omega)).1 h1
        rcases hor with rfl | hor
        · exact h2
        · exact hc _ _ h2 hor
      simp only []
      rw [linearise_go_acc, List.reverse_singleton, List.singleton_append]
      refine .cons (by simpa using hlt) hD hbb (ih _ _ (i :: D) (by simpa using hsz) (fun j hj => ?_) (fun a b ha hba => ?_) ?_)
      · by_cases e : i = j
        · subst e
          simp [hsz, hlt]
        · rw [getD_set_ne true e, hl j hj]
          simp [Ne.symm e]
      · rcases List.mem_cons.1 ha with rfl | ha
        · exact List.mem_cons_of_mem _ (hbb _ hba)
        · exact List.mem_cons_of_mem _ (hc _ _ ha hba)
      · have := (cnt_cons hD ops.size).2 hlt
        omega
theorem cnt_le (D : List Nat) : ∀ n, cnt D n ≤ n
  | 0 => Nat.le_refl _
  | n + 1 => by
    have := cnt_le D n
    unfold cnt
    split <;> omega
/-- What is drawn is a listing. -/
theorem lin_draw {ops : Array Oper} (hb : Back ops.toList) (t : Nat) : Lin ops.toList [] (Region.linearise .any ops t) := by
  refine lin_go hb _ _ _ [] (by simp) (fun i hi => ?_) (fun i j h => by cases h) (cnt_le _ _)
  simp [hi]
end Go.Proofs.YtbknpfckdnladaaGreat
