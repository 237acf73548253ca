/- VirrunSums: the loop as a call that is told of; the law, evaluated. No condition. -/
import Derived.Test.YtbknpfckdnladaaGreatJb
set_option linter.unusedVariables false
set_option maxHeartbeats 1000000
namespace Go.Proofs.YtbknpfckdnladaaGreat
theorem alive11 : law (X0 Tryz.prog) 100000 18 [] = 0 := by kernel_rfl
/-! A block that is as is asked. -/
noncomputable def eqC (a p : AV) : Bool := match p, a with
  | .top, _ => true
  | .int k n, .int k' n' => kEq k' k && eqI n' n
  | .bool b, .bool b' => b' == b
  | .str s, .str s' => beqU s'.data.toList s.data.toList
  | .ptr i x z o, .ptr i' x' z' o' => Nat.beq i' i && (Nat.beq x' x && (Nat.beq z' z && Nat.beq o' o))
  | .sl i o l f z, .sl i' o' l' f' z' => Nat.beq i' i && (Nat.beq o' o && (Nat.beq l' l && (f' == f && Nat.beq z' z)))
  | .map i, .map i' => Nat.beq i' i
  | .lst true _ n _, .lst true _ n' _ => Nat.beq n' 0 && Nat.beq n 0
  | _, _ => false
def cellOK (a p : AV) : Prop := ∀ (G : Gh) (v : Value), RV G v a → RV G v p
theorem eqC_ok {a p : AV} (h : eqC a p = true) : cellOK a p := fun G v hv => by
  unfold eqC at h
  split at h
  · exact .top _
  · simp only [Bool.and_eq_true] at h
    have h1 := kEq_ok h.1
    have h2 := h.2
    rw [eqI_eq] at h2
    have h2 := eq_of_beq h2
    subst h1
    subst h2
    exact hv
  · have := eq_of_beq h
    subst this
    exact hv
  · rename_i s s'
    rw [beqU_eq] at h
    have h2 := eq_of_beq h
    have : s' = s := by
      cases s
      cases s'
      have h3 := Array.toList_inj.1 h2
      rw [ByteArray.mk.injEq]
      exact h3
    subst this
    exact hv
  · simp only [Bool.and_eq_true, Nat.beq_eq] at h
    obtain ⟨rfl, rfl, rfl, rfl⟩ := h
    exact hv
  · simp only [Bool.and_eq_true, Nat.beq_eq, beq_iff_eq] at h
    obtain ⟨rfl, rfl, rfl, rfl, rfl⟩ := h
    exact hv
  · simp only [Nat.beq_eq] at h
    subst h
    exact hv
  · simp only [Bool.and_eq_true, Nat.beq_eq] at h
    obtain ⟨rfl, rfl⟩ := h
    cases hv
    exact .lstn
  · cases h
noncomputable def eqCs : List AV → List AV → Bool
  | [], [] => true
  | a :: l, p :: r => eqC a p && eqCs l r
  | _, _ => false
theorem eqCs_ok : ∀ {l r : List AV}, eqCs l r = true → l.length = r.length ∧ ∀ (j : Nat) (p : AV), r[j]? = some p → ∃ a, l[j]? = some a ∧ cellOK a p
  | [], [], _ => ⟨rfl, fun j p h => by simp at h⟩
  | a :: l, p :: r, h => by
    have h : (eqC a p && eqCs l r) = true := h
    simp only [Bool.and_eq_true] at h
    obtain ⟨h1, h2⟩ := eqCs_ok h.2
    refine ⟨by simp [h1], fun j q hj => ?_⟩
    cases j with
    | zero => cases hj; exact ⟨a, rfl, eqC_ok h.1⟩
    | succ j => exact h2 j q hj
  | [], _ :: _, h => by cases h
  | _ :: _, [], h => by cases h
noncomputable def eqBlk (b : Option Blk) (p : Blk) : Bool := match p, b with
  | .var cs, some (.var cs') => eqCs cs' cs
  | .row sz n g, some (.row sz' n' g') => Nat.beq sz' sz && (Nat.beq n' n && (List.range n).all fun i => eqCs (g' i) (g i))
  | .mpi kk kv [], some (.mpi kk' kv' []) => kEq kk' kk && kEq kv' kv
  | _, _ => false
theorem wk_row {sz n : Nat} {g p : Nat → List AV} (h : ∀ i, i < n → (g i).length = (p i).length ∧ ∀ (j : Nat) (q : AV), (p i)[j]? = some q → ∃ a, (g i)[j]? = some a ∧ cellOK a q) : Wk (.row sz n g) (.row sz n p) := by
  refine ⟨by simp, fun G w b base hb => ?_⟩
  obtain ⟨arr, t, h1, h2, h3, h4⟩ := hb
  refine ⟨arr, t, h1, h2, h3, fun i hi => ?_⟩
  obtain ⟨q1, q2⟩ := h4 i hi
  obtain ⟨e1, e2⟩ := h i hi
  refine ⟨by rw [← e1]; exact q1, fun j v q hv hq => ?_⟩
  obtain ⟨a, ha, hc⟩ := e2 j q hq
  exact hc G v (q2 j v a hv ha)
theorem eqBlk_ok {b : Option Blk} {p : Blk} (h : eqBlk b p = true) : ∃ k, b = some k ∧ Wk k p := by
  unfold eqBlk at h
  split at h
  · rename_i cs cs'
    refine ⟨_, rfl, by simp, fun G w b base hb => ?_⟩
    obtain ⟨h0, arr, t, h1, h2⟩ := hb
    obtain ⟨e1, e2⟩ := eqCs_ok h
    refine ⟨h0, arr, t, h1, ⟨by rw [h2.len, e1], fun j v q hv hq => ?_⟩⟩
    obtain ⟨a, ha, hc⟩ := e2 j q hq
    exact hc G v (h2.at' j v a hv ha)
  · simp only [Bool.and_eq_true, Nat.beq_eq] at h
    obtain ⟨rfl, rfl, h⟩ := h
    exact ⟨_, rfl, wk_row fun i hi => eqCs_ok (List.all_eq_true.1 h i (List.mem_range.2 hi))⟩
  · simp only [Bool.and_eq_true] at h
    have h1 := kEq_ok h.1
    have h2 := kEq_ok h.2
    subst h1
    subst h2
    exact ⟨_, rfl, by simp, fun _ _ _ _ h => h⟩
  · cases h
/-! What the loop finds. -/
noncomputable def NT : List (Nat × Blk) :=
  [(22195, .var [.map 22189, nl, iV 2000, nl, iV 0, iV 0, nl]),
   (22185, .var [.ptr 22195 0 0 0, .top, .top, .top, .top, .top, .sl 12197 0 4 false 1, .sl 22179 0 3 true 1, .sl 22183 0 3 true 1, .sl 22399 0 3 false 1, iV 0, iV 0, iV 0]),
   (22189, .mpi .i64 .i64 []),
   (12197, .row 1 4 (rowL [[.sl 12132 0 3 true 9], [.sl 12187 0 1 true 9], [.sl 12193 0 3 true 9], [.sl 12195 0 1 true 9]])),
   (12132, .row 9 3 (rowL [[iV 1, iV 1, iV 0, iV 0, .top, .str ⟨#[]⟩, nl, iV 0, iV 0], insV 1 2 0 (-1) (.str ⟨#[]⟩) nl 0 0, insV 8 0 0 0 (.str ⟨#[]⟩) nl 1 0])),
   (12187, .row 9 1 (rowL [insV 7 0 0 0 (.str ⟨#[]⟩) nl 2 3])),
   (12193, .row 9 3 (rowL [insV 3 1 0 0 addS (.sl 12188 0 2 true 1) 0 0, insV 3 0 0 0 addS (.sl 12190 0 2 true 1) 0 0, insV 8 0 0 0 (.str ⟨#[]⟩) nl 1 0])),
   (12195, .row 9 1 (rowL [insV 9 0 1 0 (.str ⟨#[]⟩) nl 0 0])),
   (22179, .row 1 3 (rowL [[.top], [iV 0], [iV 0]])),
   (22183, .row 1 3 (rowL [[.bool true], [.bool false], [.bool false]])),
   (22399, .row 1 3 (rowL [[iV 8], [iV 8], [iV 8]])),
   (12188, .row 1 2 (rowL [[iV 1], [iV 0]])),
   (12190, .row 1 2 (rowL [[iV 0], [iV 2]]))]
noncomputable def getX (M : Mem) : Option Int := match M.h.get 22179 with
  | some (.row _ _ g) => (match g 0 with | [.int .i64 x] => some x | _ => none)
  | _ => none
noncomputable def getS (M : Mem) : Option Int := match M.h.get 12132 with
  | some (.row _ _ g) => (match nth (g 0) 4 with | some (.int .i64 s) => some s | _ => none)
  | _ => none
noncomputable def isArgs (args : List AV) : Bool := match args with
  | [.ptr a b c d, .fn f [.ptr a' b' c' d'] []] => Nat.beq a 22195 && (Nat.beq b 0 && (Nat.beq c 0 && (Nat.beq d 0 && (Nat.beq f 52 && (Nat.beq a' 22185 && (Nat.beq b' 0 && (Nat.beq c' 0 && Nat.beq d' 0)))))))
  | _ => false
theorem isArgs_ok {args : List AV} (h : isArgs args = true) : args = goArgs := by
  unfold isArgs at h
  split at h
  · simp only [Bool.and_eq_true, Nat.beq_eq] at h
    obtain ⟨rfl, rfl, rfl, rfl, rfl, rfl, rfl, rfl, rfl⟩ := h
    rfl
  · cases h
theorem sub_go {M : Mem} {s x : Int} (h : (NT.all fun p => eqBlk (M.h.get p.1) p.2) = true) (hx : getX M = some x) (hs : getS M = some s) : Sub DS (cl 22500 (NS s 0 0 2000 x 0 0 false false 0)) M := by
  simp only [NT, List.all_cons, List.all_nil, Bool.and_eq_true] at h
  obtain ⟨h1, h2, h3, h4, h5, h6, h7, h8, h9, h10, h11, h12, h13, _⟩ := h
  have ok : ∀ {id : Nat} {p : Blk}, eqBlk (M.h.get id) p = true → (cl 22500 (NS s 0 0 2000 x 0 0 false false 0)).h.get id = some p → ∃ k k', M.h.get id = some k ∧ (cl 22500 (NS s 0 0 2000 x 0 0 false false 0)).h.get id = some k' ∧ Wk k k' := fun {id p} h e => by
    obtain ⟨k, e1, e2⟩ := eqBlk_ok h
    exact ⟨k, p, e1, e, e2⟩
  intro id hid
  simp only [DS, List.mem_cons, List.not_mem_nil, or_false] at hid
  rcases hid with rfl | rfl | rfl | rfl | rfl | rfl | rfl | rfl | rfl | rfl | rfl | rfl | rfl
  · exact ok h1 (by kernel_rfl)
  · exact ok h2 (by kernel_rfl)
  · exact ok h3 (by kernel_rfl)
  · exact ok h4 (by kernel_rfl)
  · unfold getS at hs
    generalize hb : M.h.get 12132 = b at h5 hs
    split at hs
    · rename_i sz n g
      split at hs
      · rename_i s' hn
        cases hs
        unfold eqBlk at h5
        simp only [Bool.and_eq_true, Nat.beq_eq] at h5
        obtain ⟨rfl, rfl, h5⟩ := h5
        refine ⟨_, .row 9 3 (rowL [insV 1 1 0 s (.str ⟨#[]⟩) nl 0 0, insV 1 2 0 (-1) (.str ⟨#[]⟩) nl 0 0, insV 8 0 0 0 (.str ⟨#[]⟩) nl 1 0]), rfl, by kernel_rfl, wk_row fun i hi => ?_⟩
        have hq := eqCs_ok (List.all_eq_true.1 h5 i (List.mem_range.2 hi))
        match i, hi, hq with
        | 0, _, hq =>
          refine ⟨hq.1, fun j q hj => ?_⟩
          by_cases e : j = 4
          · subst e
            have : q = iV s := by cases hj; rfl
            subst this
            exact ⟨_, by rw [← nth_eq]; exact hn, fun _ _ h => h⟩
          · refine hq.2 j q ?_
            match j, e, hj with
            | 0, _, hj => exact hj
            | 1, _, hj => exact hj
            | 2, _, hj => exact hj
            | 3, _, hj => exact hj
            | 5, _, hj => exact hj
            | 6, _, hj => exact hj
            | 7, _, hj => exact hj
            | 8, _, hj => exact hj
            | j + 9, _, hj => exact hj
        | 1, _, hq => exact hq
        | 2, _, hq => exact hq
      · cases hs
    · cases hs
  · exact ok h6 (by kernel_rfl)
  · exact ok h7 (by kernel_rfl)
  · exact ok h8 (by kernel_rfl)
  · unfold getX at hx
    generalize hb : M.h.get 22179 = b at h9 hx
    split at hx
    · rename_i sz n g
      split at hx
      · rename_i x' hn
        cases hx
        unfold eqBlk at h9
        simp only [Bool.and_eq_true, Nat.beq_eq] at h9
        obtain ⟨rfl, rfl, h9⟩ := h9
        refine ⟨_, .row 1 3 (rowL [[iV x], [iV 0], [iV 0]]), rfl, by kernel_rfl, wk_row fun i hi => ?_⟩
        have hq := eqCs_ok (List.all_eq_true.1 h9 i (List.mem_range.2 hi))
        match i, hi, hq with
        | 0, _, hq =>
          rw [hn]
          exact ⟨rfl, fun j q hj => ⟨q, hj, fun _ _ h => h⟩⟩
        | 1, _, hq => exact hq
        | 2, _, hq => exact hq
      · cases hx
    · cases hx
  · exact ok h10 (by kernel_rfl)
  · exact ok h11 (by kernel_rfl)
  · exact ok h12 (by kernel_rfl)
  · exact ok h13 (by kernel_rfl)
noncomputable def ctGo1 (R : Type) (M : Mem) (x s : Option Int) : Option ((AEnd → Mem → R) → R) := match x, s with
  | some x, some s => some fun k => k (.ret (.tup [])) (putN M (NS s 3 1 (.ofNat (fuelG x)) 0 (resG x (c8 s)) (c8 (-1)) true true (resG x (c8 s))))
  | _, _ => none
noncomputable def ctGo (R : Type) (args : List AV) (M : Mem) : Option ((AEnd → Mem → R) → R) :=
  bif isArgs args && NT.all (fun p => eqBlk (M.h.get p.1) p.2) then ctGo1 R M (getX M) (getS M) else none
noncomputable def XJ : Cx := { P := Tryz.prog, ct := fun R f args M => bif Nat.beq f 18 then ctT R args M else bif Nat.beq f 51 then ctGo R args M else none }
theorem ctJ : CtOK XJ := by
  intro R f args M sp hsp k
  have hsp : (bif Nat.beq f 18 then ctT R args M else bif Nat.beq f 51 then ctGo R args M else none) = some sp := hsp
  cases h1 : Nat.beq f 18 with
  | true =>
    rw [h1] at hsp
    refine ct1 (X := X0 Tryz.prog) pok (ct0 _) (n := 100000) alive11 R f args M sp ?_ k
    show (bif Nat.beq f 18 then ctT R args M else none) = some sp
    rw [h1]
    exact hsp
  | false =>
    rw [h1] at hsp
    cases h2 : Nat.beq f 51 with
    | false => rw [h2] at hsp; cases hsp
    | true =>
      rw [h2] at hsp
      have hf : f = 51 := by simpa using h2
      subst hf
      have hsp : ctGo R args M = some sp := hsp
      unfold ctGo at hsp
      cases h3 : isArgs args && NT.all (fun p => eqBlk (M.h.get p.1) p.2) with
      | false => rw [h3] at hsp; cases hsp
      | true =>
        rw [h3] at hsp
        have hs3 : ctGo1 R M (getX M) (getS M) = some sp := hsp
        clear hsp
        simp only [Bool.and_eq_true] at h3
        have ha := isArgs_ok h3.1
        subst ha
        unfold ctGo1 at hs3
        split at hs3
        · rename_i x s hx hs
          cases hs3
          exact ⟨_, _, rfl, fun bl => go_call s x bl M (sub_go h3.2 hx hs)⟩
        · cases hs3
end Go.Proofs.YtbknpfckdnladaaGreat
