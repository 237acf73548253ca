/- The built-in functions as operations; panic. No condition. -/
import Derived.Test.YtbknpfckdnladaaGreatAn
set_option linter.unusedVariables false
set_option maxHeartbeats 4000000
namespace Go.Proofs.YtbknpfckdnladaaGreat
section
variable {P : Program} {G : Gh} {ρ : Operand → Value} {ev : Operand → AV} {o : Oper} {w : World} {M M' : Mem} {r : AV}
theorem map_one {args : Array Operand} {a : AV} (h : args.toList.map ev = [a]) : ∃ x, args = #[x] ∧ ev x = a := by
  obtain ⟨l⟩ := args
  match l, h with
  | [x], h => exact ⟨x, rfl, by simpa using h⟩
theorem map_two {args : Array Operand} {a b : AV} (h : args.toList.map ev = [a, b]) : ∃ x y, args = #[x, y] ∧ ev x = a ∧ ev y = b := by
  obtain ⟨l⟩ := args
  match l, h with
  | [x, y], h => exact ⟨x, y, rfl, by simpa using h⟩
theorem exec_builtin {b : Builtin} {args : Array Operand} {ts : Array TypeId} (ho : o.op = .call ⟨.builtin b, args, ts⟩) : ∃ cs, (execOp ρ o).run P w = (builtin b ts o.type cs (args.map ρ)).run P w := by
  unfold execOp
  rw [ho]
  simp only [resolve, Sem.run_bind, Sem.run_pure, Result.andThen_ok, invoke]
  exact ⟨_, rfl⟩
/-- A built-in function. -/
theorem builtin_ok {b : Builtin} {args : Array Operand} {ts : Array TypeId} {fid : Nat} (ho : o.op = .call ⟨.builtin b, args, ts⟩) (hs : St G w M) (hf : G.phi fid = none) (hfx : fid < M.nx) (hx : ∀ x, RV G (ρ x) (ev x)) (h : oBuiltin P b ts.toList (args.toList.map ev) M fid = .val r M') :
    (b ≠ .append → Qu P G ρ o w r ∧ M' = M) ∧ Wr P G ρ o w M fid r M' := by
  obtain ⟨cs, hrun⟩ := exec_builtin (P := P) (w := w) (ρ := ρ) ho
  have up : Qu P G ρ o w r ∧ M' = M → Wr P G ρ o w M fid r M' := fun ⟨⟨v, h1, h2⟩, h3⟩ => by
    subst h3
    exact ⟨G, w, v, .inl h1, h2, hs, Ev.refl G w _, Ub.refl _ _⟩
  have qq : Qu P G ρ o w r ∧ M' = M → (b ≠ .append → Qu P G ρ o w r ∧ M' = M) ∧ Wr P G ρ o w M fid r M' := fun q => ⟨fun _ => q, up q⟩
  unfold oBuiltin at h
  split at h
  · rename_i t l x' hts has
    obtain ⟨x, rfl, rfl⟩ := map_one has
    obtain ⟨n, h1, rfl, rfl⟩ := len_ok (P := P) (w := w) (ts := l) (ty := o.type) hs (hx x) h
    refine qq ⟨⟨goInt n, ?_, .int _ _⟩, rfl⟩
    rw [hrun]
    have : ts = ⟨t :: l⟩ := by rw [← hts]
    subst this
    simp only [builtin, List.map_toArray, List.map_cons, List.map_nil, Sem.run_bind, h1, Result.andThen_ok, Sem.run_pure]
  · rename_i k x' k' y' has
    obtain ⟨x, y, rfl, h1, h2⟩ := map_two has
    cases h
    have e1 := hx x
    have e2 := hx y
    rw [h1] at e1
    rw [h2] at e2
    refine qq ⟨⟨_, ?_, .int _ _⟩, rfl⟩
    rw [hrun]
    simp only [builtin, List.map_toArray, List.map_cons, List.map_nil, e1.int_inv, e2.int_inv, Builtin.max_, List.foldlM_cons, List.foldlM_nil, Builtin.max2, Sem.run_bind, Result.andThen_ok, Sem.run_pure, ltI_eq, gt_iff_lt]
    by_cases e : x' < y' <;> simp [e]
  · rename_i k x' k' y' has
    obtain ⟨x, y, rfl, h1, h2⟩ := map_two has
    cases h
    have e1 := hx x
    have e2 := hx y
    rw [h1] at e1
    rw [h2] at e2
    refine qq ⟨⟨_, ?_, .int _ _⟩, rfl⟩
    rw [hrun]
    simp only [builtin, List.map_toArray, List.map_cons, List.map_nil, e1.int_inv, e2.int_inv, Builtin.min_, List.foldlM_cons, List.foldlM_nil, Builtin.min2, Sem.run_bind, Result.andThen_ok, Sem.run_pure, ltI_eq]
    by_cases e : y' < x' <;> simp [e]
  · rename_i t0 t1 s' x' hts has
    obtain ⟨s, x, rfl, rfl, rfl⟩ := map_two has
    obtain ⟨hc, h⟩ := bif_no h
    obtain ⟨G', w', v, h1, h2, h3, h4⟩ := ap_ok (P := P) (ty := o.type) hs hf hfx (hx s) (hx x) hc h
    refine ⟨fun e => absurd rfl e, G', w', v, .inl ?_, h2, h3, h4⟩
    rw [hrun]
    have : ts = #[t0, t1] := by rw [← hts]
    subst this
    simp only [builtin, List.map_toArray, List.map_cons, List.map_nil, Sem.run_bind, h1, Result.andThen_ok, Sem.run_pure]
  · cases h
theorem panic_ok {x : Operand} {a : AV} (ho : o.op = .panic x) (hx : RV G (ρ x) (ev x)) (h : oPanic (ev x) = .panic a) : ∃ v, (execOp ρ o).run P w = .halt (.panic v) w ∧ RV G v a := by
  unfold oPanic at h
  split at h
  · rename_i t v' he
    cases h
    rw [he] at hx
    refine ⟨ρ x, ?_, hx⟩
    unfold execOp
    rw [ho]
    generalize hv : ρ x = v at hx
    cases hx
    simp only [Instr.panic, hv, Sem.run_bind]
    rfl
  · cases h
end
end Go.Proofs.YtbknpfckdnladaaGreat
