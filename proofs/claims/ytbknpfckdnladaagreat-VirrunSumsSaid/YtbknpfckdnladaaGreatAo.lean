/- The built-in functions as operations; panic. No condition. -/
import Derived.Test.YtbknpfckdnladaaGreatAn
set_option linter.unusedVariables false
set_option maxHeartbeats 4000000
namespace Go.Proofs.YtbknpfckdnladaaGreat
section
variable {P : Program} {G : Gh} {ρ : Operand → Value} {ev : Operand → AV} {o : Oper} {w : World} {M M' : Mem} {r : AV}
theorem map_one {args : Array Operand} {a : AV} (h : args.toList.map ev = [a]) : ∃ x, args = #[x] ∧ ev x = a := by
  obtain ⟨l⟩ := args
  match l, h with
  | [x], h => exact ⟨x, rfl, by simpa using h⟩
theorem map_two {args : Array Operand} {a b : AV} (h : args.toList.map ev = [a, b]) : ∃ x y, args = #[x, y] ∧ ev x = a ∧ ev y = b := by
  obtain ⟨l⟩ := args
  match l, h with
  | [x, y], h => exact ⟨x, y, rfl, by simpa using h⟩
theorem exec_builtin {b : Builtin} {args : Array Operand} {ts : Array TypeId} (ho : o.op = .call ⟨.builtin b, args, ts⟩) : ∃ cs, (execOp ρ o).run P w = (builtin b ts o.type cs (args.map ρ)).run P w := by
  unfold execOp
  rw [ho]
  simp only [resolve, Sem.run_bind, Sem.run_pure, Result.andThen_ok, invoke]
  exact ⟨_, rfl⟩
theorem append_mk {t0 t1 e ty : TypeId} {i : TypeInfo} {z : Value} {kk k : IntKind} {n : Nat} (h0 : undB P t0 = some (.slice e)) (hi : infoB P e = some i) (hz : i.zero = some z) (h1 : undB P t1 = some (.int kk)) (hp : 0 < n) (hb : n ≤ 16777216) (hby : i.bytes ≤ 65536) (hs0 : 0 < i.size) :
    ∃ nc, n ≤ nc ∧ (Builtin.append_ #[t0, t1] ty #[.slice none 0 0, .int k (n : Int)]).run P w = .ok (.slice (some ⟨w.heap.size, 0, none⟩) n nc) { w.drew with heap := w.heap.push (.cells (#[] ++ Builtin.zeroCells z.cells n ++ Builtin.zeroCells z.cells (nc - n)) e) } := by
  have hw : IntKind.i64.wrap (n : Int) = n := by
    have : ¬ ((n : Int) % 18446744073709551616 ≥ 9223372036854775808) := by omega
    simp [IntKind.wrap, IntKind.bits, IntKind.signed]
    omega
  have h63 : ¬ (9223372036854775807 < (n : Int)) := by omega
  have h47 : ¬ (281474976710656 < (n : Int) * (i.bytes : Int)) := by
    have : n * i.bytes ≤ 16777216 * 65536 := Nat.mul_le_mul hb hby
    omega
  have h48 : ¬ (281474976710656 < Builtin.nextslicecap n 0 * i.bytes) := by
    have h1 := nextslicecap_le_wide (show 0 < n by omega)
    have h2 : Builtin.nextslicecap n 0 * i.bytes ≤ 33554432 * 65536 := Nat.mul_le_mul (by omega) hby
    omega
  have hq : (Question.appendCap n 0 e).forced = false := rfl
  have hnn : ¬ ((n : Int) < 0) := by omega
  have hn0 : ¬ (n = 0) := by omega
  refine ⟨grownCap w n 0 e, ?_, ?_⟩
  · unfold grownCap; simp [Question.cut]
  · simp [Builtin.append_, undB_ok h0, undB_ok h1, underlying, sizeOf, typeInfo, infoB_ok hi, asInt, asIntOf, hw, hnn, h47, hn0, h63, h48, hq, Sem.run_bind, Builtin.firstCells, zeroValue, hz]
    have hne : ¬ (n * i.size = 0) := by
      intro h
      rcases Nat.mul_eq_zero.1 h with h | h <;> omega
    rw [if_neg hne]
    simp only [newRow, Sem.run_bind, run_newObj, Result.andThen_ok, Sem.run_pure]
    rfl
/-- What is made and appended to a slice that is nil. -/
theorem apmk_ok {t0 t1 ty : TypeId} {s x : Value} {s' x' : AV} {fid : Nat} (hs : St G w M) (hf : G.phi fid = none) (hfx : fid < M.nx) (hsv : RV G s s') (hx : RV G x x') (hb : byOk P (undB P t0) = true) (hd : dInt (undB P t1) = true) (h : oAppMk P (undB P t0) s' x' M fid = .val r M') : Ap P G w M fid (Builtin.append_ #[t0, t1] ty #[s, x]) r M' := by
  unfold oAppMk at h
  split at h
  · rename_i e fl g k n hd0
    cases hsv
    cases hx
    unfold byOk at hb
    rw [hd0] at hb
    simp only [Bool.and_eq_true, Nat.ble_eq] at hb
    obtain ⟨hb, hzl⟩ := hb
    split at h
    · rename_i z hzc
      unfold zlOk at hzl
      rw [hzc] at hzl
      have hzl := Nat.eq_of_beq_eq_true hzl
      obtain ⟨zv, hz1, hz2, _, a0, ha0⟩ := zeroC_ok (G := G) hzc w
      obtain ⟨i, hi, zv', hzv⟩ := zeroB_info ha0
      have hlen := zero_len G hi hzv hzc
      have hsz : szB P e = i.size := by unfold szB; rw [hi]
      have hby : i.bytes ≤ 65536 := by unfold bytB at hb; rw [hi] at hb; exact hb
      have hd1 : ∃ kk, undB P t1 = some (.int kk) := by
        unfold dInt at hd
        split at hd
        · rename_i kk he; exact ⟨kk, he⟩
        · cases hd
      obtain ⟨kk, hd1⟩ := hd1
      unfold oAppend nilS at h
      dsimp only at h
      obtain ⟨h1, h⟩ := bif_no h
      simp only [Bool.and_eq_true, Nat.ble_eq, Nat.blt_eq] at h1
      obtain ⟨_, h2, h3, _, _⟩ := h1
      cases n with
      | zero =>
        cases h
        refine ⟨G, w, .slice none 0 0, ?_, .lstn, hs, Ev.refl G w _, Ub.refl _ _⟩
        simp [Builtin.append_, undB_ok hd0, undB_ok hd1, underlying, sizeOf, typeInfo, infoB_ok hi, asInt, asIntOf, Sem.run_bind, IntKind.wrap, IntKind.bits, IntKind.signed]
      | succ n =>
        cases h
        rw [hsz]
        rw [hsz] at h3 hzl
        have hz2' : RVs G zv'.cells z := by
          have h := hzc
          unfold zeroC zeroB at h
          simp only [hi, hzv] at h
          exact ((RV.ofVal G zv').cells h).1
        obtain ⟨nc, hnc, hrun⟩ := append_mk (ty := ty) (k := k) (w := w) (n := n + 1) hd0 hi hzv hd1 (Nat.succ_pos n) (by omega) hby h3
        have hsd : St G w.drew M := hs.congr rfl (fun _ => rfl) (Nat.le_refl _)
        have hzs : zv'.cells.size = i.size := by rw [hlen, hzl]
        have hnr : RowR G (Builtin.zeroCells zv'.cells (n + 1)) 0 i.size (n + 1) (fun _ => z) := by
          unfold Builtin.zeroCells
          have := zero_row (n := n + 1) hz2' hzl h3
          rw [← hzs] at this ⊢
          exact this
        have hnl : (Builtin.zeroCells zv'.cells (n + 1)).size = (n + 1) * i.size := by simp [Builtin.zeroCells, hzs]
        have hor : RowR G (#[] : Array Value) 0 i.size 0 (fun _ => []) := fun i hi => by omega
        generalize hzz : Builtin.zeroCells zv'.cells (nc - (n + 1)) = zs at hrun
        have hzl2 : zs.size = (nc - (n + 1)) * i.size := by rw [← hzz]; simp [Builtin.zeroCells, hzs]
        have hrow := hor.app hnr (rest := zs) (by simp) hnl
        generalize Builtin.zeroCells zv'.cells (n + 1) = new at hrun hrow hnl
        have hcells : (#[] ++ new ++ zs).size = nc * i.size := by
          rw [Array.size_append, Array.size_append, hnl, hzl2]
          have : (#[] : Array Value).size = 0 := rfl
          rw [this, Nat.zero_add, ← Nat.add_mul]
          congr 1
          omega
        have hle : (0 + (n + 1)) * i.size ≤ nc * i.size := Nat.mul_le_mul_right _ (by omega)
        have htot : (G.new fid w.drew.heap.size (nc * i.size)).tot w.drew.heap.size = nc * i.size := if_pos rfl
        have hp : (G.new fid w.drew.heap.size (nc * i.size)).phi fid = some (w.drew.heap.size, 0) := if_pos rfl
        obtain ⟨s1, e3⟩ := St.alloc (n := nc * i.size) (ob := .cells (#[] ++ new ++ zs) e) (k := .row i.size (0 + (n + 1)) (appRow 0 (n + 1) (fun _ => []) fun _ => z)) hsd hf hfx ⟨_, e, heap_push_eq, by rw [hcells]; omega, by rw [hcells]; exact htot.symm, fun j hj => ⟨(hrow j hj).1, fun q v a e f => ((hrow j hj).2 q v a e f).mono (Gh.new_le hsd hf)⟩⟩ (by simp)
        refine ⟨_, _, _, hrun, ?_, s1.congr rfl (fun _ => rfl) (Nat.le_refl _), ((Ev.congr rfl ⟨rfl, rfl, rfl⟩ (fun _ => rfl) (Nat.le_refl _) : Ev G w M G w.drew M).trans e3).trans (.congr rfl ⟨rfl, rfl, rfl⟩ (fun _ => rfl) (Nat.le_refl _)), fun id hne h => by show (if id = fid then _ else G.phi id) = none; rw [if_neg hne]; exact h⟩
        have hnc' : 0 + (n + 1) ≤ nc := by omega
        have hv := RV.sl (o := 0) (off := 0) (sz := i.size) (cap := nc) (full := false) hp (show 0 + (n + 1) ≤ nc from hnc') (fun h => by cases h) (by have := htot; simp only [Nat.zero_add]; exact Nat.le_of_eq this.symm) (.inr (by simp))
        rw [Nat.zero_add (n + 1)] at hv ⊢
        exact hv
    · cases h
  · cases h
/-- A built-in function. -/
theorem builtin_ok {b : Builtin} {args : Array Operand} {ts : Array TypeId} {fid : Nat} (ho : o.op = .call ⟨.builtin b, args, ts⟩) (hs : St G w M) (hf : G.phi fid = none) (hfx : fid < M.nx) (hx : ∀ x, RV G (ρ x) (ev x)) (h : oBuiltin P b ts.toList (args.toList.map ev) M fid = .val r M') :
    (b ≠ .append → Qu P G ρ o w r ∧ M' = M) ∧ Wr P G ρ o w M fid r M' := by
  obtain ⟨cs, hrun⟩ := exec_builtin (P := P) (w := w) (ρ := ρ) ho
  have up : Qu P G ρ o w r ∧ M' = M → Wr P G ρ o w M fid r M' := fun ⟨⟨v, h1, h2⟩, h3⟩ => by
    subst h3
    exact ⟨G, w, v, .inl h1, h2, hs, Ev.refl G w _, Ub.refl _ _⟩
  have qq : Qu P G ρ o w r ∧ M' = M → (b ≠ .append → Qu P G ρ o w r ∧ M' = M) ∧ Wr P G ρ o w M fid r M' := fun q => ⟨fun _ => q, up q⟩
  unfold oBuiltin at h
  split at h
  · rename_i t l x' hts has
    obtain ⟨x, rfl, rfl⟩ := map_one has
    obtain ⟨n, h1, rfl, rfl⟩ := len_ok (P := P) (w := w) (ts := l) (ty := o.type) hs (hx x) h
    refine qq ⟨⟨goInt n, ?_, .int _ _⟩, rfl⟩
    rw [hrun]
    have : ts = ⟨t :: l⟩ := by rw [← hts]
    subst this
    simp only [builtin, List.map_toArray, List.map_cons, List.map_nil, Sem.run_bind, h1, Result.andThen_ok, Sem.run_pure]
  · rename_i k x' k' y' has
    obtain ⟨x, y, rfl, h1, h2⟩ := map_two has
    cases h
    have e1 := hx x
    have e2 := hx y
    rw [h1] at e1
    rw [h2] at e2
    refine qq ⟨⟨_, ?_, .int _ _⟩, rfl⟩
    rw [hrun]
    simp only [builtin, List.map_toArray, List.map_cons, List.map_nil, e1.int_inv, e2.int_inv, Builtin.max_, List.foldlM_cons, List.foldlM_nil, Builtin.max2, Sem.run_bind, Result.andThen_ok, Sem.run_pure, ltI_eq, gt_iff_lt]
    by_cases e : x' < y' <;> simp [e]
  · rename_i k x' k' y' has
    obtain ⟨x, y, rfl, h1, h2⟩ := map_two has
    cases h
    have e1 := hx x
    have e2 := hx y
    rw [h1] at e1
    rw [h2] at e2
    refine qq ⟨⟨_, ?_, .int _ _⟩, rfl⟩
    rw [hrun]
    simp only [builtin, List.map_toArray, List.map_cons, List.map_nil, e1.int_inv, e2.int_inv, Builtin.min_, List.foldlM_cons, List.foldlM_nil, Builtin.min2, Sem.run_bind, Result.andThen_ok, Sem.run_pure, ltI_eq]
    by_cases e : y' < x' <;> simp [e]
  · rename_i t0 t1 s' x' hts has
    obtain ⟨s, x, rfl, rfl, rfl⟩ := map_two has
    have hap : Ap P G w M fid (Builtin.append_ #[t0, t1] o.type #[ρ s, ρ x]) r M' := by
      cases hc : (byOk P (undB P t0) && notInt (undB P t1)) with
      | true => rw [hc] at h; exact ap_ok (P := P) (ty := o.type) hs hf hfx (hx s) (hx x) hc h
      | false =>
        rw [hc] at h
        obtain ⟨hc2, h⟩ := bif_no (show (bif byOk P (undB P t0) && dInt (undB P t1) then oAppMk P (undB P t0) (ev s) (ev x) M fid else AR.no 60) = _ from h)
        simp only [Bool.and_eq_true] at hc2
        exact apmk_ok (P := P) (ty := o.type) hs hf hfx (hx s) (hx x) hc2.1 hc2.2 h
    obtain ⟨G', w', v, h1, h2, h3, h4⟩ := hap
    refine ⟨fun e => absurd rfl e, G', w', v, .inl ?_, h2, h3, h4⟩
    rw [hrun]
    have : ts = #[t0, t1] := by rw [← hts]
    subst this
    simp only [builtin, List.map_toArray, List.map_cons, List.map_nil, Sem.run_bind, h1, Result.andThen_ok, Sem.run_pure]
  · rename_i t l x' hts has
    obtain ⟨x, rfl, rfl⟩ := map_one has
    unfold oCap at h
    split at h
    · rename_i fl n g he
      cases hd : dSli (undB P t) with
      | false => rw [hd] at h; cases h
      | true =>
        rw [hd] at h
        cases h
        have hv := hx x
        rw [he] at hv
        obtain ⟨e, hde⟩ : ∃ e, undB P t = some (.slice e) := by
          unfold dSli at hd
          split at hd
          · rename_i e he; exact ⟨e, he⟩
          · cases hd
        refine qq ⟨⟨goInt 0, ?_, .int _ _⟩, rfl⟩
        rw [hrun]
        have : ts = ⟨t :: l⟩ := by rw [← hts]
        subst this
        have hv0 : ρ x = .slice none 0 0 := by
          generalize ρ x = v at hv
          cases hv
          rfl
        simp [builtin, Builtin.cap_, hv0, undB_ok hde, underlying, Sem.run_bind]
    · cases h
  · cases h
theorem panic_ok {x : Operand} {a : AV} (ho : o.op = .panic x) (hx : RV G (ρ x) (ev x)) (h : oPanic (ev x) = .panic a) : ∃ v, (execOp ρ o).run P w = .halt (.panic v) w ∧ RV G v a := by
  unfold oPanic at h
  split at h
  · rename_i t v' he
    cases h
    rw [he] at hx
    refine ⟨ρ x, ?_, hx⟩
    unfold execOp
    rw [ho]
    generalize hv : ρ x = v at hx
    cases hx
    simp only [Instr.panic, hv, Sem.run_bind]
    rfl
  · cases h
end
end Go.Proofs.YtbknpfckdnladaaGreat
