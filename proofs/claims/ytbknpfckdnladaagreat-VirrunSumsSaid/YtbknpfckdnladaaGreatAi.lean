/- Rows that are made. No condition. -/
import Derived.Test.YtbknpfckdnladaaGreatAh
set_option linter.unusedVariables false
set_option maxHeartbeats 4000000
namespace Go.Proofs.YtbknpfckdnladaaGreat
/-- A row of elements in an array. -/
def RowR (G : Gh) (arr : Array Value) (base sz n : Nat) (g : Nat → List AV) : Prop := ∀ i, i < n → (g i).length = sz ∧ ∀ (j : Nat) (v : Value) (a : AV), arr[base + (i * sz + j)]? = some v → (g i)[j]? = some a → RV G v a
def rowG (g : Nat → List AV) : List (Nat × AV) → Nat → List AV
  | [], j => g j
  | (i, v) :: rest, j => bif Nat.beq j i then (match v.cells with | some c => c | none => []) else rowG g rest j
theorem rowOf_eq (z : List AV) : ∀ (ps : List (Nat × AV)) (j : Nat), rowOf z ps j = rowG (fun _ => z) ps j
  | [], j => rfl
  | (i, v) :: rest, j => by
    show (bif Nat.beq j i then _ else rowOf z rest j) = _
    rw [rowOf_eq z rest j]
    rfl
theorem beq_ff {a b : Nat} (h : a ≠ b) : Nat.beq a b = false := by
  cases hh : Nat.beq a b with
  | false => rfl
  | true => exact absurd (Nat.eq_of_beq_eq_true hh) h
theorem rowG_other (g g' : Nat → List AV) (i : Nat) : ∀ (ps : List (Nat × AV)), (∀ p ∈ ps, p.1 ≠ i) → (∀ j, j ≠ i → g j = g' j) → rowG g ps i = g i ∧ ∀ j, j ≠ i → rowG g ps j = rowG g' ps j
  | [], _, h => ⟨rfl, fun j hj => h j hj⟩
  | (k, v) :: ps, hp, h => by
    have ih := rowG_other g g' i ps (fun p hm => hp p (List.mem_cons_of_mem _ hm)) h
    have hk : k ≠ i := hp (k, v) (List.mem_cons_self ..)
    refine ⟨?_, fun j hj => ?_⟩
    · show (bif Nat.beq i k then _ else rowG g ps i) = _
      rw [beq_ff (Ne.symm hk)]
      exact ih.1
    · show (bif Nat.beq j k then _ else rowG g ps j) = (bif Nat.beq j k then _ else rowG g' ps j)
      rw [ih.2 j hj]
theorem row_apart {i k sz j q : Nat} (h : i ≠ k) (hj : j < sz) (hq : q < sz) : i * sz + j ≠ k * sz + q := by
  rcases Nat.lt_or_gt_of_ne h with h | h
  · have : (i + 1) * sz ≤ k * sz := Nat.mul_le_mul_right sz h
    rw [Nat.succ_mul] at this
    omega
  · have : (k + 1) * sz ≤ i * sz := Nat.mul_le_mul_right sz h
    rw [Nat.succ_mul] at this
    omega
section
variable {P : Program} {G : Gh} {ρ : Operand → Value} {ev : Operand → AV} {o : Oper} {w : World} {M M' : Mem} {r : AV}
/-- One element is put. -/
theorem RowR.put {arr : Array Value} {base sz n i : Nat} {g : Nat → List AV} {vs : List Value} {c : List AV} (h : RowR G arr base sz n g) (hi : i < n) (hsz : base + n * sz ≤ arr.size) (hl : vs.length = sz) (hc : c.length = sz) (hv : ∀ (j : Nat) (v : Value) (a : AV), vs[j]? = some v → c[j]? = some a → RV G v a) :
    RowR G (setV arr (base + i * sz) vs) base sz n (fun j => bif Nat.beq j i then c else g j) := by
  have hle : (i + 1) * sz ≤ n * sz := Nat.mul_le_mul_right sz hi
  rw [Nat.succ_mul] at hle
  intro k hk
  by_cases e : k = i
  · subst e
    have e1 : Nat.beq k k = true := Nat.beq_refl k
    dsimp only
    rw [e1]
    refine ⟨hc, fun j v a h1 h2 => ?_⟩
    have hj : j < sz := by rw [← hc]; exact (List.getElem?_eq_some_iff.1 h2).1
    rw [setV_get _ _ _ _ (by omega), if_pos (by omega)] at h1
    exact hv j v a (by rw [← h1]; congr 1; omega) h2
  · dsimp only
    rw [beq_ff e]
    obtain ⟨h1, h2⟩ := h k hk
    refine ⟨h1, fun j v a h3 h4 => ?_⟩
    have hj : j < sz := by rw [← h1]; exact (List.getElem?_eq_some_iff.1 h4).1
    rw [setV_get _ _ _ _ (by omega), if_neg ?_] at h3
    · exact h2 j v a h3 h4
    · intro ⟨a1, a2⟩
      exact row_apart e hj (q := k * sz + j - i * sz) (by omega) (by omega)
theorem RowR.congr {arr : Array Value} {base sz n : Nat} {g g' : Nat → List AV} (h : RowR G arr base sz n g) (e : ∀ i, i < n → g' i = g i) : RowR G arr base sz n g' := fun i hi => by rw [e i hi]; exact h i hi
theorem RowR.fill {sz n : Nat} : ∀ (as : List (Nat × AV)) (vs : List (Nat × Value)) (arr : Array Value) (g : Nat → List AV), PartR G vs as → partsOk sz n as = true → n * sz ≤ arr.size → RowR G arr 0 sz n g →
    ∃ arr', Instr.fill (fun i => some (i * sz, sz)) arr vs = some arr' ∧ arr'.size = arr.size ∧ RowR G arr' 0 sz n (rowG g as)
  | [], [], arr, g, _, _, _, h => ⟨arr, rfl, rfl, h⟩
  | (j, a) :: as, (i, v) :: vs, arr, g, ⟨hij, hv, hr⟩, hp, hsz, h => by
    subst hij
    unfold partsOk at hp
    simp only [Bool.and_eq_true, Nat.blt_eq, List.all_eq_true] at hp
    obtain ⟨h1, h2, h3, h4⟩ := hp
    cases hc : a.cells with
    | none => rw [hc] at h1; cases h1
    | some c =>
      rw [hc] at h1
      have h1 : c.length = sz := Nat.eq_of_beq_eq_true h1
      have hcs := (hv.cells hc).1
      have hl := hcs.len
      have hle : (i + 1) * sz ≤ n * sz := Nat.mul_le_mul_right sz h2
      rw [Nat.succ_mul] at hle
      have hput := RowR.put (i := i) (vs := v.cells.toList) (c := c) h h2 (by omega) (by rw [Array.length_toList]; omega) h1 (fun j x b e f => hcs.at' j x b (by simpa using e) f)
      obtain ⟨arr', h5, h6, h7⟩ := RowR.fill as vs _ _ hr h4 (by rw [setV_size]; omega) hput
      refine ⟨arr', ?_, by rw [h6, setV_size], h7.congr (fun k hk => ?_)⟩
      · unfold Instr.fill
        simp only
        rw [if_neg (by simp only [ne_eq, decide_not, gt_iff_lt, Bool.or_eq_true, Bool.not_eq_eq_eq_not, Bool.not_true, decide_eq_false_iff_not, decide_eq_true_eq]; omega)]
        rw [← h5]
        congr 1
        rw [← Array.foldl_toList, Array.toList_zipIdx, setV_fold (i * sz) v.cells.toList 0]
        rw [Nat.zero_add]
        rfl
      · have hne : ∀ p ∈ as, p.1 ≠ i := fun p hp2 e => by
          have := h3 p hp2
          rw [e] at this
          have e2 : Nat.beq i i = true := Nat.beq_refl i
          rw [e2] at this
          cases this
        have ot := rowG_other (fun j => bif Nat.beq j i then c else g j) g i as hne (fun j hj => by simp only [beq_ff hj]; rfl)
        show (bif Nat.beq k i then (match a.cells with | some c => c | none => []) else rowG g as k) = _
        rw [hc]
        by_cases e : k = i
        · subst e
          have e2 : Nat.beq k k = true := Nat.beq_refl k
          rw [ot.1, e2]
          rfl
        · rw [beq_ff e, ot.2 k e]
          rfl
theorem zero_row {zero : Array Value} {z : List AV} {sz n : Nat} (h : RVs G zero z) (hz : z.length = sz) (h0 : 0 < sz) : RowR G ((Array.range (n * sz)).map (zero[· % zero.size]!)) 0 sz n (fun _ => z) := by
  intro i hi
  refine ⟨hz, fun j v a h1 h2 => ?_⟩
  have hj : j < sz := by rw [← hz]; exact (List.getElem?_eq_some_iff.1 h2).1
  have hzs : zero.size = sz := by rw [h.len, hz]
  have hle : (i + 1) * sz ≤ n * sz := Nat.mul_le_mul_right sz hi
  rw [Nat.succ_mul] at hle
  rw [Array.getElem?_map, Array.getElem?_range, if_pos (by omega)] at h1
  simp only [Option.map_some, Option.some.injEq] at h1
  rw [hzs, Nat.zero_add, Nat.mul_comm i sz, Nat.mul_add_mod, Nat.mod_eq_of_lt hj] at h1
  refine h.at' j v a ?_ h2
  rw [getElem!_pos zero j (by omega)] at h1
  rw [Array.getElem?_eq_getElem (by omega), h1]
theorem mk_row {arr : Array Value} {sz n fid t cap : Nat} {full : Bool} {g : Nat → List AV} (hs : St G w M) (hf : G.phi fid = none) (hr : RowR G arr 0 sz n g) (hsz : n * sz ≤ arr.size) (hc : n ≤ cap) (hfu : full = true → cap = n) (hcs : cap * sz ≤ arr.size) (hrun : (execOp ρ o).run P w = .ok (.value (.slice (some ⟨w.heap.size, 0, none⟩) n cap)) { w with heap := w.heap.push (.cells arr t) }) : Mk P G ρ o w fid (.sl fid 0 n full sz) (.row sz n g) := by
  have hp : (G.new fid w.heap.size arr.size).phi fid = some (w.heap.size, 0) := if_pos rfl
  have ht : (G.new fid w.heap.size arr.size).tot w.heap.size = arr.size := if_pos rfl
  refine ⟨by simp, _, _, arr.size, hrun, ?_, arr, t, heap_push_eq, by omega, ht.symm, fun i hi => ⟨(hr i hi).1, fun j v a e f => ((hr i hi).2 j v a e f).mono (Gh.new_le hs hf)⟩⟩
  have := RV.sl (o := 0) (off := 0) (len := n) (sz := sz) (cap := cap) (full := full) hp hc hfu (by rw [ht, Nat.zero_add, Nat.zero_add]; exact hcs) (.inr (by omega))
  exact this
theorem n_buildSlice {t len fid : Nat} {parts : Array (Nat × Operand)} {a : AV} (ho : o.op = .buildSlice t len parts) (hs : St G w M) (hf : G.phi fid = none) (hx : ∀ p ∈ parts.toList, RV G (ρ p.2) (ev p.2)) (h : oBuildSlice P (undB P t) len (evP ev parts.toList) M fid = .val a M') : ∃ k, Mk P G ρ o w fid a k ∧ M' = newB M fid k := by
  unfold oBuildSlice at h
  split at h
  · rename_i e hd
    split at h
    · rename_i z hz
      obtain ⟨h1, rfl, rfl⟩ := bif_val h
      simp only [Bool.and_eq_true, Nat.beq_eq, Nat.ble_eq, Nat.blt_eq] at h1
      obtain ⟨h1, h2, h3, h4⟩ := h1
      obtain ⟨zv, hz1, hz2, _, _⟩ := zeroC_ok (G := G) hz w
      obtain ⟨inf, hinf⟩ := info_of_szB (P := P) (t := e) (by omega)
      obtain ⟨arr, h5, h6, h7⟩ := RowR.fill _ _ _ _ (PartR.of (ρ := ρ) (ev := ev) parts.toList hx) h1 (by simp) (zero_row (n := len) hz2 h2 h4)
      have hsz : arr.size = len * szB P e := by rw [h6]; simp
      have h7' : RowR G arr 0 (szB P e) len (rowOf z (evP ev parts.toList)) := h7.congr (fun i _ => rowOf_eq z _ i)
      refine ⟨_, mk_row hs hf h7' (by omega) (Nat.le_refl _) (fun _ => rfl) (by omega) (t := e) ?_, rfl⟩
      have hp : (parts.map fun (i, x) => (i, ρ x)).toList = parts.toList.map fun p => (p.1, ρ p.2) := by rw [Array.toList_map]
      unfold execOp
      rw [ho]
      by_cases h00 : len * szB P e = 0
      · have harr : Instr.fill (fun i => some (i * szB P e, szB P e)) ((Array.range (len * szB P e)).map ((#[] : Array Value)[· % (#[] : Array Value).size]!)) (parts.map fun (i, x) => (i, ρ x)).toList = some arr := by
          rw [hp, ← h5]
          congr 1
          rw [h00]
          simp
        simp only [Instr.buildSlice, Sem.run_bind, run_und hd, Result.andThen_ok, szB_ok hinf, if_neg (show ¬ (len * szB P e > 2 ^ 24) by omega), Sem.run_pure, if_pos h00, harr, newRow, run_newObj]
      · have harr : Instr.fill (fun i => some (i * szB P e, szB P e)) ((Array.range (len * szB P e)).map (zv.cells[· % zv.cells.size]!)) (parts.map fun (i, x) => (i, ρ x)).toList = some arr := by
          rw [hp]; exact h5
        simp only [Instr.buildSlice, Sem.run_bind, run_und hd, Result.andThen_ok, szB_ok hinf, if_neg (show ¬ (len * szB P e > 2 ^ 24) by omega), Sem.run_pure, if_neg h00, hz1, harr, newRow, run_newObj]
    · cases h
  · cases h
theorem n_makeSlice {t fid : Nat} {l c : Operand} {a : AV} (ho : o.op = .makeSlice t l c) (hs : St G w M) (hf : G.phi fid = none) (hl : RV G (ρ l) (ev l)) (hc : RV G (ρ c) (ev c)) (h : oMakeSlice P (undB P t) (ev l) (ev c) M fid = .val a M') : ∃ k, Mk P G ρ o w fid a k ∧ M' = newB M fid k := by
  unfold oMakeSlice at h
  split at h
  · rename_i e n m hd he1 he2
    split at h
    · rename_i z hz
      obtain ⟨h1, rfl, rfl⟩ := bif_val h
      simp only [Bool.and_eq_true, Nat.beq_eq, Nat.ble_eq, Nat.blt_eq, leI_eq, eqI_eq, decide_eq_true_eq, beq_iff_eq] at h1
      obtain ⟨h1, rfl, h2, h3, h4, h5⟩ := h1
      rw [he1] at hl
      rw [he2] at hc
      obtain ⟨zv, hz1, hz2, _, _⟩ := zeroC_ok (G := G) hz w
      obtain ⟨inf, hinf⟩ := info_of_szB (P := P) (t := e) (by omega)
      have hby : bytB P e = inf.bytes := by unfold bytB; rw [hinf]
      rw [hby] at h5
      refine ⟨_, mk_row hs hf (zero_row (n := n.toNat) hz2 h3 h4) (by simp) (Nat.le_refl _) (fun _ => rfl) (by simp) (t := e) ?_, rfl⟩
      have hw : IntKind.i64.wrap n = n := IntWalk.i64_in n ⟨by omega, by omega⟩
      have hb : ¬ ((inf.bytes : Int) * n > 2 ^ 48) := by
        have : (inf.bytes : Int) * n ≤ 65536 * 16777216 := Int.mul_le_mul (by omega) h2 h1 (by omega)
        omega
      have hti : (typeInfo e).run P w = .ok inf w := by unfold typeInfo; simp [Sem.run_bind, infoB_ok hinf]
      have hcond : ((decide (n < 0) || decide ((inf.bytes : Int) * n > 2 ^ 48)) || decide (n < 0) || decide (n > n)) = false := by
        simp only [Bool.or_eq_false_iff, decide_eq_false_iff_not]
        omega
      unfold execOp
      rw [ho]
      by_cases h00 : n.toNat * szB P e = 0
      · have harr : (Array.range (n.toNat * szB P e)).map ((#[] : Array Value)[· % (#[] : Array Value).size]!) = (Array.range (n.toNat * szB P e)).map (zv.cells[· % zv.cells.size]!) := by
          rw [h00]; simp
        simp only [Instr.makeSlice, Sem.run_bind, run_und hd, Result.andThen_ok, hl.int_inv, hc.int_inv, asInt, asIntOf, Sem.run_pure, hti, hw, hcond, Bool.false_eq_true, if_false, run_askRoom, szB_ok hinf, if_pos h00, harr, newRow, run_newObj]
      · simp only [Instr.makeSlice, Sem.run_bind, run_und hd, Result.andThen_ok, hl.int_inv, hc.int_inv, asInt, asIntOf, Sem.run_pure, hti, hw, hcond, Bool.false_eq_true, if_false, run_askRoom, szB_ok hinf, if_neg h00, hz1, newRow, run_newObj]
    · cases h
  · cases h
end
end Go.Proofs.YtbknpfckdnladaaGreat
