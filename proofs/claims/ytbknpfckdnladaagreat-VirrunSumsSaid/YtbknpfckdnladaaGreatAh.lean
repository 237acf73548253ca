/- Literals, new blocks. No condition. -/
import Derived.Test.YtbknpfckdnladaaGreatAg
import Derived.Laws.Tables
set_option linter.unusedVariables false
set_option maxHeartbeats 4000000
namespace Go.Proofs.YtbknpfckdnladaaGreat
def setV (arr : Array Value) (off : Nat) : List Value → Array Value
  | [] => arr
  | v :: vs => setV (arr.setIfInBounds off v) (off + 1) vs
theorem setV_fold (off : Nat) : ∀ (vs : List Value) (k : Nat) (arr : Array Value), (vs.zipIdx k).foldl (fun cs (p : Value × Nat) => cs.setIfInBounds (off + p.2) p.1) arr = setV arr (off + k) vs
  | [], k, arr => rfl
  | v :: vs, k, arr => by
    rw [List.zipIdx_cons, List.foldl_cons, setV_fold off vs (k + 1)]
    rfl
theorem setV_size : ∀ (vs : List Value) (arr : Array Value) (off : Nat), (setV arr off vs).size = arr.size
  | [], _, _ => rfl
  | v :: vs, arr, off => by unfold setV; rw [setV_size vs]; simp
theorem setL_length : ∀ (vs : List AV) (l : List AV) (off : Nat), (setL l off vs).length = l.length
  | [], _, _ => rfl
  | v :: vs, l, off => by unfold setL; rw [setL_length vs]; simp
theorem setV_get : ∀ (vs : List Value) (arr : Array Value) (off j : Nat), off + vs.length ≤ arr.size → (setV arr off vs)[j]? = if off ≤ j ∧ j < off + vs.length then vs[j - off]? else arr[j]?
  | [], arr, off, j, _ => by rw [if_neg (by simp)]; rfl
  | v :: vs, arr, off, j, h => by
    simp only [List.length_cons] at h
    unfold setV
    rw [setV_get vs _ _ _ (by simp; omega)]
    by_cases h1 : off + 1 ≤ j ∧ j < off + 1 + vs.length
    · rw [if_pos h1, if_pos (by simp only [List.length_cons]; omega), show j - off = (j - (off + 1)) + 1 by omega, List.getElem?_cons_succ]
    · rw [if_neg h1]
      by_cases h2 : j = off
      · subst h2
        rw [if_pos (by simp), Nat.sub_self, List.getElem?_cons_zero, Array.getElem?_setIfInBounds_self_of_lt (by omega)]
      · rw [if_neg (by simp only [List.length_cons]; omega), Array.getElem?_setIfInBounds_ne (Ne.symm h2)]
theorem setL_get : ∀ (vs : List AV) (l : List AV) (off j : Nat), off + vs.length ≤ l.length → (setL l off vs)[j]? = if off ≤ j ∧ j < off + vs.length then vs[j - off]? else l[j]?
  | [], l, off, j, _ => by rw [if_neg (by simp)]; rfl
  | v :: vs, l, off, j, h => by
    simp only [List.length_cons] at h
    unfold setL
    rw [setL_get vs _ _ _ (by simp; omega)]
    by_cases h1 : off + 1 ≤ j ∧ j < off + 1 + vs.length
    · rw [if_pos h1, if_pos (by simp only [List.length_cons]; omega), show j - off = (j - (off + 1)) + 1 by omega, List.getElem?_cons_succ]
    · rw [if_neg h1]
      by_cases h2 : j = off
      · subst h2
        rw [if_pos (by simp), Nat.sub_self, List.getElem?_cons_zero, List.getElem?_set_self (by omega)]
      · rw [if_neg (by simp only [List.length_cons]; omega), List.getElem?_set_ne (Ne.symm h2)]
section
variable {P : Program} {G : Gh} {ρ : Operand → Value} {ev : Operand → AV} {o : Oper} {w : World} {M M' : Mem} {r : AV}
theorem RVs.set {arr : Array Value} {cs : List AV} {vs : Array Value} {as : List AV} {off : Nat} (h : RVs G arr cs) (k : RVs G vs as) (hle : off + as.length ≤ cs.length) : RVs G (setV arr off vs.toList) (setL cs off as) := by
  have hl := h.len
  have kl := k.len
  refine ⟨by rw [setV_size, setL_length, hl], fun j v a e f => ?_⟩
  rw [setV_get _ _ _ _ (by rw [Array.length_toList]; omega), Array.length_toList] at e
  rw [setL_get _ _ _ _ hle] at f
  by_cases hj : off ≤ j ∧ j < off + as.length
  · rw [if_pos hj] at f
    rw [if_pos (by omega)] at e
    exact k.at' _ v a (by simpa using e) f
  · rw [if_neg hj] at f
    rw [if_neg (by omega)] at e
    exact h.at' _ v a e f
/-- Parts of a literal. -/
def PartR (G : Gh) : List (Nat × Value) → List (Nat × AV) → Prop
  | [], [] => True
  | (i, v) :: l, (j, a) :: m => i = j ∧ RV G v a ∧ PartR G l m
  | _, _ => False
theorem fill_ok {place : Nat → Option (Nat × Nat)} : ∀ (vs : List (Nat × Value)) (as : List (Nat × AV)) (arr : Array Value) (cs cs' : List AV), PartR G vs as → RVs G arr cs → fillA place cs as = some cs' → ∃ arr', Instr.fill place arr vs = some arr' ∧ RVs G arr' cs'
  | [], [], arr, cs, cs', _, h, e => by cases e; exact ⟨arr, rfl, h⟩
  | (i, v) :: vs, (j, a) :: as, arr, cs, cs', ⟨hij, hv, hr⟩, h, e => by
    subst hij
    unfold fillA at e
    cases hp : place i with
    | none => rw [hp] at e; cases e
    | some q =>
      obtain ⟨off, size⟩ := q
      rw [hp] at e
      cases hc : a.cells with
      | none => rw [hc] at e; cases e
      | some c =>
        rw [hc] at e
        simp only at e
        cases hb : (Nat.beq c.length size && Nat.ble (off + size) cs.length) with
        | false => rw [hb] at e; cases e
        | true =>
          rw [hb] at e
          simp only [Bool.and_eq_true, Nat.beq_eq, Nat.ble_eq] at hb
          have hcs := (hv.cells hc).1
          obtain ⟨arr', h1, h2⟩ := fill_ok vs as _ _ cs' hr (h.set hcs (off := off) (by omega)) e
          refine ⟨arr', ?_, h2⟩
          unfold Instr.fill
          rw [hp]
          have hl := hcs.len
          have hl2 := h.len
          simp only
          rw [if_neg (by simp only [ne_eq, decide_not, gt_iff_lt, Bool.or_eq_true, Bool.not_eq_eq_eq_not, Bool.not_true, decide_eq_false_iff_not, decide_eq_true_eq]; omega)]
          rw [← h1]
          congr 1
          rw [← Array.foldl_toList, Array.toList_zipIdx, setV_fold off v.cells.toList 0]
          rfl
theorem PartR.of : ∀ (l : List (Nat × Operand)), (∀ p ∈ l, RV G (ρ p.2) (ev p.2)) → PartR G (l.map fun p => (p.1, ρ p.2)) (evP ev l)
  | [], _ => trivial
  | p :: l, h => ⟨rfl, h p (List.mem_cons_self ..), PartR.of l (fun q hq => h q (List.mem_cons_of_mem _ hq))⟩
theorem zeroC_ok {t : TypeId} {z : List AV} (h : zeroC P t = some z) (w : World) : ∃ v, (zeroValue t).run P w = .ok v w ∧ RVs G v.cells z ∧ (∀ (j : Nat) (u : Value), v.cells[j]? = some u → u.oneCell' = true) ∧ ∃ a, zeroB P t = some a := by
  unfold zeroC at h
  cases hz : zeroB P t with
  | none => rw [hz] at h; cases h
  | some a =>
    rw [hz] at h
    obtain ⟨v, h1, h2⟩ := zeroB_ok (G := G) hz w
    exact ⟨v, h1, (h2.cells h).1, (h2.cells h).2, a, rfl⟩
theorem zeroB_info {t : TypeId} {a : AV} (h : zeroB P t = some a) : ∃ i, infoB P t = some i ∧ ∃ z, i.zero = some z := by
  unfold zeroB at h
  cases hi : infoB P t with
  | none => rw [hi] at h; cases h
  | some i =>
    rw [hi] at h
    cases hz : i.zero with
    | none => simp only [hz] at h; cases h
    | some z => exact ⟨i, rfl, z, hz⟩
theorem placesB_ok : ∀ (fs : List Field) (ps : List (Nat × Nat)), placesB P fs = some ps → fs.mapM (fun f => (P.info? f.type).map fun i => (f.offset, i.size)) = some ps
  | [], ps, h => by cases h; rfl
  | f :: fs, ps, h => by
    unfold placesB at h
    split at h
    · rename_i i l hi hl
      cases h
      simp [List.mapM_cons, infoB_ok hi, placesB_ok fs l hl]
    · cases h
theorem q_build {t : TypeId} {parts : Array (Nat × Operand)} (ho : o.op = .build t parts) (hx : ∀ p ∈ parts.toList, RV G (ρ p.2) (ev p.2)) (h : oBuild P (undB P t) (zeroC P t) (evP ev parts.toList) M = .val r M') : Qu P G ρ o w r ∧ M' = M := by
  have parr : (parts.map fun (i, x) => (i, ρ x)).toList = parts.toList.map fun p => (p.1, ρ p.2) := by rw [Array.toList_map]
  have inv : ∀ {q : Option (List AV)}, oBuild1 M q = .val r M' → ∃ cs, q = some cs ∧ r = .agg cs ∧ M' = M := fun {q} e => by
    cases q with
    | none => cases e
    | some cs => cases e; exact ⟨cs, rfl, rfl, rfl⟩
  have fin : ∀ (arr : Array Value), Program.built P t (parts.toList.map fun p => (p.1, ρ p.2)) = some arr → (execOp ρ o).run P w = .ok (.value (.agg arr)) w := fun arr e => by
    unfold execOp
    rw [ho]
    simp only [Sem.run_bind, run_build w t _ arr (by rw [parr]; exact e), Result.andThen_ok, Sem.run_pure]
  unfold oBuild at h
  split at h
  · rename_i z fs hz hd
    unfold oBuildP at h
    split at h
    · rename_i ps hps
      obtain ⟨cs, hf, rfl, rfl⟩ := inv h
      obtain ⟨zv, h1, h2, _, a, hza⟩ := zeroC_ok (G := G) hz w
      obtain ⟨arr, h3, h4⟩ := fill_ok _ _ _ _ _ (PartR.of (ρ := ρ) (ev := ev) parts.toList hx) h2 hf
      refine ⟨⟨.agg arr, fin arr ?_, .agg h4.len h4.at'⟩, rfl⟩
      obtain ⟨it, hit, hit2⟩ := zeroB_info hza
      unfold Program.built
      rw [infoB_ok hit, undB_ok hd]
      have hz2 : it.zero = some zv := by
        have : (zeroValue t).run P w = .ok zv w := h1
        unfold zeroValue typeInfo at this
        simp only [Sem.run_bind, run_program, Result.andThen_ok, infoB_ok hit, Sem.run_pure] at this
        obtain ⟨z0, hz0⟩ := hit2
        rw [hz0] at this ⊢
        simp only [Sem.run_pure, Result.ok.injEq, and_true] at this
        rw [this]
      simp only [hz2, placesB_ok _ _ hps]
      rw [← h3]
      congr 1
      funext i
      rw [nth_eq]
      simp
    · cases h
  · rename_i z n e hz hd
    unfold oBuildA at h
    split at h
    · rename_i ie hie
      obtain ⟨cs, hf, rfl, rfl⟩ := inv h
      obtain ⟨zv, h1, h2, _, a, hza⟩ := zeroC_ok (G := G) hz w
      obtain ⟨arr, h3, h4⟩ := fill_ok _ _ _ _ _ (PartR.of (ρ := ρ) (ev := ev) parts.toList hx) h2 hf
      refine ⟨⟨.agg arr, fin arr ?_, .agg h4.len h4.at'⟩, rfl⟩
      obtain ⟨it, hit, hit2⟩ := zeroB_info hza
      unfold Program.built
      rw [infoB_ok hit, undB_ok hd]
      have hz2 : it.zero = some zv := by
        have : (zeroValue t).run P w = .ok zv w := h1
        unfold zeroValue typeInfo at this
        simp only [Sem.run_bind, run_program, Result.andThen_ok, infoB_ok hit, Sem.run_pure] at this
        obtain ⟨z0, hz0⟩ := hit2
        rw [hz0] at this ⊢
        simp only [Sem.run_pure, Result.ok.injEq, and_true] at this
        rw [this]
      simp only [hz2, infoB_ok hie]
      exact h3
    · cases h
  · cases h
/-! New blocks. -/
theorem BlkR.mono {G G' : Gh} {w w' : World} {b base : Nat} {k : Blk} (h : BlkR G w b base k) (hg : GLe G G') (hh : w'.heap[b]? = w.heap[b]?) {id : Nat} (hp : G.phi id = some (b, base)) : BlkR G' w' b base k := by
  cases k with
  | gone => trivial
  | var cs =>
    obtain ⟨h0, arr, t, h1, h2⟩ := h
    exact ⟨h0, arr, t, by rw [hh]; exact h1, h2.mono hg⟩
  | row sz n g =>
    obtain ⟨arr, t, h1, h2, h3, h4⟩ := h
    exact ⟨arr, t, by rw [hh]; exact h1, h2, by rw [hg.tot _ _ _ hp]; exact h3, fun i hi => ⟨(h4 i hi).1, fun j v a e f => ((h4 i hi).2 j v a e f).mono hg⟩⟩
  | map es =>
    obtain ⟨h0, ents, c, h1, h2, h3⟩ := h
    exact ⟨h0, ents, c, by rw [hh]; exact h1, h2, fun j e p a b => ⟨(h3 j e p a b).1.mono hg, (h3 j e p a b).2.mono hg⟩⟩
  | mpi kk kv l =>
    obtain ⟨h0, ents, c, h1, h2⟩ := h
    exact ⟨h0, ents, c, by rw [hh]; exact h1, h2⟩
  | loop fn sz tm ps as body d st pend =>
    obtain ⟨h0, ts, db, h1, h2, h3, h4⟩ := h
    exact ⟨h0, ts, db, by rw [hh]; exact h1, h2, h3.mono hg, hg.phi _ _ h4⟩
  | dfr =>
    obtain ⟨h0, h1⟩ := h
    exact ⟨h0, by rw [hh]; exact h1⟩
/-- The ghost behind a new block. -/
def Gh.new (G : Gh) (fid b n : Nat) : Gh := ⟨fun id => if id = fid then some (b, 0) else G.phi id, G.con, G.cob, fun b' => if b' = b then n else G.tot b'⟩
theorem heap_push_lt {w : World} {ob : Obj} {b : Nat} (h : b < w.heap.size) : ({ w with heap := w.heap.push ob } : World).heap[b]? = w.heap[b]? := by
  show (w.heap.push ob)[b]? = _
  rw [Array.getElem?_push]
  rw [if_neg (by omega)]
theorem heap_push_eq {w : World} {ob : Obj} : ({ w with heap := w.heap.push ob } : World).heap[w.heap.size]? = some ob := by
  show (w.heap.push ob)[w.heap.size]? = _
  simp
theorem Gh.new_le {fid n : Nat} (hs : St G w M) (hf : G.phi fid = none) : GLe G (G.new fid w.heap.size n) := by
  refine ⟨fun id x h => ?_, fun _ _ _ h => h, fun _ _ h => h, fun id b base h => ?_⟩
  · show (if id = fid then _ else _) = _
    rw [if_neg (fun e => by rw [e, hf] at h; cases h)]
    exact h
  · show (if b = w.heap.size then n else G.tot b) = _
    rw [if_neg (by have := hs.lt _ _ _ h; omega)]
theorem St.alloc {fid n : Nat} {ob : Obj} {k : Blk} (hs : St G w M) (hf : G.phi fid = none) (hfx : fid < M.nx) (hk : BlkR (G.new fid w.heap.size n) { w with heap := w.heap.push ob } w.heap.size 0 k) (hkg : k ≠ .gone) :
    St (G.new fid w.heap.size n) { w with heap := w.heap.push ob } (newB M fid k) ∧ Ev G w M (G.new fid w.heap.size n) { w with heap := w.heap.push ob } (newB M fid k) := by
  have le := Gh.new_le (n := n) hs hf
  have gp : ∀ id, (G.new fid w.heap.size n).phi id = if id = fid then some (w.heap.size, 0) else G.phi id := fun _ => rfl
  have gm : ∀ id, (newB M fid k).h.get id = if fid = id then some k else M.h.get id := fun id => get_set _ _ _ _
  have own : ∀ id, id ≠ fid → (Own (newB M fid k) id ↔ Own M id) := fun id hne => by
    unfold Own
    rw [gm, if_neg (Ne.symm hne)]
  have hsz : ({ w with heap := w.heap.push ob } : World).heap.size = w.heap.size + 1 := by show (w.heap.push ob).size = _; simp
  constructor
  · refine ⟨fun id q b base h1 h2 => ?_, fun id id' b base base' o1 o2 h1 h2 => ?_, fun id b base h => ?_, fun id b base h => ?_, fun b i v h => ?_, fun b v h => ?_, fun id b base i o h => ?_, fun id b base o h => ?_⟩
    · rw [gm] at h1
      rw [gp] at h2
      by_cases e : id = fid
      · rw [if_pos e.symm] at h1
        rw [if_pos e] at h2
        cases h1; cases h2
        exact hk
      · rw [if_neg (Ne.symm e)] at h1
        rw [if_neg e] at h2
        exact (hs.blk id q b base h1 h2).mono le (heap_push_lt (hs.lt _ _ _ h2)) h2
    · rw [gp] at h1 h2
      by_cases e : id = fid <;> by_cases e' : id' = fid
      · rw [e, e']
      · rw [if_pos e] at h1
        rw [if_neg e'] at h2
        cases h1
        exact absurd (hs.lt _ _ _ h2) (by omega)
      · rw [if_neg e] at h1
        rw [if_pos e'] at h2
        cases h2
        exact absurd (hs.lt _ _ _ h1) (by omega)
      · rw [if_neg e] at h1
        rw [if_neg e'] at h2
        exact hs.inj id id' b base base' ((own id e).1 o1) ((own id' e').1 o2) h1 h2
    · rw [gp] at h
      rw [hsz]
      by_cases e : id = fid
      · rw [if_pos e] at h; cases h; omega
      · rw [if_neg e] at h
        have := hs.lt _ _ _ h; omega
    · rw [gp] at h
      by_cases e : id = fid
      · rw [e]; exact hfx
      · rw [if_neg e] at h; exact hs.fresh _ _ _ h
    · have h' := hs.con b i v h
      have hlt : b < w.heap.size := World.block_lt_of_cell? _ _ h'
      unfold World.cell? at h' ⊢
      rw [heap_push_lt hlt]
      exact h'
    · obtain ⟨c, h'⟩ := hs.cob b v h
      have hlt := (Array.getElem?_eq_some_iff.1 h').1
      exact ⟨c, by rw [heap_push_lt hlt]; exact h'⟩
    · rw [gp] at h
      by_cases e : id = fid
      · rw [if_pos e] at h
        cases h
        show G.con w.heap.size i = none
        cases hc : G.con w.heap.size i with
        | none => rfl
        | some v =>
          exact absurd (World.block_lt_of_cell? _ _ (hs.con _ _ _ hc)) (Nat.lt_irrefl _)
      · rw [if_neg e] at h
        exact hs.sep id b base i ((own id e).1 o) h
    · rw [gp] at h
      by_cases e : id = fid
      · rw [if_pos e] at h
        cases h
        show G.cob w.heap.size = none
        cases hc : G.cob w.heap.size with
        | none => rfl
        | some v =>
          obtain ⟨c, h'⟩ := hs.cob _ _ hc
          rw [Array.getElem?_eq_none (by simp)] at h'
          cases h'
      · rw [if_neg e] at h
        exact hs.sep2 id b base ((own id e).1 o) h
  · refine ⟨le, fun id b base h => ?_, fun _ _ _ h => .inl h, fun _ _ h => .inl h, fun b hb => if_neg (by omega), fun b hb _ => heap_push_lt hb, by rw [hsz]; omega, ⟨rfl, rfl, rfl⟩, Nat.le_refl _, fun id o => ?_⟩
    · rw [gp] at h
      by_cases e : id = fid
      · rw [if_pos e] at h; cases h; exact .inr (.inl (Nat.le_refl _))
      · rw [if_neg e] at h; exact .inl h
    · by_cases e : id = fid
      · rw [e]; exact .inr hf
      · exact .inl ((own id e).1 o)
/-- An operation that makes a block: in whatever order it comes. -/
def Mk (P : Program) (G : Gh) (ρ : Operand → Value) (o : Oper) (w : World) (fid : Nat) (a : AV) (k : Blk) : Prop :=
  k ≠ .gone ∧ ∃ v ob n, (execOp ρ o).run P w = .ok (.value v) { w with heap := w.heap.push ob } ∧ RV (G.new fid w.heap.size n) v a ∧ BlkR (G.new fid w.heap.size n) { w with heap := w.heap.push ob } w.heap.size 0 k
theorem mk_var {v : Value} {cs : List AV} {fid t : Nat} (hs : St G w M) (hf : G.phi fid = none) (hv : RVs G v.cells cs) (hrun : (execOp ρ o).run P w = .ok (.value (.pointer (some ⟨w.heap.size, 0, none⟩))) { w with heap := w.heap.push (.cells v.cells t) }) : Mk P G ρ o w fid (.ptr fid 0 0 0) (.var cs) := by
  refine ⟨by simp, _, _, 0, hrun, ?_, rfl, v.cells, t, heap_push_eq, hv.mono (Gh.new_le hs hf)⟩
  have : (G.new fid w.heap.size 0).phi fid = some (w.heap.size, 0) := if_pos rfl
  exact RV.ptr (ix := 0) (sz := 0) (off := 0) this
theorem n_alloc {t fid : Nat} {k : Blk} {a : AV} (ho : o.op = .alloc t) (hs : St G w M) (hf : G.phi fid = none) (h : oNewVar (zeroC P t) fid M = .val a M') : ∃ k, Mk P G ρ o w fid a k ∧ M' = newB M fid k := by
  unfold oNewVar at h
  split at h
  · rename_i cs hz
    cases h
    obtain ⟨v, h1, h2, _, _⟩ := zeroC_ok (G := G) hz w
    refine ⟨_, mk_var hs hf h2 (t := t) ?_, rfl⟩
    unfold execOp
    rw [ho]
    simp only [Instr.alloc, Sem.run_bind, h1, Result.andThen_ok, newVar, newRow, run_newObj, Sem.run_pure]
  · cases h
theorem n_box {t fid : Nat} {x : Operand} {a : AV} (ho : o.op = .box t x) (hs : St G w M) (hf : G.phi fid = none) (hx : RV G (ρ x) (ev x)) (h : oNewVar (ev x).cells fid M = .val a M') : ∃ k, Mk P G ρ o w fid a k ∧ M' = newB M fid k := by
  unfold oNewVar at h
  split at h
  · rename_i cs hz
    cases h
    refine ⟨_, mk_var hs hf (hx.cells hz).1 (t := t) ?_, rfl⟩
    unfold execOp
    rw [ho]
    simp only [Instr.box, Sem.run_bind, Result.andThen_ok, newVar, newRow, run_newObj, Sem.run_pure]
  · cases h
theorem n_map {t fid : Nat} {a : AV} (ho : o.op = .makeMap t none) (hs : St G w M) (hf : G.phi fid = none) (h : hMkM t none P ev M fid = .val a M') : ∃ k, Mk P G ρ o w fid a k ∧ M' = newB M fid k := by
  cases h
  have hne : mkMB P t ≠ .gone := by
    unfold mkMB mkMB2
    repeat' split
    all_goals simp
  have hB : BlkR (G.new fid w.heap.size 0) { w with heap := w.heap.push (.map #[] 0) } w.heap.size 0 (mkMB P t) := by
    have h1 : BlkR (G.new fid w.heap.size 0) { w with heap := w.heap.push (.map #[] 0) } w.heap.size 0 (.map []) := ⟨rfl, #[], 0, heap_push_eq, rfl, fun j e p h => by simp at h⟩
    unfold mkMB mkMB2
    repeat' split
    all_goals first | exact h1 | exact ⟨rfl, #[], 0, heap_push_eq, fun e he => by simp at he, fun n => rfl⟩
  refine ⟨mkMB P t, ⟨hne, .map (some w.heap.size), .map #[] 0, 0, ?_, ?_, hB⟩, rfl⟩
  · unfold execOp
    rw [ho]
    rfl
  · have : (G.new fid w.heap.size 0).phi fid = some (w.heap.size, 0) := if_pos rfl
    exact .map this
end
end Go.Proofs.YtbknpfckdnladaaGreat
