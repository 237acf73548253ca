/- The contracts of mdcheck.Fits and mdcheck.Pair. For every description that lies in memory; no other condition. -/
import Derived.Test.YthomndfagpeniaaMgF
namespace Go.Proofs.Ythomndfagpeniaa
open Go.RowKit
attribute [local go_sem] Oper.semAt_some
variable {W : World} {n1 bc : Nat} {V : MV} {M : Mach} {N : List ByteArray} {L : List Pl}

/-- A row stays, if only a block of one number is written. -/
theorem Tab.one {W W' : World} {n0 size b : Nat} {v : Value} {rows : List (List Value)} {x : Int} {t : TypeId} {fr : Nat × Nat} (h : Tab W n0 size v rows) (hn : n0 ≤ W.heap.size) (hb : W.heap[b]? = some (.cells #[.int .i64 x] t fr)) (hk : Keep (fun k => k = b) W W')
    (hne : 2 ≤ size ∨ ∀ u ∈ rows.flatten, ∃ s, u = .string s) : Tab W' n0 size v rows := by
  by_cases ho : v.ownBlock = some b
  · refine ⟨⟨h.row.1, ?_⟩, h.len, h.blk⟩
    by_cases hf : rows.flatten = []
    · rcases h.row.2 with h2 | ⟨a, cap, rfl, h1, h2, hc⟩
      · exact Or.inl h2
      · exact Or.inr ⟨a, cap, rfl, h1, h2, fun j u hj => by rw [hf] at hj; cases hj⟩
    · exfalso
      obtain ⟨q, off, cap, rfl, _, _, _, hc⟩ := h.row.at hf
      have eq : q = b := by simpa [Value.ownBlock] using ho
      subst eq
      have cell : ∀ j u, W.cell? ⟨q, j, none⟩ = some u → j = 0 ∧ u = .int .i64 x := by
        intro j u hj
        simp only [World.cell?, hb] at hj
        cases j with
        | zero => simp at hj; exact ⟨rfl, hj.symm⟩
        | succ j => simp at hj
      obtain ⟨u0, h0⟩ : ∃ u, rows.flatten[0]? = some u := by
        cases hr : rows.flatten with
        | nil => exact absurd hr hf
        | cons u l => exact ⟨u, rfl⟩
      rcases hne with h2 | hs
      · have hlen : 0 < rows.length := by
          rcases Nat.eq_zero_or_pos rows.length with e | e
          · rw [List.length_eq_zero_iff.1 e] at hf; exact absurd rfl hf
          · exact e
        have hl2 : 1 < rows.flatten.length := by
          rw [h.row.1]
          exact Nat.lt_of_lt_of_le (by omega) (Nat.le_trans h2 (Nat.le_mul_of_pos_left _ hlen))
        have := (cell _ _ (hc 1 _ (List.getElem?_eq_getElem hl2))).1
        omega
      · obtain ⟨s, rfl⟩ := hs u0 (List.mem_of_getElem? h0)
        have := (cell _ _ (hc 0 _ h0)).2
        cases this
  · refine ⟨h.row.same0 fun k e hz => ?_, h.len, h.blk⟩
    exact hk.block k (Nat.lt_of_lt_of_le (h.blk k e (fun e2 => hz (by rw [e2]; rfl))) hn) (fun ek => ho (by rw [e, ek]))

def AskedPost1 {α : Type} (W : World) (D : World → Except Int α → World → Prop) (e : Ending) (w2 : World) : Prop :=
  ∃ r W' w1, e = .returned (.int .i64 (codeOf r)) ∧ Ext W W' ∧ D W' r w1 ∧ (∃ t fr, w1.heap[W.heap.size]? = some (.cells #[.int .i64 0] t fr)) ∧ Keep (fun k => k = W.heap.size) w1 w2
/-- asked does what it is given: it writes nothing but its own cell. -/
theorem askedM1 {g : Nat} {lb : Array Value} {W : World} {α : Type} (val : α → Value) (D : World → Except Int α → World → Prop) (eg : ∀ args w, (callFunc g args).run Try.prog w = .ok (.enter g args) w)
    (hD : ∀ W' r w1, D W' r w1 → Keep (fun k => k < W.heap.size) W' w1)
    (hdo : ∀ W', Ext W W' → Calls Try.prog g lb W' fun e w1 => ∃ r, e = endOf val r ∧ D W' r w1) :
    Calls Try.prog 22 #[.func (.func g) #[] lb] W (AskedPost1 W D) := by
  have hmf : ∀ (fn : Fn) (first cap : Array Value) (w : World), (Instr.makeFunc fn first cap).run Try.prog w = .ok (.func fn first cap) w := fun _ _ _ _ => rfl
  go_enter_defers Try.func22, Try.ntmps22
  have HDO := Lib.hid (hdo _ (Ext.alloc W (.cells #[.int .i64 0] 30)))
  have HD := Lib.hid hD
  clear hdo hD
  go_wp2_with fail
  refine HDO.out.mono ?_
  rintro e w1 ⟨r, rfl, hd1⟩
  have hk := HD.out _ _ _ hd1
  have hb : w1.heap[W.heap.size]? = some (.cells #[.int .i64 0] 30 (0, 0)) := by
    rw [hk.block W.heap.size (by simp) (by show ¬ _ < _; omega)]
    exact heap_alloc_new W _
  have D1 := Lib.hid hd1
  have XW : Ext W (W.alloc (.cells #[.int .i64 0] 30)) := Ext.alloc _ _
  clear hd1 HDO HD hk
  cases r with
  | error x =>
    unfold endOf stopM
    go_wp2_with fail
    refine leaves_cons (f := 47) (args := #[.pointer (some ⟨W.heap.size, 0, none⟩)]) (by simp) (by simp [go_sem]) ?_
    refine (asked1_rec W.heap.size x _ _ hb).mono ?_
    rintro e u' w'' ⟨rfl, rfl, k2, b2⟩
    have c2 := cell_of_one b2
    simp [Leaves, settle, results, Try.results22, go_sem, c2]
    exact ⟨.error x, _, _, rfl, XW, D1.out, ⟨_, _, hb⟩, k2⟩
  | ok u =>
    unfold endOf
    have c1 := cell_of_one hb
    have f1 := free_of_one hb
    go_wp2_with fail
    refine leaves_cons (f := 47) (args := #[.pointer (some ⟨W.heap.size, 0, none⟩)]) (by simp) (by simp [go_sem]) ?_
    refine (asked1_ret W.heap.size _).mono ?_
    rintro e u' w'' ⟨rfl, rfl, rfl⟩
    have b2 : (w1.setCell ⟨W.heap.size, 0, none⟩ (.int .i64 0)).heap[W.heap.size]? = some (.cells #[.int .i64 0] 30 (0, 0)) := heap_set_cells hb 0 _
    have c2 := cell_of_one b2
    have k2 := Keep.setCell (fun k => k = W.heap.size) w1 ⟨W.heap.size, 0, none⟩ (.int .i64 0) rfl
    generalize w1.setCell ⟨W.heap.size, 0, none⟩ (.int .i64 0) = w2 at c2 k2 ⊢
    simp [Leaves, settle, results, Try.results22, go_sem, c2]
    exact ⟨.ok u, _, _, rfl, XW, D1.out, ⟨_, _, hb⟩, k2⟩

/-- The name, the registers and the classes. -/
def upto2 (M : Mach) : Except Int (List ByteArray × List Pl) := match headS M with
  | .error x => .error x
  | .ok (N, L) => match classesS M N L with
    | .error x => .error x
    | .ok _ => .ok (N, L)
/-- The name, the registers, the classes and the operations. -/
def upto3 (M : Mach) : Except Int (List ByteArray × List Pl) := match headS M with
  | .error x => .error x
  | .ok (N, L) => match classesS M N L with
    | .error x => .error x
    | .ok _ => match opsS M N L with
      | .error x => .error x
      | .ok _ => .ok (N, L)
abbrev unitW (_ : List ByteArray × List Pl) : Value := .tuple #[]
/-- What is so behind some parts of the check. -/
def PartAt (W : World) (bc : Nat) (V : MV) (M : Mach) (r : Except Int (List ByteArray × List Pl)) (W' : World) : Prop :=
  Keep (fun k => k = bc) W W' ∧ ∀ N L, r = .ok (N, L) → ∃ vN vP, CkIn W' W'.heap.size bc { V with vN := vN, vP := vP } M N L
theorem upto2_ok (h : upto2 M = .ok (N, L)) : headS M = .ok (N, L) ∧ classesS M N L = .ok () := by
  unfold upto2 at h
  split at h
  · cases h
  · rename_i N' L' hh
    split at h
    · cases h
    · rename_i u hc
      injection h with h
      cases h
      exact ⟨hh, hc⟩
theorem upto3_ok (h : upto3 M = .ok (N, L)) : headS M = .ok (N, L) ∧ classesS M N L = .ok () ∧ opsS M N L = .ok () := by
  unfold upto3 at h
  split at h
  · cases h
  · rename_i N' L' hh
    split at h
    · cases h
    · rename_i u hc
      split at h
      · cases h
      · rename_i u2 ho
        injection h with h
        cases h
        exact ⟨hh, hc, ho⟩

set_option maxRecDepth 100000 in
set_option maxHeartbeats 4000000 in
theorem pair1M {n0 b0 : Nat} (h : Ck0 W n0 bc V M) (hb : W.cell? ⟨b0, 0, none⟩ = some (.pointer (some ⟨bc, 0, none⟩))) (hne : b0 ≠ bc) :
    Calls Try.prog 44 #[.pointer (some ⟨b0, 0, none⟩)] W fun e W' => e = endOf unitW (upto2 M) ∧ PartAt W bc V M (upto2 M) W' := by
  generalize hres : upto2 M = res
  have hcall := Lib.hid (headM_any h)
  have H := Lib.hid h
  clear h
  go_enter Try.func44, Try.ntmps44
  unfold upto2 at hres
  cases hs : headS M with
  | error x =>
    rw [hs] at hcall hres
    subst hres
    go_wp2_with (go_at_call 24; refine hcall.out.mono ?_; rintro e w' ⟨k2, he⟩; dsimp only at he; unfold stopM at he; subst he)
    exact ⟨rfl, rfl, k2, fun N L e => by cases e⟩
  | ok q =>
    obtain ⟨N, L⟩ := q
    rw [hs] at hcall hres
    dsimp only at hres
    have HR := Lib.hid hres
    clear hres
    go_upto_region 1 with (go_at_call 24; refine hcall.out.mono ?_; rintro e W3 ⟨k2, rfl, vN, vP, hck⟩; have K2 := Lib.hid k2; have CK := Lib.hid hck; clear k2 hck)
    have hb := K2.out.cell hb hne
    have hcall := Lib.hid (classesM_any CK.out)
    cases hc : classesS M N L with
    | error x =>
      rw [hc] at hcall
      have e1 := HR.out
      rw [hc] at e1
      subst e1
      clear HR
      go_wp2_with (go_at_call 25; refine hcall.out.mono ?_; rintro e w' ⟨he, x2⟩; unfold endOf stopM at he; subst he)
      exact ⟨rfl, rfl, K2.out.trans (Keep.of_ext x2 : Keep (fun k => k = bc) W3 w') (fun _ _ h => h), fun N L e => by cases e⟩
    | ok u =>
      rw [hc] at hcall
      have e1 := HR.out
      rw [hc] at e1
      subst e1
      clear HR
      go_wp2_with (go_at_call 25; refine hcall.out.mono ?_; rintro e W4 ⟨he, x2⟩; unfold endOf unitV at he; subst he; have X4 := Lib.hid x2; clear x2)
      go_end0
      exact ⟨rfl, K2.out.trans (Keep.of_ext X4.out : Keep (fun k => k = bc) W3 W4) (fun _ _ h => h), fun N L e => by cases e; exact ⟨vN, vP, (CK.out.ext X4.out).up X4.out.size (Nat.le_refl _)⟩⟩

set_option maxRecDepth 100000 in
set_option maxHeartbeats 4000000 in
theorem fits1M {n0 b0 : Nat} (h : Ck0 W n0 bc V M) (hb : W.cell? ⟨b0, 0, none⟩ = some (.pointer (some ⟨bc, 0, none⟩))) (hne : b0 ≠ bc) :
    Calls Try.prog 42 #[.pointer (some ⟨b0, 0, none⟩)] W fun e W' => e = endOf unitW (upto3 M) ∧ PartAt W bc V M (upto3 M) W' := by
  generalize hres : upto3 M = res
  have hcall := Lib.hid (headM_any h)
  have H := Lib.hid h
  clear h
  go_enter Try.func42, Try.ntmps42
  unfold upto3 at hres
  cases hs : headS M with
  | error x =>
    rw [hs] at hcall hres
    subst hres
    go_wp2_with (go_at_call 24; refine hcall.out.mono ?_; rintro e w' ⟨k2, he⟩; dsimp only at he; unfold stopM at he; subst he)
    exact ⟨rfl, rfl, k2, fun N L e => by cases e⟩
  | ok q =>
    obtain ⟨N, L⟩ := q
    rw [hs] at hcall hres
    dsimp only at hres
    have HR := Lib.hid hres
    clear hres
    go_upto_region 1 with (go_at_call 24; refine hcall.out.mono ?_; rintro e W3 ⟨k2, rfl, vN, vP, hck⟩; have K2 := Lib.hid k2; have CK := Lib.hid hck; clear k2 hck)
    have hb := K2.out.cell hb hne
    have hcall := Lib.hid (classesM_any CK.out)
    cases hc : classesS M N L with
    | error x =>
      rw [hc] at hcall
      have e1 := HR.out
      rw [hc] at e1
      subst e1
      clear HR
      go_wp2_with (go_at_call 25; refine hcall.out.mono ?_; rintro e w' ⟨he, x2⟩; unfold endOf stopM at he; subst he)
      exact ⟨rfl, rfl, K2.out.trans (Keep.of_ext x2 : Keep (fun k => k = bc) W3 w') (fun _ _ h => h), fun N L e => by cases e⟩
    | ok u =>
      rw [hc] at hcall
      have HC := Lib.hid hc
      have HR2 := HR.out
      rw [hc] at HR2
      dsimp only at HR2
      have HR2 := Lib.hid HR2
      clear HR hc
      go_upto_region 2 with (go_at_call 25; refine hcall.out.mono ?_; rintro e W4 ⟨he, x2⟩; unfold endOf unitV at he; subst he; have X4 := Lib.hid x2; clear x2)
      have hb := X4.out.cell hb
      have hcall := Lib.hid (opsM_any ((CK.out.ext X4.out).up X4.out.size (Nat.le_refl _)) (regs_of HC.out))
      have K4 : Hid (Keep (fun k => k = bc) W W4) := Lib.hid (K2.out.trans (Keep.of_ext X4.out : Keep (fun k => k = bc) W3 W4) (fun _ _ h => h))
      cases ho : opsS M N L with
      | error x =>
        rw [ho] at hcall
        have e1 := HR2.out
        rw [ho] at e1
        subst e1
        clear HR2
        go_wp2_with (go_at_call 26; refine hcall.out.mono ?_; rintro e w' ⟨he, x2⟩; unfold endOf stopM at he; subst he)
        exact ⟨rfl, rfl, K4.out.trans (Keep.of_ext x2 : Keep (fun k => k = bc) W4 w') (fun _ _ h => h), fun N L e => by cases e⟩
      | ok u =>
        rw [ho] at hcall
        have e1 := HR2.out
        rw [ho] at e1
        subst e1
        clear HR2
        go_wp2_with (go_at_call 26; refine hcall.out.mono ?_; rintro e W5 ⟨he, x2⟩; unfold endOf unitV at he; subst he; have X5 := Lib.hid x2; clear x2)
        go_end0
        exact ⟨rfl, K4.out.trans (Keep.of_ext X5.out : Keep (fun k => k = bc) W4 W5) (fun _ _ h => h), fun N L e => by cases e; exact ⟨vN, vP, (CK.out.ext (X4.out.trans X5.out)).up (Ext.size (X4.out.trans X5.out)) (Nat.le_refl _)⟩⟩

theorem CkIn.one {w1 w2 : World} {n0 b : Nat} {x : Int} {t : TypeId} {fr : Nat × Nat} (h : CkIn w1 w1.heap.size bc V M N L) (hb : w1.heap[b]? = some (.cells #[.int .i64 x] t fr)) (hk : Keep (fun k => k = b) w1 w2) (hne : bc ≠ b) (hm : MachIn w2 n0 V.vR V.vC V.vO V.vA V.vS M) (hn : n0 ≤ w2.heap.size) : CkIn w2 w2.heap.size bc V M N L := by
  have hs := hk.size
  refine ⟨fun j v hj => hk.cell (h.cells j v hj) hne, Nat.lt_of_lt_of_le h.lt hs, Nat.le_refl _, hm.up hn, ?_, ?_, h.fit, h.len⟩
  · refine Tab.up (Tab.one h.nm (Nat.le_refl _) hb hk (Or.inr fun u hu => ?_)) hs
    rw [strs_flat] at hu
    obtain ⟨s, _, rfl⟩ := List.mem_map.1 hu
    exact ⟨s, rfl⟩
  · exact Tab.up (Tab.one h.pl (Nat.le_refl _) hb hk (Or.inl (by decide))) hs

/-- Whether an operation fits: what mdcheck.Fits answers. -/
def fitsT (M : Mach) (op : Int) : Bool := match upto3 M with
  | .error _ => false
  | .ok (N, L) => if 0 ≤ op then (match M.ops[op.toNat]? with
    | none => false
    | some o => fitsS M N L o) else false

set_option maxRecDepth 100000 in
set_option maxHeartbeats 4000000 in
/-- mdcheck.Fits. -/
theorem fitsT_any {n0 : Nat} {vR vC vO vA vS : Value} (hm : MachIn W n0 vR vC vO vA vS M) (hn : n0 ≤ W.heap.size) (op : Int) (hop : fits64 op) (hx : ∀ x, upto3 M = .error x → x ≠ 0) :
    Calls Try.prog 18 #[.agg #[.string M.name, vR, vC, vO, vA, .string M.result, vS, .int .i64 M.slots], .int .i64 op] W fun e W' => e = .returned (.bool (fitsT M op)) ∧ Ext W W' := by
  obtain ⟨aR, nR, cR, rfl⟩ : ∃ a n c, vR = .slice a n c := by
    cases hm.regs with
    | mk vs hl hrow hb hw hs => obtain ⟨a, c, e, _, _⟩ := hrow.shape; exact ⟨a, _, c, e⟩
  obtain ⟨aC, cC, rfl, _, _⟩ := hm.cls.form
  obtain ⟨aO, cO, rfl, _, _⟩ := hm.ops.form
  obtain ⟨aA, cA, rfl, _, _⟩ := hm.args.form
  obtain ⟨aS, cS, rfl, _, _⟩ := hm.saved.form
  have HM := Lib.hid hm
  generalize hres : fitsT M op = res
  unfold fitsT at hres
  obtain ⟨vm, hvm⟩ : ∃ v, v = [Value.string M.name, .slice aR nR cR, .slice aC M.classes.length cC, .slice aO M.ops.length cO, .slice aA M.args.length cA, .string M.result, .slice aS M.saved.length cS, .int .i64 M.slots] := ⟨_, rfl⟩
  obtain ⟨c1, c2, c3⟩ := cells_three W [.string M.name, .slice aR nR cR, .slice aC M.classes.length cC, .slice aO M.ops.length cO, .slice aA M.args.length cA, .string M.result, .slice aS M.saved.length cS, .int .i64 M.slots]
    [.string M.name, .slice aR nR cR, .slice aC M.classes.length cC, .slice aO M.ops.length cO, .slice aA M.args.length cA, .string M.result, .slice aS M.saved.length cS, .int .i64 M.slots, .slice none 0 0, .slice none 0 0] [.pointer (some ⟨W.heap.size + 1, 0, none⟩)] 27 61 58
  have X0 : Ext W (((W.alloc (.cells #[.string M.name, .slice aR nR cR, .slice aC M.classes.length cC, .slice aO M.ops.length cO, .slice aA M.args.length cA, .string M.result, .slice aS M.saved.length cS, .int .i64 M.slots] 27)).alloc (.cells #[.string M.name, .slice aR nR cR, .slice aC M.classes.length cC, .slice aO M.ops.length cO, .slice aA M.args.length cA, .string M.result, .slice aS M.saved.length cS, .int .i64 M.slots, .slice none 0 0, .slice none 0 0] 61)).alloc (.cells #[.pointer (some ⟨W.heap.size + 1, 0, none⟩)] 58)) := ((Ext.alloc _ _).trans (Ext.alloc _ _)).trans (Ext.alloc _ _)
  have blk : (((W.alloc (.cells #[.string M.name, .slice aR nR cR, .slice aC M.classes.length cC, .slice aO M.ops.length cO, .slice aA M.args.length cA, .string M.result, .slice aS M.saved.length cS, .int .i64 M.slots] 27)).alloc (.cells #[.string M.name, .slice aR nR cR, .slice aC M.classes.length cC, .slice aO M.ops.length cO, .slice aA M.args.length cA, .string M.result, .slice aS M.saved.length cS, .int .i64 M.slots, .slice none 0 0, .slice none 0 0] 61)).alloc (.cells #[.pointer (some ⟨W.heap.size + 1, 0, none⟩)] 58)).heap[W.heap.size + 1]? = some (.cells #[.string M.name, .slice aR nR cR, .slice aC M.classes.length cC, .slice aO M.ops.length cO, .slice aA M.args.length cA, .string M.result, .slice aS M.saved.length cS, .int .i64 M.slots, .slice none 0 0, .slice none 0 0] 61 (0, 0)) := by
    refine (Ext.alloc _ _).block ?_
    have := heap_alloc_new (W.alloc (.cells #[.string M.name, .slice aR nR cR, .slice aC M.classes.length cC, .slice aO M.ops.length cO, .slice aA M.args.length cA, .string M.result, .slice aS M.saved.length cS, .int .i64 M.slots] 27)) (.cells #[.string M.name, .slice aR nR cR, .slice aC M.classes.length cC, .slice aO M.ops.length cO, .slice aA M.args.length cA, .string M.result, .slice aS M.saved.length cS, .int .i64 M.slots, .slice none 0 0, .slice none 0 0] 61)
    rw [show (W.alloc (.cells #[.string M.name, .slice aR nR cR, .slice aC M.classes.length cC, .slice aO M.ops.length cO, .slice aA M.args.length cA, .string M.result, .slice aS M.saved.length cS, .int .i64 M.slots] 27)).heap.size = W.heap.size + 1 by simp] at this
    exact this
  have p0 := cell_of_one c3
  have q3 := c1 3 _ rfl
  have X1 := Lib.hid X0
  have B1 := Lib.hid blk
  have P1 := Lib.hid p0
  have Q3 := Lib.hid q3
  have HX := Lib.hid hx
  have HRES := Lib.hid hres
  clear hm c1 c2 c3 X0 blk p0 hvm vm q3 hx hres
  go_enter Try.func18, Try.ntmps18
  go_wp2_with fail
  simp only [Nat.add_assoc, Nat.reduceAdd]
  generalize ((W.alloc (.cells #[.string M.name, .slice aR nR cR, .slice aC M.classes.length cC, .slice aO M.ops.length cO, .slice aA M.args.length cA, .string M.result, .slice aS M.saved.length cS, .int .i64 M.slots] 27)).alloc (.cells #[.string M.name, .slice aR nR cR, .slice aC M.classes.length cC, .slice aO M.ops.length cO, .slice aA M.args.length cA, .string M.result, .slice aS M.saved.length cS, .int .i64 M.slots, .slice none 0 0, .slice none 0 0] 61)).alloc (.cells #[.pointer (some ⟨W.heap.size + 1, 0, none⟩)] 58) = W1 at X1 B1 P1 Q3 ⊢
  have CK0 : Ck0 W1 n0 (W.heap.size + 1) ⟨.slice aR nR cR, .slice aC M.classes.length cC, .slice aO M.ops.length cO, .slice aA M.args.length cA, .slice aS M.saved.length cS, .slice none 0 0, .slice none 0 0⟩ M :=
    ⟨B1.out, by omega, HM.out.same (fun k hk => Below.block X1.out k (Nat.lt_of_lt_of_le hk hn))⟩
  have hl1 : W.heap.size + 1 < W1.heap.size := (Array.getElem?_eq_some_iff.1 B1.out).1
  have hl2 : W.heap.size + 2 < W1.heap.size := World.block_lt_of_cell? W1 _ P1.out
  refine (askedM1 (g := 42) (lb := #[.pointer (some ⟨W.heap.size + 2, 0, none⟩)]) unitW (fun W' r w1 => r = upto3 M ∧ PartAt W' (W.heap.size + 1) ⟨.slice aR nR cR, .slice aC M.classes.length cC, .slice aO M.ops.length cO, .slice aA M.args.length cA, .slice aS M.saved.length cS, .slice none 0 0, .slice none 0 0⟩ M r w1) (fun args w => by kernel_rfl) (fun W' r w1 h => h.2.1.mono (fun k e => by omega))
    (fun W' x => (fits1M (CK0.ext x) (x.cell P1.out) (by omega)).mono (fun e w1 h => ⟨_, h.1, rfl, h.2⟩))).mono ?_
  rintro e w2 ⟨r, W', w1, rfl, x2, ⟨rfl, k2, hpa⟩, ⟨ty, fr, hb1⟩, k3⟩
  have KF : Keep (fun k => W.heap.size ≤ k) W w2 := (((Keep.of_ext X1.out).trans (Keep.of_ext x2 : Keep (fun k => W.heap.size ≤ k) W1 W') (fun _ _ h => h)).trans (k2.mono (S' := fun k => W.heap.size ≤ k) (fun k e => by omega)) (fun _ _ h => h)).trans (k3.mono (S' := fun k => W.heap.size ≤ k) (fun k (e : k = W1.heap.size) => by omega)) (fun _ _ h => h)
  have XF := Lib.hid (Keep.toExt KF (fun _ h => h))
  have HM2 : MachIn w2 n0 (.slice aR nR cR) (.slice aC M.classes.length cC) (.slice aO M.ops.length cO) (.slice aA M.args.length cA) (.slice aS M.saved.length cS) M := HM.out.same (fun k hk => Below.block XF.out k (Nat.lt_of_lt_of_le hk hn))
  have hs2 := XF.out.size
  have hz2 : W1.heap.size ≤ w2.heap.size := Nat.le_trans x2.size (Nat.le_trans k2.size k3.size)
  have p2 : w2.cell? ⟨W.heap.size + 2, 0, none⟩ = some (.pointer (some ⟨W.heap.size + 1, 0, none⟩)) := k3.cell (k2.cell (x2.cell P1.out) (by show ¬ (W.heap.size + 2 = W.heap.size + 1); omega)) (by show ¬ (W.heap.size + 2 = W1.heap.size); omega)
  have q2 : w2.cell? ⟨W.heap.size, 3, none⟩ = some (.slice aO M.ops.length cO) := k3.cell (k2.cell (x2.cell Q3.out) (by show ¬ (W.heap.size = W.heap.size + 1); omega)) (by show ¬ (W.heap.size = W1.heap.size); omega)
  have HCK := Lib.hid (fun N L (hr : upto3 M = .ok (N, L)) => (hpa N L hr).imp fun vN h => h.imp fun vP h => CkIn.one h hb1 k3 (by omega) HM2 (by omega))
  clear KF k2 k3 x2 CK0 hpa hb1 HM2 X1 B1 P1 Q3
  cases hr : upto3 M with
  | error x =>
    have hx0 := HX.out x hr
    have HR := HRES.out
    rw [hr] at HR
    subst HR
    clear HX HRES HCK
    unfold codeOf
    have hd : (x == 0) = false := beq_eq_false_iff_ne.2 hx0
    go_upto_region 3 with (fail)
    go_quiet (fail)
    go_wp2_with fail
    go_ret
    exact ⟨rfl, XF.out.trans (Ext.drewN _ nq)⟩
  | ok NL =>
    obtain ⟨N, L⟩ := NL
    obtain ⟨vN, vP, hck⟩ := HCK.out N L hr
    obtain ⟨hhd, hcl, hop2⟩ := upto3_ok hr
    have HR := HRES.out
    rw [hr] at HR
    dsimp only at HR
    have CK := Lib.hid hck
    have VA := Lib.hid (valid_of hcl hop2)
    clear HX HRES HCK hck hhd hcl hop2 hr
    unfold codeOf
    by_cases h0 : op < 0
    · rw [if_neg (by omega)] at HR
      subst HR
      have hd : decide (0 ≤ op) = false := decide_eq_false (by omega)
      go_upto_region 3 with (fail)
      go_quiet (fail)
      go_wp2_with fail
      go_ret
      exact ⟨rfl, XF.out.trans (Ext.drewN _ nq)⟩
    · rw [if_pos (by omega)] at HR
      obtain ⟨k, rfl⟩ : ∃ k : Nat, op = k := ⟨op.toNat, by omega⟩
      rw [Int.toNat_natCast] at HR
      by_cases h1 : M.ops.length ≤ k
      · rw [List.getElem?_eq_none h1] at HR
        subst HR
        have h1z : (M.ops.length : Int) ≤ (k : Int) := by omega
        have hd : decide (k < M.ops.length) = false := decide_eq_false (by omega)
        have hd2 : decide ((k : Int) < (M.ops.length : Int)) = false := decide_eq_false (by omega)
        go_upto_region 3 with (fail)
        go_quiet (fail)
        go_wp2_with fail
        go_ret
        exact ⟨rfl, XF.out.trans (Ext.drewN _ nq)⟩
      · have h1z : (k : Int) < (M.ops.length : Int) := by omega
        obtain ⟨o, ho⟩ : ∃ o, M.ops[k]? = some o := ⟨_, List.getElem?_eq_getElem (by omega)⟩
        rw [ho] at HR
        dsimp only at HR
        obtain ⟨ob, ooff, ocap, vU, vK, eo, _, _, hob, o0, o1, o2, o3, o4, o5, hU, hK, _⟩ := CK.out.m.ops.at ho
        dsimp only at eo
        cases eo
        have hok := VA.out.ops o (List.mem_of_getElem? ho)
        have hcall := Lib.hid (fun (w3 : World) (x : Ext w2 w3) => fitsM (CK.out.ext x) o vU vK (Tab.same hU (fun k hk => Below.block x k (Nat.lt_of_lt_of_le hk CK.out.le))) (hK.ext CK.out.le x) hok)
        obtain ⟨ua, uc, eu, _, _⟩ := hU.form
        obtain ⟨ka, kc, ek, _, _⟩ := hK.form
        subst eu ek
        rw [HR] at hcall
        clear ho hU hK hok HR
        go_upto_region 3 with (fail)
        rename_i K1 hK1
        have hK1 := Lib.hid hK1
        refine wp_region_M (fun w' => Ext w2 w') 20 (by kernel_rfl) (Ext.drew _) (fun hS => ?_)
        refine wpAnyM_take (v := ?_) 0 rfl (by kernel_rfl) (fun _ _ _ h => h) hS rfl ?_ ?_; rotate_left; · (intro w hSw; have p9 := Ext.cell hSw q2; have p8 := Ext.cell hSw p2; have a0 := Ext.cell hSw o0; have a1 := Ext.cell hSw o1; have a2 := Ext.cell hSw o2; have a3 := Ext.cell hSw o3; have a4 := Ext.cell hSw o4; have a5 := Ext.cell hSw o5; (try dsimp only at hSw); go_simp; try with_reducible rfl)
        (try simp only [Act.put, List.setIfInBounds_toArray, List.set_cons_zero, List.set_cons_succ])
        refine wpAnyM_take (v := ?_) 1 rfl (by kernel_rfl) (fun _ _ _ h => h) hS rfl ?_ ?_; rotate_left; · (intro w hSw; have p9 := Ext.cell hSw q2; have p8 := Ext.cell hSw p2; have a0 := Ext.cell hSw o0; have a1 := Ext.cell hSw o1; have a2 := Ext.cell hSw o2; have a3 := Ext.cell hSw o3; have a4 := Ext.cell hSw o4; have a5 := Ext.cell hSw o5; (try dsimp only at hSw); go_simp; try with_reducible rfl)
        (try simp only [Act.put, List.setIfInBounds_toArray, List.set_cons_zero, List.set_cons_succ])
        refine wpAnyM_take (v := ?_) 2 rfl (by kernel_rfl) (fun _ _ _ h => h) hS rfl ?_ ?_; rotate_left; · (intro w hSw; have p9 := Ext.cell hSw q2; have p8 := Ext.cell hSw p2; have a0 := Ext.cell hSw o0; have a1 := Ext.cell hSw o1; have a2 := Ext.cell hSw o2; have a3 := Ext.cell hSw o3; have a4 := Ext.cell hSw o4; have a5 := Ext.cell hSw o5; (try dsimp only at hSw); go_simp; try with_reducible rfl)
        (try simp only [Act.put, List.setIfInBounds_toArray, List.set_cons_zero, List.set_cons_succ])
        refine wpAnyM_take (v := ?_) 3 rfl (by kernel_rfl) (fun _ _ _ h => h) hS rfl ?_ ?_; rotate_left; · (intro w hSw; have p9 := Ext.cell hSw q2; have p8 := Ext.cell hSw p2; have a0 := Ext.cell hSw o0; have a1 := Ext.cell hSw o1; have a2 := Ext.cell hSw o2; have a3 := Ext.cell hSw o3; have a4 := Ext.cell hSw o4; have a5 := Ext.cell hSw o5; (try dsimp only at hSw); go_simp; try with_reducible rfl)
        (try simp only [Act.put, List.setIfInBounds_toArray, List.set_cons_zero, List.set_cons_succ])
        refine wpAnyM_take (v := ?_) 4 rfl (by kernel_rfl) (fun _ _ _ h => h) hS rfl ?_ ?_; rotate_left; · (intro w hSw; have p9 := Ext.cell hSw q2; have p8 := Ext.cell hSw p2; have a0 := Ext.cell hSw o0; have a1 := Ext.cell hSw o1; have a2 := Ext.cell hSw o2; have a3 := Ext.cell hSw o3; have a4 := Ext.cell hSw o4; have a5 := Ext.cell hSw o5; (try dsimp only at hSw); go_simp; try with_reducible rfl)
        (try simp only [Act.put, List.setIfInBounds_toArray, List.set_cons_zero, List.set_cons_succ])
        refine wpAnyM_take (v := ?_) 5 rfl (by kernel_rfl) (fun _ _ _ h => h) hS rfl ?_ ?_; rotate_left; · (intro w hSw; have p9 := Ext.cell hSw q2; have p8 := Ext.cell hSw p2; have a0 := Ext.cell hSw o0; have a1 := Ext.cell hSw o1; have a2 := Ext.cell hSw o2; have a3 := Ext.cell hSw o3; have a4 := Ext.cell hSw o4; have a5 := Ext.cell hSw o5; (try dsimp only at hSw); go_simp; try with_reducible rfl)
        (try simp only [Act.put, List.setIfInBounds_toArray, List.set_cons_zero, List.set_cons_succ])
        refine wpAnyM_take (v := ?_) 6 rfl (by kernel_rfl) (fun _ _ _ h => h) hS rfl ?_ ?_; rotate_left; · (intro w hSw; have p9 := Ext.cell hSw q2; have p8 := Ext.cell hSw p2; have a0 := Ext.cell hSw o0; have a1 := Ext.cell hSw o1; have a2 := Ext.cell hSw o2; have a3 := Ext.cell hSw o3; have a4 := Ext.cell hSw o4; have a5 := Ext.cell hSw o5; (try dsimp only at hSw); go_simp; try with_reducible rfl)
        (try simp only [Act.put, List.setIfInBounds_toArray, List.set_cons_zero, List.set_cons_succ])
        refine wpAnyM_take (v := ?_) 7 rfl (by kernel_rfl) (fun _ _ _ h => h) hS rfl ?_ ?_; rotate_left; · (intro w hSw; have p9 := Ext.cell hSw q2; have p8 := Ext.cell hSw p2; have a0 := Ext.cell hSw o0; have a1 := Ext.cell hSw o1; have a2 := Ext.cell hSw o2; have a3 := Ext.cell hSw o3; have a4 := Ext.cell hSw o4; have a5 := Ext.cell hSw o5; (try dsimp only at hSw); go_simp; try with_reducible rfl)
        (try simp only [Act.put, List.setIfInBounds_toArray, List.set_cons_zero, List.set_cons_succ])
        refine wpAnyM_take (v := ?_) 8 rfl (by kernel_rfl) (fun _ _ _ h => h) hS rfl ?_ ?_; rotate_left; · (intro w hSw; have p9 := Ext.cell hSw q2; have p8 := Ext.cell hSw p2; have a0 := Ext.cell hSw o0; have a1 := Ext.cell hSw o1; have a2 := Ext.cell hSw o2; have a3 := Ext.cell hSw o3; have a4 := Ext.cell hSw o4; have a5 := Ext.cell hSw o5; (try dsimp only at hSw); go_simp; try with_reducible rfl)
        (try simp only [Act.put, List.setIfInBounds_toArray, List.set_cons_zero, List.set_cons_succ])
        refine wpAnyM_take (v := ?_) 9 rfl (by kernel_rfl) (fun _ _ _ h => h) hS rfl ?_ ?_; rotate_left; · (intro w hSw; have p9 := Ext.cell hSw q2; have p8 := Ext.cell hSw p2; have a0 := Ext.cell hSw o0; have a1 := Ext.cell hSw o1; have a2 := Ext.cell hSw o2; have a3 := Ext.cell hSw o3; have a4 := Ext.cell hSw o4; have a5 := Ext.cell hSw o5; (try dsimp only at hSw); go_simp; try with_reducible rfl)
        (try simp only [Act.put, List.setIfInBounds_toArray, List.set_cons_zero, List.set_cons_succ])
        refine wpAnyM_take (v := ?_) 10 rfl (by kernel_rfl) (fun _ _ _ h => h) hS rfl ?_ ?_; rotate_left; · (intro w hSw; have p9 := Ext.cell hSw q2; have p8 := Ext.cell hSw p2; have a0 := Ext.cell hSw o0; have a1 := Ext.cell hSw o1; have a2 := Ext.cell hSw o2; have a3 := Ext.cell hSw o3; have a4 := Ext.cell hSw o4; have a5 := Ext.cell hSw o5; (try dsimp only at hSw); go_simp; try with_reducible rfl)
        (try simp only [Act.put, List.setIfInBounds_toArray, List.set_cons_zero, List.set_cons_succ])
        refine wpAnyM_take (v := ?_) 11 rfl (by kernel_rfl) (fun _ _ _ h => h) hS rfl ?_ ?_; rotate_left; · (intro w hSw; have p9 := Ext.cell hSw q2; have p8 := Ext.cell hSw p2; have a0 := Ext.cell hSw o0; have a1 := Ext.cell hSw o1; have a2 := Ext.cell hSw o2; have a3 := Ext.cell hSw o3; have a4 := Ext.cell hSw o4; have a5 := Ext.cell hSw o5; (try dsimp only at hSw); go_simp; try with_reducible rfl)
        (try simp only [Act.put, List.setIfInBounds_toArray, List.set_cons_zero, List.set_cons_succ])
        refine wpAnyM_take (v := ?_) 12 rfl (by kernel_rfl) (fun _ _ _ h => h) hS rfl ?_ ?_; rotate_left; · (intro w hSw; have p9 := Ext.cell hSw q2; have p8 := Ext.cell hSw p2; have a0 := Ext.cell hSw o0; have a1 := Ext.cell hSw o1; have a2 := Ext.cell hSw o2; have a3 := Ext.cell hSw o3; have a4 := Ext.cell hSw o4; have a5 := Ext.cell hSw o5; (try dsimp only at hSw); go_simp; try with_reducible rfl)
        (try simp only [Act.put, List.setIfInBounds_toArray, List.set_cons_zero, List.set_cons_succ])
        refine wpAnyM_take (v := ?_) 13 rfl (by kernel_rfl) (fun _ _ _ h => h) hS rfl ?_ ?_; rotate_left; · (intro w hSw; have p9 := Ext.cell hSw q2; have p8 := Ext.cell hSw p2; have a0 := Ext.cell hSw o0; have a1 := Ext.cell hSw o1; have a2 := Ext.cell hSw o2; have a3 := Ext.cell hSw o3; have a4 := Ext.cell hSw o4; have a5 := Ext.cell hSw o5; (try dsimp only at hSw); go_simp; try with_reducible rfl)
        (try simp only [Act.put, List.setIfInBounds_toArray, List.set_cons_zero, List.set_cons_succ])
        refine wpAnyM_take (v := ?_) 14 rfl (by kernel_rfl) (fun _ _ _ h => h) hS rfl ?_ ?_; rotate_left; · (intro w hSw; have p9 := Ext.cell hSw q2; have p8 := Ext.cell hSw p2; have a0 := Ext.cell hSw o0; have a1 := Ext.cell hSw o1; have a2 := Ext.cell hSw o2; have a3 := Ext.cell hSw o3; have a4 := Ext.cell hSw o4; have a5 := Ext.cell hSw o5; (try dsimp only at hSw); go_simp; try with_reducible rfl)
        (try simp only [Act.put, List.setIfInBounds_toArray, List.set_cons_zero, List.set_cons_succ])
        refine wpAnyM_take (v := ?_) 15 rfl (by kernel_rfl) (fun _ _ _ h => h) hS rfl ?_ ?_; rotate_left; · (intro w hSw; have p9 := Ext.cell hSw q2; have p8 := Ext.cell hSw p2; have a0 := Ext.cell hSw o0; have a1 := Ext.cell hSw o1; have a2 := Ext.cell hSw o2; have a3 := Ext.cell hSw o3; have a4 := Ext.cell hSw o4; have a5 := Ext.cell hSw o5; (try dsimp only at hSw); go_simp; try with_reducible rfl)
        (try simp only [Act.put, List.setIfInBounds_toArray, List.set_cons_zero, List.set_cons_succ])
        refine wpAnyM_take (v := ?_) 16 rfl (by kernel_rfl) (fun _ _ _ h => h) hS rfl ?_ ?_; rotate_left; · (intro w hSw; have p9 := Ext.cell hSw q2; have p8 := Ext.cell hSw p2; have a0 := Ext.cell hSw o0; have a1 := Ext.cell hSw o1; have a2 := Ext.cell hSw o2; have a3 := Ext.cell hSw o3; have a4 := Ext.cell hSw o4; have a5 := Ext.cell hSw o5; (try dsimp only at hSw); go_simp; try with_reducible rfl)
        (try simp only [Act.put, List.setIfInBounds_toArray, List.set_cons_zero, List.set_cons_succ])
        refine wpAnyM_take (v := ?_) 17 rfl (by kernel_rfl) (fun _ _ _ h => h) hS rfl ?_ ?_; rotate_left; · (intro w hSw; have p9 := Ext.cell hSw q2; have p8 := Ext.cell hSw p2; have a0 := Ext.cell hSw o0; have a1 := Ext.cell hSw o1; have a2 := Ext.cell hSw o2; have a3 := Ext.cell hSw o3; have a4 := Ext.cell hSw o4; have a5 := Ext.cell hSw o5; (try dsimp only at hSw); go_simp; try with_reducible rfl)
        (try simp only [Act.put, List.setIfInBounds_toArray, List.set_cons_zero, List.set_cons_succ])
        refine wpAnyM_take (v := ?_) 18 rfl (by kernel_rfl) (fun _ _ _ h => h) hS rfl ?_ ?_; rotate_left; · (intro w hSw; have p9 := Ext.cell hSw q2; have p8 := Ext.cell hSw p2; have a0 := Ext.cell hSw o0; have a1 := Ext.cell hSw o1; have a2 := Ext.cell hSw o2; have a3 := Ext.cell hSw o3; have a4 := Ext.cell hSw o4; have a5 := Ext.cell hSw o5; (try dsimp only at hSw); go_simp; try with_reducible rfl)
        (try simp only [Act.put, List.setIfInBounds_toArray, List.set_cons_zero, List.set_cons_succ])
        refine wpAnyM_take (v := ?_) 19 rfl (by kernel_rfl) (fun _ _ _ h => h) hS rfl ?_ ?_; rotate_left; · (intro w hSw; have p9 := Ext.cell hSw q2; have p8 := Ext.cell hSw p2; have a0 := Ext.cell hSw o0; have a1 := Ext.cell hSw o1; have a2 := Ext.cell hSw o2; have a3 := Ext.cell hSw o3; have a4 := Ext.cell hSw o4; have a5 := Ext.cell hSw o5; (try dsimp only at hSw); go_simp; try with_reducible rfl)
        (try simp only [Act.put, List.setIfInBounds_toArray, List.set_cons_zero, List.set_cons_succ])
        generalize w2.drew = w3 at hS ⊢
        refine wpAnyM_ready [20] (by kernel_rfl) rfl ?_
        refine AllM.late rfl rfl (by kernel_rfl) (fun K hK => ?_) AllM.nil
        go_simp
        refine ((hcall.out w3 hS)).mono ?_
        rintro e w4 ⟨rfl, x4⟩
        have hS0 := hS
        have hS := Ext.trans hS x4
        refine hK.out _ _ ?_
        (try simp only [Act.put, List.setIfInBounds_toArray, List.set_cons_zero, List.set_cons_succ])
        clear hK K
        refine wpAnyM_takeW (v := ?_) 21 rfl (by kernel_rfl) (fun _ _ _ h => h) (by first | exact (fun _ => hS) | (intro h; cases h)) rfl ?_ ?_; rotate_left; · (intro w; go_simp; try with_reducible rfl)
        (try simp only [Act.put, List.setIfInBounds_toArray, List.set_cons_zero, List.set_cons_succ])
        refine wpAnyM_takeW (v := ?_) 22 rfl (by kernel_rfl) (fun _ _ _ h => h) (by first | exact (fun _ => hS) | (intro h; cases h)) rfl ?_ ?_; rotate_left; · (intro w; go_simp; try with_reducible rfl)
        (try simp only [Act.put, List.setIfInBounds_toArray, List.set_cons_zero, List.set_cons_succ])
        refine wpAnyM_done (by kernel_rfl) ?_ _
        refine hK1.out _ _ ?_
        go_wp2_with fail
        go_ret
        exact ⟨rfl, XF.out.trans hS⟩

/-- Whether a number is a class's: what Pair's own function answers. -/
theorem okM {bm : Nat} {aC : Option Addr} {n cC : Nat} (hc : W.cell? ⟨bm, 2, none⟩ = some (.slice aC n cC)) (a : Int) (ha : fits64 a) :
    Calls Try.prog 45 #[.int .i64 a, .pointer (some ⟨bm, 0, none⟩)] W fun e W' => e = .returned (.bool (decide (0 ≤ a ∧ a < n))) ∧ W = W' := by
  obtain ⟨res, hr⟩ : ∃ r, decide (0 ≤ a ∧ a < (n : Int)) = r := ⟨_, rfl⟩
  rw [hr]
  go_enter Try.func45, Try.ntmps45
  by_cases h0 : a < 0
  · have hd : decide (0 ≤ a) = false := decide_eq_false (by omega)
    have : res = false := by rw [← hr]; exact decide_eq_false (by omega)
    subst this
    clear hr
    go_wp2_with fail
    go_ret
    exact ⟨rfl, rfl⟩
  · obtain ⟨k, rfl⟩ : ∃ k : Nat, a = k := ⟨a.toNat, by omega⟩
    have h1 : (0 : Int) ≤ (k : Int) := by omega
    by_cases hk : k < n
    · have h2 : (k : Int) < (n : Int) := by omega
      have : res = true := by rw [← hr]; exact decide_eq_true ⟨h1, h2⟩
      subst this
      clear hr
      go_wp2_with fail
      go_ret
      exact ⟨rfl, rfl⟩
    · have h2 : ¬ (k : Int) < (n : Int) := by omega
      have h3 : decide (k < n) = false := decide_eq_false hk
      have : res = false := by rw [← hr]; exact decide_eq_false (by omega)
      subst this
      clear hr
      go_wp2_with fail
      go_ret
      exact ⟨rfl, rfl⟩
/-- Whether two classes are a pair: what mdcheck.Pair answers. -/
def pairT (M : Mach) (a b : Int) : Bool := match upto2 M with
  | .error _ => false
  | .ok (N, L) => if 0 ≤ a ∧ a < M.classes.length then (if 0 ≤ b ∧ b < M.classes.length then (match M.classes[a.toNat]?, M.classes[b.toNat]? with
    | some ca, some cb => pairS M N L ca.name cb.name
    | _, _ => false) else false) else false

set_option maxRecDepth 100000 in
set_option maxHeartbeats 4000000 in
/-- mdcheck.Pair. -/
theorem pairT_any {n0 : Nat} {vR vC vO vA vS : Value} (hm : MachIn W n0 vR vC vO vA vS M) (hn : n0 ≤ W.heap.size) (a b : Int) (hia : fits64 a) (hib : fits64 b) (hx : ∀ x, upto2 M = .error x → x ≠ 0) :
    Calls Try.prog 19 #[.agg #[.string M.name, vR, vC, vO, vA, .string M.result, vS, .int .i64 M.slots], .int .i64 a, .int .i64 b] W fun e W' => e = .returned (.bool (pairT M a b)) ∧ Ext W W' := by
  obtain ⟨aR, nR, cR, rfl⟩ : ∃ a n c, vR = .slice a n c := by
    cases hm.regs with
    | mk vs hl hrow hb hw hs => obtain ⟨a, c, e, _, _⟩ := hrow.shape; exact ⟨a, _, c, e⟩
  obtain ⟨aC, cC, rfl, _, _⟩ := hm.cls.form
  obtain ⟨aO, cO, rfl, _, _⟩ := hm.ops.form
  obtain ⟨aA, cA, rfl, _, _⟩ := hm.args.form
  obtain ⟨aS, cS, rfl, _, _⟩ := hm.saved.form
  have HM := Lib.hid hm
  generalize hres : pairT M a b = res
  unfold pairT at hres
  obtain ⟨vm, hvm⟩ : ∃ v, v = [Value.string M.name, .slice aR nR cR, .slice aC M.classes.length cC, .slice aO M.ops.length cO, .slice aA M.args.length cA, .string M.result, .slice aS M.saved.length cS, .int .i64 M.slots] := ⟨_, rfl⟩
  obtain ⟨c1, c2, c3⟩ := cells_three W [.string M.name, .slice aR nR cR, .slice aC M.classes.length cC, .slice aO M.ops.length cO, .slice aA M.args.length cA, .string M.result, .slice aS M.saved.length cS, .int .i64 M.slots]
    [.string M.name, .slice aR nR cR, .slice aC M.classes.length cC, .slice aO M.ops.length cO, .slice aA M.args.length cA, .string M.result, .slice aS M.saved.length cS, .int .i64 M.slots, .slice none 0 0, .slice none 0 0] [.pointer (some ⟨W.heap.size + 1, 0, none⟩)] 27 61 58
  have X0 : Ext W (((W.alloc (.cells #[.string M.name, .slice aR nR cR, .slice aC M.classes.length cC, .slice aO M.ops.length cO, .slice aA M.args.length cA, .string M.result, .slice aS M.saved.length cS, .int .i64 M.slots] 27)).alloc (.cells #[.string M.name, .slice aR nR cR, .slice aC M.classes.length cC, .slice aO M.ops.length cO, .slice aA M.args.length cA, .string M.result, .slice aS M.saved.length cS, .int .i64 M.slots, .slice none 0 0, .slice none 0 0] 61)).alloc (.cells #[.pointer (some ⟨W.heap.size + 1, 0, none⟩)] 58)) := ((Ext.alloc _ _).trans (Ext.alloc _ _)).trans (Ext.alloc _ _)
  have blk : (((W.alloc (.cells #[.string M.name, .slice aR nR cR, .slice aC M.classes.length cC, .slice aO M.ops.length cO, .slice aA M.args.length cA, .string M.result, .slice aS M.saved.length cS, .int .i64 M.slots] 27)).alloc (.cells #[.string M.name, .slice aR nR cR, .slice aC M.classes.length cC, .slice aO M.ops.length cO, .slice aA M.args.length cA, .string M.result, .slice aS M.saved.length cS, .int .i64 M.slots, .slice none 0 0, .slice none 0 0] 61)).alloc (.cells #[.pointer (some ⟨W.heap.size + 1, 0, none⟩)] 58)).heap[W.heap.size + 1]? = some (.cells #[.string M.name, .slice aR nR cR, .slice aC M.classes.length cC, .slice aO M.ops.length cO, .slice aA M.args.length cA, .string M.result, .slice aS M.saved.length cS, .int .i64 M.slots, .slice none 0 0, .slice none 0 0] 61 (0, 0)) := by
    refine (Ext.alloc _ _).block ?_
    have := heap_alloc_new (W.alloc (.cells #[.string M.name, .slice aR nR cR, .slice aC M.classes.length cC, .slice aO M.ops.length cO, .slice aA M.args.length cA, .string M.result, .slice aS M.saved.length cS, .int .i64 M.slots] 27)) (.cells #[.string M.name, .slice aR nR cR, .slice aC M.classes.length cC, .slice aO M.ops.length cO, .slice aA M.args.length cA, .string M.result, .slice aS M.saved.length cS, .int .i64 M.slots, .slice none 0 0, .slice none 0 0] 61)
    rw [show (W.alloc (.cells #[.string M.name, .slice aR nR cR, .slice aC M.classes.length cC, .slice aO M.ops.length cO, .slice aA M.args.length cA, .string M.result, .slice aS M.saved.length cS, .int .i64 M.slots] 27)).heap.size = W.heap.size + 1 by simp] at this
    exact this
  have p0 := cell_of_one c3
  have q3 := c1 2 _ rfl
  have X1 := Lib.hid X0
  have B1 := Lib.hid blk
  have P1 := Lib.hid p0
  have Q3 := Lib.hid q3
  have HX := Lib.hid hx
  have HRES := Lib.hid hres
  clear hm c1 c2 c3 X0 blk p0 hvm vm q3 hx hres
  go_enter Try.func19, Try.ntmps19
  go_wp2_with fail
  simp only [Nat.add_assoc, Nat.reduceAdd]
  generalize ((W.alloc (.cells #[.string M.name, .slice aR nR cR, .slice aC M.classes.length cC, .slice aO M.ops.length cO, .slice aA M.args.length cA, .string M.result, .slice aS M.saved.length cS, .int .i64 M.slots] 27)).alloc (.cells #[.string M.name, .slice aR nR cR, .slice aC M.classes.length cC, .slice aO M.ops.length cO, .slice aA M.args.length cA, .string M.result, .slice aS M.saved.length cS, .int .i64 M.slots, .slice none 0 0, .slice none 0 0] 61)).alloc (.cells #[.pointer (some ⟨W.heap.size + 1, 0, none⟩)] 58) = W1 at X1 B1 P1 Q3 ⊢
  have CK0 : Ck0 W1 n0 (W.heap.size + 1) ⟨.slice aR nR cR, .slice aC M.classes.length cC, .slice aO M.ops.length cO, .slice aA M.args.length cA, .slice aS M.saved.length cS, .slice none 0 0, .slice none 0 0⟩ M :=
    ⟨B1.out, by omega, HM.out.same (fun k hk => Below.block X1.out k (Nat.lt_of_lt_of_le hk hn))⟩
  have hl1 : W.heap.size + 1 < W1.heap.size := (Array.getElem?_eq_some_iff.1 B1.out).1
  have hl2 : W.heap.size + 2 < W1.heap.size := World.block_lt_of_cell? W1 _ P1.out
  refine (askedM1 (g := 44) (lb := #[.pointer (some ⟨W.heap.size + 2, 0, none⟩)]) unitW (fun W' r w1 => r = upto2 M ∧ PartAt W' (W.heap.size + 1) ⟨.slice aR nR cR, .slice aC M.classes.length cC, .slice aO M.ops.length cO, .slice aA M.args.length cA, .slice aS M.saved.length cS, .slice none 0 0, .slice none 0 0⟩ M r w1) (fun args w => by kernel_rfl) (fun W' r w1 h => h.2.1.mono (fun k e => by omega))
    (fun W' x => (pair1M (CK0.ext x) (x.cell P1.out) (by omega)).mono (fun e w1 h => ⟨_, h.1, rfl, h.2⟩))).mono ?_
  rintro e w2 ⟨r, W', w1, rfl, x2, ⟨rfl, k2, hpa⟩, ⟨ty, fr, hb1⟩, k3⟩
  have KF : Keep (fun k => W.heap.size ≤ k) W w2 := (((Keep.of_ext X1.out).trans (Keep.of_ext x2 : Keep (fun k => W.heap.size ≤ k) W1 W') (fun _ _ h => h)).trans (k2.mono (S' := fun k => W.heap.size ≤ k) (fun k e => by omega)) (fun _ _ h => h)).trans (k3.mono (S' := fun k => W.heap.size ≤ k) (fun k (e : k = W1.heap.size) => by omega)) (fun _ _ h => h)
  have XF := Lib.hid (Keep.toExt KF (fun _ h => h))
  have HM2 : MachIn w2 n0 (.slice aR nR cR) (.slice aC M.classes.length cC) (.slice aO M.ops.length cO) (.slice aA M.args.length cA) (.slice aS M.saved.length cS) M := HM.out.same (fun k hk => Below.block XF.out k (Nat.lt_of_lt_of_le hk hn))
  have hs2 := XF.out.size
  have hz2 : W1.heap.size ≤ w2.heap.size := Nat.le_trans x2.size (Nat.le_trans k2.size k3.size)
  have p2 : w2.cell? ⟨W.heap.size + 2, 0, none⟩ = some (.pointer (some ⟨W.heap.size + 1, 0, none⟩)) := k3.cell (k2.cell (x2.cell P1.out) (by show ¬ (W.heap.size + 2 = W.heap.size + 1); omega)) (by show ¬ (W.heap.size + 2 = W1.heap.size); omega)
  have q2 : w2.cell? ⟨W.heap.size, 2, none⟩ = some (.slice aC M.classes.length cC) := k3.cell (k2.cell (x2.cell Q3.out) (by show ¬ (W.heap.size = W.heap.size + 1); omega)) (by show ¬ (W.heap.size = W1.heap.size); omega)
  have HCK := Lib.hid (fun N L (hr : upto2 M = .ok (N, L)) => (hpa N L hr).imp fun vN h => h.imp fun vP h => CkIn.one h hb1 k3 (by omega) HM2 (by omega))
  clear KF k2 k3 x2 CK0 hpa hb1 HM2 X1 B1 P1 Q3
  cases hr : upto2 M with
  | error x =>
    have hx0 := HX.out x hr
    have HR := HRES.out
    rw [hr] at HR
    subst HR
    clear HX HRES HCK
    unfold codeOf
    have hd : (x == 0) = false := beq_eq_false_iff_ne.2 hx0
    go_wp2_with fail
    go_ret
    exact ⟨rfl, XF.out⟩
  | ok NL =>
    obtain ⟨N, L⟩ := NL
    obtain ⟨vN, vP, hck⟩ := HCK.out N L hr
    obtain ⟨hhd, hcl⟩ := upto2_ok hr
    have HR := HRES.out
    rw [hr] at HR
    dsimp only at HR
    have CK := Lib.hid hck
    have HCL := Lib.hid (classesS_of hcl)
    have hoka := Lib.hid (fun (w : World) (hq : w.cell? ⟨W.heap.size, 2, none⟩ = some (.slice aC M.classes.length cC)) => okM hq a hia)
    have hokb := Lib.hid (fun (w : World) (hq : w.cell? ⟨W.heap.size, 2, none⟩ = some (.slice aC M.classes.length cC)) => okM hq b hib)
    clear HX HRES HCK hck hhd hcl hr
    unfold codeOf
    by_cases h0 : 0 ≤ a ∧ a < M.classes.length
    · rw [if_pos h0] at HR
      rw [decide_eq_true h0] at hoka
      by_cases h1 : 0 ≤ b ∧ b < M.classes.length
      · rw [if_pos h1] at HR
        rw [decide_eq_true h1] at hokb
        obtain ⟨ka, rfl⟩ : ∃ k : Nat, a = k := ⟨a.toNat, by omega⟩
        obtain ⟨kb, rfl⟩ : ∃ k : Nat, b = k := ⟨b.toNat, by omega⟩
        obtain ⟨ca, hca⟩ : ∃ c, M.classes[ka]? = some c := ⟨_, List.getElem?_eq_getElem (by omega)⟩
        obtain ⟨cb, hcb⟩ : ∃ c, M.classes[kb]? = some c := ⟨_, List.getElem?_eq_getElem (by omega)⟩
        rw [Int.toNat_natCast, Int.toNat_natCast, hca, hcb] at HR
        dsimp only at HR
        have hcall := Lib.hid (pairM CK.out hca hcb ⟨ka, ca, (HCL.out ka ca hca).1, hca, (HCL.out ka ca hca).2.2⟩ ⟨kb, cb, (HCL.out kb cb hcb).1, hcb, (HCL.out kb cb hcb).2.2⟩)
        rw [HR] at hcall
        clear HR hca hcb h0 h1 HCL
        go_wp2_with (first
          | (go_at_call 46; refine hcall.out.mono ?_; rintro e w4 ⟨rfl, x4⟩; have X4 := Lib.hid x4; clear x4)
          | (refine (hoka.out _ q2).mono ?_; rintro e w3 ⟨rfl, rfl⟩; clear hoka)
          | (refine (hokb.out _ q2).mono ?_; rintro e w3 ⟨rfl, rfl⟩; clear hokb))
        go_ret
        exact ⟨rfl, XF.out.trans X4.out⟩
      · rw [if_neg h1] at HR
        rw [decide_eq_false h1] at hokb
        subst HR
        clear h0 h1 HCL
        go_wp2_with (first
          | (refine (hoka.out _ q2).mono ?_; rintro e w3 ⟨rfl, rfl⟩; clear hoka)
          | (refine (hokb.out _ q2).mono ?_; rintro e w3 ⟨rfl, rfl⟩; clear hokb))
        go_ret
        exact ⟨rfl, XF.out⟩
    · rw [if_neg h0] at HR
      rw [decide_eq_false h0] at hoka
      subst HR
      clear h0 HCL
      go_wp2_with (refine (hoka.out _ q2).mono ?_; rintro e w3 ⟨rfl, rfl⟩; clear hoka)
      go_ret
      exact ⟨rfl, XF.out⟩
end Go.Proofs.Ythomndfagpeniaa
