/- Several texts joined. No condition. -/
import Derived.Test.YtpflobodmglmaaaGreatMd
set_option linter.unusedVariables false
set_option maxHeartbeats 4000000
namespace Go.Proofs.YtpflobodmglmaaaGreat
noncomputable section
def allP : List Prop → Prop
  | [] => True
  | p :: ps => p ∧ allP ps
/-- A value that knows of no block. -/
def scl (a : AV) : AV := match a with
  | .ptr _ _ _ _ => .top
  | .sl _ _ _ _ _ => .top
  | .map _ => .top
  | .yld _ => .top
  | .fn _ _ _ => .top
  | .agg _ => .top
  | .tup l => (match l with | [] => .tup [] | _ :: _ => .top)
  | .ifc _ _ => .top
  | a => a
def frz0 (a : AV) : AV := match a with
  | .ifc t v => .ifc t (scl v)
  | .fn f l r => (match l, r with | [], [] => .fn f [] [] | _, _ => .top)
  | a => scl a
def inN (l : List Nat) (id : Nat) : Bool := l.any fun x => Nat.beq x id
def idxF : List Nat → Nat → Nat → Option Nat
  | [], _, _ => none
  | x :: l, id, i => bif Nat.beq x id then some i else idxF l id (Nat.succ i)
def cP (F : AV → AV) (b : Option Blk) (k : Nat) : AV := match b with | some (.var cs) => .cp ((cs.drop k).map F) | _ => .top
def rowL (l : List (List AV)) (i : Nat) : List AV := (nth l i).getD []
def cS (F : AV → AV) (b : Option Blk) (off len : Nat) (full : Bool) (sz : Nat) : AV := match b with | some (.row sz' n g) => bif Nat.beq sz' sz then .lst false full len (bif full then rowL ((List.range len).map fun i => (g (off + i)).map F) else fun i => (g (off + i)).map frz0) else .top | _ => .top
def cM (b : Option Blk) : AV := match b with | some (.mps kv f) => .cms kv f | _ => .top
/-- A value by other ids (ρ); of what z tells, constants. -/
def cn (ρ : Nat → Option Nat) (z : Nat → Bool) (d : Nat) (M : Mem) : AV → AV := Nat.rec (motive := fun _ => (Nat → Option Nat) → AV → AV) (fun _ a => frz0 a) (fun _ ih ρ a => match a with
  | .ptr id ix sz off => (match ρ id with | some c => .ptr c ix sz off | none => bif z id then cP (ih fun _ => none) (M.h.get id) (ix * sz + off) else .top)
  | .sl id off len full sz => (match ρ id with | some c => .sl c off len full sz | none => bif z id then cS (ih fun _ => none) (M.h.get id) off len full sz else .top)
  | .map id => (match ρ id with | some c => .map c | none => bif z id then cM (M.h.get id) else .top)
  | .yld id => (match ρ id with | some c => .yld c | none => .top)
  | .fn f l r => .fn f (l.map (ih ρ)) (r.map (ih ρ))
  | .ifc t v => .ifc t (ih ρ v)
  | .agg l => .agg (l.map (ih ρ))
  | .tup l => .tup (l.map (ih ρ))
  | a => frz0 a) d ρ
def oS (O : AV → List Prop) (b : Option Blk) (off len : Nat) (full : Bool) : List Prop := match b with | some (.row _ n g) => (off + len ≤ n) :: (bif full then (List.range len).flatMap fun i => (g (off + i)).flatMap O else []) | _ => []
/-- What is to hold of it. -/
def ob (ρ : Nat → Option Nat) (z : Nat → Bool) (d : Nat) (M : Mem) : AV → List Prop := Nat.rec (motive := fun _ => (Nat → Option Nat) → AV → List Prop) (fun _ a => []) (fun _ ih ρ a => match a with
  | .ptr id ix sz off => (match ρ id with | some c => [] | none => bif z id then (match M.h.get id with | some (.var cs) => (cs.drop (ix * sz + off)).flatMap (ih fun _ => none) | _ => []) else [])
  | .sl id off len full sz => (match ρ id with | some c => [] | none => bif z id then oS (ih fun _ => none) (M.h.get id) off len full else [])
  | .fn f l r => l.flatMap (ih ρ) ++ r.flatMap (ih ρ)
  | .ifc t v => ih ρ v
  | .agg l => l.flatMap (ih ρ)
  | .tup l => l.flatMap (ih ρ)
  | _ => []) d ρ
def topT : Nat → Tr AV
  | 0 => .nil
  | n + 1 => (topT n).set n .top
def tmL (sz : Nat) (L : List (Nat × AV)) : Tr AV := L.foldr (fun p t => t.set p.1 p.2) (topT sz)
/-- How a block is to be told of: a row's elements as constants (or by other ids), too; which temporaries of a loop's function are kept. -/
structure Hw where
  dp : Bool
  lv : Nat → List Nat
def cnB (ρ : Nat → Option Nat) (z : Nat → Bool) (M : Mem) (h : Hw) (b : Option Blk) : Blk := match b with
  | some (.var cs) => .var (cs.map (cn ρ z 4 M))
  | some (.row sz n g) => .row sz n (bif h.dp then (fun i => (g i).map (cn ρ z 4 M)) else fun i => (g i).map frz0)
  | some (.mpi kk kv l) => .mpi kk kv l
  | some (.mps kv f) => .mps kv f
  | some (.loop fn sz tm ps as body d st pe) => (match ρ d with | some d' => .loop fn sz (tmL sz ((h.lv fn).map fun t => (t, cn ρ z 4 M ((tm.get t).getD .undef)))) ps as body d' st pe | none => .gone)
  | some .dfr => .dfr
  | _ => .gone
def obB (ρ : Nat → Option Nat) (z : Nat → Bool) (M : Mem) (h : Hw) (b : Option Blk) : List Prop := match b with
  | some (.var cs) => cs.flatMap (ob ρ z 4 M)
  | some (.row sz n g) => bif h.dp then [∀ i, i < n → allP ((g i).flatMap (ob ρ z 4 M))] else []
  | some (.loop fn sz tm ps as body d st pe) => (h.lv fn).flatMap fun t => ob ρ z 4 M ((tm.get t).getD .undef)
  | _ => []
def bld : List Blk → Nat → Tr Blk → Tr Blk
  | [], _, t => t
  | b :: bs, i, t => bld bs (Nat.succ i) (t.set i b)
def clM (L : List Blk) : Mem := ⟨bld L 0 .nil, L.length, []⟩
/-- A memory of which these blocks are left alone. -/
def finM (M : Mem) (N : List Blk) : Mem := ⟨bld N 0 .nil, M.nx, List.range M.nx ++ M.lg⟩
end
theorem allP_app : ∀ {l r : List Prop}, allP (l ++ r) ↔ allP l ∧ allP r
  | [], r => by simp [allP]
  | p :: l, r => by
    show (p ∧ allP (l ++ r)) ↔ ((p ∧ allP l) ∧ allP r)
    rw [allP_app]
    exact and_assoc.symm
theorem allP_flat {α : Type} {f : α → List Prop} : ∀ {l : List α}, allP (l.flatMap f) → ∀ a ∈ l, allP (f a)
  | [], _, a, h => by cases h
  | x :: l, h, a, ha => by
    rw [List.flatMap_cons, allP_app] at h
    rcases List.mem_cons.1 ha with rfl | ha
    · exact h.1
    · exact allP_flat h.2 a ha
theorem topT_get : ∀ (n t : Nat), (topT n).get t = if t < n then some .top else none
  | 0, t => get_nil t
  | n + 1, t => by
    show ((topT n).set n .top).get t = _
    rw [get_set, topT_get n t]
    by_cases h : n = t
    · subst h; rw [if_pos rfl, if_pos (by omega)]
    · rw [if_neg h]
      by_cases h2 : t < n
      · rw [if_pos h2, if_pos (by omega)]
      · rw [if_neg h2, if_neg (by omega)]
theorem tmL_get (sz : Nat) : ∀ (L : List (Nat × AV)) (t : Nat), (∃ a, (t, a) ∈ L ∧ (tmL sz L).get t = some a) ∨ (tmL sz L).get t = (topT sz).get t
  | [], t => .inr rfl
  | p :: L, t => by
    have e : (tmL sz (p :: L)).get t = if p.1 = t then some p.2 else (tmL sz L).get t := get_set _ _ _ _
    rw [e]
    by_cases h : p.1 = t
    · rw [if_pos h]
      exact .inl ⟨p.2, by rw [← h]; exact List.mem_cons_self .., rfl⟩
    · rw [if_neg h]
      rcases tmL_get sz L t with ⟨a, h1, h2⟩ | h1
      · exact .inl ⟨a, List.mem_cons_of_mem _ h1, h2⟩
      · exact .inr h1
theorem bld_get : ∀ (L : List Blk) (i : Nat) (t : Tr Blk) (j : Nat), (bld L i t).get j = if i ≤ j ∧ j < i + L.length then L[j - i]? else t.get j
  | [], i, t, j => by
    show t.get j = _
    rw [if_neg]
    simp only [List.length_nil]
    omega
  | b :: L, i, t, j => by
    show (bld L (i + 1) (t.set i b)).get j = _
    rw [bld_get L (i + 1), get_set]
    simp only [List.length_cons]
    by_cases h : i = j
    · subst h
      rw [if_neg (by omega), if_pos rfl, if_pos (by omega), Nat.sub_self]
      rfl
    · rw [if_neg h]
      by_cases h2 : i + 1 ≤ j ∧ j < i + 1 + L.length
      · rw [if_pos h2, if_pos (by omega), show j - i = (j - (i + 1)) + 1 by omega, List.getElem?_cons_succ]
      · rw [if_neg h2, if_neg (by omega)]
theorem bld0_get (L : List Blk) (j : Nat) : (bld L 0 .nil).get j = L[j]? := by
  rw [bld_get]
  by_cases h : j < L.length
  · rw [if_pos (by omega), Nat.sub_zero]
  · rw [if_neg (by omega), get_nil, List.getElem?_eq_none (by omega)]
theorem idxF_ok : ∀ (l : List Nat) (id i c : Nat), idxF l id i = some c → i ≤ c ∧ l[c - i]? = some id
  | [], id, i, c, h => by cases h
  | x :: l, id, i, c, h => by
    have h : (bif Nat.beq x id then some i else idxF l id (i + 1)) = some c := h
    by_cases e : x = id
    · subst e
      rw [Nat.beq_refl] at h
      cases h
      exact ⟨Nat.le_refl _, by rw [Nat.sub_self]; rfl⟩
    · rw [beq_ff e] at h
      obtain ⟨h1, h2⟩ := idxF_ok l id (i + 1) c h
      refine ⟨by omega, ?_⟩
      rw [show c - i = (c - (i + 1)) + 1 by omega, List.getElem?_cons_succ]
      exact h2
section
variable {G G' : Gh} {w : World} {M : Mem} {ρ : Nat → Option Nat} {z : Nat → Bool}
/-- A value that knows of no block is so whatever is known of blocks. -/
theorem scl_ok {v : Value} {a : AV} (hle : GLe G.nph G') (h : RV G v a) : RV G' v (scl a) := by
  cases h with
  | undef => exact .undef
  | top => exact .top _
  | bool => exact .bool _
  | int => exact .int _ _
  | str => exact .str _
  | nilp => exact .nilp
  | nilm => exact .nilm
  | nilf => exact .nilf
  | nili => exact .nili
  | ptr h => exact .top _
  | cp vs h hr => exact (RV.cp (G := G.nph) vs h hr).mono hle
  | lstn => exact .lstn
  | lst vs h1 h2 h3 h4 h5 => exact (RV.lst (G := G.nph) vs h1 h2 h3 h4 h5).mono hle
  | sl => exact .top _
  | map => exact .top _
  | cmap h1 h2 h3 h4 => exact (RV.cmap (G := G.nph) h1 h2 h3 h4).mono hle
  | cms h1 h2 => exact (RV.cms (G := G.nph) h1 h2).mono hle
  | agg => exact .top _
  | tup hl hr =>
    rename_i arr cs
    cases cs with
    | nil => exact .tup hl (fun j v a e f => by simp at f)
    | cons a l => exact .top _
  | fn => exact .top _
  | yld => exact .top _
  | ifc => exact .top _
theorem frz0_ok {v : Value} {a : AV} (hle : GLe G.nph G') (h : RV G v a) : RV G' v (frz0 a) := by
  have key := scl_ok hle h
  cases h with
  | ifc h => exact .ifc (scl_ok hle h)
  | fn hl hr hl2 hr2 =>
    rename_i f fs cs as bs
    cases as with
    | nil =>
      cases bs with
      | nil => exact .fn hl (fun j v a e f => by simp at f) hl2 (fun j v a e f => by simp at f)
      | cons => exact .top _
    | cons => exact .top _
  | _ => exact key
/-- What two memories' ghosts are to each other. -/
structure CnG (ρ : Nat → Option Nat) (z : Nat → Bool) (G : Gh) (w : World) (M : Mem) (G' : Gh) : Prop where
  phi : ∀ id c x, ρ id = some c → G.phi id = some x → G'.phi c = some x
  tot : ∀ b, G'.tot b = G.tot b
  le : GLe G.nph G'.nph
  con : ∀ id b base i v, Own M id → z id = true → G.phi id = some (b, base) → w.cell? ⟨b, i, none⟩ = some v → G'.con b i = some v
  cob : ∀ id b base e c, Own M id → z id = true → G.phi id = some (b, base) → w.heap[b]? = some (.map e c) → G'.cob b = some e
theorem CnG.nph (h : CnG ρ z G w M G') : CnG (fun _ => none) z G w M G'.nph := ⟨fun _ _ _ h => (by cases h), h.tot, h.le, h.con, h.cob⟩
theorem rvl_map {F : AV → AV} {arr : Array Value} {cs : List AV} (hr : ∀ (j : Nat) (v : Value) (a : AV), arr[j]? = some v → cs[j]? = some a → RV G v a) (hF : ∀ v a, a ∈ cs → RV G v a → RV G' v (F a)) : ∀ (j : Nat) (v : Value) (a : AV), arr[j]? = some v → (cs.map F)[j]? = some a → RV G' v a := fun j v a e f => by
  rw [List.getElem?_map] at f
  cases hc : cs[j]? with
  | none => rw [hc] at f; cases f
  | some c =>
    rw [hc] at f
    cases f
    exact hF v c (List.mem_of_getElem? hc) (hr j v c e hc)
theorem cn_ok (hs : St G w M) : ∀ (d : Nat) {ρ : Nat → Option Nat} {G' : Gh} (hg : CnG ρ z G w M G') {v : Value} {a : AV}, RV G v a → allP (ob ρ z d M a) → RV G' v (cn ρ z d M a)
  | 0, ρ, G', hg, v, a, h, _ => frz0_ok (hg.le.trans (nph_le G')) h
  | d + 1, ρ, G', hg, v, a, h, ho => by
    have hle : GLe G.nph G' := hg.le.trans (nph_le G')
    cases h with
    | ptr hp =>
      rename_i id ix sz off b base
      show RV G' _ (match ρ id with | some c => .ptr c ix sz off | none => bif z id then cP (cn (fun _ => none) z d M) (M.h.get id) (ix * sz + off) else .top)
      have ho : allP (match ρ id with | some c => [] | none => bif z id then (match M.h.get id with | some (.var cs) => (cs.drop (ix * sz + off)).flatMap (ob (fun _ => none) z d M) | _ => []) else []) := ho
      cases hr : ρ id with
      | some c => exact .ptr (hg.phi id c _ hr hp)
      | none =>
        rw [hr] at ho
        cases hz : z id with
        | false => exact .top _
        | true =>
          rw [hz] at ho
          simp only [cond_true] at ho ⊢
          cases hb : M.h.get id with
          | none => exact .top _
          | some k =>
            cases k with
            | var cs =>
              rw [hb] at ho
              simp only at ho
              obtain ⟨h0, arr, t, h1, h2⟩ := hs.blk id _ b base hb hp
              subst h0
              show RV G' _ (.cp ((cs.drop (ix * sz + off)).map (cn (fun _ => none) z d M)))
              have own : Own M id := ⟨_, hb, by simp⟩
              have ix_ok : ∀ (j : Nat) (a : AV), ((cs.drop (ix * sz + off)).map (cn (fun _ => none) z d M))[j]? = some a → ∃ a0, cs[ix * sz + off + j]? = some a0 ∧ a0 ∈ cs.drop (ix * sz + off) ∧ a = cn (fun _ => none) z d M a0 := fun j a e => by
                rw [List.getElem?_map] at e
                cases hc : (cs.drop (ix * sz + off))[j]? with
                | none => rw [hc] at e; cases e
                | some a0 =>
                  rw [hc] at e
                  cases e
                  exact ⟨a0, by rw [← List.getElem?_drop]; exact hc, List.mem_of_getElem? hc, rfl⟩
              have arr_ok : ∀ (j : Nat) (a0 : AV), cs[j]? = some a0 → arr[j]? = some (arr.getD j undef) := fun j a0 e => by
                have hlt : j < arr.size := by rw [h2.len]; exact (List.getElem?_eq_some_iff.1 e).1
                rw [Array.getElem?_eq_getElem hlt]
                simp [Array.getD, hlt]
              rw [Nat.zero_add]
              refine .cp (fun j => arr.getD (ix * sz + off + j) undef) (fun j a e => ?_) (fun j a e => ?_)
              · obtain ⟨a0, e1, e2, e3⟩ := ix_ok j a e
                refine hg.con id b 0 _ _ own hz hp ?_
                rw [cell_of h1]
                exact arr_ok _ a0 e1
              · obtain ⟨a0, e1, e2, e3⟩ := ix_ok j a e
                subst e3
                exact cn_ok hs d hg.nph (h2.at' _ _ _ (arr_ok _ a0 e1) e1) (allP_flat ho a0 e2)
            | _ => exact .top _
    | sl hp hc hf ht hoo =>
      rename_i id off len sz b base cap o full
      show RV G' _ (match ρ id with | some c => .sl c off len full sz | none => bif z id then cS (cn (fun _ => none) z d M) (M.h.get id) off len full sz else .top)
      have ho : allP (match ρ id with | some c => [] | none => bif z id then oS (ob (fun _ => none) z d M) (M.h.get id) off len full else []) := ho
      cases hr : ρ id with
      | some c => exact .sl (hg.phi id c _ hr hp) hc hf (by rw [hg.tot]; exact ht) hoo
      | none =>
        rw [hr] at ho
        cases hz : z id with
        | false => exact .top _
        | true =>
          rw [hz] at ho
          simp only [cond_true] at ho ⊢
          cases hb : M.h.get id with
          | none => exact .top _
          | some k =>
            cases k with
            | row sz' n g =>
              rw [hb] at ho
              have hon : off + len ≤ n := ho.1
              have hdeep : allP (bif full then (List.range len).flatMap fun i => (g (off + i)).flatMap (ob (fun _ => none) z d M) else []) := ho.2
              show RV G' _ (bif Nat.beq sz' sz then .lst false full len (bif full then rowL ((List.range len).map fun i => (g (off + i)).map (cn (fun _ => none) z d M)) else fun i => (g (off + i)).map frz0) else .top)
              have hF : ∃ F : Nat → AV → AV, (∀ i, i < len → (bif full then rowL ((List.range len).map fun i => (g (off + i)).map (cn (fun _ => none) z d M)) else fun i => (g (off + i)).map frz0) i = (g (off + i)).map (F i)) ∧ ∀ i a v, i < len → a ∈ g (off + i) → RV G v a → RV G'.nph v (F i a) := by
                cases full with
                | false => exact ⟨fun _ => frz0, fun _ _ => rfl, fun i a v _ _ h => frz0_ok hg.le h⟩
                | true =>
                  refine ⟨fun _ => cn (fun _ => none) z d M, fun i hi => ?_, fun i a v hi ha h => cn_ok hs d hg.nph h (allP_flat (allP_flat hdeep i (List.mem_range.2 hi)) a ha)⟩
                  show (nth ((List.range len).map fun i => (g (off + i)).map (cn (fun _ => none) z d M)) i).getD [] = _
                  rw [nth_eq, List.getElem?_map, List.getElem?_range hi]
                  rfl
              obtain ⟨F, hF1, hF2⟩ := hF
              by_cases e : sz' = sz
              · subst e
                rw [Nat.beq_refl]
                obtain ⟨arr, t, h1, h2, h3, h4⟩ := hs.blk id _ b base hb hp
                have own : Own M id := ⟨_, hb, by simp⟩
                by_cases h00 : len = 0
                · subst h00
                  exact .lst (sz := sz') (fun _ _ => .nilIface) hc hf (fun i hi => by omega) (fun i j a hi => by omega) (fun i j a hi => by omega)
                · have hoo' : o = base + off * sz' := by
                    rcases hoo with e | e
                    · omega
                    · exact e
                  subst hoo'
                  have ix_ok : ∀ (i j : Nat) (a : AV), i < len → ((bif full then rowL ((List.range len).map fun i => (g (off + i)).map (cn (fun _ => none) z d M)) else fun i => (g (off + i)).map frz0) i)[j]? = some a → ∃ a0, (g (off + i))[j]? = some a0 ∧ a = F i a0 ∧ j < sz' := fun i j a hi e => by
                    rw [hF1 i hi, List.getElem?_map] at e
                    cases hc : (g (off + i))[j]? with
                    | none => rw [hc] at e; cases e
                    | some a0 =>
                      rw [hc] at e
                      cases e
                      exact ⟨a0, rfl, rfl, by rw [← (h4 (off + i) (by omega)).1]; exact (List.getElem?_eq_some_iff.1 hc).1⟩
                  have arr_ok : ∀ (i j : Nat), i < len → j < sz' → arr[base + ((off + i) * sz' + j)]? = some (arr.getD (base + ((off + i) * sz' + j)) undef) := fun i j hi hj => by
                    have h5 : (off + i + 1) * sz' ≤ n * sz' := Nat.mul_le_mul_right sz' (by omega)
                    rw [Nat.succ_mul] at h5
                    have hlt : base + ((off + i) * sz' + j) < arr.size := by omega
                    rw [Array.getElem?_eq_getElem hlt]
                    simp [Array.getD, hlt]
                  refine .lst (sz := sz') (fun i j => arr.getD (base + ((off + i) * sz' + j)) undef) hc hf (fun i hi => by rw [hF1 i hi, List.length_map]; exact (h4 (off + i) (by omega)).1) (fun i j a hi e => ?_) (fun i j a hi e => ?_)
                  · obtain ⟨a0, e1, e2, e3⟩ := ix_ok i j a hi e
                    refine hg.con id b base _ _ own hz hp ?_
                    rw [cell_of h1, show base + off * sz' + (i * sz' + j) = base + ((off + i) * sz' + j) by rw [Nat.add_mul]; omega]
                    exact arr_ok i j hi e3
                  · obtain ⟨a0, e1, e2, e3⟩ := ix_ok i j a hi e
                    subst e2
                    exact hF2 i a0 _ hi (List.mem_of_getElem? e1) ((h4 (off + i) (by omega)).2 j _ a0 (arr_ok i j hi e3) e1)
              · rw [beq_ff e]
                exact .top _
            | _ => exact .top _
    | yld hp =>
      rename_i id b
      show RV G' _ (match ρ id with | some c => .yld c | none => .top)
      cases hr : ρ id with
      | some c => exact .yld (hg.phi id c _ hr hp)
      | none => exact .top _
    | map hp =>
      rename_i id b
      show RV G' _ (match ρ id with | some c => .map c | none => bif z id then cM (M.h.get id) else .top)
      cases hr : ρ id with
      | some c => exact .map (hg.phi id c _ hr hp)
      | none =>
        cases hz : z id with
        | false => exact .top _
        | true =>
          simp only [cond_true]
          cases hb : M.h.get id with
          | none => exact .top _
          | some k =>
            cases k with
            | mps kv f =>
              obtain ⟨h0, ents, c, h1, h2⟩ := hs.blk id _ b 0 hb hp
              exact .cms (hg.cob id b 0 ents c ⟨_, hb, by simp⟩ hz hp h1) h2
            | _ => exact .top _
    | fn hl hr hl2 hr2 =>
      rename_i f fs cs as bs
      have ho : allP (as.flatMap (ob ρ z d M) ++ bs.flatMap (ob ρ z d M)) := ho
      rw [allP_app] at ho
      exact .fn (by rw [List.length_map]; exact hl) (rvl_map hr fun v a ha h => cn_ok hs d hg h (allP_flat ho.1 a ha)) (by rw [List.length_map]; exact hl2) (rvl_map hr2 fun v a ha h => cn_ok hs d hg h (allP_flat ho.2 a ha))
    | ifc h => exact .ifc (cn_ok hs d hg h ho)
    | agg hl hr => exact .agg (by rw [List.length_map]; exact hl) (rvl_map hr fun v a ha h => cn_ok hs d hg h (allP_flat ho a ha))
    | tup hl hr => exact .tup (by rw [List.length_map]; exact hl) (rvl_map hr fun v a ha h => cn_ok hs d hg h (allP_flat ho a ha))
    | undef => exact .undef
    | top => exact .top _
    | bool => exact .bool _
    | int => exact .int _ _
    | str => exact .str _
    | nilp => exact .nilp
    | nilm => exact .nilm
    | nilf => exact .nilf
    | nili => exact .nili
    | cp vs h hr => exact (RV.cp (G := G.nph) vs h hr).mono hle
    | lstn => exact .lstn
    | lst vs h1 h2 h3 h4 h5 => exact (RV.lst (G := G.nph) vs h1 h2 h3 h4 h5).mono hle
    | cmap h1 h2 h3 h4 => exact (RV.cmap (G := G.nph) h1 h2 h3 h4).mono hle
    | cms h1 h2 => exact (RV.cms (G := G.nph) h1 h2).mono hle
theorem cn_tm (hs : St G w M) (hg : CnG ρ z G w M G') {ts : Array Value} {tm : Tr AV} {sz : Nat} {live : List Nat} (hsz : ts.size = sz) (h : RT G ts tm) (ho : allP (live.flatMap fun t => ob ρ z 4 M ((tm.get t).getD .undef))) : RT G' ts (tmL sz (live.map fun t => (t, cn ρ z 4 M ((tm.get t).getD .undef)))) := fun t => by
  rcases tmL_get sz (live.map fun t => (t, cn ρ z 4 M ((tm.get t).getD .undef))) t with ⟨x, h1, h2⟩ | h1
  · rw [h2]
    obtain ⟨t', h3, h4⟩ := List.mem_map.1 h1
    cases h4
    exact cn_ok hs 4 hg (h t) (allP_flat ho t h3)
  · rw [h1, topT_get]
    by_cases hlt : t < sz
    · rw [if_pos hlt]; exact .top _
    · rw [if_neg hlt]
      have : ts.getD t undef = undef := by
        rw [Array.getD_eq_getD_getElem?, Array.getElem?_eq_none (by rw [hsz]; omega)]
        rfl
      rw [this]
      exact .undef
theorem cnB_ok (hs : St G w M) (hg : CnG ρ z G w M G') {hw : Hw} {id b base c : Nat} (hb : G.phi id = some (b, base)) (ho : allP (obB ρ z M hw (M.h.get id))) : BlkR G' w b base (cnB ρ z M hw (M.h.get id)) := by
  cases hk : M.h.get id with
  | none => trivial
  | some k =>
    have hB := hs.blk id k b base hk hb
    rw [hk] at ho
    cases k with
    | var cs =>
      obtain ⟨h0, arr, t, h1, h2⟩ := hB
      exact ⟨h0, arr, t, h1, by rw [List.length_map]; exact h2.len, rvl_map h2.at' fun v a ha h => cn_ok hs 4 hg h (allP_flat ho a ha)⟩
    | row sz n g =>
      obtain ⟨arr, t, h1, h2, h3, h4⟩ := hB
      have ho : allP (bif hw.dp then [∀ i, i < n → allP ((g i).flatMap (ob ρ z 4 M))] else []) := ho
      show BlkR G' w b base (.row sz n (bif hw.dp then (fun i => (g i).map (cn ρ z 4 M)) else fun i => (g i).map frz0))
      have hF : ∃ F : Nat → AV → AV, (∀ i, i < n → (bif hw.dp then (fun i => (g i).map (cn ρ z 4 M)) else fun i => (g i).map frz0) i = (g i).map (F i)) ∧ ∀ i a v, i < n → a ∈ g i → RV G v a → RV G' v (F i a) := by
        cases hd : hw.dp with
        | false => exact ⟨fun _ => frz0, fun _ _ => rfl, fun i a v _ _ h => frz0_ok (hg.le.trans (nph_le G')) h⟩
        | true =>
          rw [hd] at ho
          exact ⟨fun _ => cn ρ z 4 M, fun i hi => rfl, fun i a v hi ha h => cn_ok hs 4 hg h (allP_flat (ho.1 i hi) a ha)⟩
      obtain ⟨F, hF1, hF2⟩ := hF
      exact ⟨arr, t, h1, h2, by rw [hg.tot]; exact h3, fun i hi => ⟨by rw [hF1 i hi, List.length_map]; exact (h4 i hi).1, fun j v a e f => by
        rw [hF1 i hi, List.getElem?_map] at f
        cases hc : (g i)[j]? with
        | none => rw [hc] at f; cases f
        | some a0 =>
          rw [hc] at f
          cases f
          exact hF2 i a0 v hi (List.mem_of_getElem? hc) ((h4 i hi).2 j v a0 e hc)⟩⟩
    | mpi kk kv l => exact hB
    | mps kv f => exact hB
    | loop fn sz tm ps as body d st pe =>
      obtain ⟨h0, ts, db, h1, h2, h3, h4⟩ := hB
      show BlkR G' w b base (match ρ d with | some d' => .loop fn sz (tmL sz ((hw.lv fn).map fun t => (t, cn ρ z 4 M ((tm.get t).getD .undef)))) ps as body d' st pe | none => .gone)
      cases hd : ρ d with
      | none => trivial
      | some d' => exact ⟨h0, ts, db, h1, h2, cn_tm hs hg h2 h3 ho, hg.phi d d' _ hd h4⟩
    | dfr => exact hB
    | _ => trivial
end
end Go.Proofs.YtpflobodmglmaaaGreat
set_option linter.unusedVariables false
set_option maxHeartbeats 4000000
namespace Go.Proofs.YtpflobodmglmaaaGreat
open Classical
section
variable {P : Program} {G G' : Gh} {w w' : World} {M M2 : Mem} {ids : List Nat} {z : Nat → Bool} {N : List Blk} {hw : Nat → Hw}
/-- A block that becomes constant. -/
def FzB (z : Nat → Bool) (G : Gh) (M : Mem) (b : Nat) : Prop := ∃ id base, Own M id ∧ z id = true ∧ G.phi id = some (b, base)
noncomputable def gcG (ids : List Nat) (z : Nat → Bool) (G : Gh) (w : World) (M : Mem) : Gh :=
  ⟨fun c => match ids[c]? with | some id => G.phi id | none => none, fun b i => if FzB z G M b then w.cell? ⟨b, i, none⟩ else G.con b i, fun b => if FzB z G M b then (match w.heap[b]? with | some (.map e _) => some e | _ => none) else G.cob b, G.tot⟩
noncomputable def rhoI (ids : List Nat) (id : Nat) : Option Nat := idxF ids id 0
/-- Of each of the small memory's blocks how it is told of. -/
noncomputable def gcI (ids : List Nat) (z : Nat → Bool) (M : Mem) (hw : Nat → Hw) : List Nat → Nat → List Blk
  | [], _ => []
  | id :: l, c => cnB (rhoI ids) z M (hw c) (M.h.get id) :: gcI ids z M hw l (Nat.succ c)
noncomputable def gcB (ids : List Nat) (z : Nat → Bool) (M : Mem) (hw : Nat → Hw) : List Blk := gcI ids z M hw ids 0
theorem gcI_get (ids : List Nat) (z : Nat → Bool) (M : Mem) (hw : Nat → Hw) : ∀ (l : List Nat) (i c : Nat), (gcI ids z M hw l i)[c]? = (l[c]?).map fun id => cnB (rhoI ids) z M (hw (i + c)) (M.h.get id)
  | [], i, c => by simp [gcI]
  | id :: l, i, 0 => by simp [gcI]
  | id :: l, i, c + 1 => by
    show (gcI ids z M hw l (i + 1))[c]? = _
    rw [gcI_get ids z M hw l (i + 1) c, show i + 1 + c = i + (c + 1) by omega]
    rfl
theorem gcI_len (ids : List Nat) (z : Nat → Bool) (M : Mem) (hw : Nat → Hw) : ∀ (l : List Nat) (i : Nat), (gcI ids z M hw l i).length = l.length
  | [], _ => rfl
  | id :: l, i => by simp [gcI, gcI_len ids z M hw l]
theorem gcG_le (hs : St G w M) : GLe G.nph (gcG ids z G w M).nph := by
  refine ⟨fun _ _ h => (by cases h), fun b i v h => ?_, fun b v h => ?_, fun _ _ _ h => (by cases h)⟩
  · show (if FzB z G M b then _ else _) = _
    by_cases e : FzB z G M b
    · rw [if_pos e]; exact hs.con b i v h
    · rw [if_neg e]; exact h
  · show (if FzB z G M b then _ else _) = _
    by_cases e : FzB z G M b
    · rw [if_pos e]
      obtain ⟨c, hc⟩ := hs.cob b v h
      rw [hc]
    · rw [if_neg e]; exact h
theorem gc_cn (hs : St G w M) : CnG (rhoI ids) z G w M (gcG ids z G w M) := by
  refine ⟨fun id c x h1 h2 => ?_, fun _ => rfl, gcG_le hs, fun id b base i v o hz hp hv => ?_, fun id b base e c o hz hp hv => ?_⟩
  · obtain ⟨_, h3⟩ := idxF_ok ids id 0 c h1
    rw [Nat.sub_zero] at h3
    show (match ids[c]? with | some id => G.phi id | none => none) = _
    rw [h3]
    exact h2
  · show (if FzB z G M b then _ else _) = _
    rw [if_pos ⟨id, base, o, hz, hp⟩]
    exact hv
  · show (if FzB z G M b then _ else _) = _
    rw [if_pos ⟨id, base, o, hz, hp⟩, hv]
theorem gcG_phi {c id : Nat} (h : ids[c]? = some id) : (gcG ids z G w M).phi c = G.phi id := by
  show (match ids[c]? with | some id => G.phi id | none => none) = _
  rw [h]
theorem gcG_phi' {c : Nat} {x : Nat × Nat} (h : (gcG ids z G w M).phi c = some x) : ∃ id, ids[c]? = some id ∧ G.phi id = some x := by
  have h : (match ids[c]? with | some id => G.phi id | none => none) = some x := h
  cases e : ids[c]? with
  | none => rw [e] at h; cases h
  | some id => rw [e] at h; exact ⟨id, rfl, h⟩
theorem gcB_get {c : Nat} {k : Blk} (h : (clM (gcB ids z M hw)).h.get c = some k) : ∃ id, ids[c]? = some id ∧ k = cnB (rhoI ids) z M (hw c) (M.h.get id) := by
  rw [show (clM (gcB ids z M hw)).h.get c = (gcB ids z M hw)[c]? from bld0_get _ _] at h
  unfold gcB at h
  rw [gcI_get] at h
  cases e : ids[c]? with
  | none => rw [e] at h; cases h
  | some id => rw [e, Nat.zero_add] at h; cases h; exact ⟨id, rfl, rfl⟩
theorem gcB_own {c : Nat} (o : Own (clM (gcB ids z M hw)) c) : ∃ id, ids[c]? = some id ∧ Own M id := by
  obtain ⟨k, h1, h2⟩ := o
  obtain ⟨id, e1, e2⟩ := gcB_get h1
  refine ⟨id, e1, ?_⟩
  cases hk : M.h.get id with
  | none => rw [hk] at e2; exact absurd e2 h2
  | some k0 => exact ⟨k0, hk, fun e => by subst e; rw [hk] at e2; exact h2 e2⟩
theorem gc_st (hs : St G w M) (hnd : ids.Nodup) (hz : ∀ id, z id = true → id ∉ ids) (ho : ∀ (c id : Nat), ids[c]? = some id → allP (obB (rhoI ids) z M (hw c) (M.h.get id))) : St (gcG ids z G w M) w (clM (gcB ids z M hw)) ∧ WfM (clM (gcB ids z M hw)) := by
  have notF : ∀ c id b base, ids[c]? = some id → Own M id → G.phi id = some (b, base) → ¬ FzB z G M b := fun c id b base e o hp ⟨id', base', o', hz', hp'⟩ => by
    have := hs.inj id id' b base base' o o' hp hp'
    subst this
    exact hz id hz' (List.mem_of_getElem? e)
  refine ⟨⟨fun c k b base h1 h2 => ?_, fun c c' b b1 b2 o1 o2 e1 e2 => ?_, fun c b base e => ?_, fun c b base e => ?_, fun b i v h => ?_, fun b v h => ?_, fun c b base i o e => ?_, fun c b base o e => ?_⟩, fun c o => ?_⟩
  · obtain ⟨id, e1, rfl⟩ := gcB_get h1
    rw [gcG_phi e1] at h2
    exact cnB_ok hs (gc_cn hs) (c := c) h2 (ho c id e1)
  · obtain ⟨id, q1, q2⟩ := gcB_own o1
    obtain ⟨id', q3, q4⟩ := gcB_own o2
    rw [gcG_phi q1] at e1
    rw [gcG_phi q3] at e2
    have := hs.inj id id' b b1 b2 q2 q4 e1 e2
    subst this
    have h1 := (List.getElem?_eq_some_iff.1 q1).1
    exact (List.getElem?_inj h1 hnd).1 (q1.trans q3.symm)
  · obtain ⟨id, e1, e2⟩ := gcG_phi' e
    exact hs.lt id b base e2
  · obtain ⟨id, e1, e2⟩ := gcG_phi' e
    show c < (gcB ids z M hw).length
    unfold gcB
    rw [gcI_len]
    exact (List.getElem?_eq_some_iff.1 e1).1
  · have h : (if FzB z G M b then w.cell? ⟨b, i, none⟩ else G.con b i) = some v := h
    by_cases e : FzB z G M b
    · rw [if_pos e] at h; exact h
    · rw [if_neg e] at h; exact hs.con b i v h
  · have h : (if FzB z G M b then (match w.heap[b]? with | some (.map e _) => some e | _ => none) else G.cob b) = some v := h
    by_cases e : FzB z G M b
    · rw [if_pos e] at h
      split at h
      · rename_i en c hc
        cases h
        exact ⟨c, hc⟩
      · cases h
    · rw [if_neg e] at h; exact hs.cob b v h
  · obtain ⟨id, q1, q2⟩ := gcB_own o
    rw [gcG_phi q1] at e
    show (if FzB z G M b then _ else _) = _
    rw [if_neg (notF c id b base q1 q2 e)]
    exact hs.sep id b base i q2 e
  · obtain ⟨id, q1, q2⟩ := gcB_own o
    rw [gcG_phi q1] at e
    show (if FzB z G M b then _ else _) = _
    rw [if_neg (notF c id b base q1 q2 e)]
    exact hs.sep2 id b base q2 e
  · obtain ⟨id, q1, q2⟩ := gcB_own o
    show c < (gcB ids z M hw).length
    unfold gcB
    rw [gcI_len]
    exact (List.getElem?_eq_some_iff.1 q1).1
/-- A block (a value) of the small memory, and what it is in the great one; k of the small memory's ids are known there. -/
structure Rt (k : Nat) (ids : List Nat) (G1 G2 : Gh) : Prop where
  phi : ∀ c id x, c < k → ids[c]? = some id → G1.phi c = some x → G2.phi id = some x
  le : GLe G1.nph G2.nph
  tot : ∀ c b base, c < k → G1.phi c = some (b, base) → G2.tot b = G1.tot b
def RtB (k : Nat) (ids : List Nat) (x y : Blk) : Prop := ∀ G1 G2 w b base, Rt k ids G1 G2 → (∃ c, c < k ∧ G1.phi c = some (b, base)) → BlkR G1 w b base x → BlkR G2 w b base y
def RtE (k : Nat) (ids : List Nat) (x y : AEnd) : Prop := ∀ G1 G2 E, Rt k ids G1 G2 → RE G1 E x → RE G2 E y
/-- What is left of the great memory. -/
structure Upd (M : Mem) (ids : List Nat) (z : Nat → Bool) (N N2 : List Blk) (M2 : Mem) : Prop where
  nx : M2.nx = M.nx
  own : ∀ id, Own M2 id → Own M id ∧ ((∃ (c : Nat) (k k2 : Blk), ids[c]? = some id ∧ N[c]? = some k ∧ k ≠ .gone ∧ N2[c]? = some k2 ∧ M2.h.get id = some k2) ∨ (z id = false ∧ id ∉ ids ∧ M2.h.get id = M.h.get id))
  lg : ∃ ex, M2.lg = ex ++ M.lg ∧ ∀ id, ¬ M.nx ≤ id → id ∉ ex → M2.h.get id = M.h.get id
theorem gc_back {N2 : List Blk} {e e2 : AEnd} (hs : St G w M) (hnd : ids.Nodup) (hk : N.length ≤ ids.length)
    (hrt : ∀ (c : Nat) (k k2 : Blk), N[c]? = some k → N2[c]? = some k2 → RtB N.length ids k k2) (hE : RtE N.length ids e e2) (hu : Upd M ids z N N2 M2) {E : Ending}
    (q4 : RE G' E e) (q5 : St G' w' (finM (clM (gcB ids z M hw)) N)) (q6 : Ev (gcG ids z G w M) w (clM (gcB ids z M hw)) G' w' (finM (clM (gcB ids z M hw)) N)) (q7 : Ub (· < (clM (gcB ids z M hw)).nx) (gcG ids z G w M) G') :
    ∃ G2, RE G2 E e2 ∧ St G2 w' M2 ∧ Ev G w M G2 w' M2 ∧ G2.phi = G.phi := by
  have fget : ∀ c, (finM (clM (gcB ids z M hw)) N).h.get c = N[c]? := fun c => bld0_get _ _
  have nxc : ∀ c, c < N.length → c < (clM (gcB ids z M hw)).nx := fun c h => by
    show c < (gcB ids z M hw).length
    unfold gcB
    rw [gcI_len]
    omega
  have nf : ∀ id b base, Own M id → z id = false → G.phi id = some (b, base) → ¬ FzB z G M b := fun id b base o hzf hp ⟨id', base', o', hz', hp'⟩ => by
    have := hs.inj id id' b base base' o o' hp hp'
    subst this
    rw [hzf] at hz'
    cases hz'
  have ob : ∀ b, OwnB (gcG ids z G w M) (clM (gcB ids z M hw)) b → ∃ id base, id ∈ ids ∧ Own M id ∧ G.phi id = some (b, base) := fun b ⟨c, base, o, hp⟩ => by
    obtain ⟨id, e1, e2⟩ := gcB_own o
    rw [gcG_phi e1] at hp
    exact ⟨id, base, List.mem_of_getElem? e1, e2, hp⟩
  have conG : ∀ b i v, (gcG ids z G w M).con b i = some v → G.con b i = some v ∨ FzB z G M b := fun b i v h => by
    have h : (if FzB z G M b then w.cell? ⟨b, i, none⟩ else G.con b i) = some v := h
    by_cases e : FzB z G M b
    · exact .inr e
    · rw [if_neg e] at h; exact .inl h
  have cobG : ∀ b v, (gcG ids z G w M).cob b = some v → G.cob b = some v ∨ FzB z G M b := fun b v h => by
    have h : (if FzB z G M b then (match w.heap[b]? with | some (.map e _) => some e | _ => none) else G.cob b) = some v := h
    by_cases e : FzB z G M b
    · exact .inr e
    · rw [if_neg e] at h; exact .inl h
  have fzo : ∀ b, FzB z G M b → OwnB G M b := fun b ⟨id, base, o, _, hp⟩ => ⟨id, base, o, hp⟩
  have phi1 : ∀ c id x, c < N.length → ids[c]? = some id → G'.phi c = some x → G.phi id = some x := fun c id x hc hi hx => by
    cases e : G.phi id with
    | some y =>
      have := q6.le.phi c y (by rw [gcG_phi hi]; exact e)
      rw [hx] at this
      exact this.symm
    | none =>
      have := q7 c (nxc c hc) (by rw [gcG_phi hi]; exact e)
      rw [hx] at this
      cases this
  let G2 : Gh := ⟨G.phi, G'.con, G'.cob, fun b => if b < w.heap.size then G.tot b else G'.tot b⟩
  have tot2 : ∀ b, b < w.heap.size → G2.tot b = G'.tot b := fun b hb => by
    show (if b < w.heap.size then G.tot b else G'.tot b) = _
    rw [if_pos hb]
    exact (q6.tot b hb).symm
  have le12 : GLe G G2 := ⟨fun _ _ h => h, fun b i v h => q6.le.con b i v ((gcG_le (ids := ids) (z := z) hs).con b i v h), fun b v h => q6.le.cob b v ((gcG_le (ids := ids) (z := z) hs).cob b v h), fun id b base h => by
    show (if b < w.heap.size then G.tot b else G'.tot b) = _
    rw [if_pos (hs.lt id b base h)]⟩
  have rt : Rt N.length ids G' G2 := by
    refine ⟨fun c id x hc hi hx => phi1 c id x hc hi hx, ⟨fun _ _ h => (by cases h), fun _ _ _ h => h, fun _ _ h => h, fun _ _ _ h => (by cases h)⟩, fun c b base hc hx => ?_⟩
    obtain ⟨id, hi⟩ : ∃ id, ids[c]? = some id := ⟨_, List.getElem?_eq_getElem (by omega)⟩
    exact tot2 b (hs.lt id b base (phi1 c id _ hc hi hx))
  have kept : ∀ id b base, Own M id → z id = false → id ∉ ids → G.phi id = some (b, base) → ¬ OwnB (gcG ids z G w M) (clM (gcB ids z M hw)) b := fun id b base o hzf hn hp ho => by
    obtain ⟨id', base', h1, h2, h3⟩ := ob b ho
    have := hs.inj id id' b base base' o h2 hp h3
    subst this
    exact hn h1
  have clen : ∀ (c : Nat) (k : Blk), N[c]? = some k → c < N.length := fun c k h => (List.getElem?_eq_some_iff.1 h).1
  refine ⟨G2, hE _ _ _ rt q4, ⟨fun id k b base h1 h2 => ?_, fun id id' b b1 b2 o1 o2 e1 e2 => hs.inj id id' b b1 b2 (hu.own id o1).1 (hu.own id' o2).1 e1 e2, fun id b base e => Nat.lt_of_lt_of_le (hs.lt id b base e) q6.size, fun id b base e => by rw [hu.nx]; exact hs.fresh id b base e, q5.con, q5.cob, fun id b base i o e => ?_, fun id b base o e => ?_⟩, ⟨le12, fun _ _ _ h => .inl h, fun b i v h => ?_, fun b v h => ?_, fun b hb => ?_, fun b hb hn => ?_, q6.size, q6.os, by rw [hu.nx]; exact Nat.le_refl _, fun id o => .inl (hu.own id o).1⟩, rfl⟩
  · by_cases hgone : k = .gone
    · subst hgone; trivial
    · obtain ⟨o, h | ⟨hzf, hn, hg⟩⟩ := hu.own id ⟨k, h1, hgone⟩
      · obtain ⟨c, k1, k2, i1, i2, i3, i4, i5⟩ := h
        rw [h1] at i5
        cases i5
        have hp : G'.phi c = some (b, base) := q6.le.phi c _ (by rw [gcG_phi i1]; exact h2)
        exact hrt c k1 k i2 i4 G' G2 w' b base rt ⟨c, clen c k1 i2, hp⟩ (q5.blk c k1 b base (by rw [fget]; exact i2) hp)
      · rw [hg] at h1
        exact (hs.blk id k b base h1 h2).mono le12 (q6.keep b (hs.lt id b base h2) (kept id b base o hzf hn h2)) h2
  · obtain ⟨o1, h | ⟨hzf, hn, hg⟩⟩ := hu.own id o
    · obtain ⟨c, k1, k2, i1, i2, i3, i4, i5⟩ := h
      exact q5.sep c b base i ⟨k1, by rw [fget]; exact i2, i3⟩ (q6.le.phi c _ (by rw [gcG_phi i1]; exact e))
    · show G'.con b i = none
      cases hc : G'.con b i with
      | none => rfl
      | some v =>
        exfalso
        rcases q6.conn b i v hc with h | h | h
        · rcases conG b i v h with h | h
          · rw [hs.sep id b base i o1 e] at h; cases h
          · exact nf id b base o1 hzf e h
        · have := hs.lt id b base e; omega
        · exact kept id b base o1 hzf hn e h
  · obtain ⟨o1, h | ⟨hzf, hn, hg⟩⟩ := hu.own id o
    · obtain ⟨c, k1, k2, i1, i2, i3, i4, i5⟩ := h
      exact q5.sep2 c b base ⟨k1, by rw [fget]; exact i2, i3⟩ (q6.le.phi c _ (by rw [gcG_phi i1]; exact e))
    · show G'.cob b = none
      cases hc : G'.cob b with
      | none => rfl
      | some v =>
        exfalso
        rcases q6.cobn b v hc with h | h | h
        · rcases cobG b v h with h | h
          · rw [hs.sep2 id b base o1 e] at h; cases h
          · exact nf id b base o1 hzf e h
        · have := hs.lt id b base e; omega
        · exact kept id b base o1 hzf hn e h
  · rcases q6.conn b i v h with h | h | h
    · rcases conG b i v h with h | h
      · exact .inl h
      · exact .inr (.inr (fzo b h))
    · exact .inr (.inl h)
    · obtain ⟨id, base, _, h2, h3⟩ := ob b h
      exact .inr (.inr ⟨id, base, h2, h3⟩)
  · rcases q6.cobn b v h with h | h | h
    · rcases cobG b v h with h | h
      · exact .inl h
      · exact .inr (.inr (fzo b h))
    · exact .inr (.inl h)
    · obtain ⟨id, base, _, h2, h3⟩ := ob b h
      exact .inr (.inr ⟨id, base, h2, h3⟩)
  · show (if b < w.heap.size then G.tot b else G'.tot b) = _
    rw [if_pos hb]
  · refine q6.keep b hb fun ho => hn ?_
    obtain ⟨id, base, _, h2, h3⟩ := ob b ho
    exact ⟨id, base, h2, h3⟩
end
end Go.Proofs.YtpflobodmglmaaaGreat
set_option linter.unusedVariables false
set_option maxHeartbeats 4000000
namespace Go.Proofs.YtpflobodmglmaaaGreat
noncomputable section
/-! The small memory's values, as they are in the great one: of its first k ids. -/
def rn1 (k : Nat) (ids : List Nat) (a : AV) : AV := match a with
  | .ptr c ix sz off => bif Nat.blt c k then (match nth ids c with | some id => .ptr id ix sz off | none => .top) else .top
  | .sl c off len full sz => bif Nat.blt c k then (match nth ids c with | some id => .sl id off len full sz | none => .top) else .top
  | .map c => bif Nat.blt c k then (match nth ids c with | some id => .map id | none => .top) else .top
  | .yld c => bif Nat.blt c k then (match nth ids c with | some id => .yld id | none => .top) else .top
  | a => frz0 a
def rn2 (k : Nat) (ids : List Nat) (a : AV) : AV := match a with
  | .fn f l r => .fn f (l.map (rn1 k ids)) (r.map (rn1 k ids))
  | .ifc t v => .ifc t (rn1 k ids v)
  | .agg l => .agg (l.map (rn1 k ids))
  | .tup l => .tup (l.map (rn1 k ids))
  | a => rn1 k ids a
def rnV (k : Nat) (ids : List Nat) (a : AV) : AV := match a with
  | .fn f l r => .fn f (l.map (rn2 k ids)) (r.map (rn2 k ids))
  | .ifc t v => .ifc t (rn2 k ids v)
  | .agg l => .agg (l.map (rn1 k ids))
  | .tup l => .tup (l.map (rn2 k ids))
  | a => rn1 k ids a
def trM (F : AV → AV) : Tr AV → Tr AV
  | .nil => .nil
  | .node l v r => .node (trM F l) (v.map F) (trM F r)
def rnK (k : Nat) (ids : List Nat) (b : Blk) : Blk := match b with
  | .loop fn sz tm ps as body d st pe => bif Nat.blt d k then (match nth ids d with | some d' => .loop fn sz (trM (rnV k ids) tm) ps as body d' st pe | none => .gone) else .gone
  | .dfr => .dfr
  | .var cs => .var (cs.map (rnV k ids))
  | .row sz n g => .row sz n (fun i => (g i).map frz0)
  | .mpi kk kv l => .mpi kk kv l
  | .mps kv f => .mps kv f
  | _ => .gone
def rnE (k : Nat) (ids : List Nat) (e : AEnd) : AEnd := match e with
  | .ret v => .ret (rnV k ids v)
  | .pan l => .pan (l.map fun p => ⟨rnV k ids p.v, p.rcv⟩)
/-! Frames. -/
def cnD (F : AV → AV) (d : AD) : AD := match d with
  | .call g l => .call g (l.map F)
  | .coll id => .coll id
def isCl (d : AD) : Bool := match d with | .call _ _ => true | .coll _ => false
def obD (F : AV → List Prop) (d : AD) : List Prop := match d with
  | .call g l => l.flatMap F
  | .coll _ => []
def gcF (ids : List Nat) (z : Nat → Bool) (live : List Nat) (f : Fr) (M : Mem) : Fr :=
  ⟨f.fn, false, f.sz, tmL f.sz (live.map fun t => (t, cn (rhoI ids) z 4 M ((f.tm.get t).getD .undef))), f.todo, f.ds.map (cnD (cn (rhoI ids) z 4 M)), none⟩
def obI (ids : List Nat) (z : Nat → Bool) (M : Mem) (hw : Nat → Hw) : List Nat → Nat → List Prop
  | [], _ => []
  | id :: l, c => obB (rhoI ids) z M (hw c) (M.h.get id) ++ obI ids z M hw l (Nat.succ c)
def obF (ids : List Nat) (z : Nat → Bool) (hw : Nat → Hw) (live : List Nat) (f : Fr) (M : Mem) : List Prop :=
  live.flatMap (fun t => ob (rhoI ids) z 4 M ((f.tm.get t).getD .undef)) ++ (f.ds.flatMap (obD (ob (rhoI ids) z 4 M)) ++ obI ids z M hw ids 0)
def nodB : List Nat → Bool
  | [] => true
  | x :: l => !inN l x && nodB l
/-- The first k ids are themselves. -/
def rootB : Nat → List Nat → Nat → Bool
  | _, [], k => Nat.beq k 0
  | i, x :: l, k => match k with
    | 0 => true
    | k + 1 => Nat.beq x i && rootB (i + 1) l k
end
/-- What a frame brings in a small memory: its end, and what its first blocks are then. -/
def FrE (P : Program) (f : Fr) (M : Mem) (e : AEnd) (N : List Blk) : Prop := ∀ bl bl', FrS P f bl M e bl' (finM M N)
/-- What a call brings in a small memory. -/
def CtE (P : Program) (f : Nat) (args : List AV) (N0 : List Blk) (e : AEnd) (N : List Blk) : Prop := ∀ bl bl', CallS P f args false bl (clM N0) e bl' (finM (clM N0) N)
theorem obI_ok {ids : List Nat} {z : Nat → Bool} {M : Mem} {hw : Nat → Hw} : ∀ (l : List Nat) (i : Nat), allP (obI ids z M hw l i) → ∀ (c id : Nat), l[c]? = some id → allP (obB (rhoI ids) z M (hw (i + c)) (M.h.get id))
  | [], i, h, c, id, e => by simp at e
  | x :: l, i, h, c, id, e => by
    have h : allP (obB (rhoI ids) z M (hw i) (M.h.get x) ++ obI ids z M hw l (i + 1)) := h
    rw [allP_app] at h
    cases c with
    | zero => cases e; exact h.1
    | succ c =>
      have := obI_ok l (i + 1) h.2 c id e
      rw [show i + 1 + c = i + (c + 1) by omega] at this
      exact this
theorem trM_get (F : AV → AV) (t : Tr AV) (k : Nat) : (trM F t).get k = (t.get k).map F := by
  unfold Tr.get
  generalize pa k = p
  induction p generalizing t with
  | e => cases t <;> rfl
  | o p ih => cases t with
    | nil => rfl
    | node l v r => exact ih l
  | i p ih => cases t with
    | nil => rfl
    | node l v r => exact ih r
theorem nodB_ok : ∀ {l : List Nat}, nodB l = true → l.Nodup
  | [], _ => List.nodup_nil
  | x :: l, h => by
    have h : (!inN l x && nodB l) = true := h
    simp only [Bool.and_eq_true, Bool.not_eq_true'] at h
    refine List.nodup_cons.2 ⟨fun hm => ?_, nodB_ok h.2⟩
    have : inN l x = true := List.any_eq_true.2 ⟨x, hm, Nat.beq_refl x⟩
    rw [this] at h
    exact absurd h.1 (by simp)
theorem inN_mem {l : List Nat} {id : Nat} : inN l id = true ↔ id ∈ l := by
  unfold inN
  rw [List.any_eq_true]
  constructor
  · rintro ⟨x, hx, e⟩
    have : x = id := by simpa using e
    rw [← this]; exact hx
  · intro h
    exact ⟨id, h, Nat.beq_refl id⟩
theorem rootB_ok : ∀ (l : List Nat) (i k : Nat), rootB i l k = true → k ≤ l.length ∧ ∀ c, c < k → l[c]? = some (i + c)
  | [], i, k, h => by
    have h : k = 0 := by simpa [rootB] using h
    subst h
    exact ⟨Nat.le_refl _, fun c hc => by omega⟩
  | x :: l, i, 0, h => ⟨Nat.zero_le _, fun c hc => by omega⟩
  | x :: l, i, k + 1, h => by
    have h : (Nat.beq x i && rootB (i + 1) l k) = true := h
    simp only [Bool.and_eq_true, Nat.beq_eq] at h
    obtain ⟨h1, h2⟩ := rootB_ok l (i + 1) k h.2
    refine ⟨by simp only [List.length_cons]; omega, fun c hc => ?_⟩
    cases c with
    | zero => rw [h.1]; rfl
    | succ c =>
      rw [List.getElem?_cons_succ, h2 c (by omega)]
      congr 1
      omega
section
variable {P : Program} {G G' G1 G2 : Gh} {w w' : World} {M M1 M2 Mc : Mem} {ids : List Nat} {z : Nat → Bool} {N N2 : List Blk} {k : Nat}
theorem rn1_ok {v : Value} {a : AV} (hr : Rt k ids G1 G2) (h : RV G1 v a) : RV G2 v (rn1 k ids a) := by
  have hle := hr.le.trans (nph_le G2)
  have base := frz0_ok hle h
  have pick : ∀ {c : Nat} {x : Nat × Nat} (F : Nat → AV), G1.phi c = some x → (∀ id, c < k → G2.phi id = some x → RV G2 v (F id)) → RV G2 v (bif Nat.blt c k then (match nth ids c with | some id => F id | none => .top) else .top) := fun {c x} F hp hF => by
    cases hb : Nat.blt c k with
    | false => exact .top _
    | true =>
      have hlt : c < k := by simpa using hb
      show RV G2 v (match nth ids c with | some id => F id | none => .top)
      rw [nth_get]
      cases hi : ids[c]? with
      | none => exact .top _
      | some id => exact hF id hlt (hr.phi c id x hlt hi hp)
  cases h with
  | ptr hp => exact pick (fun id => .ptr id _ _ _) hp fun id _ h => .ptr h
  | sl hp hc hf ht ho => exact pick (fun id => .sl id _ _ _ _) hp fun id hlt h => .sl h hc hf (by rw [hr.tot _ _ _ hlt hp]; exact ht) ho
  | map hp => exact pick (fun id => .map id) hp fun id _ h => .map h
  | yld hp => exact pick (fun id => .yld id) hp fun id _ h => .yld h
  | _ => exact base
theorem rn2_ok {v : Value} {a : AV} (hr : Rt k ids G1 G2) (h : RV G1 v a) : RV G2 v (rn2 k ids a) := by
  have base := rn1_ok hr h
  cases h with
  | fn hl hr1 hl2 hr2 => exact .fn (by rw [List.length_map]; exact hl) (rvl_map hr1 fun v a _ h => rn1_ok hr h) (by rw [List.length_map]; exact hl2) (rvl_map hr2 fun v a _ h => rn1_ok hr h)
  | ifc h => exact .ifc (rn1_ok hr h)
  | agg hl hr1 => exact .agg (by rw [List.length_map]; exact hl) (rvl_map hr1 fun v a _ h => rn1_ok hr h)
  | tup hl hr1 => exact .tup (by rw [List.length_map]; exact hl) (rvl_map hr1 fun v a _ h => rn1_ok hr h)
  | _ => exact base
theorem rnV_ok {v : Value} {a : AV} (hr : Rt k ids G1 G2) (h : RV G1 v a) : RV G2 v (rnV k ids a) := by
  have base := rn1_ok hr h
  cases h with
  | fn hl hr1 hl2 hr2 => exact .fn (by rw [List.length_map]; exact hl) (rvl_map hr1 fun v a _ h => rn2_ok hr h) (by rw [List.length_map]; exact hl2) (rvl_map hr2 fun v a _ h => rn2_ok hr h)
  | ifc h => exact .ifc (rn2_ok hr h)
  | agg hl hr1 => exact .agg (by rw [List.length_map]; exact hl) (rvl_map hr1 fun v a _ h => rn1_ok hr h)
  | tup hl hr1 => exact .tup (by rw [List.length_map]; exact hl) (rvl_map hr1 fun v a _ h => rn2_ok hr h)
  | _ => exact base
theorem rnE_ok {e : AEnd} : RtE k ids e (rnE k ids e) := fun G1 G2 E hr h => by
  cases e with
  | ret v =>
    cases E with
    | returned x => exact rnV_ok hr h
    | panicked ch => exact h
    | outgrown => exact h
  | pan l =>
    cases E with
    | returned x => exact h
    | outgrown => exact h
    | panicked ch =>
      have go : ∀ (ch : List PanicEntry) (l : List AE), RCh G1 ch l → RCh G2 ch (l.map fun p => ⟨rnV k ids p.v, p.rcv⟩) := fun ch => by
        induction ch with
        | nil => intro l h; cases l with | nil => exact h | cons => exact h
        | cons p ch ih =>
          intro l h
          cases l with
          | nil => exact h
          | cons a l => exact ⟨h.1, h.2.1, rnV_ok hr h.2.2.1, ih l h.2.2.2⟩
      exact go ch l h
theorem rnK_ok {x : Blk} : RtB k ids x (rnK k ids x) := fun G1 G2 w b base hr hc h => by
  obtain ⟨c, hc1, hc2⟩ := hc
  cases x with
  | var cs =>
    obtain ⟨h0, arr, t, h1, h2⟩ := h
    exact ⟨h0, arr, t, h1, by rw [List.length_map]; exact h2.len, rvl_map h2.at' fun v a _ h => rnV_ok hr h⟩
  | row sz n g =>
    obtain ⟨arr, t, h1, h2, h3, h4⟩ := h
    exact ⟨arr, t, h1, h2, by rw [hr.tot c b base hc1 hc2]; exact h3, fun i hi => ⟨by rw [List.length_map]; exact (h4 i hi).1, fun j v a e f => by
        rw [List.getElem?_map] at f
        cases hc : (g i)[j]? with
        | none => rw [hc] at f; cases f
        | some a0 =>
          rw [hc] at f
          cases f
          exact frz0_ok (hr.le.trans (nph_le G2)) ((h4 i hi).2 j v a0 e hc)⟩⟩
  | mpi kk kv l => exact h
  | mps kv f => exact h
  | dfr => exact h
  | loop fn sz tm ps as body d st pe =>
    obtain ⟨h0, ts, db, h1, h2, h3, h4⟩ := h
    show BlkR G2 w b base (bif Nat.blt d k then (match nth ids d with | some d' => .loop fn sz (trM (rnV k ids) tm) ps as body d' st pe | none => .gone) else .gone)
    cases hb : Nat.blt d k with
    | false => trivial
    | true =>
      have hlt : d < k := by simpa using hb
      show BlkR G2 w b base (match nth ids d with | some d' => .loop fn sz (trM (rnV k ids) tm) ps as body d' st pe | none => .gone)
      rw [nth_get]
      cases hi : ids[d]? with
      | none => trivial
      | some d' =>
        refine ⟨h0, ts, db, h1, h2, fun t => ?_, hr.phi d d' _ hlt hi h4⟩
        rw [trM_get]
        have := h3 t
        cases ht : tm.get t with
        | none => rw [ht] at this; exact rnV_ok (a := .undef) hr this
        | some a => rw [ht] at this; exact rnV_ok hr this
  | _ => trivial
end
end Go.Proofs.YtpflobodmglmaaaGreat
set_option linter.unusedVariables false
set_option maxHeartbeats 4000000
namespace Go.Proofs.YtpflobodmglmaaaGreat
section
variable {P : Program} {G G' G1 G2 : Gh} {w w' : World} {M M1 M2 Mc : Mem} {ids : List Nat} {z : Nat → Bool} {N N2 : List Blk} {k : Nat} {hw : Nat → Hw}
theorem fr_at {f : Fr} {bl : AMode} {e : AEnd} {bl' : AMode} (h : FrS P f bl M e bl' M2) : AT (M.nx ≤ ·) M M2 := h.1
theorem gcB_len : (clM (gcB ids z M hw)).nx = ids.length := by
  show (gcB ids z M hw).length = _
  unfold gcB
  rw [gcI_len]
theorem upd_fin (hk : N.length ≤ ids.length) (hr : ∀ c, c < N.length → ids[c]? = some c) (hat : AT ((clM (gcB ids z M hw)).nx ≤ ·) (clM (gcB ids z M hw)) (finM (clM (gcB ids z M hw)) N)) : Upd M ids z N N (finM M N) := by
  refine ⟨rfl, fun id ⟨x, h1, h2⟩ => ?_, List.range M.nx, rfl, fun id h1 h2 => absurd (List.mem_range.2 (Nat.lt_of_not_le h1)) h2⟩
  rw [show (finM M N).h.get id = N[id]? from bld0_get _ _] at h1
  have hlt : id < N.length := (List.getElem?_eq_some_iff.1 h1).1
  have hi := hr id hlt
  refine ⟨?_, .inl ⟨id, x, x, hi, h1, h2, h1, by rw [show (finM M N).h.get id = N[id]? from bld0_get _ _]; exact h1⟩⟩
  rcases hat.own id ⟨x, by rw [show (finM (clM (gcB ids z M hw)) N).h.get id = N[id]? from bld0_get _ _]; exact h1, h2⟩ with o | o
  · obtain ⟨id', e1, e2⟩ := gcB_own o
    rw [hi] at e1
    cases e1
    exact e2
  · have o : (clM (gcB ids z M hw)).nx ≤ id := o
    rw [gcB_len] at o
    omega
theorem upd_at (hu : Upd M ids z N N2 M2) : AT (M.nx ≤ ·) M M2 :=
  ⟨by rw [hu.nx]; exact Nat.le_refl _, hu.lg, fun id o => .inl (hu.own id o).1, fun h id o => by rw [hu.nx]; exact h id (hu.own id o).1⟩
/-- Roots that stay where they are. -/
theorem rt_id (hr : ∀ c, c < k → ids[c]? = some c) (h : Rt k ids G1 G2) : Rt k (List.range k) G1 G2 := by
  refine ⟨fun c id x hc hi hx => ?_, h.le, h.tot⟩
  rw [List.getElem?_range hc] at hi
  cases hi
  exact h.phi c c x hc (hr c hc) hx
theorem roots_ok (hr : ∀ c, c < k → ids[c]? = some c) (hN : N.map (rnK k (List.range k)) = N) (c : Nat) (x x2 : Blk) (h1 : N[c]? = some x) (h2 : N[c]? = some x2) : RtB k ids x x2 := fun G1 G2 w b base h hc hb => by
  rw [h1] at h2
  cases h2
  have e : x = rnK k (List.range k) x := by
    have := congrArg (fun l => l[c]?) hN
    simp only [List.getElem?_map, h1, Option.map_some, Option.some.injEq] at this
    exact this.symm
  rw [e]
  exact rnK_ok G1 G2 w b base (rt_id hr h) hc hb
theorem rootE_ok {e : AEnd} (hr : ∀ c, c < k → ids[c]? = some c) (he : rnE k (List.range k) e = e) : RtE k ids e e := fun G1 G2 E h hb => by
  rw [← he]
  exact rnE_ok G1 G2 E (rt_id hr h) hb
theorem map_ds {ρ : Nat → Option Nat} (hs : St G w M) (hg : CnG ρ z G w M G') : ∀ {ds : List Deferred} {as : List AD}, (as.all isCl) = true → allP (as.flatMap (obD (ob ρ z 4 M))) → DsR G ds as → DsR G' ds (as.map (cnD (cn ρ z 4 M)))
  | [], [], _, _, _ => trivial
  | d :: ds, .call f args :: as, h1, h2, ⟨⟨cap, e1, e2⟩, h3⟩ => by
    have h1 : (isCl (.call f args) && as.all isCl) = true := h1
    simp only [Bool.and_eq_true] at h1
    rw [List.flatMap_cons, allP_app] at h2
    exact ⟨⟨cap, e1, by rw [List.length_map]; exact e2.len, rvl_map e2.at' fun v a ha h => cn_ok hs 4 hg h (allP_flat h2.1 a ha)⟩, map_ds hs hg h1.2 h2.2 h3⟩
  | d :: ds, .coll id :: as, h1, _, _ => by cases h1
  | [], _ :: _, _, _, h => h.elim
  | _ :: _, [], _, _, h => h.elim
/-- A frame that runs in a small memory. -/
theorem gc_fr {f : Fr} {live : List Nat} {e : AEnd} (h : FrE P (gcF ids z live f M) (clM (gcB ids z M hw)) e N) (hnd : nodB ids = true) (hrb : rootB 0 ids N.length = true) (hz : ∀ id, z id = true → id ∉ ids)
    (hdf : f.dfd = false) (hro : f.ro = none) (hds : f.ds.all isCl = true) (hob : allP (obF ids z hw live f M)) (he : rnE N.length (List.range N.length) e = e) (hN : N.map (rnK N.length (List.range N.length)) = N) : FrE P f M e N := fun bl bl' => by
  obtain ⟨hk, hr⟩ := rootB_ok ids 0 N.length hrb
  simp only [Nat.zero_add] at hr
  obtain ⟨hat, hS⟩ := h bl bl'
  have hu := upd_fin (M := M) hk hr hat
  unfold obF at hob
  rw [allP_app, allP_app] at hob
  obtain ⟨ho1, ho2, ho3⟩ := hob
  refine ⟨upd_at hu, fun G w b a c0s cs hs hwf hfr hb hcs => ?_⟩
  obtain ⟨sc, wc⟩ := gc_st (z := z) (hw := hw) hs (nodB_ok hnd) hz fun c id hi => by
    have := obI_ok ids 0 ho3 c id hi
    rw [Nat.zero_add] at this
    exact this
  have cg := gc_cn (ids := ids) (z := z) hs
  have hfr' : FrR (gcG ids z G w M) (gcF ids z live f M) b a := by
    refine ⟨hfr.fn, by rw [hfr.kind, hdf]; rfl, hfr.sz, cn_tm hs cg hfr.sz hfr.rt ho1, map_ds hs cg hds ho2 hfr.ds, ?_, fun h => absurd rfl h⟩
    · show b.roundOf = none
      have := hfr.ro
      rw [hro] at this
      exact this
  rw [hdf] at hb ⊢
  rw [hro]
  obtain ⟨G', w', cs', E, m', q1, q2, q3, q4, q5, q6, q7⟩ := hS (gcG ids z G w M) w b a c0s cs sc wc hfr' hb (fun h => absurd rfl h)
  obtain ⟨G2, r1, r2, r3, r4⟩ := gc_back hs (nodB_ok hnd) hk (roots_ok hr hN) (rootE_ok hr he) hu q4 q5 q6 q7
  exact ⟨G2, w', cs', E, m', q1, q2, q3, r1, r2, r3, fun id _ h => by rw [r4]; exact h⟩
/-- A call that runs in a small memory. -/
theorem gc_call {f : Nat} {args : List AV} {e : AEnd} (h : CtE P f (args.map (cn (rhoI ids) z 4 M)) (gcB ids z M hw) e N) (hnd : nodB ids = true) (hk : N.length ≤ ids.length) (hz : ∀ id, z id = true → id ∉ ids)
    (hob : allP (args.flatMap (ob (rhoI ids) z 4 M) ++ obI ids z M hw ids 0)) (hu : Upd M ids z N (N.map (rnK N.length ids)) M2) (bl bl' : AMode) : CallS P f args false bl M (rnE N.length ids e) bl' M2 := by
  obtain ⟨h1, hat, hS⟩ := h bl bl'
  rw [allP_app] at hob
  refine ⟨h1, upd_at hu, fun G w vs c0s cs hs hwf hv hb => ?_⟩
  obtain ⟨sc, wc⟩ := gc_st (z := z) (hw := hw) hs (nodB_ok hnd) hz fun c id hi => by
    have := obI_ok ids 0 hob.2 c id hi
    rw [Nat.zero_add] at this
    exact this
  have cg := gc_cn (ids := ids) (z := z) hs
  obtain ⟨G', w', cs', E, m', q1, q2, q3, q4, q5, q6, q7⟩ := hS (gcG ids z G w M) w vs c0s cs sc wc ⟨by rw [List.length_map]; exact hv.len, rvl_map hv.at' fun v a ha h => cn_ok hs 4 cg h (allP_flat hob.1 a ha)⟩ hb
  obtain ⟨G2, r1, r2, r3, r4⟩ := gc_back (N2 := N.map (rnK N.length ids)) hs (nodB_ok hnd) hk (fun c x x2 h1 h2 => by
    rw [List.getElem?_map, h1] at h2
    cases h2
    exact rnK_ok) rnE_ok hu q4 q5 q6 q7
  exact ⟨G2, w', cs', E, m', q1, q2, q3, r1, r2, r3, fun id _ h => by rw [r4]; exact h⟩
/-- A call that runs in a small memory, of which what is told is only looked at. -/
theorem gc_keep {f : Nat} {args : List AV} {e : AEnd} (h : CtE P f (args.map (cn (rhoI ids) (fun _ => false) 4 M)) (gcB ids (fun _ => false) M hw) e N) (hnd : nodB ids = true) (hk : N.length = ids.length)
    (hob : allP (args.flatMap (ob (rhoI ids) (fun _ => false) 4 M) ++ obI ids (fun _ => false) M hw ids 0)) (hg : ∀ k ∈ N, k ≠ .gone) (hw2 : ∀ (c id : Nat) (k : Blk), ids[c]? = some id → N[c]? = some k → ∃ x, M.h.get id = some x ∧ ∀ (G : Gh) (w : World) (b base : Nat), BlkR G w b base (rnK N.length ids k) → BlkR G w b base x) (bl bl' : AMode) : CallS P f args false bl M (rnE N.length ids e) bl' M := by
  obtain ⟨h1, hat, hS⟩ := h bl bl'
  rw [allP_app] at hob
  refine ⟨h1, AT.refl _ _, fun G w vs c0s cs hs hwf hv hb => ?_⟩
  obtain ⟨sc, wc⟩ := gc_st (z := fun _ => false) (hw := hw) hs (nodB_ok hnd) (fun id hz => by cases hz) fun c id hi => by
    have := obI_ok ids 0 hob.2 c id hi
    rw [Nat.zero_add] at this
    exact this
  have cg := gc_cn (ids := ids) (z := fun _ => false) hs
  obtain ⟨G', w', cs', E, m', q1, q2, q3, q4, q5, q6, q7⟩ := hS (gcG ids (fun _ => false) G w M) w vs c0s cs sc wc ⟨by rw [List.length_map]; exact hv.len, rvl_map hv.at' fun v a ha h => cn_ok hs 4 cg h (allP_flat hob.1 a ha)⟩ hb
  let N2 : List Blk := ids.map fun id => (M.h.get id).getD .gone
  have hu : Upd M ids (fun _ => false) N N2 M := by
    refine ⟨rfl, fun id o => ⟨o, ?_⟩, [], rfl, fun _ _ _ => rfl⟩
    by_cases hm : id ∈ ids
    · obtain ⟨c, hc⟩ := List.getElem?_of_mem hm
      have hlt : c < N.length := by rw [hk]; exact (List.getElem?_eq_some_iff.1 hc).1
      obtain ⟨x, hx, _⟩ := hw2 c id N[c] hc (List.getElem?_eq_getElem hlt)
      exact .inl ⟨c, N[c], x, hc, List.getElem?_eq_getElem hlt, hg _ (List.getElem_mem hlt), by rw [List.getElem?_map, hc]; show some ((M.h.get id).getD .gone) = some x; rw [hx]; rfl, hx⟩
    · exact .inr ⟨rfl, hm, rfl⟩
  obtain ⟨G2, r1, r2, r3, r4⟩ := gc_back (N2 := N2) hs (nodB_ok hnd) (Nat.le_of_eq hk) (fun c x x2 h1 h2 => by
    rw [List.getElem?_map] at h2
    cases hi : ids[c]? with
    | none => rw [hi] at h2; cases h2
    | some id =>
      rw [hi] at h2
      have h2 : (M.h.get id).getD .gone = x2 := by simpa using h2
      obtain ⟨y, hy, hwk⟩ := hw2 c id x hi h1
      rw [hy] at h2
      have h2 : y = x2 := h2
      subst h2
      exact fun G1 G2 w b base hr hc hb => hwk _ _ _ _ (rnK_ok G1 G2 w b base hr hc hb)) rnE_ok hu q4 q5 q6 q7
  exact ⟨G2, w', cs', E, m', q1, q2, q3, r1, r2, r3, fun id _ h => by rw [r4]; exact h⟩
/-- An answer that is a scalar: what was asked of memory stays as it was. -/
def scE (e : AEnd) : Prop := ∀ G1 G2 E, RE G1 E e → RE G2 E e
theorem gc_peek {f : Nat} {args : List AV} {e : AEnd} (h : CtE P f (args.map (cn (fun _ => none) (fun _ => true) 4 M)) [] e []) (hsc : scE e)
    (hob : allP (args.flatMap (ob (fun _ => none) (fun _ => true) 4 M))) (bl bl' : AMode) : CallS P f args false bl M e bl' M := by
  obtain ⟨h1, hat, hS⟩ := h bl bl'
  refine ⟨h1, AT.refl _ _, fun G w vs c0s cs hs hw hv hb => ?_⟩
  have hz : ∀ id, (fun _ : Nat => true) id = true → id ∉ ([] : List Nat) := fun id _ => by simp
  obtain ⟨sc, wc⟩ := gc_st (z := fun _ => true) (ids := []) (hw := fun _ => ⟨false, fun _ => []⟩) hs List.nodup_nil hz fun c id hi => by simp at hi
  have cg := gc_cn (ids := []) (z := fun _ => true) hs
  have cg' : CnG (fun _ => none) (fun _ => true) G w M (gcG [] (fun _ => true) G w M) := ⟨fun _ _ _ h => (by cases h), cg.tot, cg.le, cg.con, cg.cob⟩
  obtain ⟨G', w', cs', E, m', q1, q2, q3, q4, q5, q6, q7⟩ := hS (gcG [] (fun _ => true) G w M) w vs c0s cs sc wc ⟨by rw [List.length_map]; exact hv.len, rvl_map hv.at' fun v a ha h => cn_ok hs 4 cg' h (allP_flat hob a ha)⟩ hb
  have nob : ∀ b, ¬ OwnB (gcG [] (fun _ => true) G w M) (clM (gcB [] (fun _ => true) M (fun _ => ⟨false, fun _ => []⟩))) b := fun b ⟨c, base, o, _⟩ => by
    obtain ⟨id, e1, _⟩ := gcB_own o
    simp at e1
  have keep : ∀ b, b < w.heap.size → w'.heap[b]? = w.heap[b]? := fun b hb => q6.keep b hb (nob b)
  exact ⟨G, w', cs', E, m', q1, q2, q3, hsc _ _ _ q4, hs.grow keep q6.size, ⟨GLe.refl G, fun _ _ _ h => .inl h, fun _ _ _ h => .inl h, fun _ _ h => .inl h, fun _ _ => rfl, fun b hb _ => keep b hb, q6.size, q6.os, Nat.le_refl _, fun _ h => .inl h⟩, Ub.refl _ _⟩
end
end Go.Proofs.YtpflobodmglmaaaGreat
set_option linter.unusedVariables false
set_option maxHeartbeats 4000000
namespace Go.Proofs.YtpflobodmglmaaaGreat
noncomputable section
def WkE (x y : AEnd) : Prop := ∀ (G : Gh) (E : Ending), RE G E x → RE G E y
def WkB (x y : Blk) : Prop := ∀ (G : Gh) (w : World) (b base : Nat), BlkR G w b base x → BlkR G w b base y
def rhoK (k : Nat) (id : Nat) : Option Nat := bif Nat.blt id k then some id else none
def zK (k : Nat) (id : Nat) : Bool := !Nat.blt id k
def cnE (ρ : Nat → Option Nat) (z : Nat → Bool) (M : Mem) (e : AEnd) : AEnd := match e with
  | .ret v => .ret (cn ρ z 4 M v)
  | .pan l => .pan (l.map fun p => ⟨cn ρ z 4 M p.v, p.rcv⟩)
def obE (ρ : Nat → Option Nat) (z : Nat → Bool) (M : Mem) (e : AEnd) : List Prop := match e with
  | .ret v => ob ρ z 4 M v
  | .pan l => l.flatMap fun p => ob ρ z 4 M p.v
def ngO (b : Option Blk) : Bool := match b with | some .gone => false | some _ => true | none => false
def hw0 : Hw := ⟨false, fun _ => []⟩
def rtP (k : Nat) (M : Mem) : List Blk → Nat → Prop
  | [], _ => True
  | b :: bs, c => (bif ngO (M.h.get c) then allP (obB (rhoK k) (zK k) M hw0 (M.h.get c)) ∧ WkB (cnB (rhoK k) (zK k) M hw0 (M.h.get c)) b else False) ∧ rtP k M bs (c + 1)
/-- How it is to end. -/
def endP (e0 : AEnd) (N : List Blk) (e : AEnd) (M : Mem) : Prop := allP (obE (rhoK N.length) (zK N.length) M e) ∧ WkE (cnE (rhoK N.length) (zK N.length) M e) e0 ∧ rtP N.length M N 0
def sameK (a b : AEnd) : Bool := match a, b with | .ret _, .ret _ => true | .pan _, .pan _ => true | _, _ => false
def kE (e0 : AEnd) (N : List Blk) : K Prop := fun e bl M => match bl with
  | .ret => e = e0 ∧ M.h = bld N 0 .nil
  | _ => bif sameK e e0 then endP e0 N e M else False
/-! What is told of loops and calls. -/
inductive Src where
  | v (i : Nat)
  | c (b j : Nat)
  | d (b : Nat)
def idV (a : AV) : Option Nat := match a with | .ptr id _ _ _ => some id | .sl id _ _ _ _ => some id | .map id => some id | .yld id => some id | .fn _ (.ptr id _ _ _ :: _) _ => some id | .fn _ [] (.ptr id _ _ _ :: _) => some id | _ => none
def srcV (get : Nat → AV) (M : Mem) (acc : List Nat) (s : Src) : Option Nat := match s with
  | .v i => idV (get i)
  | .d b => (match nth acc b with | some id => (match M.h.get id with | some (.loop _ _ _ _ _ _ d _ _) => some d | _ => none) | none => none)
  | .c b j => (match nth acc b with | some id => (match M.h.get id with | some (.var cs) => (match nth cs j with | some a => idV a | none => none) | _ => none) | none => none)
def rsl (get : Nat → AV) (M : Mem) : List Src → List Nat → Option (List Nat)
  | [], acc => some acc
  | s :: r, acc => match srcV get M acc s with | some id => rsl get M r (acc ++ [id]) | none => rsl get M r acc
structure LSp where
  live : List Nat
  ids : List Src
  ent : Bool := true
  deep : List Nat := []
  lvs : List (Nat × List Nat) := []
structure CSp where
  ids : List Src
  res : List AV → List Blk → AEnd × List Blk
  deep : List Nat := []
  lvs : List (Nat × List Nat) := []
  /-- What is told of is only looked at: memory stays as it is. -/
  keep : Bool := false
  when : List AV → Bool := fun _ => true
  /-- It leaves blocks of its own (behind those that are told of). -/
  new : Bool := false
  /-- Other ends, and when. -/
  alts : List ((List AV → Mem → Bool) × (List AV → List Blk → AEnd × List Blk)) := []
def lvOf : List (Nat × List Nat) → Nat → List Nat
  | [], _ => []
  | (g, l) :: r, f => bif Nat.beq f g then l else lvOf r f
def hwOf (deep : List Nat) (lvs : List (Nat × List Nat)) (c : Nat) : Hw := ⟨inN deep c, lvOf lvs⟩
structure Cfg where
  cs : List (Nat × CSp)
  ls : List (Nat × Nat × LSp)
def findC : List (Nat × CSp) → Nat → List AV → Option CSp
  | [], _, _ => none
  | (g, s) :: l, f, as => bif Nat.beq f g && s.when as then some s else findC l f as
def findL : List (Nat × Nat × LSp) → Nat → Nat → Option LSp
  | [], _, _ => none
  | (g, i, s) :: l, f, id => bif Nat.beq f g && Nat.beq id i then some s else findL l f id
def lpOf (c : Cfg) (f : Fr) : Option LSp := match f.todo with
  | .inLoop _ :: .inBlock id :: _ => findL c.ls f.fn id
  | .code (.loop _) :: .inBlock id :: _ => (match findL c.ls f.fn id with | some s => bif s.ent then some s else none | none => none)
  | .code (.region id _ _) :: _ => findL c.ls f.fn (Nat.add 1000000 id)
  | _ => none
def bodyT (t : List Item) : List Item := match t with
  | .inLoop b :: r => .code b :: .inLoop b :: r
  | .code (.loop b) :: r => .code b :: .inLoop b :: r
  | t => t
def clOf (c : Cfg) (f : Nat) (dfd : Bool) (as : List AV) : Option CSp := bif dfd then none else findC c.cs f as
def isSt {R : Type} (c : Cfg) (j : Job R) : Bool := match j with
  | .fr f _ _ _ => (match lpOf c f with | some _ => true | none => false)
  | .call f as dfd _ _ _ => (match clOf c f dfd as with | some _ => true | none => false)
  | _ => false
def runV (c : Cfg) (X : Cx) {R : Type} (er : Nat → R) (base : Job R → R) (n : Nat) : Job R → R := Nat.rec (fun _ => er 99) (fun _ ih j => bif isSt c j then base j else stepJ X er ih j) n
def scA (a : AV) : Bool := match a with
  | .undef => true
  | .bool _ => true
  | .int _ _ => true
  | .str _ => true
  | .nilp => true
  | .tup [] => true
  | _ => false
def scV (a : AV) : Bool := match a with | .tup l => l.all scA | .ifc _ v => scA v | a => scA a
def scB (e : AEnd) : Bool := match e with | .ret v => scV v | .pan l => l.all fun p => scV p.v
def rch (M : Mem) (d : Nat) : AV → List Nat := Nat.rec (motive := fun _ => AV → List Nat) (fun _ => []) (fun _ ih a => match a with
  | .ptr id _ _ _ => id :: (match M.h.get id with | some (.var cs) => cs.flatMap ih | _ => [])
  | .sl id off len full _ => id :: (bif full then (match M.h.get id with | some (.row _ _ g) => (List.range len).flatMap fun i => (g (off + i)).flatMap ih | _ => []) else [])
  | .map id => [id]
  | .yld id => [id]
  | .fn _ l r => l.flatMap ih ++ r.flatMap ih
  | .ifc _ v => ih v
  | .agg l => l.flatMap ih
  | .tup l => l.flatMap ih
  | _ => []) d
def bldI : List Nat → List Blk → Tr Blk → Tr Blk
  | id :: ids, b :: bs, t => bldI ids bs (t.set id b)
  | _, _, t => t
def goneL (L : List Nat) (t : Tr Blk) : Tr Blk := L.foldl (fun t id => t.set id .gone) t
def updM (M : Mem) (ids L : List Nat) (N : List Blk) : Mem := ⟨bldI ids N (goneL L M.h), M.nx, ids ++ (L ++ M.lg)⟩
def zL (ids L : List Nat) (id : Nat) : Bool := inN L id && !inN ids id
def cPeek (P : Program) (f : Nat) (args : List AV) (M : Mem) (k : AEnd → Mem → Prop) (e : AEnd) : Prop :=
  allP (args.flatMap (ob (fun _ => none) (fun _ => true) 4 M)) ∧ (CtE P f (args.map (cn (fun _ => none) (fun _ => true) 4 M)) [] e [] ∧ k e M)
def cEat2 (P : Program) (hw : Nat → Hw) (f : Nat) (args : List AV) (M : Mem) (k : AEnd → Mem → Prop) (ids L : List Nat) (r : AEnd × List Blk) : Prop :=
  bif nodB ids && (Nat.beq r.2.length ids.length && ids.all fun id => ngO (M.h.get id)) then
    allP (args.flatMap (ob (rhoI ids) (zL ids L) 4 M) ++ obI ids (zL ids L) M hw ids 0) ∧ (CtE P f (args.map (cn (rhoI ids) (zL ids L) 4 M)) (gcB ids (zL ids L) M hw) r.1 r.2 ∧ k (rnE r.2.length ids r.1) (updM M ids L (r.2.map (rnK r.2.length ids)))) else False
def cEat (P : Program) (hw : Nat → Hw) (f : Nat) (args : List AV) (M : Mem) (k : AEnd → Mem → Prop) (res : List AV → List Blk → AEnd × List Blk) (ids L : List Nat) : Prop :=
  cEat2 P hw f args M k ids L (res (args.map (cn (rhoI ids) (zL ids L) 4 M)) (gcB ids (zL ids L) M hw))
def ngB (b : Blk) : Bool := match b with | .gone => false | _ => true
def wkM (M : Mem) : List Nat → List Blk → Prop
  | id :: ids, b :: bs => (match M.h.get id with | some x => WkB b x | none => False) ∧ wkM M ids bs
  | _, _ => True
def cKeep (P : Program) (hw : Nat → Hw) (f : Nat) (args : List AV) (M : Mem) (k : AEnd → Mem → Prop) (ids : List Nat) (r : AEnd × List Blk) : Prop :=
  bif nodB ids && (Nat.beq r.2.length ids.length && r.2.all ngB) then
    allP (args.flatMap (ob (rhoI ids) (fun _ => false) 4 M) ++ obI ids (fun _ => false) M hw ids 0) ∧ (CtE P f (args.map (cn (rhoI ids) (fun _ => false) 4 M)) (gcB ids (fun _ => false) M hw) r.1 r.2 ∧ (wkM M ids (r.2.map (rnK r.2.length ids)) ∧ k (rnE r.2.length ids r.1) M)) else False
def cKp (P : Program) (hw : Nat → Hw) (f : Nat) (args : List AV) (M : Mem) (k : AEnd → Mem → Prop) (res : List AV → List Blk → AEnd × List Blk) (ids : List Nat) : Prop :=
  cKeep P hw f args M k ids (res (args.map (cn (rhoI ids) (fun _ => false) 4 M)) (gcB ids (fun _ => false) M hw))
def ddp (l : List Nat) : List Nat := l.foldl (fun acc x => bif inN acc x then acc else acc ++ [x]) []
def cCall (P : Program) (s : CSp) (f : Nat) (args : List AV) (M : Mem) (k : AEnd → Mem → Prop) : Prop := bif s.keep then cKp P (hwOf s.deep s.lvs) f args M k s.res (ddp (args.flatMap (rch M 4))) else match s.ids with
  | [] => bif scB (s.res (args.map (cn (fun _ => none) (fun _ => true) 4 M)) []).1 then cPeek P f args M k (s.res (args.map (cn (fun _ => none) (fun _ => true) 4 M)) []).1 else cEat P (hwOf s.deep s.lvs) f args M k s.res [] (args.flatMap (rch M 4))
  | l => (match rsl (fun i => (nth args i).getD .undef) M l [] with
    | some ids => cEat P (hwOf s.deep s.lvs) f args M k s.res ids (args.flatMap (rch M 4))
    | none => False)
def withR (s : CSp) (r : List AV → List Blk → AEnd × List Blk) : CSp := { s with res := r }
def cAlt (P : Program) (s : CSp) (f : Nat) (args : List AV) (M : Mem) (k : AEnd → Mem → Prop) (l : List ((List AV → Mem → Bool) × (List AV → List Blk → AEnd × List Blk))) : Prop :=
  List.rec (motive := fun _ => Prop) (cCall P s f args M k) (fun p _ ih => bif p.1 args M then cCall P (withR s p.2) f args M k else ih) l
def zN (ids : List Nat) (id : Nat) : Bool := !inN ids id
def isNo {α : Type} (o : Option α) : Bool := match o with | none => true | some _ => false
def cFr (P : Program) (e0 : AEnd) (N : List Blk) (s : LSp) (f : Fr) (M : Mem) (k : K Prop) : Prop := match rsl (fun t => (f.tm.get t).getD .undef) M s.ids (List.range N.length) with
  | some ids => bif nodB ids && (rootB 0 ids N.length && (!f.dfd && (isNo f.ro && f.ds.all isCl))) then
      allP (obF ids (zN ids) (hwOf s.deep s.lvs) s.live f M) ∧ (FrE P (gcF ids (zN ids) s.live (frTodo f (bodyT f.todo)) M) (clM (gcB ids (zN ids) M (hwOf s.deep s.lvs))) e0 N ∧ k e0 .ret (finM M N)) else False
  | none => False
def baseV (P : Program) (c : Cfg) (e0 : AEnd) (N : List Blk) (j : Job Prop) : Prop := match j with
  | .fr f bl M k => (match lpOf c f with | some s => cFr P e0 N s f M k | none => False)
  | .call f args dfd bl M k => (match clOf c f dfd args with | some s => cAlt P s f args M (fun e M' => k e bl M') s.alts | none => False)
  | _ => False
def VC (X : Cx) (c : Cfg) (e0 : AEnd) (N : List Blk) (n : Nat) (j : Job Prop) : Prop := stepJ X (fun _ => False) (runV c X (fun _ => False) (baseV X.P c e0 N) n) j
end
section
variable {P : Program} {G G' : Gh} {w w' : World} {M M1 Mc : Mem} {N : List Blk} {e0 e1 : AEnd} {c : Cfg}
/-- The end, and what is asked of it. -/
def EndQ (e0 : AEnd) (N : List Blk) (e1 : AEnd) (M1 : Mem) : Prop := ∀ G w, St G w M1 → ∃ G3 : Gh, G3.phi = G.phi ∧ G3.tot = G.tot ∧ GLe G.nph G3.nph ∧ (∀ b i v, G3.con b i = some v → w.cell? ⟨b, i, none⟩ = some v ∧ (G.con b i = some v ∨ OwnB G M1 b)) ∧ (∀ b v, G3.cob b = some v → (∃ t, w.heap[b]? = some (.map v t)) ∧ (G.cob b = some v ∨ OwnB G M1 b)) ∧
  (∀ E, RE G E e1 → RE G3 E e0) ∧ ∀ (c : Nat) (k : Blk), N[c]? = some k → k ≠ .gone → Own M1 c ∧ ∀ b base, G.phi c = some (b, base) → BlkR G3 w b base k ∧ (∀ i, G3.con b i = none) ∧ G3.cob b = none
theorem goal_end {m : Machine} {fn : Nat} {c0s : List Frame} {bl1 bl2 : AMode} (hs : St G w Mc) (hq : EndQ e0 N e1 M1) (hk : N.length ≤ Mc.nx) (he : rnE N.length (List.range N.length) e0 = e0) (hN : N.map (rnK N.length (List.range N.length)) = N)
    (h : Goal P G w Mc m none false fn c0s e1 bl1 M1) : Goal P G w Mc m none false fn c0s e0 bl2 (finM Mc N) := by
  obtain ⟨G', w', cs', E, m', q1, q2, q3, q4, q5, q6, q7⟩ := h
  obtain ⟨G3, a1, a2, a3, a4, a5, a6, a7⟩ := hq G' w' q5
  have fget : ∀ c, (finM Mc N).h.get c = N[c]? := fun c => bld0_get _ _
  have rr : ∀ c, c < N.length → (List.range N.length)[c]? = some c := fun c hc => List.getElem?_range hc
  let G4 : Gh := ⟨fun id => if id < Mc.nx then G3.phi id else none, G3.con, G3.cob, G3.tot⟩
  have phi4 : ∀ id x, G4.phi id = some x → id < Mc.nx ∧ G'.phi id = some x := fun id x h => by
    have h : (if id < Mc.nx then G3.phi id else none) = some x := h
    by_cases e : id < Mc.nx
    · rw [if_pos e, a1] at h; exact ⟨e, h⟩
    · rw [if_neg e] at h; cases h
  have rt : Rt N.length (List.range N.length) G3 G4 := ⟨fun c id x hc hi hx => by
    rw [rr c hc] at hi
    cases hi
    show (if c < Mc.nx then G3.phi c else none) = some x
    rw [if_pos (by omega)]
    exact hx, ⟨fun _ _ h => (by cases h), fun _ _ _ h => h, fun _ _ h => h, fun _ _ _ h => (by cases h)⟩, fun _ _ _ _ _ => rfl⟩
  have own1 : ∀ c, Own (finM Mc N) c → ∃ k, N[c]? = some k ∧ k ≠ .gone := fun c ⟨k, h1, h2⟩ => ⟨k, by rw [← fget]; exact h1, h2⟩
  refine ⟨G4, w', cs', E, m', q1, q2, q3, rootE_ok rr he _ _ _ rt (a6 E q4), ⟨fun c k b base h1 h2 => ?_, fun c c' b b1 b2 o1 o2 e1 e2 => ?_, fun id b base e => q5.lt id b base (phi4 _ _ e).2, fun id b base e => (phi4 _ _ e).1, fun b i v h => (a4 b i v h).1, fun b v h => (a5 b v h).1, fun c b base i o e => ?_, fun c b base o e => ?_⟩,
    ⟨⟨fun id x h => ?_, fun b i v h => a3.con b i v (q6.le.con b i v h), fun b v h => a3.cob b v (q6.le.cob b v h), fun id b base h => ?_⟩, fun id b base h => q6.phin id b base (phi4 _ _ h).2, fun b i v h => ?_, fun b v h => ?_, fun b hb => ?_, q6.keep, q6.size, q6.os, Nat.le_refl _, fun c o => ?_⟩, fun id hi h => ?_⟩
  · rw [fget] at h1
    by_cases hg : k = .gone
    · subst hg; trivial
    · obtain ⟨b1, b2⟩ := a7 c k h1 hg
      obtain ⟨b3, b4, b5⟩ := b2 b base (phi4 _ _ h2).2
      have hc := (List.getElem?_eq_some_iff.1 h1).1
      exact roots_ok rr hN c k k h1 h1 G3 G4 w' b base rt ⟨c, hc, by rw [a1]; exact (phi4 _ _ h2).2⟩ b3
  · obtain ⟨k1, h1, g1⟩ := own1 c o1
    obtain ⟨k2, h2, g2⟩ := own1 c' o2
    exact q5.inj c c' b b1 b2 (a7 c k1 h1 g1).1 (a7 c' k2 h2 g2).1 (phi4 _ _ e1).2 (phi4 _ _ e2).2
  · obtain ⟨k1, h1, g1⟩ := own1 c o
    exact ((a7 c k1 h1 g1).2 b base (phi4 _ _ e).2).2.1 i
  · obtain ⟨k1, h1, g1⟩ := own1 c o
    exact ((a7 c k1 h1 g1).2 b base (phi4 _ _ e).2).2.2
  · show (if id < Mc.nx then G3.phi id else none) = some x
    rw [if_pos (hs.fresh id x.1 x.2 h), a1]
    exact q6.le.phi id x h
  · show G3.tot b = G.tot b
    rw [a2]
    exact q6.le.tot id b base h
  · rcases (a4 b i v h).2 with h | h
    · exact q6.conn b i v h
    · by_cases hb : b < w.heap.size
      · exact .inr (.inr (q6.ownB hb h))
      · exact .inr (.inl (Nat.le_of_not_lt hb))
  · rcases (a5 b v h).2 with h | h
    · exact q6.cobn b v h
    · by_cases hb : b < w.heap.size
      · exact .inr (.inr (q6.ownB hb h))
      · exact .inr (.inl (Nat.le_of_not_lt hb))
  · show G3.tot b = G.tot b
    rw [a2]
    exact q6.tot b hb
  · obtain ⟨k1, h1, g1⟩ := own1 c o
    exact q6.dom c (a7 c k1 h1 g1).1
  · show (if id < Mc.nx then G3.phi id else none) = none
    rw [if_pos hi, a1]
    exact q7 id hi h
theorem fin_at (hk : N.length ≤ Mc.nx) (hq : ∀ (c : Nat) (k : Blk), N[c]? = some k → k ≠ .gone → Own M1 c) (h : AT (Mc.nx ≤ ·) Mc M1) : AT (Mc.nx ≤ ·) Mc (finM Mc N) := by
  have fget : ∀ c, (finM Mc N).h.get c = N[c]? := fun c => bld0_get _ _
  refine ⟨Nat.le_refl _, ⟨List.range Mc.nx, rfl, fun id h1 h2 => absurd (List.mem_range.2 (Nat.lt_of_not_le h1)) h2⟩, fun c ⟨k, h1, h2⟩ => ?_, fun _ c ⟨k, h1, h2⟩ => ?_⟩
  · rw [fget] at h1
    exact h.own c (hq c k h1 h2)
  · rw [fget] at h1
    have := (List.getElem?_eq_some_iff.1 h1).1
    show c < Mc.nx
    omega
open Classical in
theorem endP_q (h : endP e0 N e1 M1) : EndQ e0 N e1 M1 ∧ ∀ (c : Nat) (k : Blk), N[c]? = some k → k ≠ .gone → Own M1 c := by
  obtain ⟨h1, h2, h3⟩ := h
  have hrt : ∀ (L : List Blk) (i : Nat), rtP N.length M1 L i → ∀ (c : Nat) (k : Blk), L[c]? = some k → ngO (M1.h.get (i + c)) = true ∧ allP (obB (rhoK N.length) (zK N.length) M1 hw0 (M1.h.get (i + c))) ∧ WkB (cnB (rhoK N.length) (zK N.length) M1 hw0 (M1.h.get (i + c))) k := fun L => by
    induction L with
    | nil => intro i h c k hk; simp at hk
    | cons b L ih =>
      intro i h c k hk
      have h : (bif ngO (M1.h.get i) then allP (obB (rhoK N.length) (zK N.length) M1 hw0 (M1.h.get i)) ∧ WkB (cnB (rhoK N.length) (zK N.length) M1 hw0 (M1.h.get i)) b else False) ∧ rtP N.length M1 L (i + 1) := h
      cases c with
      | zero =>
        cases hk
        rw [Nat.add_zero]
        cases hg : ngO (M1.h.get i) with
        | false => rw [hg] at h; exact h.1.elim
        | true => rw [hg] at h; exact ⟨rfl, h.1⟩
      | succ c =>
        have := ih (i + 1) h.2 c k hk
        rw [show i + 1 + c = i + (c + 1) by omega] at this
        exact this
  have own : ∀ (c : Nat), ngO (M1.h.get c) = true → Own M1 c := fun c h => by
    unfold ngO at h
    split at h
    · cases h
    · rename_i b hg hb; exact ⟨b, hb, fun e => by subst e; exact hg rfl⟩
    · cases h
  have own2 : ∀ (c : Nat) (k : Blk), N[c]? = some k → k ≠ .gone → Own M1 c := fun c k hk _ => by
    have := (hrt N 0 h3 c k hk).1
    rw [Nat.zero_add] at this
    exact own c this
  refine ⟨fun G w hs => ?_, own2⟩
  let z := zK N.length
  let G3 : Gh := ⟨G.phi, (gcG [] z G w M1).con, (gcG [] z G w M1).cob, G.tot⟩
  have le : GLe G.nph G3.nph := ⟨fun _ _ h => (by cases h), (gcG_le (ids := []) (z := z) hs).con, (gcG_le (ids := []) (z := z) hs).cob, fun _ _ _ h => (by cases h)⟩
  have c0 := gc_cn (ids := []) (z := z) hs
  have cg : CnG (rhoK N.length) z G w M1 G3 := ⟨fun id c x hr hp => by
    have hr : (bif Nat.blt id N.length then some id else none) = some c := hr
    cases hb : Nat.blt id N.length with
    | false => rw [hb] at hr; cases hr
    | true => rw [hb] at hr; cases hr; exact hp, fun _ => rfl, le, c0.con, c0.cob⟩
  have cnE_ok : ∀ E, RE G E e1 → RE G3 E (cnE (rhoK N.length) z M1 e1) := fun E h => by
    cases e1 with
    | ret v =>
      cases E with
      | returned x => exact cn_ok hs 4 cg h h1
      | panicked ch => exact h
      | outgrown => exact h
    | pan l =>
      cases E with
      | returned x => exact h
      | outgrown => exact h
      | panicked ch =>
        have h1 : allP (l.flatMap fun p => ob (rhoK N.length) z 4 M1 p.v) := h1
        have go : ∀ (ch : List PanicEntry) (l : List AE), allP (l.flatMap fun p => ob (rhoK N.length) z 4 M1 p.v) → RCh G ch l → RCh G3 ch (l.map fun p => ⟨cn (rhoK N.length) z 4 M1 p.v, p.rcv⟩) := fun ch => by
          induction ch with
          | nil => intro l _ h; cases l with | nil => exact h | cons => exact h
          | cons p ch ih =>
            intro l ho h
            cases l with
            | nil => exact h
            | cons a l =>
              rw [List.flatMap_cons, allP_app] at ho
              exact ⟨h.1, h.2.1, cn_ok hs 4 cg h.2.2.1 ho.1, ih l ho.2 h.2.2.2⟩
        exact go ch l h1 h
  refine ⟨G3, rfl, rfl, le, fun b i v h => ?_, fun b v h => ?_, fun E h => h2 _ _ (cnE_ok E h), fun c k hk hg => ⟨own2 c k hk hg, fun b base hp => ?_⟩⟩
  · have h : (if FzB z G M1 b then w.cell? ⟨b, i, none⟩ else G.con b i) = some v := h
    by_cases e : FzB z G M1 b
    · rw [if_pos e] at h
      obtain ⟨id, base, o, _, hp⟩ := e
      exact ⟨h, .inr ⟨id, base, o, hp⟩⟩
    · rw [if_neg e] at h; exact ⟨hs.con b i v h, .inl h⟩
  · have h : (if FzB z G M1 b then (match w.heap[b]? with | some (.map e _) => some e | _ => none) else G.cob b) = some v := h
    by_cases e : FzB z G M1 b
    · rw [if_pos e] at h
      obtain ⟨id, base, o, _, hp⟩ := e
      split at h
      · rename_i en t hc
        cases h
        exact ⟨⟨t, hc⟩, .inr ⟨id, base, o, hp⟩⟩
      · cases h
    · rw [if_neg e] at h; exact ⟨hs.cob b v h, .inl h⟩
  · obtain ⟨r1, r2, r3⟩ := hrt N 0 h3 c k hk
    rw [Nat.zero_add] at r1 r2 r3
    have hc : c < N.length := (List.getElem?_eq_some_iff.1 hk).1
    have nfz : ¬ FzB z G M1 b := fun ⟨id', base', o', hz', hp'⟩ => by
      have := hs.inj c id' b base base' (own c r1) o' hp hp'
      subst this
      have hz' : (!Nat.blt c N.length) = true := hz'
      have : Nat.blt c N.length = true := by simpa using hc
      rw [this] at hz'
      cases hz'
    refine ⟨r3 _ _ _ _ (cnB_ok hs cg (c := c) hp r2), fun i => ?_, ?_⟩
    · show (if FzB z G M1 b then _ else _) = _
      rw [if_neg nfz]
      exact hs.sep c b base i (own c r1) hp
    · show (if FzB z G M1 b then _ else _) = _
      rw [if_neg nfz]
      exact hs.sep2 c b base (own c r1) hp
theorem endM_q (h1 : e1 = e0) (h2 : M1.h = bld N 0 .nil) : EndQ e0 N e1 M1 ∧ ∀ (c : Nat) (k : Blk), N[c]? = some k → k ≠ .gone → Own M1 c := by
  subst h1
  have get : ∀ c, M1.h.get c = N[c]? := fun c => by rw [h2]; exact bld0_get _ _
  have own : ∀ (c : Nat) (k : Blk), N[c]? = some k → k ≠ .gone → Own M1 c := fun c k h g => ⟨k, by rw [get]; exact h, g⟩
  refine ⟨fun G w hs => ⟨G, rfl, rfl, GLe.refl _, fun b i v h => ⟨hs.con b i v h, .inl h⟩, fun b v h => ⟨hs.cob b v h, .inl h⟩, fun _ h => h, fun c k hk hg => ⟨own c k hk hg, fun b base hp => ⟨hs.blk c k b base (by rw [get]; exact hk) hp, fun i => hs.sep c b base i (own c k hk hg) hp, hs.sep2 c b base (own c k hk hg) hp⟩⟩⟩, own⟩
theorem kE_q {bl : AMode} (h : kE e0 N e1 bl M1) : EndQ e0 N e1 M1 ∧ ∀ (c : Nat) (k : Blk), N[c]? = some k → k ≠ .gone → Own M1 c := by
  unfold kE at h
  split at h
  · exact endM_q h.1 h.2
  · cases hs : sameK e1 e0 with
    | false => rw [hs] at h; exact h.elim
    | true => rw [hs] at h; exact endP_q h
end
end Go.Proofs.YtpflobodmglmaaaGreat
set_option linter.unusedVariables false
set_option maxHeartbeats 4000000
namespace Go.Proofs.YtpflobodmglmaaaGreat
section
variable {P : Program} {G G' : Gh} {w w' : World} {M M1 Mc : Mem} {N : List Blk} {e0 e1 : AEnd} {c : Cfg}
theorem goneL_get : ∀ (L : List Nat) (t : Tr Blk) (id : Nat), (goneL L t).get id = if id ∈ L then some .gone else t.get id
  | [], t, id => by simp [goneL]
  | x :: L, t, id => by
    show (goneL L (t.set x .gone)).get id = _
    rw [goneL_get L, get_set]
    by_cases h : id ∈ L
    · rw [if_pos h, if_pos (List.mem_cons_of_mem _ h)]
    · rw [if_neg h]
      by_cases e : x = id
      · subst e; simp
      · rw [if_neg e, if_neg (fun hm => by rcases List.mem_cons.1 hm with h1 | h1; exact e h1.symm; exact h h1)]
theorem bldI_get : ∀ (ids : List Nat) (N : List Blk) (t : Tr Blk) (id : Nat), ids.Nodup → ids.length = N.length → (∃ (c : Nat) (k : Blk), ids[c]? = some id ∧ N[c]? = some k ∧ (bldI ids N t).get id = some k) ∨ (id ∉ ids ∧ (bldI ids N t).get id = t.get id)
  | [], [], t, id, _, _ => .inr ⟨by simp, rfl⟩
  | x :: ids, b :: N, t, id, hn, hl => by
    have hn' := List.nodup_cons.1 hn
    have e : bldI (x :: ids) (b :: N) t = bldI ids N (t.set x b) := rfl
    rw [e]
    rcases bldI_get ids N (t.set x b) id hn'.2 (by simpa using hl) with ⟨c, k, h1, h2, h3⟩ | ⟨h1, h2⟩
    · exact .inl ⟨c + 1, k, by simpa using h1, by simpa using h2, h3⟩
    · rw [get_set] at h2
      by_cases e : x = id
      · subst e
        rw [if_pos rfl] at h2
        exact .inl ⟨0, b, rfl, rfl, h2⟩
      · rw [if_neg e] at h2
        exact .inr ⟨fun hm => by rcases List.mem_cons.1 hm with h | h; exact e h.symm; exact h1 h, h2⟩
  | [], _ :: _, t, id, _, hl => by simp at hl
  | _ :: _, [], t, id, _, hl => by simp at hl
theorem zL_not {ids L : List Nat} (id : Nat) (h : zL ids L id = true) : id ∉ ids := by
  unfold zL at h
  simp only [Bool.and_eq_true, Bool.not_eq_true'] at h
  intro hm
  rw [inN_mem.2 hm] at h
  exact absurd h.2 (by simp)
theorem updM_ok {ids L : List Nat} (hnd : ids.Nodup) (hl : N.length = ids.length) (hng : ∀ id ∈ ids, ngO (M.h.get id) = true) : Upd M ids (zL ids L) N (N.map (rnK N.length ids)) (updM M ids L (N.map (rnK N.length ids))) := by
  have get : ∀ id, (updM M ids L (N.map (rnK N.length ids))).h.get id = (bldI ids (N.map (rnK N.length ids)) (goneL L M.h)).get id := fun _ => rfl
  refine ⟨rfl, fun id ⟨k, h1, h2⟩ => ?_, ids ++ L, (List.append_assoc ..).symm ▸ rfl, fun id h1 h2 => ?_⟩
  · rw [get] at h1
    rcases bldI_get ids (N.map (rnK N.length ids)) (goneL L M.h) id hnd (by rw [List.length_map, hl]) with ⟨c, k2, q1, q2, q3⟩ | ⟨q1, q2⟩
    · rw [q3] at h1
      cases h1
      have hm : id ∈ ids := List.mem_of_getElem? q1
      have hg := hng id hm
      refine ⟨?_, .inl ?_⟩
      · unfold ngO at hg
        split at hg
        · cases hg
        · rename_i b hgn hb; exact ⟨b, hb, fun e => by subst e; exact hgn rfl⟩
        · cases hg
      · rw [List.getElem?_map] at q2
        cases hc : N[c]? with
        | none => rw [hc] at q2; cases q2
        | some k1 =>
          rw [hc] at q2
          have q2 : rnK N.length ids k1 = k := by simpa using q2
          exact ⟨c, k1, k, q1, hc, fun e => by subst e; exact h2 q2.symm, by rw [List.getElem?_map, hc]; exact congrArg some q2, by rw [get]; exact q3⟩
    · rw [q2, goneL_get] at h1
      by_cases hL : id ∈ L
      · rw [if_pos hL] at h1; cases h1; exact absurd rfl h2
      · rw [if_neg hL] at h1
        refine ⟨⟨k, h1, h2⟩, .inr ⟨?_, q1, by rw [get, q2, goneL_get, if_neg hL]⟩⟩
        unfold zL
        have : inN L id = false := by
          cases h : inN L id with
          | false => rfl
          | true => exact absurd (inN_mem.1 h) hL
        rw [this]
        rfl
  · rw [get]
    rcases bldI_get ids (N.map (rnK N.length ids)) (goneL L M.h) id hnd (by rw [List.length_map, hl]) with ⟨c, k2, q1, q2, q3⟩ | ⟨q1, q2⟩
    · exact absurd (List.mem_append.2 (.inl (List.mem_of_getElem? q1))) h2
    · rw [q2, goneL_get, if_neg (fun h => h2 (List.mem_append.2 (.inr h)))]
theorem scA_ok {v : Value} {a : AV} {G1 G2 : Gh} (h : scA a = true) (hv : RV G1 v a) : RV G2 v a := by
  unfold scA at h
  split at h
  · cases hv; exact .undef
  · cases hv; exact .bool _
  · cases hv; exact .int _ _
  · cases hv; exact .str _
  · cases hv; exact .nilp
  · cases hv with
    | tup hl hr => exact .tup hl (fun j v a e f => by simp at f)
  · cases h
theorem scV_ok {v : Value} {a : AV} {G1 G2 : Gh} (h : scV a = true) (hv : RV G1 v a) : RV G2 v a := by
  unfold scV at h
  split at h
  · rename_i l
    cases hv with
    | tup hl hr => exact .tup hl fun j v a e f => scA_ok (List.all_eq_true.1 h a (List.mem_of_getElem? f)) (hr j v a e f)
  · cases hv with
    | ifc hv => exact .ifc (scA_ok h hv)
  · exact scA_ok h hv
theorem scB_ok {e : AEnd} (h : scB e = true) : scE e := fun G1 G2 E hE => by
  cases e with
  | ret v =>
    cases E with
    | returned x => exact scV_ok h hE
    | panicked ch => exact hE
    | outgrown => exact hE
  | pan l =>
    cases E with
    | returned x => exact hE
    | outgrown => exact hE
    | panicked ch =>
      have h : (l.all fun p => scV p.v) = true := h
      have go : ∀ (ch : List PanicEntry) (l : List AE), (l.all fun p => scV p.v) = true → RCh G1 ch l → RCh G2 ch l := fun ch => by
        induction ch with
        | nil => intro l _ h; cases l with | nil => exact h | cons => exact h
        | cons p ch ih =>
          intro l ho h
          cases l with
          | nil => exact h
          | cons a l =>
            simp only [List.all_cons, Bool.and_eq_true] at ho
            exact ⟨h.1, h.2.1, scV_ok ho.1 h.2.2.1, ih l ho.2 h.2.2.2⟩
      exact go ch l h hE
theorem eat_ok {hw : Nat → Hw} {f : Nat} {args : List AV} {k : AEnd → Mem → Prop} {ids L : List Nat} {r : AEnd × List Blk} (h : cEat2 P hw f args M k ids L r) (bl bl' : AMode) : ∃ e M', CallS P f args false bl M e bl' M' ∧ k e M' := by
  unfold cEat2 at h
  cases hc : nodB ids && (Nat.beq r.2.length ids.length && ids.all fun id => ngO (M.h.get id)) with
  | false => rw [hc] at h; exact h.elim
  | true =>
    rw [hc] at h
    simp only [Bool.and_eq_true, Nat.beq_eq] at hc
    obtain ⟨h1, h2, h3⟩ := h
    exact ⟨_, _, gc_call h2 hc.1 (Nat.le_of_eq hc.2.1) zL_not h1 (updM_ok (nodB_ok hc.1) hc.2.1 fun id hi => List.all_eq_true.1 hc.2.2 id hi) bl bl', h3⟩
theorem wkM_ok : ∀ (ids : List Nat) (bs : List Blk), wkM M ids bs → ∀ (c id : Nat) (b : Blk), ids[c]? = some id → bs[c]? = some b → ∃ x, M.h.get id = some x ∧ WkB b x
  | [], _, _, c, id, b, e, _ => by simp at e
  | _ :: _, [], _, c, id, b, _, e => by simp at e
  | i :: ids, y :: bs, h, c, id, b, e1, e2 => by
    have h : (match M.h.get i with | some x => WkB y x | none => False) ∧ wkM M ids bs := h
    cases c with
    | zero =>
      cases e1
      cases e2
      have h1 := h.1
      cases hx : M.h.get i with
      | none => rw [hx] at h1; exact h1.elim
      | some x => rw [hx] at h1; exact ⟨x, rfl, h1⟩
    | succ c => exact wkM_ok ids bs h.2 c id b (by simpa using e1) (by simpa using e2)
theorem keep_ok {hw : Nat → Hw} {f : Nat} {args : List AV} {k : AEnd → Mem → Prop} {ids : List Nat} {r : AEnd × List Blk} (h : cKeep P hw f args M k ids r) (bl bl' : AMode) : ∃ e M', CallS P f args false bl M e bl' M' ∧ k e M' := by
  unfold cKeep at h
  cases hc : nodB ids && (Nat.beq r.2.length ids.length && r.2.all ngB) with
  | false => rw [hc] at h; exact h.elim
  | true =>
    rw [hc] at h
    simp only [Bool.and_eq_true, Nat.beq_eq] at hc
    obtain ⟨h1, h2, h3, h4⟩ := h
    refine ⟨_, _, gc_keep h2 hc.1 hc.2.1 h1 (fun b hb e => ?_) (fun c id b e1 e2 => ?_) bl bl', h4⟩
    · have := List.all_eq_true.1 hc.2.2 b hb
      subst e
      cases this
    · exact wkM_ok ids _ h3 c id _ e1 (by rw [List.getElem?_map, e2]; rfl)
theorem call_ok {s : CSp} {f : Nat} {args : List AV} {k : AEnd → Mem → Prop} (h : cCall P s f args M k) (bl bl' : AMode) : ∃ e M', CallS P f args false bl M e bl' M' ∧ k e M' := by
  unfold cCall at h
  cases hkp : s.keep with
  | true => rw [hkp] at h; exact keep_ok h bl bl'
  | false =>
  rw [hkp] at h
  replace h : (match s.ids with
    | [] => bif scB (s.res (args.map (cn (fun _ => none) (fun _ => true) 4 M)) []).1 then cPeek P f args M k (s.res (args.map (cn (fun _ => none) (fun _ => true) 4 M)) []).1 else cEat P (hwOf s.deep s.lvs) f args M k s.res [] (args.flatMap (rch M 4))
    | l => (match rsl (fun i => (nth args i).getD .undef) M l [] with
      | some ids => cEat P (hwOf s.deep s.lvs) f args M k s.res ids (args.flatMap (rch M 4))
      | none => False)) := h
  split at h
  · cases hc : scB (s.res (args.map (cn (fun _ => none) (fun _ => true) 4 M)) []).1 with
    | false => rw [hc] at h; exact eat_ok h bl bl'
    | true =>
      rw [hc] at h
      obtain ⟨h1, h2, h3⟩ := h
      exact ⟨_, _, gc_peek h2 (scB_ok hc) h1 bl bl', h3⟩
  · split at h
    · exact eat_ok h bl bl'
    · exact h.elim
theorem alt_ok {s : CSp} {f : Nat} {args : List AV} {k : AEnd → Mem → Prop} : ∀ (l : List ((List AV → Mem → Bool) × (List AV → List Blk → AEnd × List Blk))), cAlt P s f args M k l → ∀ (bl bl' : AMode), ∃ e M', CallS P f args false bl M e bl' M' ∧ k e M'
  | [], h, bl, bl' => call_ok h bl bl'
  | p :: l, h, bl, bl' => by
    have h : (bif p.1 args M then cCall P (withR s p.2) f args M k else cAlt P s f args M k l) := h
    cases hp : p.1 args M with
    | true => rw [hp] at h; exact call_ok h bl bl'
    | false => rw [hp] at h; exact alt_ok l h bl bl'
theorem fr_body {f : Fr} {bl bl' : AMode} {e : AEnd} {M' : Mem} (h : FrS P (frTodo f (bodyT f.todo)) bl M e bl' M') : FrS P f bl M e bl' M' := by
  obtain ⟨fn, dfd, sz, tm, todo, ds, ro⟩ := f
  have h : FrS P ⟨fn, dfd, sz, tm, bodyT todo, ds, ro⟩ bl M e bl' M' := h
  unfold bodyT at h
  split at h
  · exact fr_stp (f := ⟨fn, dfd, sz, tm, _, ds, ro⟩) h (fun G w b a cs _ _ => stepR_inLoop)
  · exact fr_stp (f := ⟨fn, dfd, sz, tm, _, ds, ro⟩) h (fun G w b a cs _ _ => stepR_loop)
  · exact h
theorem cFr_ok {s : LSp} {f : Fr} {k : K Prop} (he : rnE N.length (List.range N.length) e0 = e0) (hN : N.map (rnK N.length (List.range N.length)) = N) (h : cFr P e0 N s f M k) (bl : AMode) : FrS P f bl M e0 .ret (finM M N) ∧ k e0 .ret (finM M N) := by
  unfold cFr at h
  split at h
  · rename_i ids hi
    cases hc : nodB ids && (rootB 0 ids N.length && (!f.dfd && (isNo f.ro && f.ds.all isCl))) with
    | false => rw [hc] at h; exact h.elim
    | true =>
      rw [hc] at h
      simp only [Bool.and_eq_true, Bool.not_eq_true'] at hc
      obtain ⟨c1, c2, c3, c4, c5⟩ := hc
      obtain ⟨h1, h2, h3⟩ := h
      obtain ⟨fn, dfd, sz, tm, todo, ds, ro⟩ := f
      refine ⟨fr_body (gc_fr h2 c1 c2 (fun id hz hm => ?_) c3 (by cases hr : ro with | none => rfl | some l => rw [hr] at c4; cases c4) c5 h1 he hN bl .ret), h3⟩
      have hz : (!inN ids id) = true := hz
      rw [inN_mem.2 hm] at hz
      cases hz
  · exact h.elim
theorem base_ok (he : rnE N.length (List.range N.length) e0 = e0) (hN : N.map (rnK N.length (List.range N.length)) = N) (j : Job Prop) (h : baseV P c e0 N j) : ∃ e bl' M', JobS P j e bl' M' ∧ j.k e bl' M' := by
  unfold baseV at h
  split at h
  · rename_i f bl M k
    split at h
    · obtain ⟨h1, h2⟩ := cFr_ok he hN h bl
      exact ⟨e0, .ret, _, h1, h2⟩
    · exact h.elim
  · rename_i f args dfd bl M k
    split at h
    · rename_i s hs
      have hd : dfd = false := by
        unfold clOf at hs
        cases dfd with
        | false => rfl
        | true => cases hs
      subst hd
      obtain ⟨e, M', h1, h2⟩ := alt_ok _ h bl bl
      exact ⟨e, bl, M', h1, h2⟩
    · exact h.elim
  · exact h.elim
theorem base_out (he : rnE N.length (List.range N.length) e0 = e0) (hN : N.map (rnK N.length (List.range N.length)) = N) (j : Job Prop) : Out (fun _ => False) j.k (baseV P c e0 N j) (JobS P j) := by
  by_cases h : baseV P c e0 N j
  · obtain ⟨e, bl, M, h1, h2⟩ := base_ok he hN j h
    exact .inr ⟨e, bl, M, by rw [eq_true h, eq_true h2], h1⟩
  · exact .inl ⟨0, by rw [eq_false h]⟩
theorem step_ok {R : Type} {X : Cx} (hP : POk X.P) (hC : CtOK X) {er : Nat → R} {run : Job R → R} (H : ∀ j, Out er j.k (run j) (JobS X.P j)) (j : Job R) : Out er j.k (stepJ X er run j) (JobS X.P j) := by
  cases j with
  | fr f bl M k => exact fr_step hP H f
  | reg all rest f bl M k => exact reg_step hP H hC.1
  | dreg d i rest f bl M k => exact dreg_step hP H hC.1 d i
  | lv f u bl M k => exact lv_step hP H u
  | call f args dfd bl M k => exact call_step H hC f args dfd
  | yld l args M k => exact yld_step H l args
theorem runV_ok {R : Type} {X : Cx} (hP : POk X.P) (hC : CtOK X) {er : Nat → R} {base : Job R → R} (H : ∀ j, Out er j.k (base j) (JobS X.P j)) : ∀ (n : Nat) (j : Job R), Out er j.k (runV c X er base n j) (JobS X.P j)
  | 0, j => .inl ⟨99, rfl⟩
  | n + 1, j => by
    show Out er j.k (bif isSt c j then base j else stepJ X er (runV c X er base n) j) _
    cases isSt c j with
    | true => exact H j
    | false => exact step_ok hP hC (runV_ok hP hC H n) j
theorem vc_job {X : Cx} (hP : POk X.P) (hC : CtOK X) {n : Nat} {j : Job Prop} (he : rnE N.length (List.range N.length) e0 = e0) (hN : N.map (rnK N.length (List.range N.length)) = N) (h : VC X c e0 N n j) : ∃ e bl M, JobS X.P j e bl M ∧ j.k e bl M := by
  rcases step_ok hP hC (runV_ok (c := c) hP hC (base_out (P := X.P) (c := c) he hN) n) j with ⟨x, hx⟩ | ⟨e, bl, M, h1, h2⟩
  · have h : stepJ X (fun _ => False) (runV c X (fun _ => False) (baseV X.P c e0 N) n) j := h
    rw [hx] at h
    exact h.elim
  · have h : stepJ X (fun _ => False) (runV c X (fun _ => False) (baseV X.P c e0 N) n) j := h
    rw [h1] at h
    exact ⟨e, bl, M, h2, h⟩
/-- A function's contract. -/
theorem vc_call {X : Cx} (hP : POk X.P) (hC : CtOK X) {n f : Nat} {args : List AV} {N0 : List Blk} (he : rnE N.length (List.range N.length) e0 = e0) (hN : N.map (rnK N.length (List.range N.length)) = N) (hk : N.length ≤ N0.length) {E : Prop} (p : E) (h : E = VC X c e0 N n (.call f args false .run (clM N0) (kE e0 N))) : CtE X.P f args N0 e0 N := fun bl bl' => by
  obtain ⟨e, bl1, M1, h1, h2⟩ := vc_job hP hC he hN (show VC X c e0 N n _ by rw [← h]; exact p)
  obtain ⟨s1, s2, s3⟩ := (show CallS X.P f args false .run (clM N0) e bl1 M1 from h1)
  obtain ⟨q1, q2⟩ := kE_q (show kE e0 N e bl1 M1 from h2)
  exact ⟨s1, fin_at (Mc := clM N0) hk q2 s2, fun G w vs c0s cs hs hw hv hb => goal_end hs q1 hk he hN (s3 G w vs c0s cs hs hw hv hb)⟩
/-- A frame's. -/
theorem vc_fr {X : Cx} (hP : POk X.P) (hC : CtOK X) {n : Nat} {f : Fr} {N0 : List Blk} (he : rnE N.length (List.range N.length) e0 = e0) (hN : N.map (rnK N.length (List.range N.length)) = N) (hk : N.length ≤ N0.length) (hd : f.dfd = false) (hro : f.ro = none) {E : Prop} (p : E) (h : E = VC X c e0 N n (.fr f .run (clM N0) (kE e0 N))) : FrE X.P f (clM N0) e0 N := fun bl bl' => by
  obtain ⟨e, bl1, M1, h1, h2⟩ := vc_job hP hC he hN (show VC X c e0 N n _ by rw [← h]; exact p)
  obtain ⟨s2, s3⟩ := (show FrS X.P f .run (clM N0) e bl1 M1 from h1)
  obtain ⟨q1, q2⟩ := kE_q (show kE e0 N e bl1 M1 from h2)
  refine ⟨fin_at (Mc := clM N0) hk q2 s2, fun G w b a c0s cs hs hw hfr hb hcs => ?_⟩
  have := s3 G w b a c0s cs hs hw hfr (by rw [hd] at hb ⊢; exact hb) hcs
  rw [hd, hro] at this ⊢
  exact goal_end hs q1 hk he hN this
end
end Go.Proofs.YtpflobodmglmaaaGreat
