/- A call that was run in a small memory, in a great one: what it made is forgotten. No condition. -/
import Derived.Test.YtbknpfckdnladaaGreatBq
set_option linter.unusedVariables false
set_option maxHeartbeats 4000000
namespace Go.Proofs.YtbknpfckdnladaaGreat
noncomputable section
def inD (D : List Nat) (id : Nat) : Bool := D.any fun x => Nat.beq x id
/-- A value that knows no other blocks than these, and no constants. -/
def okF (D : List Nat) (a : AV) : Bool := match a with
  | .undef => true
  | .top => true
  | .bool _ => true
  | .int _ _ => true
  | .str _ => true
  | .nilp => true
  | .nilm => true
  | .nilf => true
  | .nili => true
  | .ptr id _ _ _ => inD D id
  | .lst true _ n _ => Nat.beq n 0
  | .sl id _ _ _ _ => inD D id
  | .map id => inD D id
  | .tup l => l.isEmpty
  | _ => false
def okA (D : List Nat) (a : AV) : Bool := match a with
  | .fn _ fs cs => fs.all (okF D) && cs.all (okF D)
  | .ifc _ v => okF D v
  | a => okF D a
def okB (D : List Nat) (k : Blk) : Bool := match k with
  | .gone => true
  | .var cs => cs.all (okA D)
  | .row _ n g => (List.range n).all fun i => (g i).all (okA D)
  | .map es => es.all fun p => okA D p.1 && okA D p.2
  | .mpi _ _ _ => true
  | _ => false
/-- The same block; of rows, the same elements. -/
def BEq (k k' : Blk) : Prop := k = k' ∨ ∃ sz n g g', k = .row sz n g ∧ k' = .row sz n g' ∧ ∀ i, i < n → g i = g' i
def putN (M : Mem) (N : List (Nat × Blk)) : Mem := ⟨N.foldl (fun t p => t.set p.1 p.2) M.h, M.nx, N.map (·.1) ++ M.lg⟩
end
theorem inD_mem {D : List Nat} {id : Nat} (h : inD D id = true) : id ∈ D := by
  unfold inD at h
  obtain ⟨x, hx, e⟩ := List.any_eq_true.1 h
  have : x = id := by simpa using e
  rw [← this]
  exact hx
section
variable {G G' : Gh} {w : World} {D : List Nat} (hp : ∀ id ∈ D, G.phi id = G'.phi id) (ht : ∀ id ∈ D, ∀ b base, G.phi id = some (b, base) → G'.tot b = G.tot b)
include hp ht
theorem okF_tr {v : Value} {a : AV} (ho : okF D a = true) (h : RV G v a) : RV G' v a := by
  cases h with
  | undef => exact .undef
  | top => exact .top _
  | bool => exact .bool _
  | int => exact .int _ _
  | str => exact .str _
  | nilp => exact .nilp
  | nilm => exact .nilm
  | nilf => exact .nilf
  | nili => exact .nili
  | ptr h => exact .ptr (by rw [← hp _ (inD_mem ho)]; exact h)
  | cp => cases ho
  | lstn => exact .lstn
  | lst => cases ho
  | sl h hc hf htt hoo => exact .sl (by rw [← hp _ (inD_mem ho)]; exact h) hc hf (by rw [ht _ (inD_mem ho) _ _ h]; exact htt) hoo
  | map h => exact .map (by rw [← hp _ (inD_mem ho)]; exact h)
  | cmap => cases ho
  | agg => cases ho
  | tup hl hr =>
    rename_i arr cs
    cases cs with
    | nil => exact .tup hl (fun j v a e f => by simp at f)
    | cons a l => cases ho
  | fn => cases ho
  | yld => cases ho
  | ifc => cases ho
theorem okFs_tr {vs : Array Value} {as : List AV} (ho : as.all (okF D) = true) (h : ∀ (j : Nat) (v : Value) (a : AV), vs[j]? = some v → as[j]? = some a → RV G v a) : ∀ (j : Nat) (v : Value) (a : AV), vs[j]? = some v → as[j]? = some a → RV G' v a := fun j v a e1 e2 =>
  okF_tr hp ht (List.all_eq_true.1 ho a (List.mem_of_getElem? e2)) (h j v a e1 e2)
theorem okA_tr {v : Value} {a : AV} (ho : okA D a = true) (h : RV G v a) : RV G' v a := by
  cases h with
  | fn hl hr hl2 hr2 =>
    have ho : (_ && _) = true := ho
    simp only [Bool.and_eq_true] at ho
    exact .fn hl (okFs_tr hp ht ho.1 hr) hl2 (okFs_tr hp ht ho.2 hr2)
  | ifc h => exact .ifc (okF_tr hp ht ho h)
  | undef => exact .undef
  | top => exact .top _
  | bool => exact .bool _
  | int => exact .int _ _
  | str => exact .str _
  | nilp => exact .nilp
  | nilm => exact .nilm
  | nilf => exact .nilf
  | nili => exact .nili
  | ptr h => exact okF_tr hp ht (a := .ptr _ _ _ _) ho (.ptr h)
  | cp => cases ho
  | lstn => exact .lstn
  | lst => cases ho
  | sl h hc hf htt hoo => exact okF_tr hp ht (a := .sl _ _ _ _ _) ho (.sl h hc hf htt hoo)
  | map h => exact okF_tr hp ht (a := .map _) ho (.map h)
  | cmap => cases ho
  | agg => cases ho
  | tup hl hr => exact okF_tr hp ht (a := .tup _) ho (.tup hl hr)
  | yld => cases ho
theorem okAs_tr {vs : Array Value} {as : List AV} (ho : as.all (okA D) = true) (h : RVs G vs as) : RVs G' vs as :=
  ⟨h.len, fun j v a e1 e2 => okA_tr hp ht (List.all_eq_true.1 ho a (List.mem_of_getElem? e2)) (h.at' j v a e1 e2)⟩
theorem okB_tr {k : Blk} {id b base : Nat} (ho : okB D k = true) (hid : id ∈ D) (hb : G.phi id = some (b, base)) (h : BlkR G w b base k) : BlkR G' w b base k := by
  cases k with
  | gone => trivial
  | var cs =>
    obtain ⟨h0, arr, t, h1, h2⟩ := h
    exact ⟨h0, arr, t, h1, okAs_tr hp ht ho h2⟩
  | row sz n g =>
    obtain ⟨arr, t, h1, h2, h3, h4⟩ := h
    refine ⟨arr, t, h1, h2, by rw [ht id hid _ _ hb]; exact h3, fun i hi => ⟨(h4 i hi).1, fun j v a e1 e2 => ?_⟩⟩
    have ho : ((List.range n).all fun i => (g i).all (okA D)) = true := ho
    have := List.all_eq_true.1 ho i (List.mem_range.2 hi)
    exact okA_tr hp ht (List.all_eq_true.1 this a (List.mem_of_getElem? e2)) ((h4 i hi).2 j v a e1 e2)
  | map es =>
    obtain ⟨h0, ents, c, h1, h2, h3⟩ := h
    refine ⟨h0, ents, c, h1, h2, fun j e p a b => ?_⟩
    have ho : (es.all fun p => okA D p.1 && okA D p.2) = true := ho
    have := List.all_eq_true.1 ho p (List.mem_of_getElem? b)
    simp only [Bool.and_eq_true] at this
    obtain ⟨q1, q2⟩ := h3 j e p a b
    exact ⟨okA_tr hp ht this.1 q1, okA_tr hp ht this.2 q2⟩
  | mpi kk kv l => exact h
  | loop fn sz tm ps as body d st pend => cases ho
  | dfr => cases ho
end
theorem BEq.blk {G : Gh} {w : World} {b base : Nat} {k k' : Blk} (h : BEq k k') (hb : BlkR G w b base k) : BlkR G w b base k' := by
  rcases h with rfl | ⟨sz, n, g, g', rfl, rfl, he⟩
  · exact hb
  · obtain ⟨arr, t, h1, h2, h3, h4⟩ := hb
    exact ⟨arr, t, h1, h2, h3, fun i hi => by rw [← he i hi]; exact h4 i hi⟩
theorem fold_out {id : Nat} : ∀ (N : List (Nat × Blk)) (t : Tr Blk), id ∉ N.map (·.1) → (N.foldl (fun t p => t.set p.1 p.2) t).get id = t.get id
  | [], t, _ => rfl
  | p :: N, t, h => by
    simp only [List.map_cons, List.mem_cons, not_or] at h
    rw [List.foldl_cons, fold_out N _ h.2, get_set_ne _ _ (Ne.symm h.1)]
theorem fold_in {p : Nat × Blk} : ∀ (N : List (Nat × Blk)) (t : Tr Blk), (N.map (·.1)).Nodup → p ∈ N → (N.foldl (fun t p => t.set p.1 p.2) t).get p.1 = some p.2
  | [], t, _, h => by cases h
  | q :: N, t, hn, h => by
    simp only [List.map_cons, List.nodup_cons] at hn
    rw [List.foldl_cons]
    rcases List.mem_cons.1 h with rfl | h
    · rw [fold_out N _ hn.1, get_set_self]
    · exact fold_in N _ hn.2 h
theorem local_call {P : Program} {f : Nat} {args : List AV} {m m1 : Mem} {r : AV} {bl : AMode} (D : List Nat) (N : List (Nat × Blk)) (hS : CallS P f args false bl m (.ret r) bl m1)
    (hD : ∀ id ∈ D, id < m.nx) (hdom : ∀ id, Own m id → id ∈ D) (hok : ∀ id ∈ D, ∀ k, m.h.get id = some k → okB D k = true) (hargs : args.all (okA D) = true) (hr : okA D r = true)
    (hN : ∀ p ∈ N, p.1 ∈ D ∧ okB D p.2 = true ∧ p.2 ≠ .gone ∧ ∃ k, m1.h.get p.1 = some k ∧ BEq k p.2) (hnd : (N.map (·.1)).Nodup) (hun : ∀ id ∈ D, id ∉ N.map (·.1) → m1.h.get id = m.h.get id)
    {M : Mem} (hM : ∀ id ∈ D, M.h.get id = m.h.get id) : CallS P f args false bl M (.ret r) bl (putN M N) := by
  obtain ⟨h1, h2, h3⟩ := hS
  have ownM : ∀ id, Own m id → Own M id := fun id ⟨k, e1, e2⟩ => ⟨k, by rw [hM id (hdom id ⟨k, e1, e2⟩)]; exact e1, e2⟩
  have memN : ∀ id, id ∈ N.map (·.1) → ∃ k, (id, k) ∈ N := fun id h => by
    obtain ⟨p, hp, e⟩ := List.mem_map.1 h
    exact ⟨p.2, by rw [← e]; exact hp⟩
  have getN : ∀ id k, (id, k) ∈ N → (putN M N).h.get id = some k := fun id k h => fold_in N M.h hnd h
  have getO : ∀ id, id ∉ N.map (·.1) → (putN M N).h.get id = M.h.get id := fun id h => fold_out N M.h h
  have own1 : ∀ id, id ∈ D → Own m1 id → Own m id := fun id hid o => by
    rcases h2.own id o with o | o
    · exact o
    · have := hD id hid; have o : m.nx ≤ id := o; omega
  have own : ∀ id, Own (putN M N) id → Own M id := fun id o => by
    by_cases hi : id ∈ N.map (·.1)
    · obtain ⟨k, hk⟩ := memN id hi
      obtain ⟨q1, q2, q3, k', q4, q5⟩ := hN _ hk
      have : k' ≠ .gone := by
        rcases q5 with rfl | ⟨sz, n, g, g', rfl, _⟩
        · exact q3
        · simp
      exact ownM id (own1 id q1 ⟨k', q4, this⟩)
    · obtain ⟨k, e1, e2⟩ := o
      exact ⟨k, by rw [← getO id hi]; exact e1, e2⟩
  refine ⟨h1, ⟨Nat.le_refl _, ⟨N.map (·.1), rfl, fun id _ hn => getO id hn⟩, fun id o => .inl (own id o), fun h id o => h id (own id o)⟩, fun G w vs c0s cs hs hw hv hb => ?_⟩
  have gph : ∀ id x, (if id ∈ D then G.phi id else none) = some x → id ∈ D ∧ G.phi id = some x := fun id x h => by
    by_cases e : id ∈ D
    · rw [if_pos e] at h; exact ⟨e, h⟩
    · rw [if_neg e] at h; cases h
  let g : Gh := ⟨fun id => if id ∈ D then G.phi id else none, G.con, G.cob, G.tot⟩
  have hpg : ∀ id ∈ D, G.phi id = g.phi id := fun id h => (if_pos h).symm
  have sg : St g w m := by
    refine ⟨fun id k b base e1 e2 => ?_, fun id id' b b1 b2 o1 o2 e1 e2 => ?_, fun id b base e => ?_, fun id b base e => ?_, hs.con, hs.cob, fun id b base i o e => ?_, fun id b base o e => ?_⟩
    · obtain ⟨d, e2⟩ := gph _ _ e2
      exact okB_tr hpg (fun _ _ _ _ _ => rfl) (hok id d k e1) d e2 (hs.blk id k b base (by rw [hM id d]; exact e1) e2)
    · exact hs.inj id id' b b1 b2 (ownM _ o1) (ownM _ o2) (gph _ _ e1).2 (gph _ _ e2).2
    · exact hs.lt id b base (gph _ _ e).2
    · exact hD id (gph _ _ e).1
    · exact hs.sep id b base i (ownM _ o) (gph _ _ e).2
    · exact hs.sep2 id b base (ownM _ o) (gph _ _ e).2
  obtain ⟨g', w', cs', E, m', q1, q2, q3, q4, q5, q6, q7⟩ := h3 g w vs c0s cs sg (fun id o => hD id (hdom id o)) (okAs_tr hpg (fun _ _ _ _ _ => rfl) hargs hv) hb
  have hpb : ∀ id ∈ D, g'.phi id = G.phi id := fun id d => by
    cases e : G.phi id with
    | none => exact q7 id (hD id d) (by rw [← hpg id d]; exact e)
    | some x => exact q6.le.phi id x (by rw [← hpg id d]; exact e)
  have htb : ∀ id ∈ D, ∀ b base, g'.phi id = some (b, base) → G.tot b = g'.tot b := fun id d b base e => by
    rw [hpb id d] at e
    exact (q6.le.tot id b base (by rw [← hpg id d]; exact e)).symm
  have ob : ∀ b, OwnB g m b → OwnB G M b := fun b ⟨id, base, o, e⟩ => ⟨id, base, ownM id o, (gph _ _ e).2⟩
  refine ⟨G, w', cs', E, m', q1, ?_, q3, ?_, ?_, ?_, Ub.refl _ _⟩
  · exact q2
  · cases E with
    | returned v => exact okA_tr hpb htb hr q4
    | panicked ch => exact q4.elim
    | outgrown => exact q4.elim
  · refine ⟨fun id k b base e1 e2 => ?_, fun id id' b b1 b2 o1 o2 e1 e2 => hs.inj id id' b b1 b2 (own _ o1) (own _ o2) e1 e2, fun id b base e => Nat.lt_of_lt_of_le (hs.lt id b base e) q6.size, hs.fresh, fun b i v e => q5.con b i v (q6.le.con b i v e), fun b v e => q5.cob b v (q6.le.cob b v e), fun id b base i o e => hs.sep id b base i (own _ o) e, fun id b base o e => hs.sep2 id b base (own _ o) e⟩
    by_cases hd : id ∈ D
    · have e2' : g'.phi id = some (b, base) := by rw [hpb id hd]; exact e2
      by_cases hi : id ∈ N.map (·.1)
      · obtain ⟨k', hk'⟩ := memN id hi
        have := getN id k' hk'
        rw [e1] at this
        cases this
        obtain ⟨_, p2, _, k1, p4, p5⟩ := hN _ hk'
        exact okB_tr hpb htb p2 hd e2' (p5.blk (q5.blk id k1 b base p4 e2'))
      · rw [getO id hi, hM id hd] at e1
        exact okB_tr hpb htb (hok id hd k e1) hd e2' (q5.blk id k b base (by rw [hun id hd hi]; exact e1) e2')
    · have hi : id ∉ N.map (·.1) := fun h => by
        obtain ⟨k', hk'⟩ := memN id h
        exact hd (hN _ hk').1
      rw [getO id hi] at e1
      by_cases hk : k = .gone
      · subst hk; trivial
      · refine (hs.blk id k b base e1 e2).same (q6.keep b (hs.lt id b base e2) fun ⟨id2, base2, o2, p2⟩ => ?_)
        have := hs.inj id id2 b base base2 ⟨k, e1, hk⟩ (ownM _ o2) e2 (gph _ _ p2).2
        exact hd (this ▸ (gph _ _ p2).1)
  · exact ⟨GLe.refl G, fun _ _ _ h => .inl h, fun _ _ _ h => .inl h, fun _ _ h => .inl h, fun _ _ => rfl, fun b hb hn => q6.keep b hb (fun o => hn (ob b o)), q6.size, q6.os, Nat.le_refl _, fun id o => .inl (own id o)⟩
end Go.Proofs.YtbknpfckdnladaaGreat
