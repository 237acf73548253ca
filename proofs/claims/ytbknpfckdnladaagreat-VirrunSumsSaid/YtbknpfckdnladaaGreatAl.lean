/- append, in abstract memory. No condition. -/
import Derived.Test.YtbknpfckdnladaaGreatAk
set_option linter.unusedVariables false
set_option maxHeartbeats 4000000
namespace Go.Proofs.YtbknpfckdnladaaGreat
section
variable {P : Program} {G : Gh} {ρ : Operand → Value} {ev : Operand → AV} {o : Oper} {w : World} {M M' : Mem} {r : AV}
theorem BlkR.heap {w' : World} {b base : Nat} {k : Blk} (h : BlkR G w b base k) (hh : w'.heap[b]? = w.heap[b]?) : BlkR G w' b base k := by
  cases k with
  | gone => trivial
  | var cs =>
    obtain ⟨h0, arr, t, h1, h2⟩ := h
    exact ⟨h0, arr, t, by rw [hh]; exact h1, h2⟩
  | row sz n g =>
    obtain ⟨arr, t, h1, h2⟩ := h
    exact ⟨arr, t, by rw [hh]; exact h1, h2⟩
  | map es =>
    obtain ⟨h0, ents, c, h1, h2⟩ := h
    exact ⟨h0, ents, c, by rw [hh]; exact h1, h2⟩
  | mpi kk kv l =>
    obtain ⟨h0, ents, c, h1, h2⟩ := h
    exact ⟨h0, ents, c, by rw [hh]; exact h1, h2⟩
  | loop fn sz tm ps as body d st pend =>
    obtain ⟨h0, ts, db, h1, h2⟩ := h
    exact ⟨h0, ts, db, by rw [hh]; exact h1, h2⟩
  | dfr =>
    obtain ⟨h0, h1⟩ := h
    exact ⟨h0, by rw [hh]; exact h1⟩
theorem cell_heap {w' : World} (h : w'.heap = w.heap) (a : Addr) : w'.cell? a = w.cell? a := by
  unfold World.cell?
  rw [h]
theorem St.congr {w' : World} (hs : St G w M) (h : w'.heap = w.heap) (hm : ∀ id, M'.h.get id = M.h.get id) (hn : M.nx ≤ M'.nx) : St G w' M' := by
  have own : ∀ id, Own M' id → Own M id := fun id ⟨k, h1, h2⟩ => ⟨k, by rw [← hm]; exact h1, h2⟩
  exact ⟨fun id k b base h1 h2 => (hs.blk id k b base (by rw [← hm]; exact h1) h2).heap (by rw [h]), fun id id' b b1 b2 o1 o2 => hs.inj id id' b b1 b2 (own id o1) (own id' o2), fun id b base e => by rw [h]; exact hs.lt id b base e, fun id b base e => Nat.lt_of_lt_of_le (hs.fresh id b base e) hn, fun b i v e => by rw [cell_heap h]; exact hs.con b i v e, fun b v e => by rw [h]; exact hs.cob b v e, fun id b base i o1 => hs.sep id b base i (own id o1), fun id b base o1 => hs.sep2 id b base (own id o1)⟩
theorem Ev.congr {w' : World} (h : w'.heap = w.heap) (ho : w'.os = w.os ∧ w'.tape = w.tape ∧ w'.output = w.output) (hm : ∀ id, M'.h.get id = M.h.get id) (hn : M.nx ≤ M'.nx) : Ev G w M G w' M' :=
  ⟨GLe.refl G, fun _ _ _ h => .inl h, fun _ _ _ h => .inl h, fun _ _ h => .inl h, fun _ _ => rfl, fun _ _ _ => by rw [h], by rw [h]; exact Nat.le_refl _, ho, hn, fun id ⟨k, h1, h2⟩ => .inl ⟨k, by rw [← hm]; exact h1, h2⟩⟩
/-- A block is given up. -/
theorem St.drop {id : Nat} {lg : List Nat} (hs : St G w M) : St G w ⟨M.h.set id .gone, M.nx, lg⟩ ∧ Ev G w M G w ⟨M.h.set id .gone, M.nx, lg⟩ := by
  have gm : ∀ i, (M.h.set id .gone).get i = if id = i then some .gone else M.h.get i := fun i => get_set _ _ _ _
  have own : ∀ i, Own ⟨M.h.set id .gone, M.nx, lg⟩ i → Own M i := fun i ⟨q, h1, h2⟩ => by
    change (M.h.set id .gone).get i = _ at h1
    rw [gm] at h1
    by_cases e : id = i
    · rw [if_pos e] at h1; cases h1; exact absurd rfl h2
    · rw [if_neg e] at h1; exact ⟨q, h1, h2⟩
  constructor
  · refine ⟨fun i k b base h1 h2 => ?_, fun i i' b b1 b2 o1 o2 => hs.inj i i' b b1 b2 (own i o1) (own i' o2), hs.lt, hs.fresh, hs.con, hs.cob, fun i b base j o1 => hs.sep i b base j (own i o1), fun i b base o1 => hs.sep2 i b base (own i o1)⟩
    change (M.h.set id .gone).get i = _ at h1
    rw [gm] at h1
    by_cases e : id = i
    · rw [if_pos e] at h1; cases h1; trivial
    · rw [if_neg e] at h1; exact hs.blk i k b base h1 h2
  · exact ⟨GLe.refl G, fun _ _ _ h => .inl h, fun _ _ _ h => .inl h, fun _ _ h => .inl h, fun _ _ => rfl, fun _ _ _ => rfl, Nat.le_refl _, ⟨rfl, rfl, rfl⟩, Nat.le_refl _, fun i o1 => .inl (own i o1)⟩
def Gh.mv (G : Gh) (fid b base : Nat) : Gh := ⟨fun id => if id = fid then some (b, base) else G.phi id, G.con, G.cob, G.tot⟩
theorem Gh.mv_le {fid b base : Nat} (hf : G.phi fid = none) : GLe G (G.mv fid b base) :=
  ⟨fun id x h => by
    show (if id = fid then _ else _) = _
    rw [if_neg (fun e => by rw [e, hf] at h; cases h)]
    exact h, fun _ _ _ h => h, fun _ _ h => h, fun _ _ _ _ => rfl⟩
/-- A block is written, and goes by another number. -/
theorem St.move {id fid b base base' : Nat} {k : Blk} {w' : World} {lg : List Nat} (hs : St G w M) (ho : Own M id) (hp : G.phi id = some (b, base)) (hf : G.phi fid = none) (hfx : fid < M.nx) (hw : ∀ x, x ≠ b → w'.heap[x]? = w.heap[x]?) (hsz : w'.heap.size = w.heap.size) (hos : w'.os = w.os ∧ w'.tape = w.tape ∧ w'.output = w.output) (hk : BlkR (G.mv fid b base') w' b base' k) :
    St (G.mv fid b base') w' ⟨(M.h.set id .gone).set fid k, M.nx, lg⟩ ∧ Ev G w M (G.mv fid b base') w' ⟨(M.h.set id .gone).set fid k, M.nx, lg⟩ := by
  have hne : id ≠ fid := fun e => by rw [e, hf] at hp; cases hp
  have gp : ∀ i, (G.mv fid b base').phi i = if i = fid then some (b, base') else G.phi i := fun _ => rfl
  have gm : ∀ i, ((M.h.set id .gone).set fid k).get i = if fid = i then some k else if id = i then some .gone else M.h.get i := fun i => by rw [get_set, get_set]
  have own : ∀ i, i ≠ fid → Own ⟨(M.h.set id .gone).set fid k, M.nx, lg⟩ i → Own M i ∧ i ≠ id := fun i hi ⟨q, h1, h2⟩ => by
    change ((M.h.set id .gone).set fid k).get i = _ at h1
    rw [gm, if_neg (Ne.symm hi)] at h1
    by_cases e : id = i
    · rw [if_pos e] at h1; cases h1; exact absurd rfl h2
    · rw [if_neg e] at h1; exact ⟨⟨q, h1, h2⟩, Ne.symm e⟩
  have bn : ∀ i b1 base1, i ≠ id → Own M i → G.phi i = some (b1, base1) → b1 ≠ b := fun i b1 base1 h1 h2 h3 e => by
    subst e
    exact h1 (hs.inj i id b1 base1 base h2 ho h3 hp)
  constructor
  · refine ⟨fun i q b1 base1 h1 h2 => ?_, fun i i' b1 base1 base2 o1 o2 h1 h2 => ?_, fun i b1 base1 h => ?_, fun i b1 base1 h => ?_, fun b1 i v h => ?_, fun b1 v h => ?_, fun i b1 base1 j o1 h => ?_, fun i b1 base1 o1 h => ?_⟩
    · change ((M.h.set id .gone).set fid k).get i = _ at h1
      rw [gm] at h1
      rw [gp] at h2
      by_cases e : i = fid
      · rw [if_pos e.symm] at h1
        rw [if_pos e] at h2
        cases h1; cases h2
        exact hk
      · rw [if_neg (Ne.symm e)] at h1
        rw [if_neg e] at h2
        by_cases e2 : id = i
        · rw [if_pos e2] at h1; cases h1; trivial
        · rw [if_neg e2] at h1
          by_cases hq : q = .gone
          · subst hq; trivial
          · exact (hs.blk i q b1 base1 h1 h2).mono (Gh.mv_le hf) (hw b1 (bn i b1 base1 (Ne.symm e2) ⟨q, h1, hq⟩ h2)) h2
    · rw [gp] at h1 h2
      by_cases e : i = fid <;> by_cases e' : i' = fid
      · rw [e, e']
      · rw [if_pos e] at h1
        rw [if_neg e'] at h2
        cases h1
        obtain ⟨p1, p2⟩ := own i' e' o2
        exact absurd rfl (bn i' b base2 p2 p1 h2)
      · rw [if_neg e] at h1
        rw [if_pos e'] at h2
        cases h2
        obtain ⟨p1, p2⟩ := own i e o1
        exact absurd rfl (bn i b base1 p2 p1 h1)
      · rw [if_neg e] at h1
        rw [if_neg e'] at h2
        exact hs.inj i i' b1 base1 base2 (own i e o1).1 (own i' e' o2).1 h1 h2
    · rw [gp] at h
      rw [hsz]
      by_cases e : i = fid
      · rw [if_pos e] at h; cases h; exact hs.lt _ _ _ hp
      · rw [if_neg e] at h; exact hs.lt _ _ _ h
    · rw [gp] at h
      by_cases e : i = fid
      · rw [e]; exact hfx
      · rw [if_neg e] at h; exact hs.fresh _ _ _ h
    · have hb : b1 ≠ b := fun e => by
        have h' : G.con b1 i = some v := h
        rw [e, hs.sep id b base i ho hp] at h'; cases h'
      have := hs.con b1 i v h
      unfold World.cell? at this ⊢
      rw [hw b1 hb]
      exact this
    · have hb : b1 ≠ b := fun e => by
        have h' : G.cob b1 = some v := h
        rw [e, hs.sep2 id b base ho hp] at h'; cases h'
      obtain ⟨c, h1⟩ := hs.cob b1 v h
      exact ⟨c, by rw [hw b1 hb]; exact h1⟩
    · rw [gp] at h
      by_cases e : i = fid
      · rw [if_pos e] at h; cases h; exact hs.sep id b base j ho hp
      · rw [if_neg e] at h; exact hs.sep i b1 base1 j (own i e o1).1 h
    · rw [gp] at h
      by_cases e : i = fid
      · rw [if_pos e] at h; cases h; exact hs.sep2 id b base ho hp
      · rw [if_neg e] at h; exact hs.sep2 i b1 base1 (own i e o1).1 h
  · refine ⟨Gh.mv_le hf, fun i b1 base1 h => ?_, fun _ _ _ h => .inl h, fun _ _ h => .inl h, fun _ _ => rfl, fun b1 _ hn => hw b1 (fun e => hn ⟨id, base, ho, by rw [e]; exact hp⟩), by omega, hos, Nat.le_refl _, fun i o1 => ?_⟩
    · rw [gp] at h
      by_cases e : i = fid
      · rw [if_pos e] at h; cases h; exact .inr (.inr ⟨id, base, ho, hp⟩)
      · rw [if_neg e] at h; exact .inl h
    · by_cases e : i = fid
      · rw [e]; exact .inr hf
      · exact .inl (own i e o1).1
/-- Rows one behind the other. -/
theorem RowR.app {old new rest : Array Value} {sz n k : Nat} {g gx : Nat → List AV} (h1 : RowR G old 0 sz n g) (h2 : RowR G new 0 sz k gx) (s1 : old.size = n * sz) (s2 : new.size = k * sz) : RowR G (old ++ new ++ rest) 0 sz (n + k) (appRow n k g gx) := by
  intro i hi
  unfold appRow
  by_cases hin : i < n
  · have e : Nat.blt i n = true := by simpa using hin
    rw [e]
    obtain ⟨q1, q2⟩ := h1 i hin
    refine ⟨q1, fun j v a e1 e2 => ?_⟩
    have e2 : (g i)[j]? = some a := e2
    have hj : j < sz := by rw [← q1]; exact (List.getElem?_eq_some_iff.1 e2).1
    have hle : (i + 1) * sz ≤ n * sz := Nat.mul_le_mul_right sz hin
    rw [Nat.succ_mul] at hle
    rw [Array.append_assoc, Array.getElem?_append_left (by omega)] at e1
    exact q2 j v a e1 e2
  · have e : Nat.blt i n = false := by
      cases hh : Nat.blt i n with
      | false => rfl
      | true => exact absurd (by simpa using hh) hin
    rw [e]
    obtain ⟨q1, q2⟩ := h2 (i - n) (by omega)
    refine ⟨q1, fun j v a e1 e2 => ?_⟩
    have e2 : (gx (i - n))[j]? = some a := e2
    have hj : j < sz := by rw [← q1]; exact (List.getElem?_eq_some_iff.1 e2).1
    have hle : (i - n + 1) * sz ≤ k * sz := Nat.mul_le_mul_right sz (by omega)
    rw [Nat.succ_mul] at hle
    have hi2 : i * sz = n * sz + (i - n) * sz := by rw [← Nat.add_mul]; congr 1; omega
    rw [Array.append_assoc, Array.getElem?_append_right (by omega), Array.getElem?_append_left (by omega)] at e1
    refine q2 j v a ?_ e2
    rw [← e1]
    congr 1
    omega
end
end Go.Proofs.YtbknpfckdnladaaGreat
