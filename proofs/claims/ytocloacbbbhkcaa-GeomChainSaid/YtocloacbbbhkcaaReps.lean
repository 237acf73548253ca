/- How data lie in memory: slices by their cells; slices of ints; append onto nil. -/
import Derived.WalkKit
import Derived.Laws.AppendOwnNone
import Derived.Test.YtocloacbbbhkcaaLib
namespace Go.Proofs.Ytocloacbbbhkcaa
open Go.RowKit

/-- A slice of n elements, each of so many cells, whose cells are xs: nil, or at an address. -/
def Row (w : World) (size : Nat) (v : Value) (n : Nat) (xs : List Value) : Prop :=
  xs.length = n * size ∧ ((v = .slice none 0 0 ∧ n = 0) ∨
    ∃ a cap, v = .slice (some a) n cap ∧ n ≤ cap ∧ cap ≤ maxLen ∧ (∀ j u, xs[j]? = some u → w.cell? (a.add j) = some u))

theorem Row.shape {w : World} {size : Nat} {v : Value} {n : Nat} {xs : List Value} (h : Row w size v n xs) : ∃ a cap, v = .slice a n cap ∧ n ≤ cap ∧ cap ≤ maxLen := by
  rcases h.2 with ⟨rfl, rfl⟩ | ⟨a, cap, rfl, h1, h2, _⟩
  · exact ⟨none, 0, rfl, Nat.le_refl _, Nat.zero_le _⟩
  · exact ⟨some a, cap, rfl, h1, h2⟩

theorem Row.at {w : World} {size : Nat} {v : Value} {n : Nat} {xs : List Value} (h : Row w size v n xs) (hx : xs ≠ []) :
    ∃ b off cap, v = .slice (some ⟨b, off, none⟩) n cap ∧ n ≤ cap ∧ cap ≤ maxLen ∧ b < w.heap.size ∧ ∀ j u, xs[j]? = some u → w.cell? ⟨b, off + j, none⟩ = some u := by
  obtain ⟨hl, h⟩ := h
  rcases h with ⟨rfl, rfl⟩ | ⟨⟨b, off, spot⟩, cap, rfl, h1, h2, hc⟩
  · simp at hl; exact absurd hl hx
  · match xs, hx with
    | x :: xs, _ =>
      have h0 := hc 0 x rfl
      have hs : spot = none := by
        cases spot with
        | none => rfl
        | some s => simp [Addr.add, World.cell?] at h0; split at h0 <;> simp at h0
      subst hs
      refine ⟨b, off, cap, rfl, h1, h2, World.block_lt_of_cell? w _ h0, fun j u hj => ?_⟩
      have := hc j u hj
      by_cases hj0 : j = 0
      · subst hj0; simpa [Addr.add] using this
      · simpa [Addr.add, hj0] using this

theorem Row.below {w w' : World} {size : Nat} {v : Value} {n : Nat} {xs : List Value} (h : Row w size v n xs) (hb : Below w.heap.size w w') : Row w' size v n xs := by
  refine ⟨h.1, ?_⟩
  rcases h.2 with h2 | ⟨a, cap, rfl, h1, h2, hc⟩
  · exact Or.inl h2
  · refine Or.inr ⟨a, cap, rfl, h1, h2, fun j u hj => ?_⟩
    have := hc j u hj
    rw [hb.cell (World.block_lt_of_cell? w _ this)]; exact this

theorem Row.of_owns {w : World} {base size : Nat} {e : TypeId} {v : Value} {n : Nat} {xs : List Value} (h : w.ownsRow base e size v n xs) : Row w size v n xs := by
  obtain ⟨hl, h⟩ := h
  refine ⟨hl, ?_⟩
  rcases h with h | ⟨g, cap, cur, rfl, _, hg, hn, hm, hcs, hxs⟩
  · exact Or.inl h
  · refine Or.inr ⟨_, cap, rfl, hn, hm, fun j u hj => ?_⟩
    have hlt : j < n * size := by rw [← hl]; exact (List.getElem?_eq_some_iff.1 hj).1
    have e1 : (Addr.add ⟨g, 0, none⟩ j) = ⟨g, j, none⟩ := by
      unfold Addr.add; by_cases h0 : j = 0 <;> simp [h0]
    rw [e1]
    rw [← hxs, List.getElem?_take, if_pos hlt] at hj
    simp only [World.cell?, hg]
    simpa using hj

/-- A slice that reads as a list of ints. -/
def SliceInts (w : World) (v : Value) (l : List Int) : Prop := Row w 1 v l.length (l.map (Value.int .i64))

theorem SliceInts.below {w w' : World} {v : Value} {l : List Int} (h : SliceInts w v l) (hb : Below w.heap.size w w') : SliceInts w' v l := Row.below h hb

theorem SliceInts.open {w : World} {v : Value} {l : List Int} (h : SliceInts w v l) :
    ∃ a cap, v = .slice a l.length cap ∧ (l ≠ [] → ∃ b off, a = some ⟨b, off, none⟩ ∧ b < w.heap.size ∧ ∀ i, i < l.length → w.cell? ⟨b, off + i, none⟩ = some (.int .i64 (l.getD i 0))) := by
  by_cases hl : l = []
  · obtain ⟨a, cap, hv, _, _⟩ := Row.shape h
    exact ⟨a, cap, hv, fun x => absurd hl x⟩
  · obtain ⟨b, off, cap, rfl, _, _, hb, hc⟩ := Row.at h (by simpa using hl)
    refine ⟨_, cap, rfl, fun _ => ⟨b, off, rfl, hb, fun i hi => hc i _ ?_⟩⟩
    simp [List.getElem?_eq_getElem hi]

/-- A slice literal of ints. -/
theorem SliceInts.lit (w : World) (e : TypeId) (l : List Int) (hm : l.length ≤ maxLen) : SliceInts (w.alloc (.cells (l.map (Value.int .i64)).toArray e)) (.slice (some ⟨w.heap.size, 0, none⟩) l.length l.length) l := by
  refine ⟨by simp, Or.inr ⟨_, _, rfl, Nat.le_refl _, hm, fun j u hj => ?_⟩⟩
  have e1 : (Addr.add ⟨w.heap.size, 0, none⟩ j) = ⟨w.heap.size, j, none⟩ := by unfold Addr.add; by_cases h0 : j = 0 <;> simp [h0]
  rw [e1]
  simp only [World.cell?, heap_alloc_new]
  simpa using hj

/-- 'append(nil, xs...)' hands over the same cells, in memory of its own. -/
theorem wpList_append_nil {P : Program} (w : World) {ops : Array Oper} {rest : List Oper} {o : Oper} {a : Act} {Q : Exit → Act → World → Prop} (hgd : o.guard = none) (x : Operand) (t : TypeId)
    (ho : o.op = .call { callee := .builtin .append, args := #[.const (.slice none 0 0), x], argTypes := #[t, t] })
    (e : TypeId) (i : TypeInfo) (z : Value) (size bytes : Nat) (ht : P.underlying t = some (.slice e)) (hi : P.info? e = some i) (hz : i.zero = some z)
    (hsize : i.size = size) (hby : i.bytes = bytes) (hzs : z.cells.size = size) (hsz : 0 < size)
    (m : Nat) (news : List Value) (v : Value) (hx : a.eval x = v) (hr : Row w size v m news) (h1 : ∀ u ∈ news, u.oneCell' = true) (hbytes : m * bytes ≤ 140737488355328)
    (h : ∀ v' w', w'.ownsRow w.heap.size e size v' m news → Below w.heap.size w w' → wpList P ops Q rest (a.put o.dst v') w') : wpList P ops Q (o :: rest) a w := by
  have hown := World.ownsRow_nil w w.heap.size e size
  rcases hr.2 with ⟨rfl, rfl⟩ | ⟨ad, cap, rfl, h2, h3, hc⟩
  · refine wpList_append_own_none hgd _ x t ho w.heap.size e i size ht hi _ 0 [] rfl hown hx (h _ _ ?_ (Below.refl _ _))
    have : news = [] := by have := hr.1; simpa using this
    subst this; exact hown
  · refine wpList_append_own w hgd _ x t ho w.heap.size e i z size bytes ht hi hz hsize hby hzs hsz (.slice none 0 0) 0 [] rfl hown ad m cap news hx hr.1 hc h1 (by omega) (by simpa using hbytes) (Nat.le_refl _) ?_
    intro v' w' h4 h5 _
    refine h v' w' (by simpa using h4) ((Below.refl _ _).grown h5 (Nat.le_refl _) ?_)
    intro k hk; simp [Value.ownBlock] at hk
end Go.Proofs.Ytocloacbbbhkcaa
