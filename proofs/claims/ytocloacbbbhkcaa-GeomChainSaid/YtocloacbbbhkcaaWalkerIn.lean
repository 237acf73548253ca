/- How the walker's state lies in memory, and what each write makes of it. -/
import Derived.Test.YtocloacbbbhkcaaWalker
import Derived.Deep.AppendLies
namespace Go.Proofs.Ytocloacbbbhkcaa
open Go.RowKit

/-- Is a block one of those that have a part to play? -/
def Has (ρ : Nat → Option Nat) (k : Nat) : Prop := ∃ r, ρ r = some k
/-- No block plays two parts. -/
def Apart (ρ : Nat → Option Nat) : Prop := ∀ r r' k, ρ r = some k → ρ r' = some k → r = r'
theorem Apart.set {ρ ρ' : Nat → Option Nat} (h : Apart ρ) (r0 g : Nat) (hg : ρ r0 = some g ∨ ∀ r k, ρ r = some k → k ≠ g) (h' : ∀ r, r ≠ r0 → ρ' r = ρ r) (h0 : ρ' r0 = some g) : Apart ρ' := by
  intro r r' k hr hr'
  by_cases e : r = r0
  · subst e
    by_cases e' : r' = r
    · exact e'.symm
    · rw [h' r' e'] at hr'
      rw [h0] at hr; cases hr
      rcases hg with hg | hg
      · exact h _ _ _ hg hr'
      · exact absurd rfl (hg _ _ hr')
  · rw [h' r e] at hr
    by_cases e' : r' = r0
    · subst e'
      rw [h0] at hr'; cases hr'
      rcases hg with hg | hg
      · exact h _ _ _ hr hg
      · exact absurd rfl (hg _ _ hr)
    · rw [h' r' e'] at hr'
      exact h _ _ _ hr hr'
theorem Apart.sub {ρ ρ' : Nat → Option Nat} (h : Apart ρ) (h' : ∀ r k, ρ' r = some k → ρ r = some k) : Apart ρ' := fun r r' k hr hr' => h r r' k (h' _ _ hr) (h' _ _ hr')
theorem Apart.ne {ρ : Nat → Option Nat} (h : Apart ρ) {r r' k k' : Nat} (hr : ρ r = some k) (hr' : ρ r' = some k') (hne : r ≠ r') : k ≠ k' := fun e => hne (h r r' k hr (e ▸ hr'))

/-- The cells of the registers around: a place, and the slice of those within. -/
def wayCells (ways : List (Pl × List Pl)) (cs : List Value) : List Value := (ways.zip cs).flatMap fun x => x.1.1.cells ++ [x.2]
def plCells (l : List Pl) : List Value := l.flatMap Pl.cells

/-- The walker's blocks, by their parts. -/
def parts (bw bm : Nat) (vN vP vW : Value) (ws : List Value) : Nat → Option Nat
  | 0 => some bw
  | 1 => some bm
  | 2 => vN.ownBlock
  | 3 => vP.ownBlock
  | 4 => vW.ownBlock
  | j + 5 => (ws[j]?).bind Value.ownBlock

/-- The walker in memory: what its fields hold (cN cP cW; cs of the ways) may be behind what the rows are (vN vP vW; ws). -/
structure WkG (W : World) (bw bm : Nat) (cN cP cW : Value) (cs : List Value) (vN vP vW : Value) (ws : List Value) (mn : List ByteArray) (σ : Wk) : Prop where
  st : W.heap[bw]? = some (.cells #[cN, cP, .map (some bm), cW, .int .i64 σ.roots] 48 (0, 0))
  mp : W.heap[bm]? = some (.map (ents mn).toArray mn.length)
  nm : W.ownsRow 0 9 1 vN σ.names.length (σ.names.map Value.string)
  pl : W.ownsRow 0 34 3 vP σ.places.length (plCells σ.places)
  wy : W.ownsRow 0 45 4 vW σ.ways.length (wayCells σ.ways cs)
  lw : ws.length = σ.ways.length
  lc : cs.length = σ.ways.length
  wi : ∀ (i : Nat) (x : Pl × List Pl) (v : Value), σ.ways[i]? = some x → ws[i]? = some v → W.ownsRow 0 34 3 v x.2.length (plCells x.2)
  ap : Apart (parts bw bm vN vP vW ws)

/-- The walker between two steps. -/
def WkIn (W : World) (bw bm : Nat) (vN vP vW : Value) (ws : List Value) (σ : Wk) : Prop := WkG W bw bm vN vP vW ws vN vP vW ws σ.names σ

section
variable {W W' : World} {bw bm : Nat} {cN cP cW : Value} {cs : List Value} {vN vP vW : Value} {ws : List Value} {mn : List ByteArray} {σ : Wk}

theorem WkG.lt (h : WkG W bw bm cN cP cW cs vN vP vW ws mn σ) : ∀ r k, parts bw bm vN vP vW ws r = some k → k < W.heap.size := by
  intro r k hk
  match r, hk with
  | 0, hk => cases hk; exact (Array.getElem?_eq_some_iff.1 h.st).1
  | 1, hk => cases hk; exact (Array.getElem?_eq_some_iff.1 h.mp).1
  | 2, hk => exact (h.nm.lt k hk).2
  | 3, hk => exact (h.pl.lt k hk).2
  | 4, hk => exact (h.wy.lt k hk).2
  | j + 5, hk =>
    simp only [parts] at hk
    cases hv : ws[j]? with
    | none => rw [hv] at hk; cases hk
    | some v =>
      rw [hv] at hk
      have hlt : j < σ.ways.length := by rw [← h.lw]; exact (List.getElem?_eq_some_iff.1 hv).1
      exact ((h.wi j σ.ways[j] v (List.getElem?_eq_getElem hlt) hv).lt k hk).2

theorem wi_kept (h : WkG W bw bm cN cP cW cs vN vP vW ws mn σ) {i : Nat} {x : Pl × List Pl} {v : Value} (hx : σ.ways[i]? = some x) (hv : ws[i]? = some v)
    (hk : ∀ k, parts bw bm vN vP vW ws (i + 5) = some k → W'.heap[k]? = W.heap[k]?) : W'.ownsRow 0 34 3 v x.2.length (plCells x.2) :=
  owns_same (h.wi i x v hx hv) fun k e => hk k (by simp [parts, hv, e])

/-- What turns no block of the walker's turns nothing of it. -/
theorem WkG.same (h : WkG W bw bm cN cP cW cs vN vP vW ws mn σ) (hk : ∀ r k, parts bw bm vN vP vW ws r = some k → W'.heap[k]? = W.heap[k]?) : WkG W' bw bm cN cP cW cs vN vP vW ws mn σ where
  st := by rw [hk 0 bw rfl]; exact h.st
  mp := by rw [hk 1 bm rfl]; exact h.mp
  nm := owns_same h.nm fun k e => hk 2 k e
  pl := owns_same h.pl fun k e => hk 3 k e
  wy := owns_same h.wy fun k e => hk 4 k e
  lw := h.lw
  lc := h.lc
  wi := fun i _ _ hx hv => wi_kept h hx hv fun k e => hk (i + 5) k e
  ap := h.ap
theorem WkG.ext (h : WkG W bw bm cN cP cW cs vN vP vW ws mn σ) (x : Ext W W') : WkG W' bw bm cN cP cW cs vN vP vW ws mn σ :=
  h.same fun r k hk => Below.block x k (h.lt r k hk)
theorem WkIn.ext (h : WkIn W bw bm vN vP vW ws σ) (x : Ext W W') : WkIn W' bw bm vN vP vW ws σ := WkG.ext h x
theorem WkIn.drew (h : WkIn W bw bm vN vP vW ws σ) : WkIn W.drew bw bm vN vP vW ws σ := h.ext (Ext.drew W)
theorem WkIn.lt (h : WkIn W bw bm vN vP vW ws σ) : ∀ k, Has (parts bw bm vN vP vW ws) k → k < W.heap.size := fun k ⟨r, hr⟩ => WkG.lt h r k hr
theorem WkG.drew (h : WkG W bw bm cN cP cW cs vN vP vW ws mn σ) : WkG W.drew bw bm cN cP cW cs vN vP vW ws mn σ := h.ext (Ext.drew W)

/-- A cell of the walker's struct is written. -/
theorem heap_set_cells {b : Nat} {cs : Array Value} {e : TypeId} {fz : Nat × Nat} (h : W.heap[b]? = some (.cells cs e fz)) (i : Nat) (v : Value) :
    (W.setCell ⟨b, i, none⟩ v).heap[b]? = some (.cells (cs.setIfInBounds i v) e fz) := by
  simp only [World.setCell, Array.getElem?_modify, if_true, h, Option.map_some]
  simp

/-- A store into the struct leaves all else. -/
theorem WkG.field (h : WkG W bw bm cN cP cW cs vN vP vW ws mn σ) {cN' cP' cW' : Value} {ro : Int} (i : Nat) (v : Value)
    (he : (#[cN, cP, .map (some bm), cW, .int .i64 σ.roots] : Array Value).setIfInBounds i v = #[cN', cP', .map (some bm), cW', .int .i64 ro]) :
    WkG (W.setCell ⟨bw, i, none⟩ v) bw bm cN' cP' cW' cs vN vP vW ws mn { σ with roots := ro } := by
  have oth : ∀ r k, r ≠ 0 → parts bw bm vN vP vW ws r = some k → (W.setCell ⟨bw, i, none⟩ v).heap[k]? = W.heap[k]? := fun r k hr hk => Below.heap_setCell _ _ _ _ (h.ap.ne hk (r' := 0) (k' := bw) rfl hr)
  exact ⟨by rw [heap_set_cells h.st, he], by rw [oth 1 bm (by decide) rfl]; exact h.mp, owns_same h.nm fun k e => oth 2 k (by decide) e, owns_same h.pl fun k e => oth 3 k (by decide) e,
    owns_same h.wy fun k e => oth 4 k (by decide) e, h.lw, h.lc, fun i _ _ hx hv => wi_kept h hx hv fun k e => oth (i + 5) k (by omega) e, h.ap⟩

theorem zip_take (ways : List (Pl × List Pl)) (ws : List Value) (d : Nat) : wayCells (ways.take d) (ws.take d) = (wayCells ways ws).take (d * 4) := by
  induction d generalizing ways ws with
  | zero => simp [wayCells]
  | succ d ih =>
    cases ways with
    | nil => simp [wayCells]
    | cons x ways =>
      cases ws with
      | nil => simp [wayCells]
      | cons v ws =>
        have e : (d + 1) * 4 = d * 4 + 4 := by omega
        simp only [wayCells, List.take_succ_cons, List.zip_cons_cons, List.flatMap_cons] at ih ⊢
        rw [ih ways ws, e]
        obtain ⟨⟨r, b, w⟩, l⟩ := x
        simp [Pl.cells]

/-- The ways are cut. -/
theorem WkIn.cut {a : Option Addr} {n cap : Nat} (h : WkIn W bw bm vN vP (.slice a n cap) ws σ) (hn : n = σ.ways.length) (d : Nat) (hd : d ≤ n) (h0 : 0 < n) :
    WkIn (W.setCell ⟨bw, 3, none⟩ (.slice a d cap)) bw bm vN vP (.slice a d cap) (ws.take d) { σ with ways := σ.ways.take d } := by
  subst hn
  have hb : (Value.slice a d cap).ownBlock = (Value.slice a σ.ways.length cap).ownBlock := by cases a <;> rfl
  have g := WkG.field h (cN' := vN) (cP' := vP) (cW' := .slice a d cap) (ro := σ.roots) 3 (.slice a d cap) rfl
  refine ⟨g.st, g.mp, g.nm, g.pl, ?_, ?_, ?_, ?_, ?_⟩
  · have := owns_take g.wy d hd h0
    rw [← zip_take] at this
    have hl : (σ.ways.take d).length = d := by rw [List.length_take]; omega
    show World.ownsRow _ _ _ _ _ (σ.ways.take d).length _
    rw [hl]; exact this
  · simp only [List.length_take]; rw [h.lw]
  · simp only [List.length_take]; rw [h.lw]
  · intro i x v hx hv
    simp only [List.getElem?_take] at hx hv
    by_cases hi : i < d
    · rw [if_pos hi] at hx hv; exact g.wi i x v hx hv
    · rw [if_neg hi] at hx; cases hx
  · refine g.ap.sub fun r k hk => ?_
    match r, hk with
    | 0, hk => exact hk
    | 1, hk => exact hk
    | 2, hk => exact hk
    | 3, hk => exact hk
    | 4, hk => exact hb.symm.trans hk
    | j + 5, hk =>
      simp only [parts, List.getElem?_take] at hk ⊢
      by_cases hj : j < d
      · rw [if_pos hj] at hk; exact hk
      · rw [if_neg hj] at hk; cases hk
theorem parts_cut {a : Option Addr} {n d cap : Nat} : ∀ k, Has (parts bw bm vN vP (.slice a d cap) (ws.take d)) k → Has (parts bw bm vN vP (.slice a n cap) ws) k := by
  rintro k ⟨r, hk⟩
  refine ⟨r, ?_⟩
  match r, hk with
  | 0, hk => exact hk
  | 1, hk => exact hk
  | 2, hk => exact hk
  | 3, hk => exact hk
  | 4, hk => exact (by rw [← hk]; cases a <;> rfl)
  | j + 5, hk =>
    simp only [parts, List.getElem?_take] at hk ⊢
    by_cases hj : j < d
    · rw [if_pos hj] at hk; exact hk
    · rw [if_neg hj] at hk; cases hk

/-- How many outer registers there are is written. -/
theorem WkIn.root (h : WkIn W bw bm vN vP vW ws σ) (n : Int) : WkIn (W.setCell ⟨bw, 4, none⟩ (.int .i64 n)) bw bm vN vP vW ws { σ with roots := n } := WkG.field h 4 _ rfl
theorem Ext.drewN (w : World) (n : Nat) : Ext w (w.drewN n) := below_drewN (Below.refl _ _) n

/-- The walker's cells. -/
theorem WkG.cells (h : WkG W bw bm cN cP cW cs vN vP vW ws mn σ) :
    W.cell? ⟨bw, 0, none⟩ = some cN ∧ W.cell? ⟨bw, 1, none⟩ = some cP ∧ W.cell? ⟨bw, 2, none⟩ = some (.map (some bm)) ∧ W.cell? ⟨bw, 3, none⟩ = some cW ∧ W.cell? ⟨bw, 4, none⟩ = some (.int .i64 σ.roots) := by
  simp only [World.cell?, h.st]
  refine ⟨rfl, rfl, rfl, rfl, rfl⟩
theorem WkG.free (h : WkG W bw bm cN cP cW cs vN vP vW ws mn σ) (i : Nat) : W.frozen? ⟨bw, i, none⟩ = false := by
  simp [World.frozen?, h.st]
theorem WkIn.cells (h : WkIn W bw bm vN vP vW ws σ) :
    W.cell? ⟨bw, 0, none⟩ = some vN ∧ W.cell? ⟨bw, 1, none⟩ = some vP ∧ W.cell? ⟨bw, 2, none⟩ = some (.map (some bm)) ∧ W.cell? ⟨bw, 3, none⟩ = some vW ∧ W.cell? ⟨bw, 4, none⟩ = some (.int .i64 σ.roots) := WkG.cells h
theorem WkIn.free (h : WkIn W bw bm vN vP vW ws σ) (i : Nat) : W.frozen? ⟨bw, i, none⟩ = false := WkG.free h i

theorem wayCells_cons (y : Pl × List Pl) (ways : List (Pl × List Pl)) (u : Value) (cs : List Value) : wayCells (y :: ways) (u :: cs) = .int .i64 y.1.root :: .int .i64 y.1.beg :: .int .i64 y.1.width :: u :: wayCells ways cs := by
  simp [wayCells, Pl.cells]
theorem wayCells_at {ways : List (Pl × List Pl)} {cs : List Value} {i : Nat} {x : Pl × List Pl} {v : Value} (hx : ways[i]? = some x) (hv : cs[i]? = some v) :
    (wayCells ways cs)[i * 4]? = some (.int .i64 x.1.root) ∧ (wayCells ways cs)[i * 4 + 1]? = some (.int .i64 x.1.beg) ∧ (wayCells ways cs)[i * 4 + 2]? = some (.int .i64 x.1.width) ∧ (wayCells ways cs)[i * 4 + 3]? = some v := by
  induction i generalizing ways cs with
  | zero =>
    cases ways with
    | nil => simp at hx
    | cons y ways =>
      cases cs with
      | nil => simp at hv
      | cons u cs =>
        simp at hx hv; subst hx; subst hv
        simp [wayCells, Pl.cells]
  | succ i ih =>
    cases ways with
    | nil => simp at hx
    | cons y ways =>
      cases cs with
      | nil => simp at hv
      | cons u cs =>
        have := ih (ways := ways) (cs := cs) (by simpa using hx) (by simpa using hv)
        rw [wayCells_cons, show (i + 1) * 4 = i * 4 + 4 by omega]
        simpa using this
theorem wayCells_set (ways : List (Pl × List Pl)) (cs : List Value) (i : Nat) (l : List Pl) (v : Value) (hc : cs.length = ways.length) (x : Pl × List Pl) (hx : ways[i]? = some x) :
    wayCells (ways.set i (x.1, l)) (cs.set i v) = (wayCells ways cs).set (i * 4 + 3) v := by
  induction i generalizing ways cs with
  | zero =>
    cases ways with
    | nil => simp at hx
    | cons y ways =>
      cases cs with
      | nil => simp at hc
      | cons u cs =>
        simp at hx; subst hx
        simp [wayCells_cons]
  | succ i ih =>
    cases ways with
    | nil => simp at hx
    | cons y ways =>
      cases cs with
      | nil => simp at hc
      | cons u cs =>
        have := ih ways cs (by simpa using hc) (by simpa using hx)
        rw [show (i + 1) * 4 + 3 = i * 4 + 3 + 1 + 1 + 1 + 1 by omega]
        simp only [List.set_cons_succ, wayCells_cons, this]
theorem wayCells_set0 (ways : List (Pl × List Pl)) (cs : List Value) (i : Nat) (l : List Pl) (x : Pl × List Pl) (hx : ways[i]? = some x) :
    wayCells (ways.set i (x.1, l)) cs = wayCells ways cs := by
  induction i generalizing ways cs with
  | zero =>
    cases ways with
    | nil => simp at hx
    | cons y ways =>
      cases cs with
      | nil => simp [wayCells]
      | cons u cs => simp at hx; subst hx; simp [wayCells_cons]
  | succ i ih =>
    cases ways with
    | nil => simp at hx
    | cons y ways =>
      cases cs with
      | nil => simp [wayCells]
      | cons u cs => simp only [List.set_cons_succ, wayCells_cons]; rw [ih ways cs (by simpa using hx)]
theorem wayCells_snoc (ways : List (Pl × List Pl)) (cs : List Value) (p : Pl) (l : List Pl) (v : Value) (hc : cs.length = ways.length) :
    wayCells (ways ++ [(p, l)]) (cs ++ [v]) = wayCells ways cs ++ (p.cells ++ [v]) := by
  unfold wayCells
  rw [List.zip_append hc.symm, List.flatMap_append]
  simp
theorem plCells_snoc (l : List Pl) (p : Pl) : plCells (l ++ [p]) = plCells l ++ p.cells := by simp [plCells]

/-- The cells of the register around, at its place among the ways. -/
theorem WkG.around {bW n cap : Nat} (h : WkG W bw bm cN cP cW cs vN vP (.slice (some ⟨bW, 0, none⟩) n cap) ws mn σ) {i : Nat} {x : Pl × List Pl} {v : Value} (hx : σ.ways[i]? = some x) (hv : cs[i]? = some v) :
    W.cell? ⟨bW, i * 4, none⟩ = some (.int .i64 x.1.root) ∧ W.cell? ⟨bW, i * 4 + 1, none⟩ = some (.int .i64 x.1.beg) ∧ W.cell? ⟨bW, i * 4 + 2, none⟩ = some (.int .i64 x.1.width) ∧ W.cell? ⟨bW, i * 4 + 3, none⟩ = some v ∧ W.frozen? ⟨bW, i * 4 + 3, none⟩ = false := by
  obtain ⟨h0, h1, h2, h3⟩ := wayCells_at hx hv
  have hl := h.wy.1
  rcases h.wy.2 with ⟨e, _⟩ | ⟨g, cap', cur, e, _, hg, _, _, _, hxs⟩
  · cases e
  · cases e
    have hlt : i < σ.ways.length := (List.getElem?_eq_some_iff.1 hx).1
    have at_ : ∀ j u, j < 4 → (wayCells σ.ways cs)[i * 4 + j]? = some u → W.cell? ⟨bW, i * 4 + j, none⟩ = some u := by
      intro j u hj hu
      rw [← hxs, List.getElem?_take, if_pos (by omega)] at hu
      simp only [World.cell?, hg]
      simpa using hu
    refine ⟨at_ 0 _ (by omega) h0, at_ 1 _ (by omega) h1, at_ 2 _ (by omega) h2, at_ 3 _ (by omega) h3, ?_⟩
    simp [World.frozen?, hg]

/-- The map has one name more. -/
theorem WkG.mapped (h : WkG W bw bm cN cP cW cs vN vP vW ws mn σ) (s : ByteArray) :
    WkG { W with heap := W.heap.setIfInBounds bm (.map (ents mn ++ [({ key := .string s, val := .int .i64 mn.length, born := mn.length } : MapEntry)]).toArray (mn.length + 1)) } bw bm cN cP cW cs vN vP vW ws (mn ++ [s]) σ := by
  have oth : ∀ (o : Obj) r k, r ≠ 1 → parts bw bm vN vP vW ws r = some k → (W.heap.setIfInBounds bm o)[k]? = W.heap[k]? := fun o r k hr hk => by
    have : bm ≠ k := h.ap.ne (r := 1) rfl hk (fun e => hr e.symm)
    rw [Array.getElem?_setIfInBounds, if_neg this]
  have hbm := (Array.getElem?_eq_some_iff.1 h.mp).1
  exact ⟨by rw [oth _ 0 bw (by decide) rfl]; exact h.st, by simp only [Array.getElem?_setIfInBounds, if_true, hbm]; simp [ents_snoc], owns_same h.nm fun k e => oth _ 2 k (by decide) e, owns_same h.pl fun k e => oth _ 3 k (by decide) e,
    owns_same h.wy fun k e => oth _ 4 k (by decide) e, h.lw, h.lc, fun i _ _ hx hv => wi_kept h hx hv fun k e => oth _ (i + 5) k (by omega) e, h.ap⟩

theorem fresh_of (h : WkG W bw bm cN cP cW cs vN vP vW ws mn σ) {g : Nat} {v : Value} {r0 : Nat} (hr : parts bw bm vN vP vW ws r0 = v.ownBlock) (hat : v.ownBlock = some g ∨ W.heap.size ≤ g) :
    parts bw bm vN vP vW ws r0 = some g ∨ ∀ r k, parts bw bm vN vP vW ws r = some k → k ≠ g := by
  rcases hat with e | e
  · exact Or.inl (hr.trans e)
  · refine Or.inr fun r k hk => ?_
    have := h.lt r k hk; omega
theorem oth_grown (h : WkG W bw bm cN cP cW cs vN vP vW ws mn σ) {v : Value} {r0 : Nat} (hr : parts bw bm vN vP vW ws r0 = v.ownBlock) (hg : W.grownBy W' v.ownBlock) :
    ∀ r k, r ≠ r0 → parts bw bm vN vP vW ws r = some k → W'.heap[k]? = W.heap[k]? := fun r k hne hk =>
  hg.block k (h.lt r k hk) (fun e => hne (h.ap r r0 k hk (hr.trans e.symm)))

/-- The names' row has grown. -/
theorem WkG.appN (h : WkG W bw bm cN cP cW cs vN vP vW ws mn σ) {g n cap : Nat} (s : ByteArray) (hg : W.grownBy W' vN.ownBlock) (hat : vN.ownBlock = some g ∨ W.heap.size ≤ g)
    (ho : W'.ownsRow 0 9 1 (.slice (some ⟨g, 0, none⟩) n cap) (σ.names.length + 1) (σ.names.map Value.string ++ [.string s])) :
    WkG W' bw bm cN cP cW cs (.slice (some ⟨g, 0, none⟩) n cap) vP vW ws mn { σ with names := σ.names ++ [s] } := by
  have oth := oth_grown h (v := vN) (r0 := 2) rfl hg
  exact ⟨by rw [oth 0 bw (by decide) rfl]; exact h.st, by rw [oth 1 bm (by decide) rfl]; exact h.mp, by simpa using ho, owns_same h.pl fun k e => oth 3 k (by decide) e,
    owns_same h.wy fun k e => oth 4 k (by decide) e, h.lw, h.lc, fun i _ _ hx hv => wi_kept h hx hv fun k e => oth (i + 5) k (by omega) e,
    h.ap.set 2 g (fresh_of h (v := vN) rfl hat) (fun r hr => by match r, hr with | 0, _ => rfl | 1, _ => rfl | 3, _ => rfl | 4, _ => rfl | j + 5, _ => rfl) rfl⟩
/-- The places' row has grown. -/
theorem WkG.appP (h : WkG W bw bm cN cP cW cs vN vP vW ws mn σ) {g n cap : Nat} (p : Pl) (hg : W.grownBy W' vP.ownBlock) (hat : vP.ownBlock = some g ∨ W.heap.size ≤ g)
    (ho : W'.ownsRow 0 34 3 (.slice (some ⟨g, 0, none⟩) n cap) (σ.places.length + 1) (plCells σ.places ++ p.cells)) :
    WkG W' bw bm cN cP cW cs vN (.slice (some ⟨g, 0, none⟩) n cap) vW ws mn { σ with places := σ.places ++ [p] } := by
  have oth := oth_grown h (v := vP) (r0 := 3) rfl hg
  exact ⟨by rw [oth 0 bw (by decide) rfl]; exact h.st, by rw [oth 1 bm (by decide) rfl]; exact h.mp, owns_same h.nm fun k e => oth 2 k (by decide) e, by simpa [plCells_snoc] using ho,
    owns_same h.wy fun k e => oth 4 k (by decide) e, h.lw, h.lc, fun i _ _ hx hv => wi_kept h hx hv fun k e => oth (i + 5) k (by omega) e,
    h.ap.set 3 g (fresh_of h (v := vP) rfl hat) (fun r hr => by match r, hr with | 0, _ => rfl | 1, _ => rfl | 2, _ => rfl | 4, _ => rfl | j + 5, _ => rfl) rfl⟩
/-- The ways' row has grown. -/
theorem WkG.appW (h : WkG W bw bm cN cP cW cs vN vP vW ws mn σ) {g n cap : Nat} (p : Pl) (hg : W.grownBy W' vW.ownBlock) (hat : vW.ownBlock = some g ∨ W.heap.size ≤ g)
    (ho : W'.ownsRow 0 45 4 (.slice (some ⟨g, 0, none⟩) n cap) (σ.ways.length + 1) (wayCells σ.ways cs ++ (p.cells ++ [.slice none 0 0]))) :
    WkG W' bw bm cN cP cW (cs ++ [.slice none 0 0]) vN vP (.slice (some ⟨g, 0, none⟩) n cap) (ws ++ [.slice none 0 0]) mn { σ with ways := σ.ways ++ [(p, [])] } := by
  have oth := oth_grown h (v := vW) (r0 := 4) rfl hg
  have hp : ∀ r, parts bw bm vN vP vW (ws ++ [.slice none 0 0]) r = parts bw bm vN vP vW ws r := by
    intro r
    match r with
    | 0 => rfl
    | 1 => rfl
    | 2 => rfl
    | 3 => rfl
    | 4 => rfl
    | j + 5 =>
      simp only [parts]
      by_cases hj : j < ws.length
      · rw [List.getElem?_append_left hj]
      · rw [List.getElem?_append_right (by omega), List.getElem?_eq_none (l := ws) (by omega)]
        by_cases h0 : j - ws.length = 0
        · rw [h0]; rfl
        · rw [List.getElem?_eq_none (by simp; omega)]
  refine ⟨by rw [oth 0 bw (by decide) rfl]; exact h.st, by rw [oth 1 bm (by decide) rfl]; exact h.mp, owns_same h.nm fun k e => oth 2 k (by decide) e, owns_same h.pl fun k e => oth 3 k (by decide) e,
    by rw [wayCells_snoc _ _ _ _ _ h.lc]; simpa using ho, by simp [h.lw], by simp [h.lc], fun i x v hx hv => ?_,
    h.ap.set 4 g (fresh_of h (v := vW) rfl hat) (fun r hr => by rw [← hp r]; match r, hr with | 0, _ => rfl | 1, _ => rfl | 2, _ => rfl | 3, _ => rfl | j + 5, _ => rfl) rfl⟩
  by_cases hi : i < σ.ways.length
  · rw [List.getElem?_append_left hi] at hx
    rw [List.getElem?_append_left (by rw [h.lw]; exact hi)] at hv
    exact wi_kept h hx hv fun k e => oth (i + 5) k (by omega) e
  · rw [List.getElem?_append_right (by omega)] at hx
    rw [List.getElem?_append_right (by rw [h.lw]; omega), h.lw] at hv
    by_cases h0 : i - σ.ways.length = 0
    · rw [h0] at hx hv
      simp at hx hv; subst hx; subst hv
      exact World.ownsRow_nil _ _ _ _
    · rw [List.getElem?_eq_none (by simp; omega)] at hx; cases hx
/-- The row of those within a way has grown. -/
theorem WkG.appI (h : WkG W bw bm cN cP cW cs vN vP vW ws mn σ) {g n cap i : Nat} {x : Pl × List Pl} {v : Value} (hx : σ.ways[i]? = some x) (hv : ws[i]? = some v) (p : Pl) (hg : W.grownBy W' v.ownBlock) (hat : v.ownBlock = some g ∨ W.heap.size ≤ g)
    (ho : W'.ownsRow 0 34 3 (.slice (some ⟨g, 0, none⟩) n cap) (x.2.length + 1) (plCells x.2 ++ p.cells)) :
    WkG W' bw bm cN cP cW cs vN vP vW (ws.set i (.slice (some ⟨g, 0, none⟩) n cap)) mn { σ with ways := σ.ways.set i (x.1, x.2 ++ [p]) } := by
  have hr0 : parts bw bm vN vP vW ws (i + 5) = v.ownBlock := by simp [parts, hv]
  have oth := oth_grown h (v := v) (r0 := i + 5) hr0 hg
  have hil : i < ws.length := (List.getElem?_eq_some_iff.1 hv).1
  have hil' : i < σ.ways.length := (List.getElem?_eq_some_iff.1 hx).1
  refine ⟨by rw [oth 0 bw (by omega) rfl]; exact h.st, by rw [oth 1 bm (by omega) rfl]; exact h.mp, owns_same h.nm fun k e => oth 2 k (by omega) e, owns_same h.pl fun k e => oth 3 k (by omega) e,
    by rw [wayCells_set0 _ _ _ _ _ hx]; simpa using owns_same h.wy fun k e => oth 4 k (by omega) e, by simp [h.lw], by simp [h.lc], fun j y u hy hu => ?_,
    h.ap.set (i + 5) g (fresh_of h (v := v) hr0 hat) (fun r hr => ?_) (by simp [parts, List.getElem?_set_self hil, Value.ownBlock])⟩
  · by_cases hj : j = i
    · subst hj
      rw [List.getElem?_set_self hil'] at hy; rw [List.getElem?_set_self hil] at hu
      cases hy; cases hu
      simpa [plCells_snoc] using ho
    · rw [List.getElem?_set_ne (Ne.symm hj)] at hy hu
      exact wi_kept h hy hu fun k e => oth (j + 5) k (by omega) e
  · match r, hr with
    | 0, _ => rfl
    | 1, _ => rfl
    | 2, _ => rfl
    | 3, _ => rfl
    | 4, _ => rfl
    | j + 5, hr =>
      simp only [parts]
      rw [List.getElem?_set_ne (by omega)]
/-- A way's field is written. -/
theorem WkG.setI {bW n cap : Nat} (h : WkG W bw bm cN cP cW cs vN vP (.slice (some ⟨bW, 0, none⟩) n cap) ws mn σ) {i : Nat} (hi : i < σ.ways.length) (v : Value) :
    WkG (W.setCell ⟨bW, i * 4 + 3, none⟩ v) bw bm cN cP cW (cs.set i v) vN vP (.slice (some ⟨bW, 0, none⟩) n cap) ws mn σ := by
  have oth : ∀ r k, r ≠ 4 → parts bw bm vN vP (.slice (some ⟨bW, 0, none⟩) n cap) ws r = some k → (W.setCell ⟨bW, i * 4 + 3, none⟩ v).heap[k]? = W.heap[k]? := fun r k hr hk => Below.heap_setCell _ _ _ _ (h.ap.ne hk (r' := 4) (k' := bW) rfl hr)
  refine ⟨by rw [oth 0 bw (by decide) rfl]; exact h.st, by rw [oth 1 bm (by decide) rfl]; exact h.mp, owns_same h.nm fun k e => oth 2 k (by decide) e, owns_same h.pl fun k e => oth 3 k (by decide) e, ?_, h.lw, by simp [h.lc],
    fun i _ _ hx hv => wi_kept h hx hv fun k e => oth (i + 5) k (by omega) e, h.ap⟩
  have hl := h.wy.1
  have hw : wayCells σ.ways (cs.set i v) = (wayCells σ.ways cs).set (i * 4 + 3) v := by
    have := wayCells_set σ.ways cs i σ.ways[i].2 v h.lc σ.ways[i] (List.getElem?_eq_getElem hi)
    rw [← this]
    congr 1
    exact (List.set_getElem_self hi).symm
  rw [hw]
  refine ⟨by rw [List.length_set]; exact hl, ?_⟩
  rcases h.wy.2 with ⟨e, _⟩ | ⟨g, cap', cur, e, hb, hg, h1, h2, h3, hxs⟩
  · cases e
  · cases e
    refine Or.inr ⟨bW, cap, _, rfl, hb, heap_set_cells hg _ _, h1, h2, by simpa using h3, ?_⟩
    rw [← hxs]
    simp only [Array.toList_setIfInBounds]
    rw [List.take_set]

/-- The blocks that the walker has got: those that it had, and new ones. -/
def Grew (w : World) (ρ ρ' : Nat → Option Nat) : Prop := ∀ k, Has ρ' k → Has ρ k ∨ w.heap.size ≤ k
theorem Grew.refl (w : World) (ρ : Nat → Option Nat) : Grew w ρ ρ := fun _ h => Or.inl h
theorem Grew.trans {w w' : World} {ρ ρ' ρ'' : Nat → Option Nat} (h : Grew w ρ ρ') (hs : w.heap.size ≤ w'.heap.size) (h' : Grew w' ρ' ρ'') : Grew w ρ ρ'' := fun k hk => by
  rcases h' k hk with h1 | h1
  · exact h k h1
  · exact Or.inr (Nat.le_trans hs h1)
theorem Grew.set {w : World} {ρ ρ' : Nat → Option Nat} (r0 g : Nat) (hg : ρ r0 = some g ∨ w.heap.size ≤ g) (h' : ∀ r, r ≠ r0 → ρ' r = ρ r) (h0 : ρ' r0 = some g) : Grew w ρ ρ' := by
  rintro k ⟨r, hr⟩
  by_cases e : r = r0
  · subst e; rw [h0] at hr; cases hr
    rcases hg with h | h
    · exact Or.inl ⟨r, h⟩
    · exact Or.inr h
  · rw [h' r e] at hr; exact Or.inl ⟨r, hr⟩
theorem Keep.ofGrown {S : Nat → Prop} {W1 : World} (xa : Ext W W1) {v : Value} (hg : W1.grownBy W' v.ownBlock) (hs : ∀ k, v.ownBlock = some k → S k) : Keep S W W' :=
  (Keep.of_ext xa).trans (Keep.grown (S := S) hg hs) (fun _ _ h => h)

/-- Those within a way: one more, in the row and in the field. -/
theorem WkIn.within {bW nW cW g n cap i : Nat} {x : Pl × List Pl} {v : Value} {W1 : World} (h : WkIn W bw bm vN vP (.slice (some ⟨bW, 0, none⟩) nW cW) ws σ) (hx : σ.ways[i]? = some x) (hv : ws[i]? = some v) (p : Pl)
    (xa : Ext W W1) (hg : W1.grownBy W' v.ownBlock) (hat : v.ownBlock = some g ∨ W1.heap.size ≤ g)
    (ho : W'.ownsRow 0 34 3 (.slice (some ⟨g, 0, none⟩) n cap) (x.2.length + 1) (plCells x.2 ++ p.cells)) :
    WkIn (W'.setCell ⟨bW, i * 4 + 3, none⟩ (.slice (some ⟨g, 0, none⟩) n cap)) bw bm vN vP (.slice (some ⟨bW, 0, none⟩) nW cW) (ws.set i (.slice (some ⟨g, 0, none⟩) n cap)) { σ with ways := σ.ways.set i (x.1, x.2 ++ [p]) } ∧
    Keep (Has (parts bw bm vN vP (.slice (some ⟨bW, 0, none⟩) nW cW) ws)) W (W'.setCell ⟨bW, i * 4 + 3, none⟩ (.slice (some ⟨g, 0, none⟩) n cap)) ∧
    Grew W (parts bw bm vN vP (.slice (some ⟨bW, 0, none⟩) nW cW) ws) (parts bw bm vN vP (.slice (some ⟨bW, 0, none⟩) nW cW) (ws.set i (.slice (some ⟨g, 0, none⟩) n cap))) := by
  have hil : i < ws.length := (List.getElem?_eq_some_iff.1 hv).1
  have hil' : i < σ.ways.length := (List.getElem?_eq_some_iff.1 hx).1
  have h1 : WkG W1 bw bm vN vP (.slice (some ⟨bW, 0, none⟩) nW cW) ws vN vP (.slice (some ⟨bW, 0, none⟩) nW cW) ws σ.names σ := WkG.ext h xa
  have h2 := (h1.appI hx hv p hg hat ho).setI (i := i) (by simpa using hil') (.slice (some ⟨g, 0, none⟩) n cap)
  have hr0 : parts bw bm vN vP (.slice (some ⟨bW, 0, none⟩) nW cW) ws (i + 5) = v.ownBlock := by simp [parts, hv]
  refine ⟨h2, ?_, ?_⟩
  · refine (Keep.ofGrown (S := Has (parts bw bm vN vP (.slice (some ⟨bW, 0, none⟩) nW cW) ws)) xa hg (fun k e => ⟨i + 5, hr0.trans e⟩)).trans (Keep.setCell (Has (parts bw bm vN vP (.slice (some ⟨bW, 0, none⟩) nW cW) ws)) W' _ _ ⟨4, rfl⟩) (fun _ _ h => h)
  · refine Grew.set (i + 5) g ?_ (fun r hr => ?_) (by simp [parts, List.getElem?_set_self hil, Value.ownBlock])
    · rcases hat with e | e
      · exact Or.inl (hr0.trans e)
      · exact Or.inr (Nat.le_trans xa.size e)
    · match r, hr with
      | 0, _ => rfl
      | 1, _ => rfl
      | 2, _ => rfl
      | 3, _ => rfl
      | 4, _ => rfl
      | j + 5, hr => simp only [parts]; rw [List.getElem?_set_ne (by omega)]
/-- The ways: one more, in the row and in the field. -/
theorem WkIn.way {g n cap : Nat} {W1 : World} (h : WkIn W bw bm vN vP vW ws σ) (p : Pl) (xa : Ext W W1) (hg : W1.grownBy W' vW.ownBlock) (hat : vW.ownBlock = some g ∨ W1.heap.size ≤ g)
    (ho : W'.ownsRow 0 45 4 (.slice (some ⟨g, 0, none⟩) n cap) (σ.ways.length + 1) (wayCells σ.ways ws ++ (p.cells ++ [.slice none 0 0]))) :
    WkIn (W'.setCell ⟨bw, 3, none⟩ (.slice (some ⟨g, 0, none⟩) n cap)) bw bm vN vP (.slice (some ⟨g, 0, none⟩) n cap) (ws ++ [.slice none 0 0]) { σ with ways := σ.ways ++ [(p, [])] } ∧
    Keep (Has (parts bw bm vN vP vW ws)) W (W'.setCell ⟨bw, 3, none⟩ (.slice (some ⟨g, 0, none⟩) n cap)) ∧
    Grew W (parts bw bm vN vP vW ws) (parts bw bm vN vP (.slice (some ⟨g, 0, none⟩) n cap) (ws ++ [.slice none 0 0])) := by
  have h1 : WkG W1 bw bm vN vP vW ws vN vP vW ws σ.names σ := WkG.ext h xa
  have h2 := (h1.appW p hg hat ho).field (cN' := vN) (cP' := vP) (cW' := .slice (some ⟨g, 0, none⟩) n cap) (ro := σ.roots) 3 (.slice (some ⟨g, 0, none⟩) n cap) rfl
  refine ⟨h2, ?_, ?_⟩
  · exact (Keep.ofGrown (S := Has (parts bw bm vN vP vW ws)) xa hg (fun k e => ⟨4, e⟩)).trans (Keep.setCell (Has (parts bw bm vN vP vW ws)) W' _ _ ⟨0, rfl⟩) (fun _ _ h => h)
  · rintro k ⟨r, hk⟩
    match r, hk with
    | 0, hk => exact Or.inl ⟨0, hk⟩
    | 1, hk => exact Or.inl ⟨1, hk⟩
    | 2, hk => exact Or.inl ⟨2, hk⟩
    | 3, hk => exact Or.inl ⟨3, hk⟩
    | 4, hk =>
      cases hk
      rcases hat with e | e
      · exact Or.inl ⟨4, e⟩
      · exact Or.inr (Nat.le_trans xa.size e)
    | j + 5, hk =>
      simp only [parts] at hk
      by_cases hj : j < ws.length
      · rw [List.getElem?_append_left hj] at hk; exact Or.inl ⟨j + 5, hk⟩
      · rw [List.getElem?_append_right (by omega)] at hk
        by_cases h0 : j - ws.length = 0
        · rw [h0] at hk; cases hk
        · rw [List.getElem?_eq_none (by simp; omega)] at hk; cases hk
end
end Go.Proofs.Ytocloacbbbhkcaa
