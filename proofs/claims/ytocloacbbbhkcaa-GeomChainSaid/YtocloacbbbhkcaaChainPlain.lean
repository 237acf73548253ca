/- Registers each within the one ahead, plainly. -/
import Derived.Test.YtocloacbbbhkcaaPlaces
namespace Go.Proofs.Ytocloacbbbhkcaa

def digC : ByteArray := ⟨#[48, 49, 50, 51, 52]⟩
def nmC (i : Nat) : ByteArray := ⟨#[120]⟩ ++ digC.extract i (i + 1)
def nmX5 : ByteArray := ⟨#[120, 53]⟩
def RegT.setBeg (r : RegT) (b : Int) : RegT := .mk r.name r.width b r.subs
/-- The chain from the i-th on. -/
def chainC (i : Nat) : List Int → RegT
  | [] => .mk nmX5 1 0 []
  | x :: l => .mk (nmC i) ((chainC (i + 1) l).width + x + 1) 0 [(chainC (i + 1) l).setBeg x]
/-- Its places, the outermost ones at b. -/
def plsC (root b : Int) (i : Nat) : List Int → List Pl
  | [] => [⟨root, b, 1⟩]
  | x :: l => ⟨root, b, (chainC i (x :: l)).width⟩ :: plsC root (b + x) (i + 1) l
def sumC : List Int → Int
  | [] => 0
  | x :: l => sumC l + x
def small (l : List Int) : Prop := ∀ x ∈ l, 0 ≤ x ∧ x ≤ 10
theorem cw_nil (i : Nat) : (chainC i []).width = 1 := rfl
theorem cw_cons (i : Nat) (x : Int) (l : List Int) : (chainC i (x :: l)).width = (chainC (i + 1) l).width + x + 1 := rfl
theorem chain_width (i : Nat) (l : List Int) (h : small l) : 1 ≤ (chainC i l).width ∧ (chainC i l).width ≤ 1 + 11 * l.length := by
  induction l generalizing i with
  | nil => rw [cw_nil]; simp
  | cons x l ih =>
    have h1 := ih (i + 1) (fun y hy => h y (by simp [hy]))
    have h2 := h x (by simp)
    rw [cw_cons, List.length_cons]
    omega
theorem sumC_bd (l : List Int) (h : small l) : 0 ≤ sumC l ∧ sumC l ≤ 10 * l.length := by
  induction l with
  | nil => exact ⟨by decide, by decide⟩
  | cons x l ih =>
    have h1 := ih (fun y hy => h y (by simp [hy]))
    have h2 := h x (by simp)
    simp only [sumC, List.length_cons]
    omega
theorem width_sum (i : Nat) (l : List Int) : (chainC i l).width = 1 + sumC l + l.length := by
  induction l generalizing i with
  | nil => rfl
  | cons x l ih =>
    rw [cw_cons, ih (i + 1), sumC, List.length_cons]
    omega
theorem nmC_named : ∀ i, i < 5 → namedS (nmC i) = true := by
  have h : (List.range 5).all (fun i => namedS (nmC i)) = true := by kernel_rfl
  intro i hi; exact List.all_eq_true.1 h i (List.mem_range.2 hi)
theorem nmX5_named : namedS nmX5 = true := by kernel_rfl
theorem nmC_ne {i j : Nat} (hi : i < 5) (hj : j < 5) (h : i ≠ j) : nmC i ≠ nmC j := by
  have h' : (List.range 5).all (fun i => (List.range 5).all (fun j => i == j || !(nmC i == nmC j))) = true := by kernel_rfl
  have := List.all_eq_true.1 (List.all_eq_true.1 h' i (List.mem_range.2 hi)) j (List.mem_range.2 hj)
  intro e
  simp only [Bool.or_eq_true, beq_iff_eq, Bool.not_eq_true'] at this
  rcases this with h1 | h1
  · exact h h1
  · rw [(ba_beq _ _).2 e] at h1; cases h1
theorem nmC_x5 {i : Nat} (hi : i < 5) : nmC i ≠ nmX5 := by
  have h' : (List.range 5).all (fun i => !(nmC i == nmX5)) = true := by kernel_rfl
  have := List.all_eq_true.1 h' i (List.mem_range.2 hi)
  intro e
  simp only [Bool.not_eq_true'] at this
  rw [(ba_beq _ _).2 e] at this; cases this

/-- The state ahead of the register at a depth. -/
structure InvC (d : Nat) (σ : Wk) (q : Pl) : Prop where
  ways : σ.ways.length = d
  last : σ.ways[d - 1]? = some (q, [])
  names : ∀ s ∈ σ.names, ∃ j, j + 1 < d ∧ s = nmC j
  len : σ.names.length + 1 = d
theorem one_chain {σ : Wk} {name : ByteArray} {width b : Int} {d : Nat} {q p : Pl} {roots : Int} (hI : InvC d σ q) (hd : 1 ≤ d) (hd6 : d ≤ 6) (hn : namedS name = true) (hm : name ∉ σ.names) (hw : 1 ≤ width ∧ width ≤ 64 ∧ 0 ≤ b) (hp : placeS σ d width b = .ok (p, roots)) :
    oneS σ name width b d = .ok { names := σ.names ++ [name], places := σ.places ++ [p], roots, ways := σ.ways.take (d - 1) ++ [(q, [p]), (p, [])] } := by
  have hmem : memB name σ.names = false := by
    cases h : memB name σ.names with
    | false => rfl
    | true => exact absurd ((memB_iff _ _).1 h) hm
  unfold oneS
  have := hI.len
  rw [if_neg (by omega), if_neg (by omega), if_neg (by rw [hn, hmem]; simp), if_neg (by simpa using hw), hp]
  simp [within, tookS, hI.last]
theorem inv_next {σ : Wk} {i : Nat} {q p : Pl} {roots : Int} (hI : InvC (i + 1) σ q) : InvC (i + 2) { names := σ.names ++ [nmC i], places := σ.places ++ [p], roots, ways := σ.ways.take (i + 1 - 1) ++ [(q, [p]), (p, [])] } p := by
  have hw := hI.ways
  have el : (σ.ways.take i).length = i := by rw [List.length_take]; omega
  refine ⟨by simp; omega, ?_, fun s hs => ?_, by have := hI.len; simp; omega⟩
  · show (σ.ways.take i ++ [(q, [p]), (p, [])])[i + 1]? = _
    rw [List.getElem?_append_right (by omega), el]
    simp
  · rcases List.mem_append.1 hs with h | h
    · obtain ⟨j, hj, e⟩ := hI.names s h; exact ⟨j, by omega, e⟩
    · simp at h; exact ⟨i, by omega, h⟩
theorem names_lt {σ : Wk} {i : Nat} {q : Pl} (hI : InvC (i + 1) σ q) (hi : i ≤ 5) : (i < 5 → nmC i ∉ σ.names) ∧ nmX5 ∉ σ.names := by
  refine ⟨fun hi5 h => ?_, fun h => ?_⟩
  · obtain ⟨j, hj, e⟩ := hI.names _ h
    exact nmC_ne hi5 (by omega) (by omega) e
  · obtain ⟨j, hj, e⟩ := hI.names _ h
    exact nmC_x5 (i := j) (by omega) e.symm

/-- A register within another one, and all within it. -/
theorem chain_in : ∀ (l : List Int) (i fuel : Nat) (b : Int) (σ : Wk) (q : Pl), 1 ≤ i → i + l.length ≤ 5 → fuel + (i + 1) = 8 → small l → 0 ≤ b → b + (chainC i l).width ≤ q.width → InvC (i + 1) σ q →
    ∃ σ', downS fuel (i + 1) [(chainC i l).setBeg b] σ = .ok σ' ∧ σ'.places = σ.places ++ plsC q.root (q.beg + b) i l := by
  intro l
  induction l with
  | nil =>
    intro i fuel b σ q h1 hi hf _ hb hw hI
    obtain ⟨f, rfl⟩ : ∃ f, fuel = f + 1 := ⟨fuel - 1, by omega⟩
    rw [cw_nil] at hw
    have hp : placeS σ (i + 1) 1 b = .ok (⟨q.root, q.beg + b, 1⟩, σ.roots) := by
      have hl := hI.last
      unfold placeS
      rw [if_neg (by omega), hl]
      simp only []
      rw [if_pos (by omega)]
    have ho := one_chain hI (by omega) (by simp at hi; omega) nmX5_named (names_lt hI (by simp at hi; omega)).2 ⟨by decide, by decide, hb⟩ hp
    refine ⟨{ names := σ.names ++ [nmX5], places := σ.places ++ [⟨q.root, q.beg + b, 1⟩], roots := σ.roots, ways := σ.ways.take (i + 1 - 1) ++ [(q, [⟨q.root, q.beg + b, 1⟩]), (⟨q.root, q.beg + b, 1⟩, [])] }, ?_, ?_⟩
    · show (match (match oneS σ nmX5 1 b (i + 1) with | .ok σ' => downS f (i + 1 + 1) [] σ' | .error x => .error x) with | .ok σ' => stepsS _ [] σ' | .error x => .error x) = _
      rw [ho]
      cases f <;> rfl
    · simp [plsC]
  | cons x l ih =>
    intro i fuel b σ q h1 hi hf hs hb hw hI
    obtain ⟨f, rfl⟩ : ∃ f, fuel = f + 1 := ⟨fuel - 1, by omega⟩
    simp only [List.length_cons] at hi
    have hx := hs x (by simp)
    have hs' : small l := fun y hy => hs y (by simp [hy])
    have hcw := chain_width i (x :: l) hs
    have hcw' := chain_width (i + 1) l hs'
    simp only [List.length_cons] at hcw
    have hp : placeS σ (i + 1) (chainC i (x :: l)).width b = .ok (⟨q.root, q.beg + b, (chainC i (x :: l)).width⟩, σ.roots) := by
      have hl := hI.last
      unfold placeS
      rw [if_neg (by omega), hl]
      simp only []
      rw [if_pos (by omega)]
    have ho := one_chain hI (by omega) (by omega) (nmC_named i (by omega)) ((names_lt hI (by omega)).1 (by omega)) ⟨hcw.1, by omega, hb⟩ hp
    obtain ⟨σ', e1, e2⟩ := ih (i + 1) f x _ _ (by omega) (by omega) (by omega) hs' hx.1 (by show _ ≤ (chainC _ (x :: l)).width; rw [cw_cons]; (try simp only [Nat.zero_add]); omega) (inv_next (p := ⟨q.root, q.beg + b, (chainC i (x :: l)).width⟩) (roots := σ.roots) hI)
    refine ⟨σ', ?_, ?_⟩
    · show (match (match oneS σ (nmC i) (chainC i (x :: l)).width b (i + 1) with | .ok σ' => downS f (i + 1 + 1) [(chainC (i + 1) l).setBeg x] σ' | .error x => .error x) with | .ok σ' => stepsS _ [] σ' | .error x => .error x) = _
      rw [ho]
      simp only []
      rw [show i + 1 + 1 = i + 2 from rfl] at e1 ⊢
      rw [e1]; rfl
    · rw [e2]; simp [plsC]
theorem chain_places (x : Int) (l : List Int) (hl : l.length ≤ 4) (hs : small (x :: l)) : ∃ σ, placesS [chainC 0 (x :: l)] = .ok σ ∧ σ.places = plsC 0 0 0 (x :: l) := by
  have hx := hs x (by simp)
  have hs' : small l := fun y hy => hs y (by simp [hy])
  have hcw := chain_width 0 (x :: l) hs
  simp only [List.length_cons] at hcw
  have hI : InvC 1 wk0 ⟨0, 0, 0⟩ := ⟨rfl, rfl, fun s hs => by simp [wk0] at hs, rfl⟩
  have hp : placeS wk0 1 (chainC 0 (x :: l)).width 0 = .ok (⟨0, 0, (chainC 0 (x :: l)).width⟩, 1) := by
    unfold placeS; rw [if_pos rfl, if_pos rfl]; rfl
  have ho := one_chain hI (by omega) (by omega) (nmC_named 0 (by omega)) ((names_lt hI (by omega)).1 (by omega)) ⟨hcw.1, by omega, by decide⟩ hp
  obtain ⟨σ', e1, e2⟩ := chain_in l 1 6 x _ _ (by omega) (by omega) (by omega) hs' hx.1 (by show _ ≤ (chainC _ (x :: l)).width; rw [cw_cons]; (try simp only [Nat.zero_add]); omega) (inv_next (i := 0) (p := ⟨0, 0, (chainC 0 (x :: l)).width⟩) (roots := 1) hI)
  refine ⟨σ', ?_, ?_⟩
  · show (match (match oneS wk0 (nmC 0) (chainC 0 (x :: l)).width 0 1 with | .ok σ' => downS 6 2 [(chainC 1 l).setBeg x] σ' | .error x => .error x) with | .ok σ' => stepsS _ [] σ' | .error x => .error x) = _
    rw [ho]
    simp only []
    rw [show downS 6 2 [(chainC 1 l).setBeg x] _ = _ from e1]; rfl
  · rw [e2]; simp [plsC, wk0]
theorem plsC_len (r b : Int) (i : Nat) (l : List Int) : (plsC r b i l).length = l.length + 1 := by
  induction l generalizing b i with
  | nil => rfl
  | cons x l ih => simp [plsC, ih]
theorem plsC_last (r b : Int) (i : Nat) (l : List Int) : (plsC r b i l)[l.length]? = some ⟨r, b + sumC l, 1⟩ := by
  induction l generalizing b i with
  | nil => simp [plsC, sumC]
  | cons x l ih => simp only [plsC, List.length_cons, List.getElem?_cons_succ, ih, sumC]; rw [Int.add_assoc, Int.add_comm x]
theorem plsC_first (r b : Int) (i : Nat) (l : List Int) : (plsC r b i l)[0]? = some ⟨r, b, (chainC i l).width⟩ := by
  cases l <;> rfl
theorem withinC (s k : Int) (h : 0 ≤ s) (hk : 0 ≤ k) : withinS ⟨0, s, 1⟩ ⟨0, 0, 1 + s + k⟩ = true := by
  unfold withinS
  have e2 : decide ((1 : Int) ≤ 1 + s + k) = true := by simp; omega
  have e3 : decide ((0 : Int) ≤ s) = true := by simpa using h
  have e4 : decide (s - 0 ≤ 1 + s + k) = true := by simp; omega
  have e5 : decide ((1 : Int) ≤ 1 + s + k - (s - 0)) = true := by simp; omega
  simp only [e2, e3, e4, e5]; rfl
end Go.Proofs.Ytocloacbbbhkcaa
