/- Outer registers, plainly. -/
import Derived.Test.YtocloacbbbhkcaaPlaces
namespace Go.Proofs.Ytocloacbbbhkcaa

def digs : ByteArray := ⟨#[48, 49, 50, 51, 52, 53, 54, 55, 56, 57]⟩
/-- The i-th name. -/
def nmO (i : Nat) : ByteArray := ((⟨#[114]⟩ ++ digs.extract (i / 100) (i / 100 + 1)) ++ digs.extract (i / 10 % 10) (i / 10 % 10 + 1)) ++ digs.extract (i % 10) (i % 10 + 1)
def unO (s : ByteArray) : Nat := match s.data.toList with | [_, a, b, c] => (a.toNat - 48) * 100 + (b.toNat - 48) * 10 + (c.toNat - 48) | _ => 0
theorem nmO_un : ∀ i, i < 220 → unO (nmO i) = i := by
  have h : (List.range 220).all (fun i => unO (nmO i) == i) = true := by kernel_rfl
  intro i hi
  have := List.all_eq_true.1 h i (List.mem_range.2 hi)
  simpa using this
theorem nmO_named : ∀ i, i < 220 → namedS (nmO i) = true := by
  have h : (List.range 220).all (fun i => namedS (nmO i)) = true := by kernel_rfl
  intro i hi
  exact List.all_eq_true.1 h i (List.mem_range.2 hi)
theorem nmO_inj {i j : Nat} (hi : i < 220) (hj : j < 220) (h : nmO i = nmO j) : i = j := by
  rw [← nmO_un i hi, ← nmO_un j hj, h]

/-- Outer registers of these widths, numbered from k on. -/
def regsO (k : Nat) : List Int → List RegT
  | [] => []
  | x :: l => .mk (nmO k) x 0 [] :: regsO (k + 1) l
/-- Their places. -/
def plsO (k : Nat) : List Int → List Pl
  | [] => []
  | x :: l => ⟨k, 0, x⟩ :: plsO (k + 1) l
/-- The error that is wanted. -/
def wantO (k : Nat) : List Int → Int
  | [] => 0
  | x :: l => if 200 ≤ k then 2 else if x < 1 ∨ 64 < x then 6 else wantO (k + 1) l
theorem wantO_01 (k : Nat) (l : List Int) : wantO k l = 0 ∨ wantO k l = 2 ∨ wantO k l = 6 := by
  induction l generalizing k with
  | nil => exact Or.inl rfl
  | cons x l ih =>
    unfold wantO
    split
    · exact Or.inr (Or.inl rfl)
    · split
      · exact Or.inr (Or.inr rfl)
      · exact ih _

/-- The state when k outer registers are taken. -/
structure InvO (k : Nat) (σ : Wk) : Prop where
  names : σ.names = (List.range k).map nmO
  places : σ.places.length = k
  ways : ∃ rest, σ.ways = (⟨0, 0, 0⟩, σ.places) :: rest
  roots : σ.roots = k
  below : ∀ p ∈ σ.places, p.root < k

theorem outer_steps (g : Wk → RegT → Except Int Wk) (hg : g = fun σ r => match oneS σ r.name r.width r.beg 1 with
      | .ok σ' => downS 6 (1 + 1) r.subs σ'
      | .error x => .error x) : ∀ (l : List Int) (k : Nat) (σ : Wk), k + l.length ≤ 220 → InvO k σ →
    (wantO k l ≠ 0 ∧ stepsS g (regsO k l) σ = .error (wantO k l)) ∨ (wantO k l = 0 ∧ ∃ σ', stepsS g (regsO k l) σ = .ok σ' ∧ σ'.places = σ.places ++ plsO k l) := by
  intro l
  induction l with
  | nil => intro k σ _ _; exact Or.inr ⟨rfl, σ, rfl, by simp [plsO]⟩
  | cons x l ih =>
    intro k σ hk hI
    simp only [List.length_cons] at hk
    have hlen : σ.names.length = k := by rw [hI.names]; simp
    have hmem : memB (nmO k) σ.names = false := by
      cases h : memB (nmO k) σ.names with
      | false => rfl
      | true =>
        rw [memB_iff, hI.names] at h
        obtain ⟨j, hj, e⟩ := List.mem_map.1 h
        have hj' := List.mem_range.1 hj
        have := nmO_inj (by omega) (by omega) e; omega
    obtain ⟨rest, hways⟩ := hI.ways
    have hone : oneS σ (nmO k) x 0 1 = if 200 ≤ k then .error 2 else if x < 1 ∨ 64 < x then .error 6 else .ok { names := σ.names ++ [nmO k], places := σ.places ++ [⟨k, 0, x⟩], ways := [(⟨0, 0, 0⟩, σ.places ++ [⟨k, 0, x⟩]), (⟨k, 0, x⟩, [])], roots := (k : Int) + 1 } := by
      unfold oneS
      rw [if_neg (by omega), hlen]
      by_cases h1 : 200 ≤ k
      · rw [if_pos h1, if_pos h1]
      · rw [if_neg h1, if_neg h1, if_neg (by rw [nmO_named k (by omega), hmem]; simp)]
        by_cases h2 : x < 1 ∨ 64 < x
        · rw [if_pos (by omega), if_pos h2]
        · rw [if_neg (by omega), if_neg h2]
          have hlap : (σ.places).any (lapS ⟨k, 0, x⟩) = false := by
            rw [List.any_eq_false]
            intro p hp
            have := hI.below p hp
            have e : decide ((k : Int) = p.root) = false := by simp; omega
            simp [lapS, e]
          simp [placeS, within, tookS, hways, hI.roots, hlap]
    have hstep : stepsS g (regsO k (x :: l)) σ = match g σ (.mk (nmO k) x 0 []) with | .ok σ' => stepsS g (regsO (k + 1) l) σ' | .error e => .error e := rfl
    rw [hstep]
    have hg1 : g σ (.mk (nmO k) x 0 []) = oneS σ (nmO k) x 0 1 := by
      rw [hg]
      show (match oneS σ (nmO k) x 0 1 with | .ok σ' => downS 6 (1 + 1) [] σ' | .error x => .error x) = _
      cases oneS σ (nmO k) x 0 1 <;> rfl
    rw [hg1, hone]
    by_cases h1 : 200 ≤ k
    · left; simp [wantO, h1]
    · by_cases h2 : x < 1 ∨ 64 < x
      · left; simp [wantO, h1, h2]
      · rw [if_neg h1, if_neg h2]
        have hw : wantO k (x :: l) = wantO (k + 1) l := by rw [wantO, if_neg h1, if_neg h2]
        rw [hw]
        have := ih (k + 1) { names := σ.names ++ [nmO k], places := σ.places ++ [⟨k, 0, x⟩], ways := [(⟨0, 0, 0⟩, σ.places ++ [⟨k, 0, x⟩]), (⟨k, 0, x⟩, [])], roots := (k : Int) + 1 } (by omega)
          ⟨by simp [hI.names, List.range_succ], by simp [hI.places], ⟨_, rfl⟩, by simp, fun p hp => by
            rcases List.mem_append.1 hp with h | h
            · have := hI.below p h; omega
            · simp at h; subst h; show (k : Int) < ((k + 1 : Nat) : Int); omega⟩
        rcases this with ⟨a, b⟩ | ⟨a, σ', b, c⟩
        · exact Or.inl ⟨a, b⟩
        · exact Or.inr ⟨a, σ', b, by rw [c]; simp [plsO]⟩

theorem outer_places (l : List Int) (hl : l.length ≤ 220) : (wantO 0 l ≠ 0 ∧ placesS (regsO 0 l) = .error (wantO 0 l)) ∨ (wantO 0 l = 0 ∧ ∃ σ', placesS (regsO 0 l) = .ok σ' ∧ σ'.places = plsO 0 l) := by
  have := outer_steps _ rfl l 0 wk0 (by omega) ⟨rfl, rfl, ⟨[], rfl⟩, rfl, fun p hp => by simp [wk0] at hp⟩
  rcases this with ⟨a, b⟩ | ⟨a, σ', b, c⟩
  · exact Or.inl ⟨a, b⟩
  · exact Or.inr ⟨a, σ', b, by rw [c]; simp [wk0]⟩
theorem regsO_len (k : Nat) (l : List Int) : (regsO k l).length = l.length := by
  induction l generalizing k with
  | nil => rfl
  | cons x l ih => simp [regsO, ih]
theorem plsO_len (k : Nat) (l : List Int) : (plsO k l).length = l.length := by
  induction l generalizing k with
  | nil => rfl
  | cons x l ih => simp [plsO, ih]
theorem regsO_snoc (k : Nat) (l : List Int) (x : Int) : regsO k (l ++ [x]) = regsO k l ++ [.mk (nmO (k + l.length)) x 0 []] := by
  induction l generalizing k with
  | nil => rfl
  | cons y l ih => simp only [List.cons_append, regsO, ih, List.length_cons]; rw [show k + 1 + l.length = k + (l.length + 1) by omega]
theorem plsO_at (k : Nat) (l : List Int) (i : Nat) (h : i < l.length) : (plsO k l)[i]? = some ⟨(k + i : Nat), 0, l.getD i 0⟩ := by
  induction l generalizing k i with
  | nil => simp at h
  | cons x l ih =>
    cases i with
    | zero => simp [plsO]
    | succ i =>
      simp only [plsO, List.getElem?_cons_succ]
      rw [ih (k + 1) i (by simpa using h)]
      simp; omega
theorem wantO_drop (l : List Int) (k : Nat) (h : k < l.length) : wantO k (l.drop k) = if 200 ≤ k then 2 else if l.getD k 0 < 1 ∨ 64 < l.getD k 0 then 6 else wantO (k + 1) (l.drop (k + 1)) := by
  rw [List.drop_eq_getElem_cons h, wantO]
  simp [List.getD_eq_getElem?_getD, List.getElem?_eq_getElem h]
end Go.Proofs.Ytocloacbbbhkcaa
