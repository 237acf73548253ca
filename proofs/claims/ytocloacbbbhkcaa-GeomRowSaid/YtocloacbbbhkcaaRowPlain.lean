/- Registers side by side within one, plainly. -/
import Derived.Test.YtocloacbbbhkcaaPlaces
namespace Go.Proofs.Ytocloacbbbhkcaa

def hexs : ByteArray := ⟨#[48, 49, 50, 51, 52, 53, 54, 55, 56, 57, 97, 98, 99, 100, 101, 102]⟩
def nmR (i : Nat) : ByteArray := ⟨#[112]⟩ ++ hexs.extract i (i + 1)
def nWide : ByteArray := ⟨#[119, 105, 100, 101]⟩
def subsR (w n : Nat) : List RegT := (List.range n).map fun i => .mk (nmR i) w (i * w : Nat) []
def rowT (w n : Nat) : RegT := .mk nWide 64 0 (subsR w n)
def plsR (w n : Nat) : List Pl := ⟨0, 0, 64⟩ :: (List.range n).map fun i => ⟨0, (i * w : Nat), w⟩
def checkR (w n : Nat) : Bool := match placesS [rowT w n] with
  | .ok σ => σ.places == plsR w n
  | .error _ => false
theorem checkR_all : (List.range 17).all (fun n => (List.range 65).all (fun w => n == 0 || w == 0 || decide (64 < n * w) || checkR w n)) = true := by kernel_rfl
theorem row_places (w n : Nat) (h1 : 1 ≤ n) (h2 : n ≤ 16) (h3 : 1 ≤ w) (h4 : w ≤ 64) (h5 : n * w ≤ 64) : ∃ σ, placesS [rowT w n] = .ok σ ∧ σ.places = plsR w n := by
  have h := List.all_eq_true.1 checkR_all n (List.mem_range.2 (by omega))
  have h := List.all_eq_true.1 h w (List.mem_range.2 (by omega))
  simp only [Bool.or_eq_true, beq_iff_eq, decide_eq_true_eq] at h
  have h : checkR w n = true := by
    rcases h with ((h | h) | h) | h
    · omega
    · omega
    · omega
    · exact h
  unfold checkR at h
  split at h
  · rename_i σ hσ
    exact ⟨σ, hσ, by simpa using h⟩
  · cases h
theorem plsR_at (w n i : Nat) (h : i < n) : (plsR w n)[i + 1]? = some ⟨0, (i * w : Nat), w⟩ := by
  simp [plsR, h]
theorem plsR_len (w n : Nat) : (plsR w n).length = n + 1 := by simp [plsR]
theorem subsR_succ (w n : Nat) : subsR w (n + 1) = subsR w n ++ [.mk (nmR n) w (n * w : Nat) []] := by simp [subsR, List.range_succ]
theorem subsR_len (w n : Nat) : (subsR w n).length = n := by simp [subsR]
theorem mul_room {w n i : Nat} (h : i < n) (h5 : n * w ≤ 64) : i * w + w ≤ 64 := by
  have : (i + 1) * w ≤ n * w := Nat.mul_le_mul_right w h
  rw [Nat.add_mul, Nat.one_mul] at this; omega
theorem mul_apart {w i k : Nat} (h : k < i) : k * w + w ≤ i * w := by
  have : (k + 1) * w ≤ i * w := Nat.mul_le_mul_right w h
  rw [Nat.add_mul, Nat.one_mul] at this; omega
theorem lapR_wide {a w : Nat} (h1 : 1 ≤ w) (h2 : a + w ≤ 64) : lapS ⟨0, 0, 64⟩ ⟨0, a, w⟩ = true := by
  unfold lapS
  have e1 : decide ((1 : Int) ≤ 64) = true := by decide
  have e2 : decide ((1 : Int) ≤ w) = true := by simp; omega
  have e3 : ¬ ((a : Int) < 0) := by omega
  have e4 : decide ((a : Int) - 0 < 64) = true := by simp; omega
  simp only [e2, if_neg e3, e4]; rfl
theorem withinR_wide {a w : Nat} (h1 : 1 ≤ w) (h2 : a + w ≤ 64) : withinS ⟨0, a, w⟩ ⟨0, 0, 64⟩ = true := by
  unfold withinS
  have e1 : decide ((w : Int) < 1) = false := by simp; omega
  have e2 : decide ((0 : Int) ≤ a) = true := by simp
  have e3 : decide ((a : Int) - 0 ≤ 64) = true := by simp; omega
  have e4 : decide ((w : Int) ≤ 64 - ((a : Int) - 0)) = true := by simp; omega
  simp only [e1, e2, e3, e4]; rfl
theorem lapR_apart {a b w : Nat} (h : b + w ≤ a) (h1 : 1 ≤ w) : lapS ⟨0, a, w⟩ ⟨0, b, w⟩ = false := by
  unfold lapS
  have e2 : decide ((1 : Int) ≤ w) = true := by simp; omega
  have e3 : (b : Int) < a := by omega
  have e4 : decide ((a : Int) - b < w) = false := by simp; omega
  simp only [e2, if_pos e3, e4]; rfl
end Go.Proofs.Ytocloacbbbhkcaa
