/- Plain: mdcheck.Fits and mdcheck.Pair answer as the reference's. -/
import Derived.Test.YthomndfagpeniaaRefX
import Derived.Test.YthomndfagpeniaaMd21
-- shrunk
namespace Go.Proofs.Ythomndfagpeniaa
section
variable {M : Mach} {N : List ByteArray} {L : List Pl}

theorem head_len (h : headS M = .ok (N, L)) : L.length = N.length ∧ ∀ p ∈ L, p.tight := by
 unfold headS at h
 split at h
 ·cases hp : placesS M.regs with
  | error x => rw [hp] at h; cases h
  | ok σ =>
   rw [hp] at h
   dsimp only at h
   have hg := placesS_tight hp
   split at h
   ·cases h; exact ⟨hg.1.lp, hg.2⟩
   ·cases h
 ·cases h
theorem begin_parts {four : Bool} (h : beginS four M = .ok (N, L)) : headS M = .ok (N, L) ∧ clssC M N L = 0 := by
 unfold beginS at h
 cases hd : headS M with
 | error x => rw [hd] at h; cases h
 | ok r =>
  obtain ⟨N2, L2⟩ := r
  rw [hd] at h
  dsimp only at h
  split at h
  ·rename_i h2
   cases h
   refine ⟨rfl, ?_⟩
   unfold coreC at h2
   split at h2
   ·assumption
   ·exact h2
  ·cases h
theorem begin_good {four : Bool} (h : beginS four M = .ok (N, L)) : Good M N L ∧ L.length = N.length ∧ ∀ p ∈ L, p.tight := by
 obtain ⟨h1, h2⟩ := begin_parts h
 obtain ⟨hl, hT⟩ := head_len h1
 exact ⟨classes_good (classes_zero hl h2), hl, hT⟩
theorem upto2_eq (M : Mach) : upto2 M = beginS false M := by
 unfold upto2 beginS
 cases hd : headS M with
 | error x => rfl
 | ok r =>
  obtain ⟨N, L⟩ := r
  obtain ⟨hl, hT⟩ := head_len hd
  dsimp only
  have hc := classes_code (M := M) hl
  unfold coreC
  cases hcl : classesS M N L with
  | error x =>
   rw [hcl] at hc
   have e : clssC M N L = x := hc.symm
   have hne := classes_ne hcl
   rw [e]
   simp [hne]
  | ok u =>
   rw [hcl] at hc
   have e : clssC M N L = 0 := hc.symm
   rw [e]
   simp
theorem upto3_eq (M : Mach) : upto3 M = beginS true M := by
 unfold upto3 beginS
 cases hd : headS M with
 | error x => rfl
 | ok r =>
  obtain ⟨N, L⟩ := r
  obtain ⟨hl, hT⟩ := head_len hd
  dsimp only
  have hc := classes_code (M := M) hl
  unfold coreC
  cases hcl : classesS M N L with
  | error x =>
   rw [hcl] at hc
   have e : clssC M N L = x := hc.symm
   have hne := classes_ne hcl
   rw [e]
   simp [hne]
  | ok u =>
   rw [hcl] at hc
   have e : clssC M N L = 0 := hc.symm
   have hG := classes_good hcl
   have ho := ops_code hG hl
   rw [e]
   dsimp only
   cases hop : opsS M N L with
   | error x =>
    rw [hop] at ho
    have e2 : opsC M N L (numsC N M.classes) = x := ho.symm
    have hne : x ≠ 0 := by
     unfold opsS at hop
     split at hop
     ·exact goS_ne (fun i o e hi he => opS_ne hG hl hi (by rw [Nat.zero_add] at he; exact he)) x hop
     ·cases hop; decide
    rw [e2]
    simp [hne]
   | ok u2 =>
    rw [hop] at ho
    have e2 : opsC M N L (numsC N M.classes) = 0 := ho.symm
    rw [e2]
    simp
/-- What the reference's Fits answers of an operation's number. -/
def fitsOp (M : Mach) (N : List ByteArray) (L : List Pl) (op : Int) : Bool := if 0 ≤ op then (match M.ops[op.toNat]? with
 | none => false
 | some o => fitsI M N L (numsC N M.classes) o) else false
theorem fits_plain (op : Int) : fitsT M op = (match beginS true M with | .error _ => false | .ok (N, L) => fitsOp M N L op) := by
 unfold fitsT
 rw [upto3_eq]
 cases hb : beginS true M with
 | error x => rfl
 | ok r =>
  obtain ⟨N, L⟩ := r
  obtain ⟨hG, hl, hT⟩ := begin_good hb
  have hO := ops_fine hG (begin_ops hb)
  dsimp only
  unfold fitsOp
  split
  ·cases ho : M.ops[op.toNat]? with
   | none => rfl
   | some o =>
    have h := hO o (List.mem_of_getElem? ho)
    exact (fitsI_S hl hT h.clob h.dfn h.uses h.len h.lt h.tie).symm
  ·rfl
theorem pair_plain (a b : Int) : pairT M a b = (match beginS false M with | .error _ => false | .ok (N, L) => pairI L (numsC N M.classes) a b) := by
 unfold pairT
 rw [upto2_eq]
 cases hb : beginS false M with
 | error x => rfl
 | ok r =>
  obtain ⟨N, L⟩ := r
  obtain ⟨hG, hl, hT⟩ := begin_good hb
  dsimp only
  have hlen : (numsC N M.classes).length = M.classes.length := by unfold numsC; rw [List.length_map]
  by_cases ha : 0 ≤ a ∧ a < M.classes.length
  ·rw [if_pos ha]
   obtain ⟨k, rfl⟩ : ∃ k : Nat, a = k := ⟨a.toNat, by omega⟩
   by_cases hb2 : 0 ≤ b ∧ b < M.classes.length
   ·rw [if_pos hb2]
    obtain ⟨q, rfl⟩ : ∃ q : Nat, b = q := ⟨b.toNat, by omega⟩
    have h1 := List.getElem?_eq_getElem (show k < M.classes.length by omega)
    have h2 := List.getElem?_eq_getElem (show q < M.classes.length by omega)
    rw [Int.toNat_natCast, Int.toNat_natCast, h1, h2]
    dsimp only
    exact (pairI_S hl h1 h2 (hG.ix _ _ h1) (hG.ix _ _ h2) (hG.nodup _ (List.mem_of_getElem? h1)) (hG.nodup _ (List.mem_of_getElem? h2)) (hG.reg _ (List.mem_of_getElem? h1)) (hG.reg _ (List.mem_of_getElem? h2))).symm
   ·rw [if_neg hb2]
    unfold pairI
    split
    ·rename_i h3
     rw [List.getElem?_eq_none (l := numsC N M.classes) (i := b.toNat) (by omega)]
     split
     ·rename_i h4; cases h4
     ·rfl
    ·rfl
  ·rw [if_neg ha]
   unfold pairI
   split
   ·rename_i h3
    rw [List.getElem?_eq_none (l := numsC N M.classes) (i := a.toNat) (by omega)]
   ·rfl
theorem pairT_comm (a b : Int) : pairT M b a = pairT M a b := by
 rw [pair_plain, pair_plain]
 cases hb : beginS false M with
 | error x => rfl
 | ok r =>
  obtain ⟨N, L⟩ := r
  obtain ⟨_, _, hT⟩ := begin_good hb
  exact pairI_comm hT _ _ _
end
end Go.Proofs.Ythomndfagpeniaa
