/- MachrunSlots answers true for every input. No condition. -/
import Derived.Test.YtjlnokopnpcfoaaGreatQa
set_option linter.unusedVariables false
namespace Go.Proofs.YtjlnokopnpcfoaaGreat
theorem slots_0 (a b v : Int) : law XQ 100000 6 [.int .i64 (.ofNat 0), .int .i64 a, .int .i64 b, .int .i64 v] = 0 := by kernel_rfl
theorem slots_n (k : Nat) (a b v : Int) : law XQ 100000 6 [.int .i64 (.negSucc k), .int .i64 a, .int .i64 b, .int .i64 v] = 0 := by kernel_rfl
theorem slots_a (k i : Nat) (b v : Int) : law XQ 100000 6 [.int .i64 (.ofNat (k + 1)), .int .i64 (.negSucc i), .int .i64 b, .int .i64 v] = bif ltI 100 (.ofNat (k + 1)) then 0 else 0 := by kernel_rfl
theorem slots_b (k i j : Nat) (v : Int) : law XQ 100000 6 [.int .i64 (.ofNat (k + 1)), .int .i64 (.ofNat i), .int .i64 (.negSucc j), .int .i64 v] = bif ltI 100 (.ofNat (k + 1)) then 0 else bif !(ltI (.ofNat i) (.ofNat (k + 1))) then 0 else 0 := by kernel_rfl
theorem hB_wU (w : Int) (s at_ : Nat) (v : Int) : hB (wU w s at_ v) = (hB w &&& ~~~ hB (onU s at_)) ||| ((hB v <<< at_) &&& hB (onU s at_)) := by
  unfold wU
  simp only [hB_u, hB_n, hB_mul]
theorem on0 : hB (onU 0 0) = BitVec.allOnes 64 := by decide +kernel
theorem on48 : hB (onU 48 0) = hB 65535 := by decide +kernel
theorem wU_all (w v : Int) : hB (wU w 0 0 v) = hB v := by
  rw [hB_wU, on0, BitVec.not_allOnes, BitVec.and_zero, BitVec.zero_or, BitVec.shiftLeft_zero, BitVec.and_allOnes]
theorem hB_fd0 (x : Int) : hB (x.fdiv ((2 : Int) ^ (0 : Nat))) = hB x := by rw [Int.pow_zero, Int.fdiv_one]
theorem x3_eq (i j : Nat) (v : Int) : x3 i j v = wr .i64 (Int.ofNat (hB (bif Nat.beq (0 + j) (0 + i) then v else 0) &&& hB 65535).toNat) := by
  unfold x3
  apply wr_hB
  rw [hB_n, hB_wU, wU_all, on48]
  have h0 : hB 0 = 0#64 := by decide
  rw [h0]
  have hz : hB (bif Nat.beq (0 + j) (0 + i) then rd64 (wU W64 0 0 v) else 0) = hB (bif Nat.beq (0 + j) (0 + i) then v else 0) := by
    cases Nat.beq (0 + j) (0 + i) with
    | false => rfl
    | true =>
      show hB (rd64 (wU W64 0 0 v)) = hB v
      unfold rd64
      rw [hB_c64, hB_i, hB_fd0, wU_all]
  rw [hz]
  simp
theorem eqI_refl (a : Int) : eqI a a = true := by rw [eqI_eq]; simp
theorem sT_zero (k i j : Nat) (v : Int) : sT (.ofNat (k + 1)) (.ofNat i) (.ofNat j) (k + 1) i j v = 0 := by
  unfold sT
  have la : ltI (.ofNat i) (.ofNat (k + 1)) = Nat.blt i (k + 1) := rfl
  have lb : ltI (.ofNat j) (.ofNat (k + 1)) = Nat.blt j (k + 1) := rfl
  have lh : ltI 100 (.ofNat (k + 1)) = Nat.blt 100 (k + 1) := rfl
  have ll : leI (.ofNat (k + 1)) 16777216 = !Nat.blt 16777216 (k + 1) := rfl
  rw [la, lb, lh, ll, eqI_refl, Nat.zero_add, Nat.zero_add]
  cases h1 : Nat.blt 100 (k + 1) with
  | true => rfl
  | false =>
    cases h2 : Nat.blt i (k + 1) with
    | false => rfl
    | true =>
      cases h3 : Nat.blt j (k + 1) with
      | false => rfl
      | true =>
        have h4 : Nat.blt 16777216 (k + 1) = false := by
          have : ¬ 100 < k + 1 := fun e => by rw [← Nat.blt_eq] at e; rw [e] at h1; cases h1
          cases h : Nat.blt 16777216 (k + 1) with
          | false => rfl
          | true => rw [Nat.blt_eq] at h; omega
        rw [h4, x3_eq]
        simp only [Bool.not_false, Bool.not_true, Bool.and_true, cond_true, cond_false]
        rw [Nat.zero_add, Nat.zero_add]
        cases he : eqI (.ofNat i) (.ofNat j) with
        | true =>
          have : i = j := by
            rw [eqI_eq] at he
            have := eq_of_beq he
            exact Int.ofNat.inj this
          subst this
          rw [Nat.beq_refl]
          simp only [cond_true, eqI_refl]
        | false =>
          have hn : Nat.beq j i = false := by
            cases h : Nat.beq j i with
            | false => rfl
            | true =>
              have : j = i := by simpa using h
              subst this
              rw [eqI_refl] at he
              cases he
          rw [hn]
          simp only [cond_false]
          have : wr .i64 (Int.ofNat (hB 0 &&& hB 65535).toNat) = 0 := by decide +kernel
          rw [this, eqI_refl]
          rfl
theorem slots_all (s a b v : Int) : law XQ 100000 6 [.int .i64 s, .int .i64 a, .int .i64 b, .int .i64 v] = 0 := by
  match s, a, b with
  | .negSucc k, a, b => exact slots_n k a b v
  | .ofNat 0, a, b => exact slots_0 a b v
  | .ofNat (k + 1), .negSucc i, b => rw [slots_a]; cases ltI 100 (.ofNat (k + 1)) <;> rfl
  | .ofNat (k + 1), .ofNat i, .negSucc j => rw [slots_b]; cases ltI 100 (.ofNat (k + 1)) <;> cases ltI (.ofNat i) (.ofNat (k + 1)) <;> rfl
  | .ofNat (k + 1), .ofNat i, .ofNat j => rw [slots_main]; exact sT_zero k i j v
theorem ctQ : CtOK XQ := ct1 (X := X0 Tryz.prog) pok (ct0 _) (n := 100000) alive13
open Go.RowKit in
theorem machrunSlots_any (s a b v : Int) (w : World) : Calls Tryz.prog 6 #[.int .i64 s, .int .i64 a, .int .i64 b, .int .i64 v] w fun e w' => e = .returned (.bool true) ∧ Below w.heap.size w w' :=
  law_walkG (X := XQ) pok ctQ ((((RVs.one (.int _ _)).append (RVs.one (.int _ _))).append (RVs.one (.int _ _))).append (RVs.one (.int _ _))) (slots_all s a b v)
end Go.Proofs.YtjlnokopnpcfoaaGreat
