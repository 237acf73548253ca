/- VirrunSums answers true for every input. No condition. -/
import Derived.Test.YtbknpfckdnladaaGreatJd
set_option linter.unusedVariables false
namespace Go.Proofs.YtbknpfckdnladaaGreat
def tri : Nat → Nat
  | 0 => 0
  | q + 1 => tri q + (q + 1)
theorem tri_eq : ∀ q, 2 * tri q = q * (q + 1)
  | 0 => rfl
  | q + 1 => by
    have := tri_eq q
    show 2 * (tri q + (q + 1)) = (q + 1) * (q + 1 + 1)
    rw [Nat.mul_add, this, ← Nat.add_mul, Nat.mul_comm]
theorem tri_le (q : Nat) (h : q ≤ 200) : tri q ≤ 20100 := by
  have h1 := tri_eq q
  have h2 : q * (q + 1) ≤ 200 * 201 := Nat.mul_le_mul h (by omega)
  omega
theorem lpY_eq : ∀ (q : Nat) (y : Int), 0 ≤ y → y < 256 → lpY q y = (y + ((tri q : Nat) : Int)) % 256
  | 0, y, h0, h1 => by
    show y = (y + ((0 : Nat) : Int)) % 256
    omega
  | q + 1, y, h0, h1 => by
    show lpY q (stp y (.ofNat (q + 1))) = (y + ((tri q + (q + 1) : Nat) : Int)) % 256
    have e : stp y (.ofNat (q + 1)) = (y + ((q + 1 : Nat) : Int)) % 256 := stp_eq _ _
    rw [lpY_eq q _ (by rw [e]; omega) (by rw [e]; omega), e]
    omega
theorem wr_small (x : Int) (h : 0 ≤ x) (h2 : x < 1000000) : wr .i64 x = x := by
  rw [wr_eq, wrap_i64]
  split <;> omega
theorem res_eq (k : Nat) (s : Int) (hk : k ≤ 200) (h0 : 0 ≤ s) (h1 : s ≤ 255) : resG (c8 ((k : Nat) : Int)) (c8 s) = (s + ((tri k : Nat) : Int)) % 256 := by
  have e1 : c8 ((k : Nat) : Int) = ((k : Nat) : Int) := by rw [c8_eq]; omega
  have e2 : c8 s = s := by rw [c8_eq]; omega
  rw [e1, e2]
  unfold resG
  cases k with
  | zero =>
    show s = (s + ((0 : Nat) : Int)) % 256
    omega
  | succ q =>
    have e3 : eqI ((q + 1 : Nat) : Int) 0 = false := rfl
    have e4 : stp ((q + 1 : Nat) : Int) (c8 (-1)) = .ofNat q := stp_dec q (by omega)
    have e5 : stp s ((q + 1 : Nat) : Int) = (s + ((q + 1 : Nat) : Int)) % 256 := stp_eq _ _
    rw [e3, e4]
    show lpY q (stp s ((q + 1 : Nat) : Int)) = (s + ((tri q + (q + 1) : Nat) : Int)) % 256
    rw [lpY_eq q _ (by rw [e5]; omega) (by rw [e5]; omega), e5]
    omega
theorem sum_eq (k : Nat) (s : Int) (hk : k ≤ 200) (h0 : 0 ≤ s) (h1 : s ≤ 255) : and255 (wr .i64 (s + wr .i64 ((wr .i64 (((k : Nat) : Int) * wr .i64 (((k : Nat) : Int) + 1))).tdiv 2))) = (s + ((tri k : Nat) : Int)) % 256 := by
  have t1 := tri_eq k
  have t2 := tri_le k hk
  rw [wr_small (((k : Nat) : Int) + 1) (by omega) (by omega)]
  have e : ((k : Nat) : Int) * (((k : Nat) : Int) + 1) = ((2 * tri k : Nat) : Int) := by rw [t1]; simp
  rw [e, wr_small ((2 * tri k : Nat) : Int) (by omega) (by omega)]
  have e2 : (((2 * tri k : Nat) : Int)).tdiv 2 = ((tri k : Nat) : Int) := by
    rw [Int.tdiv_eq_ediv_of_nonneg (by omega)]
    omega
  rw [e2, wr_small ((tri k : Nat) : Int) (by omega) (by omega), wr_small (s + ((tri k : Nat) : Int)) (by omega) (by omega), and255_eq]
theorem sums_all (n s : Int) : law XJ 100000 7 [.int .i64 n, .int .i64 s] = 0 := by
  rw [sums_eq]
  cases h1 : ltI n 0 with
  | true => rfl
  | false =>
    cases h2 : ltI 200 n with
    | true => rfl
    | false =>
      cases h3 : ltI s 0 with
      | true => rfl
      | false =>
        cases h4 : ltI 255 s with
        | true => rfl
        | false =>
          rw [ltI_eq] at h1 h2 h3 h4
          simp only [decide_eq_false_iff_not, Int.not_lt] at h1 h2 h3 h4
          obtain ⟨k, rfl⟩ := Int.eq_ofNat_of_zero_le h1
          rw [res_eq k s (by omega) h3 h4, sum_eq k s (by omega) h3 h4, eqI_self]
          rfl
open Go.RowKit in
theorem virrunSums_any (n s : Int) (w : World) : Calls Tryz.prog 7 #[.int .i64 n, .int .i64 s] w fun e w' => e = .returned (.bool true) ∧ Below w.heap.size w w' :=
  law_walkG (X := XJ) pok ctJ ((RVs.one (.int _ _)).append (RVs.one (.int _ _))) (sums_all n s)
end Go.Proofs.YtbknpfckdnladaaGreat
