/- MachrunLoads, in plain numbers. No condition. -/
import Derived.Test.YtjlnokopnpcfoaaGreatNa
import Derived.Test.YtjlnokopnpcfoaaGreatBq
set_option linter.unusedVariables false
namespace Go.Proofs.YtjlnokopnpcfoaaGreat
/-- The law's own function tries both ways of its if at once; alive is told of once. -/
noncomputable abbrev XL : Cx := { P := Tryz.prog, ct := (X1 Tryz.prog 13).ct, mg := fun f => Nat.beq f 10 }
def c8 (x : Int) : Int := wr .i64 ((wr .u64 (wr .u64 x * (2 : Int) ^ (56 : Nat))).fdiv ((2 : Int) ^ (56 : Nat)))
def addU (a b : Int) : Int := wr .i64 (wr .u64 (wr .u64 a + wr .u64 b))
def and255 (x : Int) : Int := wr .i64 (Int.ofNat (BitVec.ofInt 64 x &&& BitVec.ofInt 64 255).toNat)
/-- A register's word, read; and written anew. -/
def rdW (x : Int) : Int := c8 (wr .i64 (x.fdiv ((2 : Int) ^ (0 : Nat))))
def wtW (x v : Int) : Int := wr .u64 (Int.ofNat (BitVec.ofInt 64 (wr .u64 (Int.ofNat (BitVec.ofInt 64 x &&& ~~~BitVec.ofInt 64 255).toNat)) ||| BitVec.ofInt 64 (wr .u64 (Int.ofNat (BitVec.ofInt 64 (wr .u64 (wr .u64 v * (2 : Int) ^ (0 : Nat))) &&& BitVec.ofInt 64 255).toNat))).toNat)
def lgM (ad vl : Nat → Int) : Nat → List (Int × Int)
  | 0 => []
  | k + 1 => (ad k, vl k) :: lgM ad vl k
def wsM (ad vl : Nat → Int) (a : Int) : Nat → Int
  | 0 => 0
  | k + 1 => bif eqI (ad k) a then vl k else wsM ad vl a k
def gcl (ad vl : Nat → Int) (i : Nat) : List AV := [.int .i64 (ad i), .int .i64 (vl i)]
theorem wrap_u64 (n : Int) : IntKind.wrap .u64 n = n % 18446744073709551616 := by
  simp [IntKind.wrap, IntKind.bits, IntKind.signed]
theorem wrap_i64 (n : Int) : IntKind.wrap .i64 n = if n % 18446744073709551616 ≥ 9223372036854775808 then n % 18446744073709551616 - 18446744073709551616 else n % 18446744073709551616 := by
  simp [IntKind.wrap, IntKind.bits, IntKind.signed]
theorem c8_eq (x : Int) : c8 x = x % 256 := by
  unfold c8
  rw [wr_eq, wr_eq, wr_eq, wrap_u64, wrap_u64, Int.fdiv_eq_ediv_of_nonneg _ (by decide), wrap_i64]
  have e : (2 : Int) ^ (56 : Nat) = 72057594037927936 := by decide
  rw [e]
  split <;> omega
theorem addU_eq (a b : Int) (ha : 0 ≤ a ∧ a < 256) (hb : 0 ≤ b ∧ b < 256) : addU a b = a + b := by
  unfold addU
  rw [wr_eq, wr_eq, wr_eq, wr_eq, wrap_u64, wrap_u64, wrap_u64, wrap_i64]
  split <;> omega
theorem and_nat (x : Int) : (BitVec.ofInt 64 x &&& BitVec.ofInt 64 255).toNat = (x % 18446744073709551616).toNat % 256 := by
  rw [BitVec.toNat_and, BitVec.toNat_ofInt, BitVec.toNat_ofInt]
  have e2 : ((255 : Int) % ((2 ^ 64 : Nat) : Int)).toNat = 2 ^ 8 - 1 := by decide
  rw [e2, Nat.and_two_pow_sub_one_eq_mod]
  rfl
theorem and255_eq (x : Int) : and255 x = x % 256 := by
  unfold and255
  rw [and_nat, wr_eq, wrap_i64]
  show (if (((x % 18446744073709551616).toNat % 256 : Nat) : Int) % 18446744073709551616 ≥ 9223372036854775808 then _ else (((x % 18446744073709551616).toNat % 256 : Nat) : Int) % 18446744073709551616) = _
  split <;> omega
theorem eqI_self (a : Int) : eqI a a = true := by
  cases a with
  | ofNat n => exact Nat.beq_refl n
  | negSucc n => exact Nat.beq_refl n
theorem eqI_comm (a b : Int) : eqI a b = eqI b a := by
  rw [eqI_eq, eqI_eq, Bool.eq_iff_iff]
  simp only [beq_iff_eq]
  exact eq_comm
theorem wr_mod (x : Int) : wr .i64 x % 256 = x % 256 := by
  rw [wr_eq, wrap_i64]
  split <;> omega
theorem wr_u64_mod (x : Int) : wr .u64 x % 256 = x % 256 := by
  rw [wr_eq, wrap_u64]
  omega
theorem rdW_eq (x : Int) : rdW x = x % 256 := by
  unfold rdW
  rw [c8_eq, wr_mod, show (2 : Int) ^ (0 : Nat) = 1 from rfl, Int.fdiv_eq_ediv_of_nonneg _ (by decide), Int.ediv_one]
theorem low_off : ∀ n : _root_.Fin 256, BitVec.ofNat 64 n.1 &&& ~~~BitVec.ofInt 64 255 = 0#64 := by decide +kernel
theorem wtW_eq (x v : Int) (h0 : 0 ≤ x) (h1 : x < 256) : wtW x v = v % 256 := by
  unfold wtW
  have e1 : BitVec.ofInt 64 x &&& ~~~BitVec.ofInt 64 255 = 0#64 := by
    obtain ⟨n, rfl⟩ := Int.eq_ofNat_of_zero_le h0
    have := low_off ⟨n, by omega⟩
    rw [show BitVec.ofInt 64 ((n : Nat) : Int) = BitVec.ofNat 64 n from rfl]
    exact this
  rw [e1, and_nat]
  have e2 : BitVec.ofInt 64 (wr .u64 (Int.ofNat (0#64).toNat)) = 0#64 := by decide
  rw [e2, BitVec.zero_or]
  have e3 : wr .u64 (wr .u64 v * (2 : Int) ^ (0 : Nat)) = v % 18446744073709551616 := by
    rw [wr_eq, wr_eq, wrap_u64, wrap_u64, show (2 : Int) ^ (0 : Nat) = 1 from rfl]
    omega
  rw [e3, BitVec.toNat_ofInt, wr_eq, wr_eq, wrap_u64, wrap_u64]
  show ((((((((v % 18446744073709551616 % 18446744073709551616).toNat % 256 : Nat) : Int) % 18446744073709551616) % ((18446744073709551616 : Nat) : Int)).toNat : Nat) : Int) % 18446744073709551616) = _
  omega
theorem lk_ws (ad vl : Nat → Int) (a : Int) : ∀ k, lkV (lgM ad vl k) a = wsM ad vl a k
  | 0 => rfl
  | k + 1 => by
    show (bif eqI a (ad k) then vl k else lkV (lgM ad vl k) a) = bif eqI (ad k) a then vl k else wsM ad vl a k
    rw [lk_ws ad vl a k, eqI_comm]
def W0 : Int := wr .u64 (c8 0)
def qL (a : Int) : Int := rdW (wtW W0 a)
noncomputable def lC1 (a v : Int) (L : List (Int × Int)) (w : Int) : Bool := eqI (rdW (wtW W0 (c8 (addU (c8 (rdW (wtW W0 (lkV L (qL a))))) (c8 (rdW (wtW (wtW W0 v) (lkV ((qL a, qL v) :: L) (qL a))))))))) (and255 (wr .i64 (w + v)))
noncomputable def lT (a v : Int) (L : List (Int × Int)) (w : Int) : Nat := bif lC1 a v L w then (bif eqI (qL a) (and255 a) then (bif eqI (qL v) (and255 v) then 0 else 90) else 90) else 90
theorem W0_eq : W0 = 0 := by decide
theorem qL_eq (a : Int) : qL a = a % 256 := by
  unfold qL
  rw [rdW_eq, wtW_eq _ _ (by rw [W0_eq]; decide) (by rw [W0_eq]; decide), Int.emod_emod_of_dvd _ (Int.dvd_refl 256)]
theorem lT_zero (a v : Int) (ad vl : Nat → Int) (k : Nat) : lT a v (lgM ad vl k) (wsM ad vl (and255 a) k) = 0 := by
  have r : ∀ x : Int, 0 ≤ x % 256 ∧ x % 256 < 256 := fun x => by omega
  have e1 : eqI (qL a) (and255 a) = true := by rw [qL_eq, and255_eq]; exact eqI_self _
  have e2 : eqI (qL v) (and255 v) = true := by rw [qL_eq, and255_eq]; exact eqI_self _
  have e3 : lC1 a v (lgM ad vl k) (wsM ad vl (and255 a) k) = true := by
    unfold lC1
    have h2 : lkV ((qL a, qL v) :: lgM ad vl k) (qL a) = qL v := by
      show (bif eqI (qL a) (qL a) then qL v else _) = _
      rw [eqI_self]
      rfl
    have h1 : lkV (lgM ad vl k) (qL a) = wsM ad vl (and255 a) k := by rw [lk_ws, qL_eq, and255_eq]
    rw [h2, h1]
    generalize wsM ad vl (and255 a) k = w
    have z : ∀ x, wtW W0 x = x % 256 := fun x => wtW_eq _ _ (by rw [W0_eq]; decide) (by rw [W0_eq]; decide)
    rw [z, z, z, qL_eq, wtW_eq _ _ (r v).1 (r v).2]
    simp only [rdW_eq, c8_eq, and255_eq, Int.emod_emod_of_dvd _ (Int.dvd_refl 256)]
    rw [addU_eq _ _ (r w) (r v), wr_mod]
    rw [show (w % 256 + v % 256) % 256 = (w + v) % 256 by omega]
    exact eqI_self _
  unfold lT
  rw [e1, e2, e3]
  rfl
end Go.Proofs.YtjlnokopnpcfoaaGreat
