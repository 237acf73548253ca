/- Operations on numbers and strings. No condition. -/
import Derived.Test.YtbknpfckdnladaaGreatAc
import Derived.IntWalk
set_option linter.unusedVariables false
set_option maxHeartbeats 4000000
namespace Go.Proofs.YtbknpfckdnladaaGreat
theorem kEq_ok {a b : IntKind} (h : kEq a b = true) : a = b := by cases a <;> cases b <;> first | rfl | cases h
theorem ltI_eq (a b : Int) : ltI a b = decide (a < b) := by
  cases a with
  | ofNat a => cases b with
    | ofNat b =>
      show Nat.blt a b = _
      rw [Bool.eq_iff_iff]
      simp only [Nat.blt_eq, decide_eq_true_eq]
      exact Int.ofNat_lt.symm
    | negSucc b => exact (decide_eq_false (by have := Int.ofNat_eq_natCast a; omega)).symm
  | negSucc a => cases b with
    | ofNat b => exact (decide_eq_true (by have := Int.ofNat_eq_natCast b; omega)).symm
    | negSucc b =>
      show Nat.blt b a = _
      rw [Bool.eq_iff_iff]
      simp only [Nat.blt_eq, decide_eq_true_eq]
      omega
theorem leI_eq (a b : Int) : leI a b = decide (a ≤ b) := by
  unfold leI
  rw [ltI_eq, Bool.eq_iff_iff]
  simp
theorem eqI_eq (a b : Int) : eqI a b = (a == b) := by
  cases a with
  | ofNat a => cases b with
    | ofNat b =>
      show Nat.beq a b = _
      rw [Bool.eq_iff_iff]
      simp only [Nat.beq_eq, beq_iff_eq]
      exact ⟨fun h => by rw [h], fun h => Int.ofNat.inj h⟩
    | negSucc b => exact (beq_eq_false_iff_ne.2 (by simp)).symm
  | negSucc a => cases b with
    | ofNat b => exact (beq_eq_false_iff_ne.2 (by simp)).symm
    | negSucc b =>
      show Nat.beq a b = _
      rw [Bool.eq_iff_iff]
      simp only [Nat.beq_eq, beq_iff_eq]
      exact ⟨fun h => by rw [h], fun h => Int.negSucc.inj h⟩
theorem inI_ok {n : Int} {len : Nat} (h : inI n len = true) : 0 ≤ n ∧ n < (len : Int) := by
  cases n with
  | ofNat a =>
    have : a < len := by simpa [inI] using h
    exact ⟨Int.natCast_nonneg a, Int.ofNat_lt.2 this⟩
  | negSucc a => cases h
theorem wr_eq (k : IntKind) (n : Int) : wr k n = k.wrap n := by
  unfold wr
  split
  · rename_i a
    cases h : Nat.blt a 9223372036854775808 with
    | false => rfl
    | true =>
      have ha : a < 9223372036854775808 := by simpa using h
      show Int.ofNat a = _
      exact (IntWalk.i64_in _ ⟨by have := Int.ofNat_eq_natCast a; omega, by have := Int.ofNat_eq_natCast a; omega⟩).symm
  · rfl
theorem beqU_eq : ∀ (x y : List UInt8), beqU x y = (x == y)
  | [], [] => rfl
  | [], _ :: _ => rfl
  | _ :: _, [] => rfl
  | a :: x, b :: y => by
    show (Nat.beq a.toNat b.toNat && beqU x y) = _
    rw [beqU_eq x y]
    have : Nat.beq a.toNat b.toNat = (a == b) := by
      rw [Bool.eq_iff_iff]
      simp [UInt8.toNat_inj]
    rw [this]
    rfl
theorem ltU_eq : ∀ (x y : List UInt8), ltU x y = Op.bytesLess x y
  | _, [] => by cases ‹List UInt8› <;> rfl
  | [], _ :: _ => rfl
  | a :: x, b :: y => by
    show (Nat.blt a.toNat b.toNat || (Nat.beq a.toNat b.toNat && ltU x y)) = (decide (a < b) || (a == b && Op.bytesLess x y))
    rw [ltU_eq x y]
    have e1 : Nat.beq a.toNat b.toNat = (a == b) := by
      rw [Bool.eq_iff_iff]
      simp [UInt8.toNat_inj]
    have e2 : Nat.blt a.toNat b.toNat = decide (a < b) := by
      rw [Bool.eq_iff_iff]
      simp [UInt8.lt_iff_toNat_lt]
    rw [e1, e2]
section
variable {P : Program} {G : Gh} {ρ : Operand → Value} {ev : Operand → AV} {o : Oper} {w : World}
theorem aok_val {M M' : Mem} {r : Option (Bool × AV)} {v : AV} (h : aok M r = .val v M') : r = some (true, v) ∧ M' = M := by
  unfold aok at h
  split at h
  · rename_i b u
    obtain ⟨rfl, rfl, rfl⟩ := bif_val h
    exact ⟨rfl, rfl⟩
  · cases h
/-- An operation on two values, without a look at memory. -/
def Bi (P : Program) (op : BinOp) (t : TypeId) (x y : Value) (w : World) (v : Value) : Prop := (binOp op t x y).run P w = .ok v w
def intSem (op : BinOp) (k : IntKind) (a b : Int) : Sem Value := match op with
    | .add | .sub | .mul => Op.intArith op k a b
    | .quo | .rem => Op.intDiv op k a b
    | .and | .or | .xor | .andNot => Op.intBits op k a b
    | _ => Op.intCmp op a b
theorem bi_int {op : BinOp} {t : TypeId} {k : IntKind} {a b : Int} {v : Value} (h1 : op ≠ .shl) (h2 : op ≠ .shr)
    (h : (intSem op k a b).run P w = .ok v w) : Bi P op t (.int k a) (.int k b) w v := by
  unfold Bi binOp
  cases op <;> first | exact absurd rfl h1 | exact absurd rfl h2 | (simp only [ne_eq, not_true_eq_false, if_false]; exact h)
theorem b_int {f : HI} {d : Option TypeDesc} {x y a : AV} (h : bInt f d x y = some (true, a)) : ∃ k m n, x = .int k m ∧ y = .int k n ∧ f k m n = some (true, a) := by
  cases x with
  | int k m => cases y with
    | int k' n =>
      change (bif kEq k k' then f k m n else none) = _ at h
      cases hk : kEq k k' with
      | false => rw [hk] at h; cases h
      | true => rw [hk] at h; rw [← kEq_ok hk]; exact ⟨k, m, n, rfl, rfl, h⟩
    | _ => cases h
  | _ => cases h
theorem b_shift {f : HI} {d : Option TypeDesc} {x y a : AV} (h : bShift f d x y = some (true, a)) : ∃ k m k' n, x = .int k m ∧ y = .int k' n ∧ f k m n = some (true, a) := by
  cases x with
  | int k m => cases y with
    | int k' n => exact ⟨k, m, k', n, rfl, rfl, h⟩
    | _ => cases h
  | _ => cases h
/-- Equality. -/
theorem bi_eq {t : TypeId} {x y : Value} {r : Bool} (h : ∀ d, (Op.equalIn (d + 1) t x y).run P w = .ok r w) (hb : binOp .eql t x y = (do pure (.bool (← Op.equal t x y)))) (hn : binOp .neq t x y = (do pure (.bool (!(← Op.equal t x y))))) : Bi P .eql t x y w (.bool r) ∧ Bi P .neq t x y w (.bool !r) := by
  have h' : (Op.equal t x y).run P w = .ok r w := h 9999
  unfold Bi
  rw [hb, hn]
  constructor <;> simp only [Sem.run_bind, h', Result.andThen_ok, Sem.run_pure]
theorem and3 {a b c : Prop} (h : a ∧ b) (k : c) : a ∧ b ∧ c := ⟨h.1, h.2, k⟩
theorem eqA_ok {t : TypeId} {x y : Value} {a b : AV} {r : Bool} (hx : RV G x a) (hy : RV G y b) (h : eqA a (undB P t) b = some r) : Bi P .eql t x y w (.bool r) ∧ Bi P .neq t x y w (.bool !r) ∧ ∀ X Y : Operand, (eqGuard .eql t X Y x y).run P w = .ok () w ∧ (eqGuard .neq t X Y x y).run P w = .ok () w := by
  have gdi : ∀ {c : Bool} {z : Option Bool}, gd c z = some r → c = true ∧ z = some r := fun {c z} e => by
    cases c with
    | true => exact ⟨rfl, e⟩
    | false => cases e
  have und : ∀ {f : Option TypeDesc → Bool}, f none = false → f (undB P t) = true → ∃ d, undB P t = some d ∧ P.underlying t = some d ∧ f (some d) = true := fun {f} f0 e => by
    cases hd : undB P t with
    | none => rw [hd, f0] at e; cases e
    | some d => rw [hd] at e; exact ⟨d, rfl, undB_ok hd, e⟩
  have quiet : (∀ X Y : Operand, ¬ (x = .nilIface ∧ y = .nilIface) → ¬ (∃ u v, x = .agg u ∧ y = .agg v) → (eqGuard .eql t X Y x y).run P w = .ok () w ∧ (eqGuard .neq t X Y x y).run P w = .ok () w) := fun X Y n1 n2 => by
    constructor <;>
    · unfold eqGuard
      cases x <;> cases y <;> first | rfl | exact absurd ⟨rfl, rfl⟩ n1 | exact absurd ⟨_, _, rfl, rfl⟩ n2
  cases a with
  | bool p =>
    cases b with
    | bool q =>
      obtain ⟨h1, h2⟩ := gdi h
      obtain ⟨d, _, hd, h3⟩ := und rfl h1
      cases hx; cases hy
      cases h2
      cases d <;> first | (cases h3; done) | skip
      obtain ⟨b1, b2⟩ := bi_eq (P := P) (w := w) (t := t) (x := .bool p) (y := .bool q) (r := p == q) (fun d => by simp [Op.equalIn, underlying, hd, Sem.run_bind]) rfl rfl
      exact ⟨b1, b2, fun X Y => quiet X Y (fun e => by cases e.1) (fun ⟨_, _, e, _⟩ => by cases e)⟩
    | _ => cases h
  | int k m =>
    cases b with
    | int k' n =>
      obtain ⟨h1, h2⟩ := gdi h
      have := kEq_ok h1
      subst this
      cases hx; cases hy
      cases h2
      rw [eqI_eq]
      exact ⟨bi_int (by decide) (by decide) rfl, bi_int (by decide) (by decide) rfl, fun X Y => quiet X Y (fun e => by cases e.1) (fun ⟨_, _, e, _⟩ => by cases e)⟩
    | _ => cases h
  | str s =>
    cases b with
    | str s2 =>
      cases hx; cases hy
      cases h
      rw [beqU_eq]
      refine ⟨?_, ?_, fun X Y => quiet X Y (fun e => by cases e.1) (fun ⟨_, _, e, _⟩ => by cases e)⟩ <;>
      simp [Bi, binOp, Op.stringOp, ByteArray.toList_eq]
    | _ => cases h
  | nilp =>
    cases b with
    | nilp =>
      obtain ⟨h1, h2⟩ := gdi h
      obtain ⟨d, _, hd, h3⟩ := und rfl h1
      cases hx <;> cases hy <;> cases h2 <;> cases d <;> first | (cases h3; done) | skip
      all_goals
        refine and3 (bi_eq (fun d => by simp [Op.equalIn, underlying, hd, Sem.run_bind]) rfl rfl) (fun X Y => quiet X Y (fun e => by first | (cases e.1; done) | (cases e.2; done)) (fun ⟨_, _, e, e2⟩ => by first | (cases e; done) | (cases e2; done)))
    | ptr =>
      obtain ⟨h1, h2⟩ := gdi h
      obtain ⟨d, _, hd, h3⟩ := und rfl h1
      cases hx <;> cases hy <;> cases h2 <;> cases d <;> first | (cases h3; done) | skip
      all_goals
        refine and3 (bi_eq (fun d => by simp [Op.equalIn, underlying, hd, Sem.run_bind]) rfl rfl) (fun X Y => quiet X Y (fun e => by first | (cases e.1; done) | (cases e.2; done)) (fun ⟨_, _, e, e2⟩ => by first | (cases e; done) | (cases e2; done)))
    | cp =>
      obtain ⟨h1, h2⟩ := gdi h
      obtain ⟨d, _, hd, h3⟩ := und rfl h1
      cases hx <;> cases hy <;> cases h2 <;> cases d <;> first | (cases h3; done) | skip
      all_goals
        refine and3 (bi_eq (fun d => by simp [Op.equalIn, underlying, hd, Sem.run_bind]) rfl rfl) (fun X Y => quiet X Y (fun e => by first | (cases e.1; done) | (cases e.2; done)) (fun ⟨_, _, e, e2⟩ => by first | (cases e; done) | (cases e2; done)))
    | _ => cases h
  | ptr =>
    cases b with
    | nilp =>
      obtain ⟨h1, h2⟩ := gdi h
      obtain ⟨d, _, hd, h3⟩ := und rfl h1
      cases hx <;> cases hy <;> cases h2 <;> cases d <;> first | (cases h3; done) | skip
      all_goals
        refine and3 (bi_eq (fun d => by simp [Op.equalIn, underlying, hd, Sem.run_bind]) rfl rfl) (fun X Y => quiet X Y (fun e => by first | (cases e.1; done) | (cases e.2; done)) (fun ⟨_, _, e, e2⟩ => by first | (cases e; done) | (cases e2; done)))
    | _ => cases h
  | cp =>
    cases b with
    | nilp =>
      obtain ⟨h1, h2⟩ := gdi h
      obtain ⟨d, _, hd, h3⟩ := und rfl h1
      cases hx <;> cases hy <;> cases h2 <;> cases d <;> first | (cases h3; done) | skip
      all_goals
        refine and3 (bi_eq (fun d => by simp [Op.equalIn, underlying, hd, Sem.run_bind]) rfl rfl) (fun X Y => quiet X Y (fun e => by first | (cases e.1; done) | (cases e.2; done)) (fun ⟨_, _, e, e2⟩ => by first | (cases e; done) | (cases e2; done)))
    | _ => cases h
  | nilm =>
    cases b with
    | nilm =>
      obtain ⟨h1, h2⟩ := gdi h
      obtain ⟨d, _, hd, h3⟩ := und rfl h1
      cases hx <;> cases hy <;> cases h2 <;> cases d <;> first | (cases h3; done) | skip
      all_goals
        refine and3 (bi_eq (fun d => by simp [Op.equalIn, underlying, hd, Sem.run_bind]) rfl rfl) (fun X Y => quiet X Y (fun e => by first | (cases e.1; done) | (cases e.2; done)) (fun ⟨_, _, e, e2⟩ => by first | (cases e; done) | (cases e2; done)))
    | map =>
      obtain ⟨h1, h2⟩ := gdi h
      obtain ⟨d, _, hd, h3⟩ := und rfl h1
      cases hx <;> cases hy <;> cases h2 <;> cases d <;> first | (cases h3; done) | skip
      all_goals
        refine and3 (bi_eq (fun d => by simp [Op.equalIn, underlying, hd, Sem.run_bind]) rfl rfl) (fun X Y => quiet X Y (fun e => by first | (cases e.1; done) | (cases e.2; done)) (fun ⟨_, _, e, e2⟩ => by first | (cases e; done) | (cases e2; done)))
    | cmap =>
      obtain ⟨h1, h2⟩ := gdi h
      obtain ⟨d, _, hd, h3⟩ := und rfl h1
      cases hx <;> cases hy <;> cases h2 <;> cases d <;> first | (cases h3; done) | skip
      all_goals
        refine and3 (bi_eq (fun d => by simp [Op.equalIn, underlying, hd, Sem.run_bind]) rfl rfl) (fun X Y => quiet X Y (fun e => by first | (cases e.1; done) | (cases e.2; done)) (fun ⟨_, _, e, e2⟩ => by first | (cases e; done) | (cases e2; done)))
    | _ => cases h
  | map =>
    cases b with
    | nilm =>
      obtain ⟨h1, h2⟩ := gdi h
      obtain ⟨d, _, hd, h3⟩ := und rfl h1
      cases hx <;> cases hy <;> cases h2 <;> cases d <;> first | (cases h3; done) | skip
      all_goals
        refine and3 (bi_eq (fun d => by simp [Op.equalIn, underlying, hd, Sem.run_bind]) rfl rfl) (fun X Y => quiet X Y (fun e => by first | (cases e.1; done) | (cases e.2; done)) (fun ⟨_, _, e, e2⟩ => by first | (cases e; done) | (cases e2; done)))
    | _ => cases h
  | cmap =>
    cases b with
    | nilm =>
      obtain ⟨h1, h2⟩ := gdi h
      obtain ⟨d, _, hd, h3⟩ := und rfl h1
      cases hx <;> cases hy <;> cases h2 <;> cases d <;> first | (cases h3; done) | skip
      all_goals
        refine and3 (bi_eq (fun d => by simp [Op.equalIn, underlying, hd, Sem.run_bind]) rfl rfl) (fun X Y => quiet X Y (fun e => by first | (cases e.1; done) | (cases e.2; done)) (fun ⟨_, _, e, e2⟩ => by first | (cases e; done) | (cases e2; done)))
    | _ => cases h
  | nilf =>
    cases b with
    | nilf =>
      obtain ⟨h1, h2⟩ := gdi h
      obtain ⟨d, _, hd, h3⟩ := und rfl h1
      cases hx <;> cases hy <;> cases h2 <;> cases d <;> first | (cases h3; done) | skip
      all_goals
        refine and3 (bi_eq (fun d => by simp [Op.equalIn, underlying, hd, Sem.run_bind]) rfl rfl) (fun X Y => quiet X Y (fun e => by first | (cases e.1; done) | (cases e.2; done)) (fun ⟨_, _, e, e2⟩ => by first | (cases e; done) | (cases e2; done)))
    | fn =>
      obtain ⟨h1, h2⟩ := gdi h
      obtain ⟨d, _, hd, h3⟩ := und rfl h1
      cases hx <;> cases hy <;> cases h2 <;> cases d <;> first | (cases h3; done) | skip
      all_goals
        refine and3 (bi_eq (fun d => by simp [Op.equalIn, underlying, hd, Sem.run_bind]) rfl rfl) (fun X Y => quiet X Y (fun e => by first | (cases e.1; done) | (cases e.2; done)) (fun ⟨_, _, e, e2⟩ => by first | (cases e; done) | (cases e2; done)))
    | _ => cases h
  | fn =>
    cases b with
    | nilf =>
      obtain ⟨h1, h2⟩ := gdi h
      obtain ⟨d, _, hd, h3⟩ := und rfl h1
      cases hx <;> cases hy <;> cases h2 <;> cases d <;> first | (cases h3; done) | skip
      all_goals
        refine and3 (bi_eq (fun d => by simp [Op.equalIn, underlying, hd, Sem.run_bind]) rfl rfl) (fun X Y => quiet X Y (fun e => by first | (cases e.1; done) | (cases e.2; done)) (fun ⟨_, _, e, e2⟩ => by first | (cases e; done) | (cases e2; done)))
    | _ => cases h
  | nili =>
    cases b with
    | nili =>
      obtain ⟨h1, h2⟩ := gdi h
      obtain ⟨d, hdu, hd, h3⟩ := und rfl h1
      cases hx; cases hy; cases h2
      cases d <;> first | (cases h3; done) | skip
      rename_i ms
      have hms : ms.isEmpty = true := by
        obtain ⟨l⟩ := ms
        cases l with
        | nil => rfl
        | cons a l => cases h3
      refine and3 (bi_eq (fun d => by simp [Op.equalIn, underlying, hd, Sem.run_bind]) rfl rfl) (fun X Y => ?_)
      have hg : ∀ d, (Op.eqGuardIn (d + 1) t .nilIface .nilIface).run P w = .ok false w := fun d => by
        simp [Op.eqGuardIn, underlying, hd, Sem.run_bind, hms]
      have hg' : (Op.eqGuardIn Op.maxDepth t .nilIface .nilIface).run P w = .ok false w := hg 9999
      constructor <;>
      · unfold eqGuard
        simp only [Bool.not_true, Bool.false_eq_true, if_false]
        split <;> simp [Sem.run_bind, hg']
    | ifc =>
      obtain ⟨h1, h2⟩ := gdi h
      obtain ⟨d, _, hd, h3⟩ := und rfl h1
      cases hx <;> cases hy <;> cases h2 <;> cases d <;> first | (cases h3; done) | skip
      all_goals
        refine and3 (bi_eq (fun d => by simp [Op.equalIn, underlying, hd, Sem.run_bind]) rfl rfl) (fun X Y => quiet X Y (fun e => by first | (cases e.1; done) | (cases e.2; done)) (fun ⟨_, _, e, e2⟩ => by first | (cases e; done) | (cases e2; done)))
    | _ => cases h
  | ifc =>
    cases b with
    | nili =>
      obtain ⟨h1, h2⟩ := gdi h
      obtain ⟨d, _, hd, h3⟩ := und rfl h1
      cases hx <;> cases hy <;> cases h2 <;> cases d <;> first | (cases h3; done) | skip
      all_goals
        refine and3 (bi_eq (fun d => by simp [Op.equalIn, underlying, hd, Sem.run_bind]) rfl rfl) (fun X Y => quiet X Y (fun e => by first | (cases e.1; done) | (cases e.2; done)) (fun ⟨_, _, e, e2⟩ => by first | (cases e; done) | (cases e2; done)))
    | _ => cases h
  | lst nl fu n g =>
    cases b with
    | lst nl2 fu2 n2 g2 =>
      cases nl2 with
      | false => cases h
      | true =>
        obtain ⟨h1, h2⟩ := gdi h
        obtain ⟨d, _, hd, h3⟩ := und rfl h1
        cases hy
        cases hx <;> cases h2 <;> cases d <;> first | (cases h3; done) | skip
        all_goals
          refine and3 (bi_eq (fun d => by simp [Op.equalIn, underlying, hd, Sem.run_bind]) rfl rfl) (fun X Y => quiet X Y (fun e => by first | (cases e.1; done) | (cases e.2; done)) (fun ⟨_, _, e, e2⟩ => by first | (cases e; done) | (cases e2; done)))
    | _ => cases h
  | sl id off len fu sz =>
    cases b with
    | lst nl2 fu2 n2 g2 =>
      cases nl2 with
      | false => cases h
      | true =>
        obtain ⟨h1, h2⟩ := gdi h
        obtain ⟨d, _, hd, h3⟩ := und rfl h1
        cases hy
        cases hx <;> cases h2 <;> cases d <;> first | (cases h3; done) | skip
        all_goals
          refine and3 (bi_eq (fun d => by simp [Op.equalIn, underlying, hd, Sem.run_bind]) rfl rfl) (fun X Y => quiet X Y (fun e => by first | (cases e.1; done) | (cases e.2; done)) (fun ⟨_, _, e, e2⟩ => by first | (cases e; done) | (cases e2; done)))
    | _ => cases h
  | undef => cases h
  | top => cases h
  | agg => cases h
  | tup => cases h
  | yld => cases h
/-- Two values' operation. -/
theorem binA_ok {op : BinOp} {t : TypeId} {x y : Value} {a b r : AV} (hx : RV G x a) (hy : RV G y b) (h : binA op (undB P t) a b = some (true, r)) :
    ∃ v, Bi P op t x y w v ∧ RV G v r ∧ ∀ X Y : Operand, (eqGuard op t X Y x y).run P w = .ok () w := by
  have noq : op ≠ .eql → op ≠ .neq → ∀ X Y : Operand, (eqGuard op t X Y x y).run P w = .ok () w := fun h1 h2 X Y => by
    unfold eqGuard
    cases op <;> first | exact absurd rfl h1 | exact absurd rfl h2 | rfl
  have ints : ∀ {f : HI}, op ≠ .shl → op ≠ .shr → op ≠ .eql → op ≠ .neq → bInt f (undB P t) a b = some (true, r) → (∀ k m n, f k m n = some (true, r) → ∃ v, (intSem op k m n).run P w = .ok v w ∧ RV G v r) → ∃ v, Bi P op t x y w v ∧ RV G v r ∧ ∀ X Y : Operand, (eqGuard op t X Y x y).run P w = .ok () w := fun n1 n2 n3 n4 hb hf => by
    obtain ⟨k, m, n, rfl, rfl, h2⟩ := b_int hb
    obtain ⟨v, h3, h4⟩ := hf k m n h2
    rw [hx.int_inv, hy.int_inv]
    exact ⟨v, bi_int n1 n2 h3, h4, fun X Y => by
      unfold eqGuard
      cases op <;> first | exact absurd rfl n3 | exact absurd rfl n4 | rfl⟩
  have shifts : ∀ {f : HI}, (op = .shl ∨ op = .shr) → bShift f (undB P t) a b = some (true, r) → (∀ k m k' n, f k m n = some (true, r) → ∃ v, (Op.shift op k m k' n).run P w = .ok v w ∧ RV G v r) → ∃ v, Bi P op t x y w v ∧ RV G v r ∧ ∀ X Y : Operand, (eqGuard op t X Y x y).run P w = .ok () w := fun ho hb hf => by
    obtain ⟨k, m, k', n, rfl, rfl, h2⟩ := b_shift hb
    obtain ⟨v, h3, h4⟩ := hf k m k' n h2
    rw [hx.int_inv, hy.int_inv]
    refine ⟨v, ?_, h4, fun X Y => by unfold eqGuard; rcases ho with e | e <;> rw [e] <;> rfl⟩
    unfold Bi binOp
    rcases ho with e | e <;> rw [e] at h3 ⊢ <;> exact h3
  have strs : ∀ (s1 s2 : ByteArray) (v : Value), a = .str s1 → b = .str s2 → (Op.stringOp op s1 s2).run P w = .ok v w → RV G v r → (op = .add ∨ op = .lss) → ∃ v, Bi P op t x y w v ∧ RV G v r ∧ ∀ X Y : Operand, (eqGuard op t X Y x y).run P w = .ok () w := fun s1 s2 v e1 e2 h3 hr ho => by
    subst e1; subst e2
    rw [hx.str_inv, hy.str_inv]
    refine ⟨v, ?_, hr, fun X Y => by unfold eqGuard; rcases ho with e | e <;> rw [e] <;> rfl⟩
    unfold Bi binOp
    rcases ho with e | e <;> rw [e] at h3 ⊢ <;> exact h3
  cases op with
  | add =>
    change bAdd _ _ _ = _ at h
    cases a with
    | str s1 =>
      cases b with
      | str s2 =>
        change some (_, _) = _ at h
        simp only [Option.some.injEq, Prod.mk.injEq] at h
        obtain ⟨h1, rfl⟩ := h
        refine strs s1 s2 _ rfl rfl ?_ (.str _) (.inl rfl)
        have hle : s1.data.toList.length + s2.data.toList.length ≤ 16777216 := by simpa using h1
        have e1 : s1.size = s1.data.toList.length := rfl
        have e2 : s2.size = s2.data.toList.length := rfl
        unfold Op.stringOp
        simp only
        rw [if_neg (by rw [e1, e2]; show ¬ (((_ : Nat) : Int) > 9223372036854775807); omega)]
        simp only [Sem.run_pure]
        congr 2
      | _ => cases h
    | _ => exact ints (f := bArith fun a b => a + b) (by decide) (by decide) (by decide) (by decide) h (fun k m n e => by cases e; exact ⟨_, rfl, by rw [wr_eq]; exact .int _ _⟩)
  | sub => exact ints (by decide) (by decide) (by decide) (by decide) h (fun k m n e => by cases e; exact ⟨_, rfl, by rw [wr_eq]; exact .int _ _⟩)
  | mul => exact ints (by decide) (by decide) (by decide) (by decide) h (fun k m n e => by cases e; exact ⟨_, rfl, by rw [wr_eq]; exact .int _ _⟩)
  | quo => exact ints (by decide) (by decide) (by decide) (by decide) h (fun k m n e => by
      unfold bQuo at e
      simp only [Option.some.injEq, Prod.mk.injEq, Bool.not_eq_true', eqI_eq, beq_eq_false_iff_ne, ne_eq] at e
      obtain ⟨e1, rfl⟩ := e
      refine ⟨.int k (k.wrap (m.tdiv n)), ?_, by rw [wr_eq]; exact .int _ _⟩
      simp only [intSem, Op.intDiv, if_neg e1, Sem.run_pure])
  | rem => exact ints (by decide) (by decide) (by decide) (by decide) h (fun k m n e => by
      unfold bRem at e
      simp only [Option.some.injEq, Prod.mk.injEq, Bool.not_eq_true', eqI_eq, beq_eq_false_iff_ne, ne_eq] at e
      obtain ⟨e1, rfl⟩ := e
      refine ⟨.int k (m.tmod n), ?_, .int _ _⟩
      simp only [intSem, Op.intDiv, if_neg e1, Sem.run_pure])
  | and => exact ints (by decide) (by decide) (by decide) (by decide) h (fun k m n e => by cases e; exact ⟨_, rfl, by rw [wr_eq]; exact .int _ _⟩)
  | or => exact ints (by decide) (by decide) (by decide) (by decide) h (fun k m n e => by cases e; exact ⟨_, rfl, by rw [wr_eq]; exact .int _ _⟩)
  | xor => exact ints (by decide) (by decide) (by decide) (by decide) h (fun k m n e => by cases e; exact ⟨_, rfl, by rw [wr_eq]; exact .int _ _⟩)
  | andNot => exact ints (by decide) (by decide) (by decide) (by decide) h (fun k m n e => by cases e; exact ⟨_, rfl, by rw [wr_eq]; exact .int _ _⟩)
  | shl => exact shifts (.inl rfl) h (fun k m k' n e => by
      unfold bShl at e
      simp only [Option.some.injEq, Prod.mk.injEq, Bool.not_eq_true', ltI_eq, decide_eq_false_iff_not] at e
      obtain ⟨e1, rfl⟩ := e
      refine ⟨_, ?_, by rw [wr_eq]; exact .int _ _⟩
      unfold Op.shift
      rw [if_neg e1]
      rfl)
  | shr => exact shifts (.inr rfl) h (fun k m k' n e => by
      unfold bShr at e
      simp only [Option.some.injEq, Prod.mk.injEq, Bool.not_eq_true', ltI_eq, decide_eq_false_iff_not] at e
      obtain ⟨e1, rfl⟩ := e
      refine ⟨_, ?_, .int _ _⟩
      unfold Op.shift
      rw [if_neg e1]
      rfl)
  | eql =>
    change bEql _ _ _ = _ at h
    unfold bEql at h
    split at h
    · rename_i c hc
      cases h
      obtain ⟨h1, _, h3⟩ := eqA_ok (w := w) hx hy hc
      exact ⟨_, h1, .bool _, fun X Y => (h3 X Y).1⟩
    · cases h
  | neq =>
    change bNeq _ _ _ = _ at h
    unfold bNeq at h
    split at h
    · rename_i c hc
      cases h
      obtain ⟨_, h1, h3⟩ := eqA_ok (w := w) hx hy hc
      exact ⟨_, h1, .bool _, fun X Y => (h3 X Y).2⟩
    · cases h
  | lss =>
    change bLss _ _ _ = _ at h
    cases a with
    | str s1 =>
      cases b with
      | str s2 =>
        cases h
        refine strs s1 s2 _ rfl rfl ?_ (.bool _) (.inr rfl)
        unfold Op.stringOp
        rw [ltU_eq, ByteArray.toList_eq, ByteArray.toList_eq]
        rfl
      | _ => cases h
    | _ => exact ints (f := bCmp fun a b => ltI a b) (by decide) (by decide) (by decide) (by decide) h (fun k m n e => by cases e; exact ⟨_, rfl, by first | (show RV G _ (.bool (ltI m n)); rw [ltI_eq]; exact .bool _) | (show RV G _ (.bool (ltI n m)); rw [ltI_eq]; exact .bool _)⟩)
  | leq => exact ints (by decide) (by decide) (by decide) (by decide) h (fun k m n e => by cases e; exact ⟨_, rfl, by show RV G _ (.bool (leI m n)); rw [leI_eq]; exact .bool _⟩)
  | gtr => exact ints (by decide) (by decide) (by decide) (by decide) h (fun k m n e => by cases e; exact ⟨_, rfl, by first | (show RV G _ (.bool (ltI m n)); rw [ltI_eq]; exact .bool _) | (show RV G _ (.bool (ltI n m)); rw [ltI_eq]; exact .bool _)⟩)
  | geq => exact ints (by decide) (by decide) (by decide) (by decide) h (fun k m n e => by cases e; exact ⟨_, rfl, by show RV G _ (.bool (leI n m)); rw [leI_eq]; exact .bool _⟩)
theorem q_bin {op : BinOp} {t t2 : Nat} {x y : Operand} {r : AV} (ho : o.op = .binOp op t x y t2) (hx : RV G (ρ x) (ev x)) (hy : RV G (ρ y) (ev y)) (h : binA op (undB P t) (ev x) (ev y) = some (true, r)) : Qu P G ρ o w r := by
  obtain ⟨v, h1, h2, h3⟩ := binA_ok (w := w) hx hy h
  refine ⟨v, ?_, h2⟩
  unfold execOp
  rw [ho]
  have h4 := h3 x y
  unfold Bi at h1
  simp only [Sem.run_bind, h4, h1, Result.andThen_ok, Sem.run_pure]
end
end Go.Proofs.YtbknpfckdnladaaGreat
