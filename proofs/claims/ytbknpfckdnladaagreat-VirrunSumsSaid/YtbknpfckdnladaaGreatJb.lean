/- VirrunSums: the loop whole, as a call. No condition. -/
import Derived.Test.YtbknpfckdnladaaGreatJa
set_option linter.unusedVariables false
set_option maxHeartbeats 1000000
namespace Go.Proofs.YtbknpfckdnladaaGreat
theorem nodupH : DH.Nodup := by decide
theorem nodupS : DS.Nodup := by decide
theorem keysS (s b at_ F x y z : Int) (p q : Bool) (res : Int) : (NS s b at_ F x y z p q res).map (·.1) = DS := rfl
theorem keysH (s b at_ F x y z : Int) (p q : Bool) (res : Int) : (NH s b at_ F x y z p q res).map (·.1) = DH := rfl
theorem okH (s b at_ F x y z : Int) (p q : Bool) (res : Int) : ((NH s b at_ F x y z p q res).all fun p => okB DH p.2 && notGone p.2) = true := by kernel_rfl
theorem okS (s b at_ F x y z : Int) (p q : Bool) (res : Int) : ((NS s b at_ F x y z p q res).all fun p => okB DS p.2 && notGone p.2) = true := by kernel_rfl
theorem ltH : (DH.all fun id => Nat.blt id 30000) = true := by decide
theorem ltS : (DS.all fun id => Nat.blt id 22500) = true := by decide
theorem smallF : SmallF DH (frG tm0) := by
  refine ⟨fun t => ?_, fun d hd => ?_, rfl, rfl⟩
  · show okA DH ((tm0.get t).getD .undef) = true
    unfold tm0 tmG
    rw [show enterT goArgs 0 .nil = ((Tr.nil.set 0 (.ptr 22195 0 0 0)).set 1 (.fn 52 [.ptr 22185 0 0 0] [])) from rfl]
    simp only [get_set, get_nil]
    repeat' split
    all_goals decide
  · have : d = .call 123 [.ptr 22500 0 0 0] := by simpa [frG] using hd
    exact ⟨_, _, this, by decide⟩
theorem rt_weak : ∀ G ts, RT G ts tm1 → RT G ts tm0 := fun G ts h t => by
  have h := h t
  unfold tm1 at h
  unfold tm0
  rw [get_set] at h ⊢
  by_cases e6 : 6 = t
  · rw [if_pos e6]; exact .top _
  · rw [if_neg e6] at h ⊢
    rw [get_set] at h ⊢
    by_cases e5 : 5 = t
    · rw [if_pos e5]; exact .top _
    · rw [if_neg e5] at h ⊢
      exact h
/-- From these blocks the loop ends with those. -/
def QS (N NF : List (Nat × Blk)) : Prop := ∀ (bl : AMode) (M : Mem), Sub DH (cl 30000 N) M → FrS Tryz.prog (frG tm0) bl M (.ret (.tup [])) bl (putN M NF)
theorem q_step {s b at_ F x y z : Int} {p q : Bool} {s' b' at_' F' x' y' z' : Int} {p' q' : Bool} {s2 b2 a2 F2 x2 y2 z2 : Int} {p2 q2 : Bool} {r2 : Int}
    (hn : DH.map (fun id => normB ((nextM (atH s b at_ F x y z p q)).h.get id)) = (NH s' b' at_' F' x' y' z' p' q' 0).map (fun p => some p.2))
    (he : ∀ (bl : AMode) (R : Type) (er : Nat → R) (base : Job R → R) (k : K R), go R er base (.fr (frG tm0) bl (cl 30000 (NH s b at_ F x y z p q 0)) k) = base (.fr (frG tm1) bl (nextM (atH s b at_ F x y z p q)) k))
    (hQ : QS (NH s' b' at_' F' x' y' z' p' q' 0) (NH s2 b2 a2 F2 x2 y2 z2 p2 q2 r2)) : QS (NH s b at_ F x y z p q 0) (NH s2 b2 a2 F2 x2 y2 z2 p2 q2 r2) := fun bl M hM => by
  have hN := new_of (keysH s' b' at_' F' x' y' z' p' q' 0) nodupH (okH s' b' at_' F' x' y' z' p' q' 0) hn
  have f1 := hQ bl _ hN.sub
  have f2 : FrS Tryz.prog (frG tm1) bl (nextM (atH s b at_ F x y z p q)) (.ret (.tup [])) bl _ := fr_weak (f := frG tm1) (tm' := tm0) f1 rt_weak
  have f3 : FrS Tryz.prog (frG tm0) bl (cl 30000 (NH s b at_ F x y z p q 0)) (.ret (.tup [])) bl _ := job_to (X := XO) pok (ct0 _) (fn := 51) (n := 3000) (j := fun R k => .fr (frG tm0) bl (cl 30000 (NH s b at_ F x y z p q 0)) k) (fun _ _ => rfl) (he bl) f2
  exact small_fr f3 (cl_small (keysH s b at_ F x y z p q 0) nodupH (okH s b at_ F x y z p q 0) ltH) smallF (by decide) (put_new (keysH _ _ _ _ _ _ _ _ _ _) nodupH (okH _ _ _ _ _ _ _ _ _ _)) hM
theorem q_end (s x y z : Int) (e : Nat) : QS (NH s 3 0 (.ofNat (e + 1)) x y z true true 0) (NH s 3 1 (decF (.ofNat (e + 1))) x y z true true y) := fun bl M hM => by
  have hN := new_of (keysH s 3 1 (decF (.ofNat (e + 1))) x y z true true y) nodupH (okH s 3 1 (decF (.ofNat (e + 1))) x y z true true y) (nR s x y z e)
  have f3 : FrS Tryz.prog (frG tm0) bl (cl 30000 (NH s 3 0 (.ofNat (e + 1)) x y z true true 0)) (.ret (.tup [])) bl (endM s x y z e) := job_end (X := XO) pok (ct0 _) (fn := 51) (n := 3000) (j := fun R k => .fr (frG tm0) bl (cl 30000 (NH s 3 0 (.ofNat (e + 1)) x y z true true 0)) k) (fun _ _ => rfl) (eR s x y z e bl)
  exact small_fr f3 (cl_small (keysH _ _ _ _ _ _ _ _ _ _) nodupH (okH _ _ _ _ _ _ _ _ _ _) ltH) smallF (by decide) hN hM
theorem decF_eq (e : Nat) (h : e < 100000) : decF (.ofNat (e + 1)) = .ofNat e := by
  unfold decF
  rw [wr_eq, wrap_i64]
  show (if (((e + 1 : Nat) : Int) - 1) % 18446744073709551616 ≥ 9223372036854775808 then (((e + 1 : Nat) : Int) - 1) % 18446744073709551616 - 18446744073709551616 else (((e + 1 : Nat) : Int) - 1) % 18446744073709551616) = ((e : Nat) : Int)
  split <;> omega
theorem stp_eq (a b : Int) : stp a b = (a + b) % 256 := by
  have r : ∀ x : Int, 0 ≤ x % 256 ∧ x % 256 < 256 := fun x => by omega
  unfold stp
  simp only [c8_eq, Int.emod_emod_of_dvd _ (Int.dvd_refl 256)]
  rw [addU_eq _ _ (r a) (r b)]
  omega
theorem stp_dec (q : Nat) (h : q ≤ 255) : stp (.ofNat (q + 1)) (c8 (-1)) = .ofNat q := by
  rw [stp_eq, c8_eq]
  show (((q + 1 : Nat) : Int) + (-1) % 256) % 256 = ((q : Nat) : Int)
  omega
noncomputable def lpY : Nat → Int → Int
  | 0, y => y
  | q + 1, y => lpY q (stp y (.ofNat (q + 1)))
theorem round (s y : Int) (x : Int) (e : Nat) (he : e < 90000) (hx : (∃ q, x = .ofNat (q + 1)) ∨ ∃ q, x = .negSucc q) {NF : Int × Int × Int × Int × Int × Int × Int × Int}
    (hQ : ∀ s2 b2 a2 F2 x2 y2 z2 r2, (s2, b2, a2, F2, x2, y2, z2, r2) = NF → QS (NH s 1 0 (.ofNat e) (stp x (c8 (-1))) (stp y x) (c8 (-1)) true true 0) (NH s2 b2 a2 F2 x2 y2 z2 true true r2)) :
    ∀ s2 b2 a2 F2 x2 y2 z2 r2, (s2, b2, a2, F2, x2, y2, z2, r2) = NF → QS (NH s 1 0 (.ofNat (e + 4)) x y (c8 (-1)) true true 0) (NH s2 b2 a2 F2 x2 y2 z2 true true r2) := fun s2 b2 a2 F2 x2 y2 z2 r2 hNF => by
  have h := hQ s2 b2 a2 F2 x2 y2 z2 r2 hNF
  have hC : QS (NH s 2 2 (.ofNat (e + 1)) (stp x (c8 (-1))) (stp y x) (c8 (-1)) true true 0) (NH s2 b2 a2 F2 x2 y2 z2 true true r2) := q_step (nC s _ _ _ e) (eC s _ _ _ e) (by rw [decF_eq _ (by omega)]; exact h)
  have hB : QS (NH s 2 1 (.ofNat (e + 2)) x (stp y x) (c8 (-1)) true true 0) (NH s2 b2 a2 F2 x2 y2 z2 true true r2) := q_step (nB s _ _ _ (e + 1)) (eB s _ _ _ (e + 1)) (by rw [decF_eq _ (by omega)]; exact hC)
  have hA : QS (NH s 2 0 (.ofNat (e + 3)) x y (c8 (-1)) true true 0) (NH s2 b2 a2 F2 x2 y2 z2 true true r2) := q_step (nA s _ _ _ (e + 2)) (eA s _ _ _ (e + 2)) (by rw [decF_eq _ (by omega)]; exact hB)
  rcases hx with ⟨q, rfl⟩ | ⟨q, rfl⟩
  · exact q_step (nP s _ _ q (e + 3)) (eP s _ _ q (e + 3)) (by rw [decF_eq _ (by omega)]; exact hA)
  · exact q_step (nN s _ _ q (e + 3)) (eN s _ _ q (e + 3)) (by rw [decF_eq _ (by omega)]; exact hA)
theorem chain (s : Int) : ∀ (q r : Nat) (y : Int), q ≤ 255 → r < 3000 → QS (NH s 1 0 (.ofNat (4 * q + r + 2)) (.ofNat q) y (c8 (-1)) true true 0) (NH s 3 1 (.ofNat r) 0 (lpY q y) (c8 (-1)) true true (lpY q y))
  | 0, r, y, hq, hr => by
    have h1 := q_end s 0 y (c8 (-1)) r
    rw [decF_eq _ (by omega)] at h1
    have h2 : QS (NH s 1 0 (.ofNat (r + 1 + 1)) 0 y (c8 (-1)) true true 0) (NH s 3 1 (.ofNat r) 0 y (c8 (-1)) true true y) := q_step (nZ s y (c8 (-1)) (r + 1)) (eZ s y (c8 (-1)) (r + 1)) (by rw [decF_eq _ (by omega)]; exact h1)
    rw [show 4 * 0 + r + 2 = r + 1 + 1 by omega]
    exact h2
  | q + 1, r, y, hq, hr => by
    have ih := chain s q r (stp y (.ofNat (q + 1))) (by omega) hr
    rw [show 4 * (q + 1) + r + 2 = 4 * q + r + 2 + 4 by omega]
    refine round s y (.ofNat (q + 1)) (4 * q + r + 2) (by omega) (.inl ⟨q, rfl⟩) (NF := (s, 3, 1, .ofNat r, 0, lpY (q + 1) y, c8 (-1), lpY (q + 1) y)) (fun s2 b2 a2 F2 x2 y2 z2 r2 e => ?_) _ _ _ _ _ _ _ _ rfl
    cases e
    rw [stp_dec q (by omega)]
    exact ih
/-- What the run's Result is, and what is left of fuel. -/
noncomputable def resG (x y : Int) : Int := bif eqI x 0 then y else lpY (stp x (c8 (-1))).toNat (stp y x)
noncomputable def fuelG (x : Int) : Nat := bif eqI x 0 then 1995 else 1991 - 4 * (stp x (c8 (-1))).toNat
theorem loop_all (s x y : Int) : QS (NH s 1 0 1997 x y (c8 (-1)) true true 0) (NH s 3 1 (.ofNat (fuelG x)) 0 (resG x y) (c8 (-1)) true true (resG x y)) := by
  have hs : ∃ q : Nat, stp x (c8 (-1)) = .ofNat q ∧ q ≤ 255 := by
    rw [stp_eq]
    refine ⟨((x + c8 (-1)) % 256).toNat, ?_, by omega⟩
    show _ = (((( x + c8 (-1)) % 256).toNat : Nat) : Int)
    omega
  obtain ⟨q, hq, hq2⟩ := hs
  have key : eqI x 0 = false → ((∃ q, x = .ofNat (q + 1)) ∨ ∃ q, x = .negSucc q) → QS (NH s 1 0 1997 x y (c8 (-1)) true true 0) (NH s 3 1 (.ofNat (fuelG x)) 0 (resG x y) (c8 (-1)) true true (resG x y)) := fun h0 hx => by
    have e1 : resG x y = lpY q (stp y x) := by unfold resG; rw [h0, hq]; rfl
    have e2 : fuelG x = 1991 - 4 * q := by unfold fuelG; rw [h0, hq]; rfl
    have e3 : (1997 : Int) = .ofNat (1993 + 4) := rfl
    rw [e1, e2, e3]
    refine round s y x 1993 (by omega) hx (NF := (s, 3, 1, .ofNat (1991 - 4 * q), 0, lpY q (stp y x), c8 (-1), lpY q (stp y x))) (fun s2 b2 a2 F2 x2 y2 z2 r2 e => ?_) _ _ _ _ _ _ _ _ rfl
    cases e
    rw [hq]
    have := chain s q (1991 - 4 * q) (stp y x) hq2 (by omega)
    rw [show 4 * q + (1991 - 4 * q) + 2 = 1993 by omega] at this
    exact this
  cases x with
  | ofNat k =>
    cases k with
    | zero =>
      have h := chain s 0 1995 y (by omega) (by omega)
      have e1 : resG (.ofNat 0) y = lpY 0 y := rfl
      have e2 : fuelG (.ofNat 0) = 1995 := rfl
      have e3 : (1997 : Int) = .ofNat (4 * 0 + 1995 + 2) := rfl
      rw [e1, e2, e3]
      exact h
    | succ q => exact key rfl (.inl ⟨q, rfl⟩)
  | negSucc q => exact key rfl (.inr ⟨q, rfl⟩)
/-- The run's loop, as a call. -/
theorem go_call (s x : Int) (bl : AMode) (M : Mem) (hM : Sub DS (cl 22500 (NS s 0 0 2000 x 0 0 false false 0)) M) : CallS Tryz.prog 51 goArgs false bl M (.ret (.tup [])) bl (putN M (NS s 3 1 (.ofNat (fuelG x)) 0 (resG x (c8 s)) (c8 (-1)) true true (resG x (c8 s)))) := by
  have h3 := loop_all s x (c8 s)
  have h2 : QS (NH s 0 2 1998 x (c8 s) (c8 (-1)) true true 0) _ := q_step (n2 s x (c8 s) (c8 (-1))) (e2 s x (c8 s) (c8 (-1))) h3
  have h1 : QS (NH s 0 1 1999 x (c8 s) 0 true false 0) _ := q_step (n1 s x (c8 s) 0) (e1 s x (c8 s) 0) h2
  have hN := new_of (keysH s 0 1 1999 x (c8 s) 0 true false 0) nodupH (okH s 0 1 1999 x (c8 s) 0 true false 0) (nE s x)
  have f2 : FrS Tryz.prog (frG tm1) bl (inM s x) (.ret (.tup [])) bl _ := fr_weak (f := frG tm1) (tm' := tm0) (h1 bl _ hN.sub) rt_weak
  have f3 : CallS Tryz.prog 51 goArgs false bl (cl 22500 (NS s 0 0 2000 x 0 0 false false 0)) (.ret (.tup [])) bl _ := job_to (X := XO) pok (ct0 _) (fn := 51) (n := 3000) (j := fun R k => .call 51 goArgs false bl (cl 22500 (NS s 0 0 2000 x 0 0 false false 0)) k) (fun _ _ => rfl) (eE s x bl) f2
  refine small_call f3 (cl_small (keysS _ _ _ _ _ _ _ _ _ _) nodupS (okS _ _ _ _ _ _ _ _ _ _) ltS) (by decide) (by decide) ⟨keysS _ _ _ _ _ _ _ _ _ _, nodupS, fun p hp => ?_, fun p hp => ⟨p.2, ?_, ?_⟩⟩ hM
  · exact (put_new (D := DS) (m1 := M0) (keysS _ _ _ _ _ _ _ _ _ _) nodupS (okS _ _ _ _ _ _ _ _ _ _)).ok p hp
  · exact fold_in _ _ (by rw [keysH]; exact nodupH) (List.mem_cons_of_mem _ hp)
  · exact ⟨((put_new (D := DS) (m1 := M0) (keysS _ _ _ _ _ _ _ _ _ _) nodupS (okS _ _ _ _ _ _ _ _ _ _)).ok p hp).2, fun _ _ _ _ h => h⟩
end Go.Proofs.YtbknpfckdnladaaGreat
