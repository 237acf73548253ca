/- The law's function, whole: MdcheckFits, for every description that lies in memory. -/
import Derived.Test.YthomndfagpeniaaChecksP
import Derived.Test.YthomndfagpeniaaMgG
-- shrunk
namespace Go.Proofs.Ythomndfagpeniaa
open Go.RowKit
attribute [local go_sem] Oper.semAt_some

set_option maxHeartbeats 4000000 in
theorem fitsT3_any {W : World} {n1 bt : Nat} {V : MV} {vK : Value} {M : Mach} {N : List ByteArray} {L : List Pl} (h : TabIn W n1 bt V vK M N L (numsC N M.classes)) (hG : Good M N L) (hO : ∀ o ∈ M.ops, FineP M N o) (hl : L.length = N.length) (hN : N.length ≤ 200) (op : Int) :
  Calls Try.prog 16 #[.pointer (some ⟨bt, 0, none⟩), .int .i64 op] W fun e w' => e = .returned (.bool (fitsOp M N L op)) ∧ Ext W w' := by
 by_cases hin : 0 ≤ op ∧ op < M.ops.length
 ·obtain ⟨k, rfl⟩ : ∃ k : Nat, op = k := ⟨op.toNat, by omega⟩
  have ho := List.getElem?_eq_getElem (show k < M.ops.length by omega)
  have hp := hO _ (List.mem_of_getElem? ho)
  have hfit : ∀ c ∈ numsC N M.classes, ∀ n ∈ c, fits64 n := fun c hc n hn => by
   have := hG.nums hl c hc n hn
   unfold fits64
   omega
  have hcl : ∀ u : Opr, clsIx M u.cls < (numsC N M.classes).length := fun u => by
   unfold numsC
   rw [List.length_map]
   by_cases h0 : 0 ≤ clsIx M u.cls
   ·obtain ⟨k, c, e, hc⟩ := cls_at h0
    have := (List.getElem?_eq_some_iff.1 hc).1
    omega
   ·omega
  have e : fitsOp M N L (k : Int) = fitsI M N L (numsC N M.classes) M.ops[k] := by
   unfold fitsOp
   rw [if_pos (by omega), Int.toNat_natCast, ho]
  rw [e]
  exact fitsT2_any h ho (by have := hp.many; omega) (by omega) hfit hcl (by have := hp.len; omega) (by have := hp.lt; have := hp.len; omega)
 ·have e : fitsOp M N L op = false := by
   unfold fitsOp
   by_cases h0 : 0 ≤ op
   ·rw [if_pos h0, List.getElem?_eq_none (by omega)]
   ·rw [if_neg h0]
  rw [e]
  have c3 := h.ck.cells 3 _ rfl
  obtain ⟨aO, cO, eO, _, _⟩ := h.ck.m.ops.form
  obtain ⟨vR, vC, vO, vA, vS, vN, vP⟩ := V
  dsimp only at c3 eO
  subst eO
  clear h e
  go_enter Try.func16, Try.ntmps16
  by_cases h0 : op < 0
  ·go_wp2_with fail
   go_ret
   exact ⟨rfl, Ext.refl _⟩
  ·have h1 : (M.ops.length : Int) ≤ op := by omega
   have h1d : decide ((M.ops.length : Int) ≤ op) = true := decide_eq_true h1
   go_wp2_with fail
   go_ret
   exact ⟨rfl, Ext.refl _⟩

set_option maxRecDepth 100000 in
set_option maxHeartbeats 64000000 in
theorem fitsW_any {W : World} {M : Mach} {n0 : Nat} {vR vC vO vA vS : Value} (hm : MachIn W n0 vR vC vO vA vS M) (hn : n0 ≤ W.heap.size) (op a b : Int) (hop : fits64 op) (ha : fits64 a) (hb : fits64 b) :
  Calls Try.prog 7 #[.agg #[.string M.name, vR, vC, vO, vA, .string M.result, vS, .int .i64 M.slots], .int .i64 op, .int .i64 a, .int .i64 b] W fun e W' => e = .returned (.bool true) ∧ Ext W W' := by
 obtain ⟨aR, cR, rfl, _, _⟩ := hm.regs.form
 obtain ⟨aC, cC, rfl, _, _⟩ := hm.cls.form
 obtain ⟨aO, cO, rfl, _, _⟩ := hm.ops.form
 obtain ⟨aA, cA, rfl, _, _⟩ := hm.args.form
 obtain ⟨aS, cS, rfl, _, _⟩ := hm.saved.form
 have HM := Lib.hid hm
 have hcc := cells_one W [.string M.name, .slice aR M.regs.length cR, .slice aC M.classes.length cC, .slice aO M.ops.length cO, .slice aA M.args.length cA, .string M.result, .slice aS M.saved.length cS, .int .i64 M.slots] 27
 have d0 := hcc 0 _ rfl
 have d1 := hcc 1 _ rfl
 have d2 := hcc 2 _ rfl
 have d3 := hcc 3 _ rfl
 have d4 := hcc 4 _ rfl
 have d5 := hcc 5 _ rfl
 have d6 := hcc 6 _ rfl
 have d7 := hcc 7 _ rfl
 have x0 : Ext W (W.alloc (.cells #[.string M.name, .slice aR M.regs.length cR, .slice aC M.classes.length cC, .slice aO M.ops.length cO, .slice aA M.args.length cA, .string M.result, .slice aS M.saved.length cS, .int .i64 M.slots] 27)) := Ext.alloc _ _
 have HMX := Lib.hid (fun (w : World) (x : Ext W w) => HM.out.same fun k hk => Below.block x k (Nat.lt_of_lt_of_le hk hn))
 have HN := Lib.hid (fun (w : World) (x : Ext W w) => Nat.le_trans hn x.size)
 have hfp := fits_plain (M := M) op
 have hpp := pair_plain (M := M) a b
 have hpc := pairT_comm (M := M) a b
 obtain ⟨fv, hfv⟩ : ∃ x, fitsT M op = x := ⟨_, rfl⟩
 obtain ⟨pv, hpv⟩ : ∃ x, pairT M a b = x := ⟨_, rfl⟩
 rw [hfv] at hfp
 rw [hpv] at hpp hpc
 have HFC := Lib.hid (fun (w : World) (x : Ext W w) => (hfv ▸ fitsT_any (HMX.out w x) (HN.out w x) op hop (fun y hy => begin_ne (upto3_eq M ▸ hy)) : Calls Try.prog 18 _ w fun e W' => e = .returned (.bool fv) ∧ Ext w W'))
 have HPC := Lib.hid (fun (w : World) (x : Ext W w) => (hpv ▸ pairT_any (HMX.out w x) (HN.out w x) a b ha hb (fun y hy => begin_ne (upto2_eq M ▸ hy)) : Calls Try.prog 19 _ w fun e W' => e = .returned (.bool pv) ∧ Ext w W'))
 have HPD := Lib.hid (fun (w : World) (x : Ext W w) => (hpc ▸ pairT_any (HMX.out w x) (HN.out w x) b a hb ha (fun y hy => begin_ne (upto2_eq M ▸ hy)) : Calls Try.prog 19 _ w fun e W' => e = .returned (.bool pv) ∧ Ext w W'))
 have HP := Lib.hid (And.intro hfp hpp)
 clear hcc hm hn hfp hpp hpc hfv hpv hop ha hb
 go_enter Try.func7, Try.ntmps7
 go_upto_region 1 with (fail)
 generalize W.alloc (.cells #[.string M.name, .slice aR M.regs.length cR, .slice aC M.classes.length cC, .slice aO M.ops.length cO, .slice aA M.args.length cA, .string M.result, .slice aS M.saved.length cS, .int .i64 M.slots] 27) = w1 at x0 d0 d1 d2 d3 d4 d5 d6 d7 ⊢
 generalize W.heap.size = b0 at d0 d1 d2 d3 d4 d5 d6 d7 ⊢
 have X0 := Lib.hid x0
 clear x0
 go_upto_region 2 with (go_at_call 9; refine (alive_any _).mono ?_; rintro e w2 ⟨rfl, hx2⟩; have X2 := Lib.hid (X0.out.trans hx2); have Y2 := Lib.hid hx2; clear hx2)
 have d0 := Ext.cell Y2.out d0
 have d1 := Ext.cell Y2.out d1
 have d2 := Ext.cell Y2.out d2
 have d3 := Ext.cell Y2.out d3
 have d4 := Ext.cell Y2.out d4
 have d5 := Ext.cell Y2.out d5
 have d6 := Ext.cell Y2.out d6
 have d7 := Ext.cell Y2.out d7
 have hbig := Lib.hid (bigR_any (HMX.out w2 X2.out) (HN.out w2 X2.out))
 go_upto_region 3 with (go_at_call 10; refine hbig.out.mono ?_; rintro e w3 ⟨⟨bb, rfl⟩, hx3⟩; have X3 := Lib.hid (X2.out.trans hx3); have Y3 := Lib.hid hx3; clear hx3)
 have d0 := Ext.cell Y3.out d0
 have d1 := Ext.cell Y3.out d1
 have d2 := Ext.cell Y3.out d2
 have d3 := Ext.cell Y3.out d3
 have d4 := Ext.cell Y3.out d4
 have d5 := Ext.cell Y3.out d5
 have d6 := Ext.cell Y3.out d6
 have d7 := Ext.cell Y3.out d7
 cases bb with
 | true =>
  go_wp2_with fail
  go_ret
  exact ⟨rfl, X3.out⟩
 | false =>
 have hb4 := beginT_any (HMX.out w3 X3.out) (HN.out w3 X3.out) 4
 have hb3 := Lib.hid (fun (w : World) (x : Ext W w) => beginT_any (HMX.out w x) (HN.out w x) 3)
 rw [show decide ((4 : Int) ≤ 4) = true from by decide] at hb4
 rw [show decide ((4 : Int) ≤ 3) = false from by decide] at hb3
 obtain ⟨r4, hr4⟩ : ∃ x, beginS true M = x := ⟨_, rfl⟩
 obtain ⟨r3, hr3⟩ : ∃ x, beginS false M = x := ⟨_, rfl⟩
 rw [hr4] at hb4
 rw [hr3] at hb3
 have HB4 := Lib.hid hb4
 have HR := Lib.hid (And.intro hr4 hr3)
 clear hb4 hr4 hr3
 cases r4 with
 | error x4 =>
  have HX4 := Lib.hid (begin_ne HR.out.1)
  go_upto_region 6 with (go_at_call 15; refine HB4.out.mono ?_; rintro e w4 ⟨hx4, rfl⟩; have X4 := Lib.hid (X3.out.trans hx4); have Y4 := Lib.hid hx4; clear hx4)
  have d0 := Ext.cell Y4.out d0
  have d1 := Ext.cell Y4.out d1
  have d2 := Ext.cell Y4.out d2
  have d3 := Ext.cell Y4.out d3
  have d4 := Ext.cell Y4.out d4
  have d5 := Ext.cell Y4.out d5
  have d6 := Ext.cell Y4.out d6
  have d7 := Ext.cell Y4.out d7
  have HB3 := Lib.hid (hb3.out w4 X4.out)
  clear hb3
  cases r3 with
  | error x3 =>
   have HX3 := Lib.hid (begin_ne HR.out.2)
   go_upto_region 9 with (go_at_call 15; refine HB3.out.mono ?_; rintro e w5 ⟨hx5, rfl⟩; have X5 := Lib.hid (X4.out.trans hx5); have Y5 := Lib.hid hx5; clear hx5)
   have hpv : pv = false := by have := HP.out.2; rw [HR.out.2] at this; exact this
   have hfv : fv = false := by have := HP.out.1; rw [HR.out.1] at this; exact this
   have d0 := Ext.cell Y5.out d0
   have d1 := Ext.cell Y5.out d1
   have d2 := Ext.cell Y5.out d2
   have d3 := Ext.cell Y5.out d3
   have d4 := Ext.cell Y5.out d4
   have d5 := Ext.cell Y5.out d5
   have d6 := Ext.cell Y5.out d6
   have d7 := Ext.cell Y5.out d7
   have k4 : (x4 == 0) = false := by simpa using HX4.out
   subst hfv
   have k3 : (x3 == 0) = false := by simpa using HX3.out
   subst hpv
   go_upto_region 13 with (fail)
   have Z := Lib.hid X5.out
   go_wp2_with (first
    | (go_at_call 18; refine (HFC.out _ Z.out).mono ?_; rintro e w8 ⟨rfl, hx8⟩; have d0 := Ext.cell hx8 d0; have d1 := Ext.cell hx8 d1; have d2 := Ext.cell hx8 d2; have d3 := Ext.cell hx8 d3; have d4 := Ext.cell hx8 d4; have d5 := Ext.cell hx8 d5; have d6 := Ext.cell hx8 d6; have d7 := Ext.cell hx8 d7; have X8 := Lib.hid (Z.out.trans hx8); clear hx8)
    | (go_at_call 19; refine (HPD.out _ X9.out).mono ?_; rintro e w10 ⟨rfl, hx10⟩; have X10 := Lib.hid (X9.out.trans hx10); clear hx10)
    | (go_at_call 19; refine (HPC.out _ X8.out).mono ?_; rintro e w9 ⟨rfl, hx9⟩; have d0 := Ext.cell hx9 d0; have d1 := Ext.cell hx9 d1; have d2 := Ext.cell hx9 d2; have d3 := Ext.cell hx9 d3; have d4 := Ext.cell hx9 d4; have d5 := Ext.cell hx9 d5; have d6 := Ext.cell hx9 d6; have d7 := Ext.cell hx9 d7; have X9 := Lib.hid (X8.out.trans hx9); clear hx9))
   go_ret
   exact ⟨rfl, X9.out⟩
  | ok NL3 =>
   obtain ⟨N3, L3⟩ := NL3
   go_upto_region 9 with (go_at_call 15; refine HB3.out.mono ?_; rintro e w5 ⟨hx5, bt3, vN3, vP3, vK3, rfl, ht3, hg3, hn3⟩; have X5 := Lib.hid (X4.out.trans hx5); have Y5 := Lib.hid hx5; have T3 := Lib.hid ht3; have G3 := Lib.hid hg3; have N3B := Lib.hid hn3; clear hx5 ht3 hg3 hn3)
   have hpv : pv = pairI L3 (numsC N3 M.classes) a b := by have := HP.out.2; rw [HR.out.2] at this; exact this
   have hfv : fv = false := by have := HP.out.1; rw [HR.out.1] at this; exact this
   have d0 := Ext.cell Y5.out d0
   have d1 := Ext.cell Y5.out d1
   have d2 := Ext.cell Y5.out d2
   have d3 := Ext.cell Y5.out d3
   have d4 := Ext.cell Y5.out d4
   have d5 := Ext.cell Y5.out d5
   have d6 := Ext.cell Y5.out d6
   have d7 := Ext.cell Y5.out d7
   have k4 : (x4 == 0) = false := by simpa using HX4.out
   subst hfv
   have hpc := Lib.hid (fun (w : World) (x : Ext w5 w) => pairT2_any (T3.out.ext x) (fun c hc n hn => by
    have h1 := G3.out.nums T3.out.ck.len c hc n hn
    have h2 := T3.out.ck.len
    have h3 := N3B.out
    unfold fits64
    omega) a b)
   rw [← hpv] at hpc
   clear hpv
   go_upto_region 13 with (first | (go_at_call 17; refine (hpc.out _ (Ext.refl _)).mono ?_; rintro e w7 ⟨rfl, hx7⟩; have X7 := Lib.hid hx7; clear hx7))
   have d0 := Ext.cell X7.out d0
   have d1 := Ext.cell X7.out d1
   have d2 := Ext.cell X7.out d2
   have d3 := Ext.cell X7.out d3
   have d4 := Ext.cell X7.out d4
   have d5 := Ext.cell X7.out d5
   have d6 := Ext.cell X7.out d6
   have d7 := Ext.cell X7.out d7
   have Z := Lib.hid (Ext.trans X5.out X7.out)
   cases pv with
   | false =>
    go_wp2_with (first
     | (go_at_call 18; refine (HFC.out _ Z.out).mono ?_; rintro e w8 ⟨rfl, hx8⟩; have d0 := Ext.cell hx8 d0; have d1 := Ext.cell hx8 d1; have d2 := Ext.cell hx8 d2; have d3 := Ext.cell hx8 d3; have d4 := Ext.cell hx8 d4; have d5 := Ext.cell hx8 d5; have d6 := Ext.cell hx8 d6; have d7 := Ext.cell hx8 d7; have X8 := Lib.hid (Z.out.trans hx8); clear hx8)
     | (go_at_call 19; refine (HPD.out _ X9.out).mono ?_; rintro e w10 ⟨rfl, hx10⟩; have X10 := Lib.hid (X9.out.trans hx10); clear hx10)
     | (go_at_call 19; refine (HPC.out _ X8.out).mono ?_; rintro e w9 ⟨rfl, hx9⟩; have d0 := Ext.cell hx9 d0; have d1 := Ext.cell hx9 d1; have d2 := Ext.cell hx9 d2; have d3 := Ext.cell hx9 d3; have d4 := Ext.cell hx9 d4; have d5 := Ext.cell hx9 d5; have d6 := Ext.cell hx9 d6; have d7 := Ext.cell hx9 d7; have X9 := Lib.hid (X8.out.trans hx9); clear hx9))
    go_ret
    exact ⟨rfl, X9.out⟩
   | true =>
    go_wp2_with (first
     | (go_at_call 18; refine (HFC.out _ Z.out).mono ?_; rintro e w8 ⟨rfl, hx8⟩; have d0 := Ext.cell hx8 d0; have d1 := Ext.cell hx8 d1; have d2 := Ext.cell hx8 d2; have d3 := Ext.cell hx8 d3; have d4 := Ext.cell hx8 d4; have d5 := Ext.cell hx8 d5; have d6 := Ext.cell hx8 d6; have d7 := Ext.cell hx8 d7; have X8 := Lib.hid (Z.out.trans hx8); clear hx8)
     | (go_at_call 19; refine (HPD.out _ X9.out).mono ?_; rintro e w10 ⟨rfl, hx10⟩; have X10 := Lib.hid (X9.out.trans hx10); clear hx10)
     | (go_at_call 19; refine (HPC.out _ X8.out).mono ?_; rintro e w9 ⟨rfl, hx9⟩; have d0 := Ext.cell hx9 d0; have d1 := Ext.cell hx9 d1; have d2 := Ext.cell hx9 d2; have d3 := Ext.cell hx9 d3; have d4 := Ext.cell hx9 d4; have d5 := Ext.cell hx9 d5; have d6 := Ext.cell hx9 d6; have d7 := Ext.cell hx9 d7; have X9 := Lib.hid (X8.out.trans hx9); clear hx9))
    go_ret
    exact ⟨rfl, X10.out⟩
 | ok NL4 =>
  obtain ⟨N4L, L4L⟩ := NL4
  go_upto_region 6 with (go_at_call 15; refine HB4.out.mono ?_; rintro e w4 ⟨hx4, bt, vN, vP, vK, rfl, ht, hg, hn2⟩; have X4 := Lib.hid (X3.out.trans hx4); have Y4 := Lib.hid hx4; have T4 := Lib.hid ht; have G4 := Lib.hid hg; have N4 := Lib.hid hn2; clear hx4 ht hg hn2)
  have d0 := Ext.cell Y4.out d0
  have d1 := Ext.cell Y4.out d1
  have d2 := Ext.cell Y4.out d2
  have d3 := Ext.cell Y4.out d3
  have d4 := Ext.cell Y4.out d4
  have d5 := Ext.cell Y4.out d5
  have d6 := Ext.cell Y4.out d6
  have d7 := Ext.cell Y4.out d7
  have HB3 := Lib.hid (hb3.out w4 X4.out)
  clear hb3
  cases r3 with
  | error x3 =>
   have HX3 := Lib.hid (begin_ne HR.out.2)
   go_upto_region 9 with (go_at_call 15; refine HB3.out.mono ?_; rintro e w5 ⟨hx5, rfl⟩; have X5 := Lib.hid (X4.out.trans hx5); have Y5 := Lib.hid hx5; clear hx5)
   have hpv : pv = false := by have := HP.out.2; rw [HR.out.2] at this; exact this
   have hfv : fv = fitsOp M N4L L4L op := by have := HP.out.1; rw [HR.out.1] at this; exact this
   have d0 := Ext.cell Y5.out d0
   have d1 := Ext.cell Y5.out d1
   have d2 := Ext.cell Y5.out d2
   have d3 := Ext.cell Y5.out d3
   have d4 := Ext.cell Y5.out d4
   have d5 := Ext.cell Y5.out d5
   have d6 := Ext.cell Y5.out d6
   have d7 := Ext.cell Y5.out d7
   have k3 : (x3 == 0) = false := by simpa using HX3.out
   subst hpv
   have hfc := fitsT3_any (T4.out.ext Y5.out) G4.out (ops_fine G4.out (begin_ops HR.out.1)) (T4.out.ck.len) N4.out op
   rw [← hfv] at hfc
   have HFT := Lib.hid hfc
   clear hfc hfv
   go_upto_region 13 with (first | (go_at_call 16; refine HFT.out.mono ?_; rintro e w6 ⟨rfl, hx6⟩; have X6 := Lib.hid hx6; clear hx6))
   have d0 := Ext.cell X6.out d0
   have d1 := Ext.cell X6.out d1
   have d2 := Ext.cell X6.out d2
   have d3 := Ext.cell X6.out d3
   have d4 := Ext.cell X6.out d4
   have d5 := Ext.cell X6.out d5
   have d6 := Ext.cell X6.out d6
   have d7 := Ext.cell X6.out d7
   have Z := Lib.hid (Ext.trans X5.out X6.out)
   cases fv with
   | false =>
    go_wp2_with (first
     | (go_at_call 18; refine (HFC.out _ Z.out).mono ?_; rintro e w8 ⟨rfl, hx8⟩; have d0 := Ext.cell hx8 d0; have d1 := Ext.cell hx8 d1; have d2 := Ext.cell hx8 d2; have d3 := Ext.cell hx8 d3; have d4 := Ext.cell hx8 d4; have d5 := Ext.cell hx8 d5; have d6 := Ext.cell hx8 d6; have d7 := Ext.cell hx8 d7; have X8 := Lib.hid (Z.out.trans hx8); clear hx8)
     | (go_at_call 19; refine (HPD.out _ X9.out).mono ?_; rintro e w10 ⟨rfl, hx10⟩; have X10 := Lib.hid (X9.out.trans hx10); clear hx10)
     | (go_at_call 19; refine (HPC.out _ X8.out).mono ?_; rintro e w9 ⟨rfl, hx9⟩; have d0 := Ext.cell hx9 d0; have d1 := Ext.cell hx9 d1; have d2 := Ext.cell hx9 d2; have d3 := Ext.cell hx9 d3; have d4 := Ext.cell hx9 d4; have d5 := Ext.cell hx9 d5; have d6 := Ext.cell hx9 d6; have d7 := Ext.cell hx9 d7; have X9 := Lib.hid (X8.out.trans hx9); clear hx9))
    go_ret
    exact ⟨rfl, X9.out⟩
   | true =>
    go_wp2_with (first
     | (go_at_call 18; refine (HFC.out _ Z.out).mono ?_; rintro e w8 ⟨rfl, hx8⟩; have d0 := Ext.cell hx8 d0; have d1 := Ext.cell hx8 d1; have d2 := Ext.cell hx8 d2; have d3 := Ext.cell hx8 d3; have d4 := Ext.cell hx8 d4; have d5 := Ext.cell hx8 d5; have d6 := Ext.cell hx8 d6; have d7 := Ext.cell hx8 d7; have X8 := Lib.hid (Z.out.trans hx8); clear hx8)
     | (go_at_call 19; refine (HPD.out _ X9.out).mono ?_; rintro e w10 ⟨rfl, hx10⟩; have X10 := Lib.hid (X9.out.trans hx10); clear hx10)
     | (go_at_call 19; refine (HPC.out _ X8.out).mono ?_; rintro e w9 ⟨rfl, hx9⟩; have d0 := Ext.cell hx9 d0; have d1 := Ext.cell hx9 d1; have d2 := Ext.cell hx9 d2; have d3 := Ext.cell hx9 d3; have d4 := Ext.cell hx9 d4; have d5 := Ext.cell hx9 d5; have d6 := Ext.cell hx9 d6; have d7 := Ext.cell hx9 d7; have X9 := Lib.hid (X8.out.trans hx9); clear hx9))
    go_ret
    exact ⟨rfl, X9.out⟩
  | ok NL3 =>
   obtain ⟨N3, L3⟩ := NL3
   go_upto_region 9 with (go_at_call 15; refine HB3.out.mono ?_; rintro e w5 ⟨hx5, bt3, vN3, vP3, vK3, rfl, ht3, hg3, hn3⟩; have X5 := Lib.hid (X4.out.trans hx5); have Y5 := Lib.hid hx5; have T3 := Lib.hid ht3; have G3 := Lib.hid hg3; have N3B := Lib.hid hn3; clear hx5 ht3 hg3 hn3)
   have hpv : pv = pairI L3 (numsC N3 M.classes) a b := by have := HP.out.2; rw [HR.out.2] at this; exact this
   have hfv : fv = fitsOp M N4L L4L op := by have := HP.out.1; rw [HR.out.1] at this; exact this
   have d0 := Ext.cell Y5.out d0
   have d1 := Ext.cell Y5.out d1
   have d2 := Ext.cell Y5.out d2
   have d3 := Ext.cell Y5.out d3
   have d4 := Ext.cell Y5.out d4
   have d5 := Ext.cell Y5.out d5
   have d6 := Ext.cell Y5.out d6
   have d7 := Ext.cell Y5.out d7
   have hfc := fitsT3_any (T4.out.ext Y5.out) G4.out (ops_fine G4.out (begin_ops HR.out.1)) (T4.out.ck.len) N4.out op
   rw [← hfv] at hfc
   have HFT := Lib.hid hfc
   clear hfc hfv
   have hpc := Lib.hid (fun (w : World) (x : Ext w5 w) => pairT2_any (T3.out.ext x) (fun c hc n hn => by
    have h1 := G3.out.nums T3.out.ck.len c hc n hn
    have h2 := T3.out.ck.len
    have h3 := N3B.out
    unfold fits64
    omega) a b)
   rw [← hpv] at hpc
   clear hpv
   go_upto_region 13 with (first | (go_at_call 16; refine HFT.out.mono ?_; rintro e w6 ⟨rfl, hx6⟩; have X6 := Lib.hid hx6; clear hx6) | (go_at_call 17; refine (hpc.out _ X6.out).mono ?_; rintro e w7 ⟨rfl, hx7⟩; have X7 := Lib.hid hx7; clear hx7))
   have d0 := Ext.cell X6.out d0
   have d1 := Ext.cell X6.out d1
   have d2 := Ext.cell X6.out d2
   have d3 := Ext.cell X6.out d3
   have d4 := Ext.cell X6.out d4
   have d5 := Ext.cell X6.out d5
   have d6 := Ext.cell X6.out d6
   have d7 := Ext.cell X6.out d7
   have d0 := Ext.cell X7.out d0
   have d1 := Ext.cell X7.out d1
   have d2 := Ext.cell X7.out d2
   have d3 := Ext.cell X7.out d3
   have d4 := Ext.cell X7.out d4
   have d5 := Ext.cell X7.out d5
   have d6 := Ext.cell X7.out d6
   have d7 := Ext.cell X7.out d7
   have Z := Lib.hid (Ext.trans (Ext.trans X5.out X6.out) X7.out)
   cases fv with
   | false =>
    cases pv with
    | false =>
     go_wp2_with (first
      | (go_at_call 18; refine (HFC.out _ Z.out).mono ?_; rintro e w8 ⟨rfl, hx8⟩; have d0 := Ext.cell hx8 d0; have d1 := Ext.cell hx8 d1; have d2 := Ext.cell hx8 d2; have d3 := Ext.cell hx8 d3; have d4 := Ext.cell hx8 d4; have d5 := Ext.cell hx8 d5; have d6 := Ext.cell hx8 d6; have d7 := Ext.cell hx8 d7; have X8 := Lib.hid (Z.out.trans hx8); clear hx8)
      | (go_at_call 19; refine (HPD.out _ X9.out).mono ?_; rintro e w10 ⟨rfl, hx10⟩; have X10 := Lib.hid (X9.out.trans hx10); clear hx10)
      | (go_at_call 19; refine (HPC.out _ X8.out).mono ?_; rintro e w9 ⟨rfl, hx9⟩; have d0 := Ext.cell hx9 d0; have d1 := Ext.cell hx9 d1; have d2 := Ext.cell hx9 d2; have d3 := Ext.cell hx9 d3; have d4 := Ext.cell hx9 d4; have d5 := Ext.cell hx9 d5; have d6 := Ext.cell hx9 d6; have d7 := Ext.cell hx9 d7; have X9 := Lib.hid (X8.out.trans hx9); clear hx9))
     go_ret
     exact ⟨rfl, X9.out⟩
    | true =>
     go_wp2_with (first
      | (go_at_call 18; refine (HFC.out _ Z.out).mono ?_; rintro e w8 ⟨rfl, hx8⟩; have d0 := Ext.cell hx8 d0; have d1 := Ext.cell hx8 d1; have d2 := Ext.cell hx8 d2; have d3 := Ext.cell hx8 d3; have d4 := Ext.cell hx8 d4; have d5 := Ext.cell hx8 d5; have d6 := Ext.cell hx8 d6; have d7 := Ext.cell hx8 d7; have X8 := Lib.hid (Z.out.trans hx8); clear hx8)
      | (go_at_call 19; refine (HPD.out _ X9.out).mono ?_; rintro e w10 ⟨rfl, hx10⟩; have X10 := Lib.hid (X9.out.trans hx10); clear hx10)
      | (go_at_call 19; refine (HPC.out _ X8.out).mono ?_; rintro e w9 ⟨rfl, hx9⟩; have d0 := Ext.cell hx9 d0; have d1 := Ext.cell hx9 d1; have d2 := Ext.cell hx9 d2; have d3 := Ext.cell hx9 d3; have d4 := Ext.cell hx9 d4; have d5 := Ext.cell hx9 d5; have d6 := Ext.cell hx9 d6; have d7 := Ext.cell hx9 d7; have X9 := Lib.hid (X8.out.trans hx9); clear hx9))
     go_ret
     exact ⟨rfl, X10.out⟩
   | true =>
    cases pv with
    | false =>
     go_wp2_with (first
      | (go_at_call 18; refine (HFC.out _ Z.out).mono ?_; rintro e w8 ⟨rfl, hx8⟩; have d0 := Ext.cell hx8 d0; have d1 := Ext.cell hx8 d1; have d2 := Ext.cell hx8 d2; have d3 := Ext.cell hx8 d3; have d4 := Ext.cell hx8 d4; have d5 := Ext.cell hx8 d5; have d6 := Ext.cell hx8 d6; have d7 := Ext.cell hx8 d7; have X8 := Lib.hid (Z.out.trans hx8); clear hx8)
      | (go_at_call 19; refine (HPD.out _ X9.out).mono ?_; rintro e w10 ⟨rfl, hx10⟩; have X10 := Lib.hid (X9.out.trans hx10); clear hx10)
      | (go_at_call 19; refine (HPC.out _ X8.out).mono ?_; rintro e w9 ⟨rfl, hx9⟩; have d0 := Ext.cell hx9 d0; have d1 := Ext.cell hx9 d1; have d2 := Ext.cell hx9 d2; have d3 := Ext.cell hx9 d3; have d4 := Ext.cell hx9 d4; have d5 := Ext.cell hx9 d5; have d6 := Ext.cell hx9 d6; have d7 := Ext.cell hx9 d7; have X9 := Lib.hid (X8.out.trans hx9); clear hx9))
     go_ret
     exact ⟨rfl, X9.out⟩
    | true =>
     go_wp2_with (first
      | (go_at_call 18; refine (HFC.out _ Z.out).mono ?_; rintro e w8 ⟨rfl, hx8⟩; have d0 := Ext.cell hx8 d0; have d1 := Ext.cell hx8 d1; have d2 := Ext.cell hx8 d2; have d3 := Ext.cell hx8 d3; have d4 := Ext.cell hx8 d4; have d5 := Ext.cell hx8 d5; have d6 := Ext.cell hx8 d6; have d7 := Ext.cell hx8 d7; have X8 := Lib.hid (Z.out.trans hx8); clear hx8)
      | (go_at_call 19; refine (HPD.out _ X9.out).mono ?_; rintro e w10 ⟨rfl, hx10⟩; have X10 := Lib.hid (X9.out.trans hx10); clear hx10)
      | (go_at_call 19; refine (HPC.out _ X8.out).mono ?_; rintro e w9 ⟨rfl, hx9⟩; have d0 := Ext.cell hx9 d0; have d1 := Ext.cell hx9 d1; have d2 := Ext.cell hx9 d2; have d3 := Ext.cell hx9 d3; have d4 := Ext.cell hx9 d4; have d5 := Ext.cell hx9 d5; have d6 := Ext.cell hx9 d6; have d7 := Ext.cell hx9 d7; have X9 := Lib.hid (X8.out.trans hx9); clear hx9))
     go_ret
     exact ⟨rfl, X10.out⟩
end Go.Proofs.Ythomndfagpeniaa
