/- The law's function, whole: MdcheckChecks, for every description that lies in memory. -/
import Derived.Test.YthomndfagpeniaaChecksP
import Derived.Test.YthomndfagpeniaaMgG
-- shrunk
namespace Go.Proofs.Ythomndfagpeniaa
open Go.RowKit
attribute [local go_sem] Oper.semAt_some

set_option maxRecDepth 100000 in
set_option maxHeartbeats 16000000 in
theorem checks_any {W : World} {M : Mach} {n0 : Nat} {vR vC vO vA vS : Value} (hm : MachIn W n0 vR vC vO vA vS M) (hn : n0 ≤ W.heap.size) :
  Calls Try.prog 3 #[.agg #[.string M.name, vR, vC, vO, vA, .string M.result, vS, .int .i64 M.slots]] W fun e W' => e = .returned (.bool true) ∧ Ext W W' := by
 obtain ⟨aR, cR, rfl, _, _⟩ := hm.regs.form
 obtain ⟨aC, cC, rfl, _, _⟩ := hm.cls.form
 obtain ⟨aO, cO, rfl, _, _⟩ := hm.ops.form
 obtain ⟨aA, cA, rfl, _, _⟩ := hm.args.form
 obtain ⟨aS, cS, rfl, _, _⟩ := hm.saved.form
 have HM := Lib.hid hm
 have hcc := cells_one W [.string M.name, .slice aR M.regs.length cR, .slice aC M.classes.length cC, .slice aO M.ops.length cO, .slice aA M.args.length cA, .string M.result, .slice aS M.saved.length cS, .int .i64 M.slots] 27
 have d0 := hcc 0 _ rfl
 have d1 := hcc 1 _ rfl
 have d2 := hcc 2 _ rfl
 have d3 := hcc 3 _ rfl
 have d4 := hcc 4 _ rfl
 have d5 := hcc 5 _ rfl
 have d6 := hcc 6 _ rfl
 have d7 := hcc 7 _ rfl
 have x0 : Ext W (W.alloc (.cells #[.string M.name, .slice aR M.regs.length cR, .slice aC M.classes.length cC, .slice aO M.ops.length cO, .slice aA M.args.length cA, .string M.result, .slice aS M.saved.length cS, .int .i64 M.slots] 27)) := Ext.alloc _ _
 have HMX := Lib.hid (fun (w : World) (x : Ext W w) => HM.out.same fun k hk => Below.block x k (Nat.lt_of_lt_of_le hk hn))
 have HN := Lib.hid (fun (w : World) (x : Ext W w) => Nat.le_trans hn x.size)
 have hk := make_code (M := M) (fun N L h => head_len h)
 obtain ⟨k, hk2⟩ : ∃ k, codeOf (checkS M) = k := ⟨_, rfl⟩
 rw [hk2] at hk
 have HK := Lib.hid (And.intro hk hk2)
 clear hcc hm hn hk hk2
 go_enter Try.func3, Try.ntmps3
 go_upto_region 1 with (fail)
 generalize W.alloc (.cells #[.string M.name, .slice aR M.regs.length cR, .slice aC M.classes.length cC, .slice aO M.ops.length cO, .slice aA M.args.length cA, .string M.result, .slice aS M.saved.length cS, .int .i64 M.slots] 27) = w1 at x0 d0 d1 d2 d3 d4 d5 d6 d7 ⊢
 generalize W.heap.size = b0 at d0 d1 d2 d3 d4 d5 d6 d7 ⊢
 have X0 := Lib.hid x0
 clear x0
 go_upto_region 2 with (go_at_call 9; refine (alive_any _).mono ?_; rintro e w2 ⟨rfl, hx2⟩; have X2 := Lib.hid (X0.out.trans hx2); have Y2 := Lib.hid hx2; clear hx2)
 have d0 := Ext.cell Y2.out d0
 have d1 := Ext.cell Y2.out d1
 have d2 := Ext.cell Y2.out d2
 have d3 := Ext.cell Y2.out d3
 have d4 := Ext.cell Y2.out d4
 have d5 := Ext.cell Y2.out d5
 have d6 := Ext.cell Y2.out d6
 have d7 := Ext.cell Y2.out d7
 have hbig := Lib.hid (bigR_any (HMX.out w2 X2.out) (HN.out w2 X2.out))
 go_upto_region 3 with (go_at_call 10; refine hbig.out.mono ?_; rintro e w3 ⟨⟨bb, rfl⟩, hx3⟩; have X3 := Lib.hid (X2.out.trans hx3); have Y3 := Lib.hid hx3; clear hx3)
 have d0 := Ext.cell Y3.out d0
 have d1 := Ext.cell Y3.out d1
 have d2 := Ext.cell Y3.out d2
 have d3 := Ext.cell Y3.out d3
 have d4 := Ext.cell Y3.out d4
 have d5 := Ext.cell Y3.out d5
 have d6 := Ext.cell Y3.out d6
 have d7 := Ext.cell Y3.out d7
 cases bb with
 | true =>
  go_wp2_with fail
  go_ret
  exact ⟨rfl, X3.out⟩
 | false =>
 have hck := checkM (HMX.out w3 X3.out) (HN.out w3 X3.out)
 rw [HK.out.2] at hck
 have HCK := Lib.hid hck
 clear hck
 go_upto_region 6 with (go_at_call 11; refine HCK.out.mono ?_; rintro e w4 ⟨rfl, hx4⟩; have X4 := Lib.hid (X3.out.trans hx4); have Y4 := Lib.hid hx4; clear hx4)
 have d0 := Ext.cell Y4.out d0
 have d1 := Ext.cell Y4.out d1
 have d2 := Ext.cell Y4.out d2
 have d3 := Ext.cell Y4.out d3
 have d4 := Ext.cell Y4.out d4
 have d5 := Ext.cell Y4.out d5
 have d6 := Ext.cell Y4.out d6
 have d7 := Ext.cell Y4.out d7
 have hmk := makeT_any (HMX.out w4 X4.out) (HN.out w4 X4.out)
 unfold MakePost at hmk
 rw [HK.out.1] at hmk
 have HMK := Lib.hid hmk
 clear hmk
 go_wp2_with (first
  | (go_at_call 12; refine HMK.out.mono ?_; rintro e w5 ⟨hx5, v, rfl, _⟩; have X5 := Lib.hid (X4.out.trans hx5); clear hx5)
  | (go_at_call 13; refine (num_any _ _).mono ?_; rintro e w ⟨rfl, rfl⟩))
 go_ret
 exact ⟨by simp, X5.out⟩
end Go.Proofs.Ythomndfagpeniaa
