/- The laws of tables: both tables made, and which pairs of registers lap. -/
import Derived.Test.YtligiddaampneaaGreatTv
namespace Go.Proofs.YtligiddaampneaaGreat
open Go.RowKit
attribute [local go_sem] Oper.semAt_some
theorem head_lenT {M:Mach} {N:List ByteArray} {L:List Pl} (h:headS M=.ok (N,L)):L.length=N.length∧∀ p∈L,p.tight:=by
 unfold headS at h
 split at h
 ·cases hp:placesS M.regs with
  | error x=>rw [hp] at h;cases h
  | ok σ =>
   rw [hp] at h
   dsimp only at h
   have hg:=placesS_tight hp
   split at h
   ·cases h;exact ⟨hg.1.lp,hg.2⟩
   ·cases h
 ·cases h
theorem begin_headT {four:Bool} {M:Mach} {N:List ByteArray} {L:List Pl} (h:beginS four M=.ok (N,L)):headS M=.ok (N,L):=by
 unfold beginS at h
 cases hd:headS M with
 | error x=>rw [hd] at h;cases h
 | ok r =>
  obtain ⟨N2,L2⟩:=r
  rw [hd] at h
  dsimp only at h
  split at h
  ·cases h;rfl
  ·cases h
def MakeLPost (W:World) (M:Mach) (e:Ending) (w':World):Prop:=Ext W w'∧match checkS M with
 | .error _=>e=.returned (.tuple #[.pointer none,.pointer none,.bool true])
 | .ok _=>∃ bt V br VR vK N L,e=.returned (.tuple #[.pointer (some ⟨bt,0,none⟩),.pointer (some ⟨br,0,none⟩),.bool true])∧Taken M N L∧TblIn w' bt V M N L∧TabIn w' w'.heap.size br VR vK M N L (numsC N M.classes)∧W.heap.size≤bt
set_option maxRecDepth 100000 in
set_option maxHeartbeats 8000000 in
theorem makeL_any {W:World} {M:Mach} {n0:Nat} {vR vC vO vA vS:Value} (hm:MachIn W n0 vR vC vO vA vS M) (hn:n0≤W.heap.size) :
  Calls Tryz.prog 11 #[.agg #[.string M.name,vR,vC,vO,vA,.string M.result,vS,.int .i64 M.slots]] W (MakeLPost W M):=by
 obtain ⟨aR,cR,rfl,_,_⟩:=hm.regs.form
 obtain ⟨aC,cC,rfl,_,_⟩:=hm.cls.form
 obtain ⟨aO,cO,rfl,_,_⟩:=hm.ops.form
 obtain ⟨aA,cA,rfl,_,_⟩:=hm.args.form
 obtain ⟨aS,cS,rfl,_,_⟩:=hm.saved.form
 have x0:Ext W (W.alloc (.cells #[.string M.name,.slice aR M.regs.length cR,.slice aC M.classes.length cC,.slice aO M.ops.length cO,.slice aA M.args.length cA,.string M.result,.slice aS M.saved.length cS,.int .i64 M.slots] 27)):=Ext.alloc _ _
 have hcc:=cells_one W [.string M.name,.slice aR M.regs.length cR,.slice aC M.classes.length cC,.slice aO M.ops.length cO,.slice aA M.args.length cA,.string M.result,.slice aS M.saved.length cS,.int .i64 M.slots] 27
 have d0:=hcc 0 _ rfl
 have d1:=hcc 1 _ rfl
 have d2:=hcc 2 _ rfl
 have d3:=hcc 3 _ rfl
 have d4:=hcc 4 _ rfl
 have d5:=hcc 5 _ rfl
 have d6:=hcc 6 _ rfl
 have d7:=hcc 7 _ rfl
 have HMT:Hid (∀ w,Ext W w→Calls Tryz.prog 41 #[.agg #[.string M.name,.slice aR M.regs.length cR,.slice aC M.classes.length cC,.slice aO M.ops.length cO,.slice aA M.args.length cA,.string M.result,.slice aS M.saved.length cS,.int .i64 M.slots]] w (TMakePost w M)):=Lib.hid (fun w x=>makeTable_any (hm.same fun k hk=>Below.block x k (by omega)) (Nat.le_trans hn x.size))
 have HMR:Hid (∀ w,Ext W w→Calls Tryz.prog 39 #[.agg #[.string M.name,.slice aR M.regs.length cR,.slice aC M.classes.length cC,.slice aO M.ops.length cO,.slice aA M.args.length cA,.string M.result,.slice aS M.saved.length cS,.int .i64 M.slots]] w (MakePost w ⟨.slice aR M.regs.length cR,.slice aC M.classes.length cC,.slice aO M.ops.length cO,.slice aA M.args.length cA,.slice aS M.saved.length cS,.slice none 0 0,.slice none 0 0⟩ M)):=Lib.hid (fun w x=>makeT_any (hm.same fun k hk=>Below.block x k (by omega)) (Nat.le_trans hn x.size))
 have hk:=make_code (M:=M) (fun N L h=>head_lenT h)
 clear hcc hm
 go_enter Tryz.func11,Tryz.ntmps11
 go_upto_region 1 with (fail)
 generalize W.alloc (.cells #[.string M.name,.slice aR M.regs.length cR,.slice aC M.classes.length cC,.slice aO M.ops.length cO,.slice aA M.args.length cA,.string M.result,.slice aS M.saved.length cS,.int .i64 M.slots] 27)=w1 at x0 d0 d1 d2 d3 d4 d5 d6 d7 ⊢
 generalize W.heap.size=b0 at d0 d1 d2 d3 d4 d5 d6 d7 ⊢
 have X0:=Lib.hid x0
 clear x0
 cases hc:checkS M with
 | error x =>
  have hx:=check_ne hc
  rw [hc] at hk
  have hk:makeR M=x:=hk
  have HK:=Lib.hid (And.intro hk (And.intro hx hc))
  clear hk hx hc
  go_upto_region 2 with (go_at_call 41;refine (HMT.out w1 X0.out).mono ?_;intro e w2 hmk;unfold TMakePost at hmk;rw [HK.out.2.2] at hmk;obtain ⟨hx2,rfl⟩:=hmk;have X2:=Lib.hid (X0.out.trans hx2);have Y2:=Lib.hid hx2;clear hx2)
  have d0:=Ext.cell Y2.out d0
  have d1:=Ext.cell Y2.out d1
  have d2:=Ext.cell Y2.out d2
  have d3:=Ext.cell Y2.out d3
  have d4:=Ext.cell Y2.out d4
  have d5:=Ext.cell Y2.out d5
  have d6:=Ext.cell Y2.out d6
  have d7:=Ext.cell Y2.out d7
  go_wp2_with (first
   | (go_at_call 39;refine (HMR.out w2 X2.out).mono ?_;rintro e w3 ⟨hx3,v,rfl,_,hv⟩;have hv2:=hv (by rw [HK.out.1];exact HK.out.2.1);subst hv2;rw [HK.out.1];have X3:=Lib.hid (X2.out.trans hx3);clear hx3 hv)
   | (go_at_call 42;refine (num7_any _ _).mono ?_;rintro e w ⟨rfl,rfl⟩))
  refine bodyPost_ret (v:=.tuple #[.pointer none,.pointer none,.bool true]) (by simp [results,Tryz.results11,go_sem]) rfl ?_
  unfold MakeLPost
  rw [HK.out.2.2]
  exact ⟨X3.out,rfl⟩
 | ok u =>
  rw [hc] at hk
  have hk:makeR M=0:=hk
  have HK:=Lib.hid (And.intro hk hc)
  clear hk hc
  go_upto_region 2 with (go_at_call 41;refine (HMT.out w1 X0.out).mono ?_;intro e w2 hmk;unfold TMakePost at hmk;rw [HK.out.2] at hmk;obtain ⟨hx2,bt,V,N,L,rfl,hbt,hT,hTB⟩:=hmk;have X2:=Lib.hid (X0.out.trans hx2);have Y2:=Lib.hid hx2;have TK:=Lib.hid hT;have TB:=Lib.hid hTB;clear hx2 hT hTB)
  have d0:=Ext.cell Y2.out d0
  have d1:=Ext.cell Y2.out d1
  have d2:=Ext.cell Y2.out d2
  have d3:=Ext.cell Y2.out d3
  have d4:=Ext.cell Y2.out d4
  have d5:=Ext.cell Y2.out d5
  have d6:=Ext.cell Y2.out d6
  have d7:=Ext.cell Y2.out d7
  go_wp2_with (first
   | (go_at_call 39;refine (HMR.out w2 X2.out).mono ?_;rintro e w3 ⟨hx3,v,rfl,hv,_⟩;obtain ⟨br,vN,vP,vK,N2,L2,rfl,hbg,hTR,_,_⟩:=hv HK.out.1;rw [HK.out.1];have X3:=Lib.hid (X2.out.trans hx3);have Y3:=Lib.hid hx3;have HBG:=Lib.hid hbg;have TR:=Lib.hid hTR;clear hx3 hv hbg hTR)
   | (go_at_call 42;refine (num7_any _ _).mono ?_;rintro e w ⟨rfl,rfl⟩))
  refine bodyPost_ret (v:=.tuple #[.pointer (some ⟨bt,0,none⟩),.pointer (some ⟨br,0,none⟩),.bool true]) (by simp [results,Tryz.results11,go_sem]) rfl ?_
  unfold MakeLPost
  rw [HK.out.2]
  have h:=(begin_headT HBG.out).symm.trans TK.out.head
  injection h with h
  injection h with h1 h2
  subst h1 h2
  exact ⟨X3.out,bt,V,br,_,vK,_,_,rfl,TK.out,TB.out.ext Y3.out,TR.out,Nat.le_trans X0.out.size hbt⟩
set_option maxRecDepth 100000 in
set_option maxHeartbeats 8000000 in
theorem tableLap_any {W:World} {M:Mach} {n0:Nat} {vR vC vO vA vS:Value} (hm:MachIn W n0 vR vC vO vA vS M) (hn:n0≤W.heap.size) (a b:Int) (ha:fits64 a) (hb:fits64 b) :
  Calls Tryz.prog 3 #[.agg #[.string M.name,vR,vC,vO,vA,.string M.result,vS,.int .i64 M.slots],.int .i64 a,.int .i64 b] W fun e W'=>e=.returned (.bool true)∧Ext W W':=by
 obtain ⟨aR,cR,rfl,_,_⟩:=hm.regs.form
 obtain ⟨aC,cC,rfl,_,_⟩:=hm.cls.form
 obtain ⟨aO,cO,rfl,_,_⟩:=hm.ops.form
 obtain ⟨aA,cA,rfl,_,_⟩:=hm.args.form
 obtain ⟨aS,cS,rfl,_,_⟩:=hm.saved.form
 have x0:Ext W (W.alloc (.cells #[.string M.name,.slice aR M.regs.length cR,.slice aC M.classes.length cC,.slice aO M.ops.length cO,.slice aA M.args.length cA,.string M.result,.slice aS M.saved.length cS,.int .i64 M.slots] 27)):=Ext.alloc _ _
 have bm:=heap_alloc_new W (.cells #[.string M.name,.slice aR M.regs.length cR,.slice aC M.classes.length cC,.slice aO M.ops.length cO,.slice aA M.args.length cA,.string M.result,.slice aS M.saved.length cS,.int .i64 M.slots] 27)
 have HBIG:=Lib.hid (fun (w:World) (x:Ext W w)=>bigR_any (hm.same (W':=w) fun k hk=>Below.block x k (by omega)) (Nat.le_trans hn x.size))
 have HMK:=Lib.hid (fun (w:World) (x:Ext W w)=>makeL_any (hm.same (W':=w) fun k hk=>Below.block x k (by omega)) (Nat.le_trans hn x.size))
 clear hm
 go_enter Tryz.func3,Tryz.ntmps3
 go_upto_region 1 with (fail)
 generalize W.alloc (.cells #[.string M.name,.slice aR M.regs.length cR,.slice aC M.classes.length cC,.slice aO M.ops.length cO,.slice aA M.args.length cA,.string M.result,.slice aS M.saved.length cS,.int .i64 M.slots] 27)=w1 at x0 bm ⊢
 generalize W.heap.size=b0 at bm ⊢
 have X0:=Lib.hid x0
 clear x0
 have BM:=Lib.hid bm
 clear bm
 go_upto_region 2 with (go_at_call 9;refine (alive7_any _).mono ?_;rintro e w2 ⟨rfl,hx2⟩;have X2:=Lib.hid (X0.out.trans hx2);have BM:=Lib.hid (hx2.block BM.out);clear hx2)
 have d0:=blk_cell BM.out 0 _ rfl
 have d1:=blk_cell BM.out 1 _ rfl
 have d2:=blk_cell BM.out 2 _ rfl
 have d3:=blk_cell BM.out 3 _ rfl
 have d4:=blk_cell BM.out 4 _ rfl
 have d5:=blk_cell BM.out 5 _ rfl
 have d6:=blk_cell BM.out 6 _ rfl
 have d7:=blk_cell BM.out 7 _ rfl
 go_upto_region 3 with (go_at_call 10;refine (HBIG.out w2 X2.out).mono ?_;rintro e w3 ⟨⟨bb,rfl⟩,hx3⟩;have X3:=Lib.hid (X2.out.trans hx3);have BM:=Lib.hid (hx3.block BM.out);clear hx3)
 clear d0 d1 d2 d3 d4 d5 d6 d7
 cases bb with
 | true =>
  go_wp2_with fail
  go_ret
  exact ⟨rfl,X3.out⟩
 | false =>
 have d0:=blk_cell BM.out 0 _ rfl
 have d1:=blk_cell BM.out 1 _ rfl
 have d2:=blk_cell BM.out 2 _ rfl
 have d3:=blk_cell BM.out 3 _ rfl
 have d4:=blk_cell BM.out 4 _ rfl
 have d5:=blk_cell BM.out 5 _ rfl
 have d6:=blk_cell BM.out 6 _ rfl
 have d7:=blk_cell BM.out 7 _ rfl
 have hmk:=HMK.out w3 X3.out
 unfold MakeLPost at hmk
 cases hc:checkS M with
 | error x =>
  rw [hc] at hmk
  have HMK:=Lib.hid hmk
  clear hmk hc
  go_wp2_with (go_at_call 11;refine HMK.out.mono ?_;rintro e w4 ⟨hx4,rfl⟩;have X4:=Lib.hid (X3.out.trans hx4);clear hx4)
  go_ret
  exact ⟨rfl,X4.out⟩
 | ok u =>
  rw [hc] at hmk
  have HMK:=Lib.hid hmk
  clear hmk hc
  go_upto_region 6 with (go_at_call 11;refine HMK.out.mono ?_;rintro e w4 ⟨hx4,bt,V,br,VR,vK,N,L,rfl,hT,hTB,hTR,_⟩;have X4:=Lib.hid (X3.out.trans hx4);have TK:=Lib.hid hT;have TB:=Lib.hid hTB;have TR:=Lib.hid hTR;clear hx4 hT hTB hTR)
  clear d0 d1 d2 d3 d4 d5 d6 d7
  have hl2:L.length≤200:=by rw [TK.out.len];exact TK.out.le
  obtain ⟨lb,hlb⟩:∃ x,lapI L a b=x:=⟨_,rfl⟩
  have H1:Hid (∀ w,Ext w4 w→Calls Tryz.prog 12 #[.pointer (some ⟨bt,0,none⟩),.int .i64 a,.int .i64 b] w fun e w'=>e=.returned (.bool lb)∧Ext w w'):=Lib.hid (fun w x=>by have:=lap2_any (TB.out.ext x) hl2 a b hb;rw [hlb] at this;exact this)
  have H2:Hid (∀ w,Ext w4 w→Calls Tryz.prog 12 #[.pointer (some ⟨bt,0,none⟩),.int .i64 b,.int .i64 a] w fun e w'=>e=.returned (.bool lb)∧Ext w w'):=Lib.hid (fun w x=>by have:=lap2_any (TB.out.ext x) hl2 b a ha;rw [lapI_comm TK.out.tight,hlb] at this;exact this)
  have H3:Hid (∀ w,Ext w4 w→Calls Tryz.prog 13 #[.pointer (some ⟨br,0,none⟩),.int .i64 a,.int .i64 b] w fun e w'=>e=.returned (.bool lb)∧Ext w w'):=Lib.hid (fun w x=>by have:=lapT_any (TR.out.ext x) a b ha hb;rw [hlb] at this;exact this)
  clear hlb
  have hbb:(lb == lb)=true:=by simp
  go_wp2_with (first
   | (go_at_call 13;refine (H3.out _ Y5.out).mono ?_;rintro e w6 ⟨rfl,hx6⟩;have Y6:=Lib.hid (Y5.out.trans hx6);clear hx6)
   | (go_at_call 12;(with_reducible refine (H1.out w4 (Ext.refl _)).mono ?_);rintro e w5 ⟨rfl,hx5⟩;have Y5:=Lib.hid hx5;clear hx5)
   | (go_at_call 12;(with_reducible refine (H2.out w6 Y6.out).mono ?_);rintro e w7 ⟨rfl,hx7⟩;have Y7:=Lib.hid (Y6.out.trans hx7);clear hx7)
   | (go_at_call 12;(with_reducible refine (H1.out w7 Y7.out).mono ?_);rintro e w8 ⟨rfl,hx8⟩;have Y8:=Lib.hid (Y7.out.trans hx8);clear hx8))
  go_ret
  exact ⟨ret_bool (by simp),X4.out.trans Y8.out⟩
end Go.Proofs.YtligiddaampneaaGreat
