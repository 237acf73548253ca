/- The law of what a table keeps (TableKeeps), whole. -/
import Derived.Test.YtligiddaampneaaGreatUj
import Derived.Test.YtligiddaampneaaGreatUk
import Derived.Test.YtligiddaampneaaGreatUg
import Derived.Test.YtligiddaampneaaGreatTz
set_option maxRecDepth 100000
set_option maxHeartbeats 16000000
namespace Go.Proofs.YtligiddaampneaaGreat
open Go.RowKit
attribute [local go_sem] Oper.semAt_some
theorem tableKeeps_any {W:World} {M:Mach} {n0:Nat} {vR vC vO vA vS:Value} (hm:MachIn W n0 vR vC vO vA vS M) (hn:n0≤W.heap.size) :
  Calls Tryz.prog 8 #[.agg #[.string M.name,vR,vC,vO,vA,.string M.result,vS,.int .i64 M.slots]] W fun e W'=>e=.returned (.bool true)∧Ext W W':=by
 obtain ⟨aR,cR,rfl,_,_⟩:=hm.regs.form
 obtain ⟨aC,cC,rfl,_,_⟩:=hm.cls.form
 obtain ⟨aO,cO,rfl,_,_⟩:=hm.ops.form
 obtain ⟨aA,cA,rfl,_,_⟩:=hm.args.form
 obtain ⟨aS,cS,rfl,_,_⟩:=hm.saved.form
 have x0:Ext W (W.alloc (.cells #[.string M.name,.slice aR M.regs.length cR,.slice aC M.classes.length cC,.slice aO M.ops.length cO,.slice aA M.args.length cA,.string M.result,.slice aS M.saved.length cS,.int .i64 M.slots] 27)):=Ext.alloc _ _
 have bm:=heap_alloc_new W (.cells #[.string M.name,.slice aR M.regs.length cR,.slice aC M.classes.length cC,.slice aO M.ops.length cO,.slice aA M.args.length cA,.string M.result,.slice aS M.saved.length cS,.int .i64 M.slots] 27)
 have HM:Hid (∀ w,Ext W w→MachIn w n0 (.slice aR M.regs.length cR) (.slice aC M.classes.length cC) (.slice aO M.ops.length cO) (.slice aA M.args.length cA) (.slice aS M.saved.length cS) M):=qh (fun w x=>hm.same (W':=w) fun k hk=>Below.block x k (by omega))
 have HN:=qh hn
 have HBIG:=qh (fun (w:World) (x:Ext W w)=>bigR_any (HM.out w x) (Nat.le_trans hn x.size))
 have HMR:=qh (fun (w:World) (x:Ext W w)=>makeT2_any (HM.out w x) (Nat.le_trans hn x.size))
 have hk:=make_code (M:=M) (fun N L h=>head_lenT h)
 clear hm
 go_enter Tryz.func8,Tryz.ntmps8
 go_upto_region 1 with (fail)
 generalize W.alloc (.cells #[.string M.name,.slice aR M.regs.length cR,.slice aC M.classes.length cC,.slice aO M.ops.length cO,.slice aA M.args.length cA,.string M.result,.slice aS M.saved.length cS,.int .i64 M.slots] 27)=w1 at x0 bm ⊢
 generalize hb0:W.heap.size=b0 at bm hn ⊢
 have HB0:=qh hb0
 clear hb0 hn
 have X0:=qh x0
 clear x0
 have BM:=qh bm
 clear bm
 go_upto_region 2 with (go_at_call 9;refine (alive7_any _).mono ?_;rintro e w2 ⟨rfl,hx2⟩;have X2:=qh (X0.out.trans hx2);have BM:=qh (hx2.block BM.out);clear hx2)
 have d0:=blk_cell BM.out 0 _ rfl
 have d1:=blk_cell BM.out 1 _ rfl
 have d2:=blk_cell BM.out 2 _ rfl
 have d3:=blk_cell BM.out 3 _ rfl
 have d4:=blk_cell BM.out 4 _ rfl
 have d5:=blk_cell BM.out 5 _ rfl
 have d6:=blk_cell BM.out 6 _ rfl
 have d7:=blk_cell BM.out 7 _ rfl
 go_upto_region 3 with (go_at_call 10;refine (HBIG.out w2 X2.out).mono ?_;rintro e w3 ⟨⟨bb,rfl⟩,hx3⟩;have X3:=qh (X2.out.trans hx3);have BM:=qh (hx3.block BM.out);clear hx3)
 clear d0 d1 d2 d3 d4 d5 d6 d7
 have d0:=blk_cell BM.out 0 _ rfl
 have d1:=blk_cell BM.out 1 _ rfl
 have d2:=blk_cell BM.out 2 _ rfl
 have d3:=blk_cell BM.out 3 _ rfl
 have d4:=blk_cell BM.out 4 _ rfl
 have d5:=blk_cell BM.out 5 _ rfl
 have d6:=blk_cell BM.out 6 _ rfl
 have d7:=blk_cell BM.out 7 _ rfl
 cases hc:checkS M with
 | error x =>
  have hx:=check_ne hc
  rw [hc] at hk
  have hk:makeR M=x:=hk
  have HK:=qh (And.intro hk hx)
  have hxz:(x != 0)=true:=by simp [hx]
  clear hk hx hc
  go_upto_region 4 with (go_at_call 39;refine (HMR.out w3 X3.out).mono ?_;rintro e w4 ⟨hx4,v,rfl,_,hv⟩;have hv2:=hv (by rw [HK.out.1];exact HK.out.2);subst hv2;rw [HK.out.1];have X4:=qh (X3.out.trans hx4);clear hx4 hv)
  cases bb with
  | true =>
   go_wp2_with fail
   go_ret
   exact ⟨rfl,X4.out⟩
  | false =>
   go_wp2_with fail
   go_ret
   exact ⟨rfl,X4.out⟩
 | ok u =>
 obtain ⟨N,L,hT⟩:=taken_of (M:=M) hc
 rw [hc] at hk
 have hk:makeR M=0:=hk
 have HK:=qh (And.intro hk hc)
 have TK:=qh hT
 clear hk hc hT
 go_upto_region 4 with (go_at_call 39;refine (HMR.out w3 X3.out).mono ?_;rintro e w4 ⟨hx4,v,rfl,hv,_⟩;obtain ⟨br4,_,_,_,_,_,rfl,_⟩:=hv HK.out.1;rw [HK.out.1];have X4:=qh (X3.out.trans hx4);have BM:=qh (hx4.block BM.out);clear hx4 hv)
 clear d0 d1 d2 d3 d4 d5 d6 d7
 cases bb with
 | true =>
  go_wp2_with fail
  go_ret
  exact ⟨rfl,X4.out⟩
 | false =>
 have d0:=blk_cell BM.out 0 _ rfl
 have d1:=blk_cell BM.out 1 _ rfl
 have d2:=blk_cell BM.out 2 _ rfl
 have d3:=blk_cell BM.out 3 _ rfl
 have d4:=blk_cell BM.out 4 _ rfl
 have d5:=blk_cell BM.out 5 _ rfl
 have d6:=blk_cell BM.out 6 _ rfl
 have d7:=blk_cell BM.out 7 _ rfl
 have HCP:=qh (copyM_any (HM.out w4 X4.out) (Nat.le_trans HN.out X4.out.size) TK.out.small)
 go_upto_region 7 with (go_at_call 40;refine HCP.out.mono ?_;rintro e w5 ⟨uR,uC,uO,uA,uS,rfl,hcp,hmc,hx5⟩;obtain ⟨bR,kR,rfl,hkR1,hkR2⟩:=hmc.regs.form;obtain ⟨bC,kC,rfl,hkC1,hkC2⟩:=hmc.cls.form;obtain ⟨bO,kO,rfl,hkO1,hkO2⟩:=hmc.ops.form;obtain ⟨bA,kA,rfl,hkA1,hkA2⟩:=hmc.args.form;obtain ⟨bS,kS,rfl,hkS1,hkS2⟩:=hmc.saved.form;unfold maxLen at hkR2 hkC2 hkO2 hkA2 hkS2;have X5:=qh (X4.out.trans hx5);have Y5:=qh hx5;have BM:=qh (hx5.block BM.out);have CP:=qh hcp;have MC:=qh hmc;clear hx5 hcp hmc)
 clear d0 d1 d2 d3 d4 d5 d6 d7 HCP
 have hb6:=heap_alloc_new w5 (.cells #[.string M.name,.slice bR M.regs.length kR,.slice bC M.classes.length kC,.slice bO M.ops.length kO,.slice bA M.args.length kA,.string M.result,.slice bS M.saved.length kS,.int .i64 M.slots] 27)
 have x6:Ext w5 (w5.alloc (.cells #[.string M.name,.slice bR M.regs.length kR,.slice bC M.classes.length kC,.slice bO M.ops.length kO,.slice bA M.args.length kA,.string M.result,.slice bS M.saved.length kS,.int .i64 M.slots] 27)):=Ext.alloc _ _
 generalize w5.alloc (.cells #[.string M.name,.slice bR M.regs.length kR,.slice bC M.classes.length kC,.slice bO M.ops.length kO,.slice bA M.args.length kA,.string M.result,.slice bS M.saved.length kS,.int .i64 M.slots] 27)=w6 at hb6 x6 ⊢
 generalize hbo:w5.heap.size=bo at hb6 ⊢
 have HBO:=qh hbo
 have X6:=qh (X5.out.trans x6)
 have Y6:=qh x6
 have BM:=qh (x6.block BM.out)
 have BO:=qh hb6
 have HMT:=qh (makeTable2_any (MC.out.same (W':=w6) fun k hk=>Below.block x6 k hk) x6.size)
 clear hb6 x6 hbo
 have d0:=blk_cell BO.out 0 _ rfl
 have d1:=blk_cell BO.out 1 _ rfl
 have d2:=blk_cell BO.out 2 _ rfl
 have d3:=blk_cell BO.out 3 _ rfl
 have d4:=blk_cell BO.out 4 _ rfl
 have d5:=blk_cell BO.out 5 _ rfl
 have d6:=blk_cell BO.out 6 _ rfl
 have d7:=blk_cell BO.out 7 _ rfl
 go_upto_region 8 with (go_at_call 41;refine HMT.out.mono ?_;intro e w7 hmk;unfold TMakePost2 at hmk;rw [HK.out.2] at hmk;obtain ⟨hx7,bt,V,N2,L2,rfl,hbt,hT2,hTB,hMB,hNB⟩:=hmk;have X7:=qh (X6.out.trans hx7);have Y7:=qh hx7;have BM:=qh (hx7.block BM.out);have BO:=qh (hx7.block BO.out);have hNL:=TK.out.head.symm.trans hT2.head;injection hNL with hNL;injection hNL with hNL1 hNL2;subst hNL1 hNL2;have TB:=qh hTB;have MB:=qh hMB;have NB:=qh hNB;clear hx7 hTB hMB hNB hT2 hbt)
 clear d0 d1 d2 d3 d4 d5 d6 d7 HMT
 have d0:=blk_cell BM.out 0 _ rfl
 have d1:=blk_cell BM.out 1 _ rfl
 have d2:=blk_cell BM.out 2 _ rfl
 have d3:=blk_cell BM.out 3 _ rfl
 have d4:=blk_cell BM.out 4 _ rfl
 have d5:=blk_cell BM.out 5 _ rfl
 have d6:=blk_cell BM.out 6 _ rfl
 have d7:=blk_cell BM.out 7 _ rfl
 go_upto_region 9 with (go_at_call 39;refine (HMR.out w7 X7.out).mono ?_;rintro e w8 ⟨hx8,v,rfl,hv,_⟩;obtain ⟨br,vN,vP,vK,N3,L3,rfl,hbg,hTR,_,_⟩:=hv HK.out.1;rw [HK.out.1];have X8:=qh (X7.out.trans hx8);have Y8:=qh hx8;have BM:=qh (hx8.block BM.out);have BO:=qh (hx8.block BO.out);have hNL:=TK.out.head.symm.trans (begin_headT hbg);injection hNL with hNL;injection hNL with hNL1 hNL2;subst hNL1 hNL2;have TR:=qh hTR;clear hx8 hv hTR hbg)
 clear d0 d1 d2 d3 d4 d5 d6 d7
 obtain ⟨us,ps,hlu,hlp,hsp⟩:=CP.out.spoil (hi:=w6.heap.size) (Y6.out.size) ((Y6.out.trans Y7.out).trans Y8.out)
 have HLU:=qh hlu
 have HLP:=qh hlp
 have hlo:Hid (n0≤w4.heap.size∧W.heap.size≤w4.heap.size):=qh ⟨Nat.le_trans HN.out X4.out.size,X4.out.size⟩
 have hhi:Hid (w6.heap.size≤w7.heap.size):=qh Y7.out.size
 generalize w4.heap.size=lo at hsp hlo
 generalize hhe:w6.heap.size=hi at hsp hhi
 have HHI:=qh hhe
 have SP:=qh hsp
 clear hlu hlp hsp hhe
 have HTB:Hid (∀ w,Keep (fun k=>lo≤k∧k<hi) w8 w→KeepN spoilT w8 w→TblIn w bt V M N L):=qh (fun w k kn=>(TB.out.ext Y8.out).spoil Y8.out TB.out.lt k kn (by rw [← HHI.out];exact MB.out) (by rw [← HHI.out];exact NB.out))
 have HTR:Hid (∀ w,Keep (fun k=>lo≤k∧k<hi) w8 w→KeepN spoilT w8 w→TabIn w w.heap.size br ⟨.slice aR M.regs.length cR,.slice aC M.classes.length cC,.slice aO M.ops.length cO,.slice aA M.args.length cA,.slice aS M.saved.length cS,vN,vP⟩ vK M N L (numsC N M.classes)):=qh (fun w k kn=>TR.out.spoil hlo.out.1 hhi.out k kn)
 have HMM:Hid (∀ w,Keep (fun k=>lo≤k∧k<hi) w8 w→MachIn w n0 (.slice aR M.regs.length cR) (.slice aC M.classes.length cC) (.slice aO M.ops.length cO) (.slice aA M.args.length cA) (.slice aS M.saved.length cS) M):=qh (fun w k=>(HM.out w8 X8.out).same fun q hq=>k.block q (Nat.lt_of_lt_of_le hq (Nat.le_trans HN.out X8.out.size)) (fun e=>by have:=hlo.out.1;omega))
 have HX:Hid (∀ w,Keep (fun k=>lo≤k∧k<hi) w8 w→Ext W w):=qh (fun w k=>X8.out.keep k (fun q e=>Nat.le_trans hlo.out.2 e.1))
 have HOWN:Hid (∀ w,KeepN spoilT w8 w→w.heap[bo]?=some (.cells #[.string M.name,.slice bR M.regs.length kR,.slice bC M.classes.length kC,.slice bO M.ops.length kO,.slice bA M.args.length kA,.string M.result,.slice bS M.saved.length kS,.int .i64 M.slots] 27 (0,0))):=qh (fun w kn=>kn.2 _ _ BO.out (fun cs t fz e=>by cases e;decide))
 have HMB:Hid (∀ w,KeepN spoilT w8 w→w.heap[b0]?=some (.cells #[.string M.name,.slice aR M.regs.length cR,.slice aC M.classes.length cC,.slice aO M.ops.length cO,.slice aA M.args.length cA,.string M.result,.slice aS M.saved.length cS,.int .i64 M.slots] 27 (0,0))):=qh (fun w kn=>kn.2 _ _ BM.out (fun cs t fz e=>by cases e;decide))
 clear X0 X2 X3 X4 X5 Y5 X6 Y6 X7 Y7 X8 Y8 CP MC TB MB NB TR BM BO HB0 HHI hhi hlo HM HMR HBIG
 go_upto_region 11 with (go_at_call 42;refine (num7_any _ _).mono ?_;rintro e w ⟨rfl,rfl⟩)
 go_wp2_with fail
 go_loopw [12] (fun iv wr=>∃ i1:Nat,i1≤M.regs.length∧iv=.int .i64 i1∧Hid (Spoil w8 lo hi M (.slice bR M.regs.length kR) (.slice bC M.classes.length kC) (.slice bO M.ops.length kO) (.slice bA M.args.length kA) (.slice bS M.saved.length kS) us ps 0 0 wr)) (fun iv _=>M.regs.length - (intOf iv).toNat)
 case atStart=>exact ⟨0,by omega,rfl,SP⟩
 case round =>
  obtain ⟨i1,hi1,rfl,R⟩:=hrel
  rename World=>w9
  have bo1:=HOWN.out w9 R.out.kn
  have o1:=blk_cell bo1 1 _ rfl
  clear bo1
  by_cases hlt:i1<M.regs.length
  ·have hz:(i1:Int)<(M.regs.length:Int):=by omega
   have hpos:0<M.regs.length:=by omega
   have hr:=R.out.regs
   obtain ⟨g,cap,cur,e,q1,q2,hb,hs⟩:=hr.block hpos
   cases e
   have RB:=qh hr
   have hg:=(Array.getElem?_eq_some_iff.1 hb).1
   have f0:=block_free hb (i1 * 4)
   obtain ⟨_,c0⟩:=block_cell hb (i1 * 4) (by omega)
   have f1:=block_free hb (i1 * 4+1)
   obtain ⟨_,c1⟩:=block_cell hb (i1 * 4+1) (by omega)
   have f2:=block_free hb (i1 * 4+2)
   obtain ⟨_,c2⟩:=block_cell hb (i1 * 4+2) (by omega)
   have f3:=block_free hb (i1 * 4+3)
   obtain ⟨_,c3⟩:=block_cell hb (i1 * 4+3) (by omega)
   clear hb hr hs
   go_wp2_with fail
   go_roundw
   case rel=>exact ⟨i1+1,by omega,by go_num,qh ((((R.out.setB RB.out hpos (by decide) _ _).setB (RB.out.set _ _ _) hpos (by decide) _ _).setB ((RB.out.set _ _ _).set _ _ _) hpos (by decide) _ _).setB (((RB.out.set _ _ _).set _ _ _).set _ _ _) hpos (by decide) _ _)⟩
   case measure=>simp [intOf];omega
  ·have hz:¬ (i1:Int)<(M.regs.length:Int):=by omega
   obtain rfl:i1=M.regs.length:=by omega
   have RS:=qh R.out
   clear R
   go_wp2_with fail
   go_loopw [13] (fun iv wr=>∃ i2:Nat,i2≤M.classes.length∧iv=.int .i64 i2∧Hid (Spoil w8 lo hi M (.slice bR M.regs.length kR) (.slice bC M.classes.length kC) (.slice bO M.ops.length kO) (.slice bA M.args.length kA) (.slice bS M.saved.length kS) us ps i2 0 wr)) (fun iv _=>M.classes.length - (intOf iv).toNat)
   case atStart=>exact ⟨0,by omega,rfl,RS⟩
   case round =>
    obtain ⟨i2,hi2,rfl,C⟩:=hrel
    rename World=>w10
    have bo1:=HOWN.out w10 C.out.kn
    have o1:=blk_cell bo1 2 _ rfl
    clear bo1
    by_cases hlt:i2<M.classes.length
    ·have hz:(i2:Int)<(M.classes.length:Int):=by omega
     have hpos:0<M.classes.length:=by omega
     obtain ⟨g,cap,cur,c,u,e,hb,hs,hc,hu,hcl⟩:=C.out.clsAt HLU.out hlt
     have hqb:=TK.out.small.cls c (List.mem_of_getElem? hc)
     cases e
     obtain ⟨ua,uc,eu⟩:∃ ua uc,u=.slice ua c.regs.length uc:=(C.out.names i2 c u hc hu).form
     have HCU:=qh (And.intro hc (And.intro hu eu))
     clear hb hs hc hu hcl eu
     go_wp2_with fail
     go_loopw [14] (fun iv wr=>∃ q:Nat,q≤c.regs.length∧iv=.int .i64 q∧Hid (Spoil w8 lo hi M (.slice bR M.regs.length kR) (.slice (some ⟨g,0,none⟩) M.classes.length kC) (.slice bO M.ops.length kO) (.slice bA M.args.length kA) (.slice bS M.saved.length kS) us ps i2 0 wr)) (fun iv _=>c.regs.length - (intOf iv).toNat)
     case atStart=>exact ⟨0,by omega,rfl,C⟩
     case round =>
      clear o1
      obtain ⟨q,hq,rfl,C2⟩:=hrel
      rename World=>w11
      have bo2:=HOWN.out w11 C2.out.kn
      have o2:=blk_cell bo2 2 _ rfl
      clear bo2
      obtain ⟨g2,cap2,cur2,c2,u2,e2,hb2,hs2,hc2,hu2,hcl2⟩:=C2.out.clsAt HLU.out hlt
      cases e2
      have e3:=hc2.symm.trans HCU.out.1
      have e4:=hu2.symm.trans HCU.out.2.1
      cases e3
      cases e4
      rw [HCU.out.2.2] at hcl2
      have hg2:=(Array.getElem?_eq_some_iff.1 hb2).1
      by_cases hqt:q<c.regs.length
      ·have hqz:(q:Int)<(c.regs.length:Int):=by omega
       have hqp:0<c.regs.length:=by omega
       have hr:=C2.out.names i2 c u hc2 hu2
       rw [HCU.out.2.2] at hr
       obtain ⟨g3,cap3,cur3,e5,q1,q2,hb3,hs3⟩:=hr.block hqp
       have RB:=qh hr
       have hg3:=(Array.getElem?_eq_some_iff.1 hb3).1
       cases e5
       have if0:=block_free hb3 (q)
       obtain ⟨_,ic0⟩:=block_cell hb3 (q) (by omega)
       clear hb2 hs2 hc2 hu2 hb3 hs3 hr
       go_wp2_with fail
       go_roundw
       case rel=>exact ⟨q+1,by omega,by go_num,qh (C2.out.setB RB.out hqp (by decide) _ _)⟩
       case measure=>simp [intOf];omega
      ·have hqz:¬ (q:Int)<(c.regs.length:Int):=by omega
       obtain rfl:q=c.regs.length:=by omega
       have of0:=block_free hb2 (i2 * 2)
       obtain ⟨_,oc0⟩:=block_cell hb2 (i2 * 2) (by omega)
       have of1:=block_free hb2 (i2 * 2+1)
       obtain ⟨_,oc1⟩:=block_cell hb2 (i2 * 2+1) (by omega)
       clear hb2 hs2 hc2 hu2
       go_wp2_with fail
       go_roundw
       case rel=>exact ⟨i2+1,by omega,by go_num,qh (((C2.out.up (i2:=i2+1) (j2:=0) (by omega) (by omega)).setC _ (by omega) _ hpos).setC _ (by omega) _ hpos)⟩
       case measure=>simp [intOf];omega
    ·have hz:¬ (i2:Int)<(M.classes.length:Int):=by omega
     obtain rfl:i2=M.classes.length:=by omega
     have CS:=qh C.out
     clear C
     go_wp2_with fail
     go_loopw [15] (fun iv wr=>∃ i3:Nat,i3≤M.ops.length∧iv=.int .i64 i3∧Hid (Spoil w8 lo hi M (.slice bR M.regs.length kR) (.slice bC M.classes.length kC) (.slice bO M.ops.length kO) (.slice bA M.args.length kA) (.slice bS M.saved.length kS) us ps M.classes.length i3 wr)) (fun iv _=>M.ops.length - (intOf iv).toNat)
     case atStart=>exact ⟨0,by omega,rfl,CS⟩
     case round =>
      obtain ⟨i3,hi3,rfl,O⟩:=hrel
      rename World=>w12
      have bo1:=HOWN.out w12 O.out.kn
      have o1:=blk_cell bo1 3 _ rfl
      clear bo1
      by_cases hlt:i3<M.ops.length
      ·have hz:(i3:Int)<(M.ops.length:Int):=by omega
       have hpos:0<M.ops.length:=by omega
       obtain ⟨g,cap,cur,c,u,e,hb,hs,hc,hu,hcl⟩:=O.out.opAt HLP.out hlt
       have hqb:=TK.out.small.uses c (List.mem_of_getElem? hc)
       cases e
       obtain ⟨ua,uc,eu⟩:∃ ua uc,u.1=.slice ua c.uses.length uc:=(O.out.uses i3 c u hc hu).form
       have HCU:=qh (And.intro hc (And.intro hu eu))
       clear hb hs hc hu hcl eu
       go_wp2_with fail
       go_loopw [16] (fun iv wr=>∃ q:Nat,q≤c.uses.length∧iv=.int .i64 q∧Hid (Spoil w8 lo hi M (.slice bR M.regs.length kR) (.slice bC M.classes.length kC) (.slice (some ⟨g,0,none⟩) M.ops.length kO) (.slice bA M.args.length kA) (.slice bS M.saved.length kS) us ps M.classes.length i3 wr)) (fun iv _=>c.uses.length - (intOf iv).toNat)
       case atStart=>exact ⟨0,by omega,rfl,O⟩
       case round =>
        clear o1
        obtain ⟨q,hq,rfl,O2⟩:=hrel
        rename World=>w13
        have bo2:=HOWN.out w13 O2.out.kn
        have o2:=blk_cell bo2 3 _ rfl
        clear bo2
        obtain ⟨g2,cap2,cur2,c2,u2,e2,hb2,hs2,hc2,hu2,hcl2⟩:=O2.out.opAt HLP.out hlt
        cases e2
        have e3:=hc2.symm.trans HCU.out.1
        have e4:=hu2.symm.trans HCU.out.2.1
        cases e3
        cases e4
        rw [HCU.out.2.2] at hcl2
        have hg2:=(Array.getElem?_eq_some_iff.1 hb2).1
        by_cases hqt:q<c.uses.length
        ·have hqz:(q:Int)<(c.uses.length:Int):=by omega
         have hqp:0<c.uses.length:=by omega
         have hr:=O2.out.uses i3 c u hc2 hu2
         rw [HCU.out.2.2] at hr
         obtain ⟨g3,cap3,cur3,e5,q1,q2,hb3,hs3⟩:=hr.block hqp
         have RB:=qh hr
         have hg3:=(Array.getElem?_eq_some_iff.1 hb3).1
         cases e5
         have if0:=block_free hb3 (q * 2)
         obtain ⟨_,ic0⟩:=block_cell hb3 (q * 2) (by omega)
         have if1:=block_free hb3 (q * 2+1)
         obtain ⟨_,ic1⟩:=block_cell hb3 (q * 2+1) (by omega)
         clear hb2 hs2 hc2 hu2 hb3 hs3 hr
         go_wp2_with fail
         go_roundw
         case rel=>exact ⟨q+1,by omega,by go_num,qh ((O2.out.setB RB.out hqp (by decide) _ _).setB (RB.out.set _ _ _) hqp (by decide) _ _)⟩
         case measure=>simp [intOf];omega
        ·have hqz:¬ (q:Int)<(c.uses.length:Int):=by omega
         obtain rfl:q=c.uses.length:=by omega
         have of0:=block_free hb2 (i3 * 6)
         obtain ⟨_,oc0⟩:=block_cell hb2 (i3 * 6) (by omega)
         have of1:=block_free hb2 (i3 * 6+1)
         obtain ⟨_,oc1⟩:=block_cell hb2 (i3 * 6+1) (by omega)
         have of2:=block_free hb2 (i3 * 6+2)
         obtain ⟨_,oc2⟩:=block_cell hb2 (i3 * 6+2) (by omega)
         have of3:=block_free hb2 (i3 * 6+3)
         obtain ⟨_,oc3⟩:=block_cell hb2 (i3 * 6+3) (by omega)
         have of4:=block_free hb2 (i3 * 6+4)
         obtain ⟨_,oc4⟩:=block_cell hb2 (i3 * 6+4) (by omega)
         have of5:=block_free hb2 (i3 * 6+5)
         obtain ⟨_,oc5⟩:=block_cell hb2 (i3 * 6+5) (by omega)
         clear hb2 hs2 hc2 hu2
         go_wp2_with fail
         go_roundw
         case rel=>exact ⟨i3+1,by omega,by go_num,qh (((((((O2.out.up (i2:=M.classes.length) (j2:=i3+1) (by omega) (by omega)).setO _ (by omega) _ hpos).setO _ (by omega) _ hpos).setO _ (by omega) _ hpos).setO _ (by omega) _ hpos).setO _ (by omega) _ hpos).setO _ (by omega) _ hpos)⟩
         case measure=>simp [intOf];omega
      ·have hz:¬ (i3:Int)<(M.ops.length:Int):=by omega
       obtain rfl:i3=M.ops.length:=by omega
       have OS:=qh O.out
       clear O
       go_wp2_with fail
       go_loopw [17] (fun iv wr=>∃ i4:Nat,i4≤M.saved.length∧iv=.int .i64 i4∧Hid (Spoil w8 lo hi M (.slice bR M.regs.length kR) (.slice bC M.classes.length kC) (.slice bO M.ops.length kO) (.slice bA M.args.length kA) (.slice bS M.saved.length kS) us ps M.classes.length M.ops.length wr)) (fun iv _=>M.saved.length - (intOf iv).toNat)
       case atStart=>exact ⟨0,by omega,rfl,OS⟩
       case round =>
        obtain ⟨i4,hi4,rfl,S⟩:=hrel
        rename World=>w14
        have bo1:=HOWN.out w14 S.out.kn
        have o1:=blk_cell bo1 6 _ rfl
        clear bo1
        by_cases hlt:i4<M.saved.length
        ·have hz:(i4:Int)<(M.saved.length:Int):=by omega
         have hpos:0<M.saved.length:=by omega
         have hr:=S.out.saved
         obtain ⟨g,cap,cur,e,q1,q2,hb,hs⟩:=hr.block hpos
         cases e
         have RB:=qh hr
         have hg:=(Array.getElem?_eq_some_iff.1 hb).1
         have f0:=block_free hb (i4)
         obtain ⟨_,c0⟩:=block_cell hb (i4) (by omega)
         clear hb hr hs
         go_wp2_with fail
         go_roundw
         case rel=>exact ⟨i4+1,by omega,by go_num,qh (S.out.setB RB.out hpos (by decide) _ _)⟩
         case measure=>simp [intOf];omega
        ·have hz:¬ (i4:Int)<(M.saved.length:Int):=by omega
         obtain rfl:i4=M.saved.length:=by omega
         have SS:=qh S.out
         clear S
         go_wp2_with fail
         go_loopw [18] (fun iv wr=>∃ i5:Nat,i5≤M.args.length∧iv=.int .i64 i5∧Hid (Spoil w8 lo hi M (.slice bR M.regs.length kR) (.slice bC M.classes.length kC) (.slice bO M.ops.length kO) (.slice bA M.args.length kA) (.slice bS M.saved.length kS) us ps M.classes.length M.ops.length wr)) (fun iv _=>M.args.length - (intOf iv).toNat)
         case atStart=>exact ⟨0,by omega,rfl,SS⟩
         case round =>
          obtain ⟨i5,hi5,rfl,A⟩:=hrel
          rename World=>w15
          have bo1:=HOWN.out w15 A.out.kn
          have o1:=blk_cell bo1 4 _ rfl
          clear bo1
          by_cases hlt:i5<M.args.length
          ·have hz:(i5:Int)<(M.args.length:Int):=by omega
           have hpos:0<M.args.length:=by omega
           have hr:=A.out.args
           obtain ⟨g,cap,cur,e,q1,q2,hb,hs⟩:=hr.block hpos
           cases e
           have RB:=qh hr
           have hg:=(Array.getElem?_eq_some_iff.1 hb).1
           have f0:=block_free hb (i5)
           obtain ⟨_,c0⟩:=block_cell hb (i5) (by omega)
           clear hb hr hs
           go_wp2_with fail
           go_roundw
           case rel=>exact ⟨i5+1,by omega,by go_num,qh (A.out.setB RB.out hpos (by decide) _ _)⟩
           case measure=>simp [intOf];omega
          ·have hz:¬ (i5:Int)<(M.args.length:Int):=by omega
           obtain rfl:i5=M.args.length:=by omega
           have AS:=qh A.out
           clear A
           go_wp2_with fail
           have d:=HMB.out w15 AS.out.kn
           have TB:=qh (HTB.out w15 AS.out.keep AS.out.kn)
           have TR:=qh (HTR.out w15 AS.out.keep AS.out.kn)
           have HMO:=qh (HMM.out w15 AS.out.keep)
           have XE:=qh (HX.out w15 AS.out.keep)
           have hn15:=Nat.le_trans HN.out XE.out.size
           have d0:=blk_cell d 0 _ rfl
           have d1:=blk_cell d 1 _ rfl
           have d2:=blk_cell d 2 _ rfl
           have d3:=blk_cell d 3 _ rfl
           have d4:=blk_cell d 4 _ rfl
           have d5:=blk_cell d 5 _ rfl
           have d6:=blk_cell d 6 _ rfl
           have d7:=blk_cell d 7 _ rfl
           clear d o1
           rename_i K1 hK1
           have hK1:=qh hK1
           refine wp_region_M (fun w'=>Ext w15 w') 7 (by kernel_rfl) (Ext.drew _) (fun hS=>?_)
           refine' tk 0 hS ?_ ?_;rotate_left;·intros;go_simp;try rfl
           refine' tk 1 hS ?_ ?_;rotate_left;·intros;go_simp;try rfl
           try simp only [tD]
           generalize w15.drew=w16 at hS ⊢
           refine rc 2 fun K hK=>?_
           go_simp
           refine ((regs_any (TB.out.ext hS) (TR.out.ext hS) TK.out)).mono ?_
           rintro e w17 ⟨rfl,hx17⟩
           have hS:=Ext.trans hS hx17
           refine hK.out _ _ hS ?_
           clear hK K
           refine' tk 3 hS ?_ ?_;rotate_left;·intros;go_simp;try rfl
           refine' tk 4 hS ?_ ?_;rotate_left;·intros;go_simp;try rfl
           try simp only [tD]
           refine' tk 6 hS ?_ ?_;rotate_left;·intro w hSw;have t0:=xc hSw d0;have t1:=xc hSw d1;have t2:=xc hSw d2;have t3:=xc hSw d3;have t4:=xc hSw d4;have t5:=xc hSw d5;have t6:=xc hSw d6;have t7:=xc hSw d7;go_simp;try rfl
           try simp only [tD]
           refine rc 5 fun K hK=>?_
           go_simp
           refine ((tmachine_any (TB.out.ext hS) TK.out.small)).mono ?_
           rintro e w18 ⟨uR,uC,uO,uA,uS,rfl,hmm,hx18⟩
           have hS:=Ext.trans hS hx18
           refine hK.out _ _ hS ?_
           try simp only [tD]
           clear hK K
           refine rl 7 fun K hK=>?_
           go_simp
           refine ((sameM_any hmm (Nat.le_refl _) (HMO.out.same (W':=w18) fun k hk=>Below.block hS k (by omega)) (Nat.le_trans hn15 hS.size) TK.out.small.regs)).mono ?_
           rintro e w19 ⟨rfl,hx19⟩
           have X19:=qh (XE.out.trans (hS.trans hx19))
           refine hK.out _ _ ?_
           try simp only [tD]
           clear hK K
           refine' tw 8 ?_ ?_;rotate_left;·intros;go_simp;try rfl
           try simp only [tD]
           refine' tw 9 ?_ ?_;rotate_left;·intros;go_simp;try rfl
           try simp only [tD]
           refine wpAnyM_done (by kernel_rfl) ?_ _
           refine hK1.out _ _ ?_
           clear hS
           go_wp2_with fail
           go_ret
           exact ⟨ret_bool (by simp),X19.out⟩
end Go.Proofs.YtligiddaampneaaGreat
