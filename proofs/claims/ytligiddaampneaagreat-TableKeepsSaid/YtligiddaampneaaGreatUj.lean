/- The reference's copy of a description: the walk. -/
import Derived.Test.YtligiddaampneaaGreatUi
set_option maxRecDepth 100000
set_option maxHeartbeats 16000000
namespace Go.Proofs.YtligiddaampneaaGreat
open Go.RowKit
attribute [local go_sem] Oper.semAt_some
theorem copyM_any {W:World} {M:Mach} {n0:Nat} {vR vC vO vA vS:Value} (hm:MachIn W n0 vR vC vO vA vS M) (hn:n0≤W.heap.size) (hs:SmallM M) :
  Calls Tryz.prog 40 #[.agg #[.string M.name,vR,vC,vO,vA,.string M.result,vS,.int .i64 M.slots]] W fun e w'=>∃ uR uC uO uA uS,e=.returned (.agg #[.string M.name,uR,uC,uO,uA,.string M.result,uS,.int .i64 M.slots])∧CopyO W.heap.size w' uR uC uO uA uS M∧MachIn w' w'.heap.size uR uC uO uA uS M∧Ext W w':=by
 obtain ⟨iS,hiS,zS0,zS1,zS2⟩:=info_parts infoStr
 obtain ⟨iC,hiC,zC0,zC1,zC2⟩:=info_parts infoClCls
 obtain ⟨iO,hiO,zO0,zO1,zO2⟩:=info_parts infoClOpn
 obtain ⟨iP,hiP,zP0,zP1,zP2⟩:=info_parts infoClOpr
 obtain ⟨aR,cR,rfl,_,_⟩:=hm.regs.form
 obtain ⟨aC,cC,rfl,hC1,hC2⟩:=hm.cls.form
 obtain ⟨aO,cO,rfl,hO1,hO2⟩:=hm.ops.form
 obtain ⟨aA,cA,rfl,_,_⟩:=hm.args.form
 obtain ⟨aS,cS,rfl,_,_⟩:=hm.saved.form
 unfold maxLen at hC2 hO2
 have HM:=qh hm
 have HS:=qh hs
 have HN:=qh hn
 have y0:Ext W (W.alloc (.cells #[.string M.name,.slice aR M.regs.length cR,.slice aC M.classes.length cC,.slice aO M.ops.length cO,.slice aA M.args.length cA,.string M.result,.slice aS M.saved.length cS,.int .i64 M.slots] 27)):=Ext.alloc _ _
 have y1:Ext (W.alloc (.cells #[.string M.name,.slice aR M.regs.length cR,.slice aC M.classes.length cC,.slice aO M.ops.length cO,.slice aA M.args.length cA,.string M.result,.slice aS M.saved.length cS,.int .i64 M.slots] 27)) ((W.alloc (.cells #[.string M.name,.slice aR M.regs.length cR,.slice aC M.classes.length cC,.slice aO M.ops.length cO,.slice aA M.args.length cA,.string M.result,.slice aS M.saved.length cS,.int .i64 M.slots] 27)).alloc (.cells #[.string ⟨#[]⟩,.slice none 0 0,.slice none 0 0,.slice none 0 0,.slice none 0 0,.string ⟨#[]⟩,.slice none 0 0,.int .i64 0] 27)):=Ext.alloc _ _
 have y2:Ext ((W.alloc (.cells #[.string M.name,.slice aR M.regs.length cR,.slice aC M.classes.length cC,.slice aO M.ops.length cO,.slice aA M.args.length cA,.string M.result,.slice aS M.saved.length cS,.int .i64 M.slots] 27)).alloc (.cells #[.string ⟨#[]⟩,.slice none 0 0,.slice none 0 0,.slice none 0 0,.slice none 0 0,.string ⟨#[]⟩,.slice none 0 0,.int .i64 0] 27)) (((W.alloc (.cells #[.string M.name,.slice aR M.regs.length cR,.slice aC M.classes.length cC,.slice aO M.ops.length cO,.slice aA M.args.length cA,.string M.result,.slice aS M.saved.length cS,.int .i64 M.slots] 27)).alloc (.cells #[.string ⟨#[]⟩,.slice none 0 0,.slice none 0 0,.slice none 0 0,.slice none 0 0,.string ⟨#[]⟩,.slice none 0 0,.int .i64 0] 27)).alloc (.cells #[.string M.name,.slice aR M.regs.length cR,.slice aC M.classes.length cC,.slice aO M.ops.length cO,.slice aA M.args.length cA,.string M.result,.slice aS M.saved.length cS,.int .i64 M.slots] 27)):=Ext.alloc _ _
 have x1:=(y0.trans y1).trans y2
 have hb0:=(y1.trans y2).block (heap_alloc_new W _)
 have hb1:=y2.block (heap_alloc_new (W.alloc (.cells #[.string M.name,.slice aR M.regs.length cR,.slice aC M.classes.length cC,.slice aO M.ops.length cO,.slice aA M.args.length cA,.string M.result,.slice aS M.saved.length cS,.int .i64 M.slots] 27)) _)
 have hb2:=heap_alloc_new ((W.alloc (.cells #[.string M.name,.slice aR M.regs.length cR,.slice aC M.classes.length cC,.slice aO M.ops.length cO,.slice aA M.args.length cA,.string M.result,.slice aS M.saved.length cS,.int .i64 M.slots] 27)).alloc (.cells #[.string ⟨#[]⟩,.slice none 0 0,.slice none 0 0,.slice none 0 0,.slice none 0 0,.string ⟨#[]⟩,.slice none 0 0,.int .i64 0] 27)) (.cells #[.string M.name,.slice aR M.regs.length cR,.slice aC M.classes.length cC,.slice aO M.ops.length cO,.slice aA M.args.length cA,.string M.result,.slice aS M.saved.length cS,.int .i64 M.slots] 27)
 rw [show (W.alloc (.cells #[.string M.name,.slice aR M.regs.length cR,.slice aC M.classes.length cC,.slice aO M.ops.length cO,.slice aA M.args.length cA,.string M.result,.slice aS M.saved.length cS,.int .i64 M.slots] 27)).heap.size=W.heap.size+1 by simp] at hb1
 rw [show ((W.alloc (.cells #[.string M.name,.slice aR M.regs.length cR,.slice aC M.classes.length cC,.slice aO M.ops.length cO,.slice aA M.args.length cA,.string M.result,.slice aS M.saved.length cS,.int .i64 M.slots] 27)).alloc (.cells #[.string ⟨#[]⟩,.slice none 0 0,.slice none 0 0,.slice none 0 0,.slice none 0 0,.string ⟨#[]⟩,.slice none 0 0,.int .i64 0] 27)).heap.size=W.heap.size+2 by simp] at hb2
 clear hm hs hn y0 y1 y2
 go_enter Tryz.func40,Tryz.ntmps40
 go_upto_region 2 with (fail)
 generalize ((W.alloc (.cells #[.string M.name,.slice aR M.regs.length cR,.slice aC M.classes.length cC,.slice aO M.ops.length cO,.slice aA M.args.length cA,.string M.result,.slice aS M.saved.length cS,.int .i64 M.slots] 27)).alloc (.cells #[.string ⟨#[]⟩,.slice none 0 0,.slice none 0 0,.slice none 0 0,.slice none 0 0,.string ⟨#[]⟩,.slice none 0 0,.int .i64 0] 27)).alloc (.cells #[.string M.name,.slice aR M.regs.length cR,.slice aC M.classes.length cC,.slice aO M.ops.length cO,.slice aA M.args.length cA,.string M.result,.slice aS M.saved.length cS,.int .i64 M.slots] 27)=w1 at x1 hb0 hb1 hb2 ⊢
 have hl1:=(Array.getElem?_eq_some_iff.1 hb2).1
 have k1:=blk_cell (l:=[.string M.name,.slice aR M.regs.length cR,.slice aC M.classes.length cC,.slice aO M.ops.length cO,.slice aA M.args.length cA,.string M.result,.slice aS M.saved.length cS,.int .i64 M.slots]) hb0 1 _ rfl
 have X1:=qh x1
 have B0:=qh hb0
 have B1:=qh hb1
 have B2:=qh hb2
 have hreg:=qh (copyRef_any 6 HS.out.regs (HM.out.regs.ext HN.out x1) (Nat.le_trans HN.out x1.size))
 clear x1 hb0 hb1 hb2
 go_upto_region 3 with (go_at_call 75;refine hreg.out.mono ?_;rintro e w2 ⟨uR,vs,rfl,hcR,hoR,hx2⟩;obtain ⟨aU,cU,eU⟩:∃ p q,uR=.slice p M.regs.length q:=(by obtain ⟨p,q,e,_,_⟩:=(hcR w2 (fun _ _ _=>rfl)).form;exact ⟨p,q,e⟩);subst eU;have b2:=hx2.block B2.out;have f2:=blk_free (l:=[.string M.name,.slice aR M.regs.length cR,.slice aC M.classes.length cC,.slice aO M.ops.length cO,.slice aA M.args.length cA,.string M.result,.slice aS M.saved.length cS,.int .i64 M.slots]) b2 1;have d2:=blk_cell (l:=[.string M.name,.slice aR M.regs.length cR,.slice aC M.classes.length cC,.slice aO M.ops.length cO,.slice aA M.args.length cA,.string M.result,.slice aS M.saved.length cS,.int .i64 M.slots]) b2 1 _ rfl;have l2:=(Array.getElem?_eq_some_iff.1 b2).1;have X2:=qh hx2;have CR:=qh hcR;have OR:=qh hoR;have BB2:=qh b2;clear hx2 hcR hoR b2)
 have b3:=heap_set_cells BB2.out 1 (.slice aU M.regs.length cU)
 have k3:Keep (fun k=>k=W.heap.size+2) w2 (w2.setCell ⟨W.heap.size+2,1,none⟩ (.slice aU M.regs.length cU)):=Keep.setCell (fun k=>k=W.heap.size+2) w2 ⟨W.heap.size+2,1,none⟩ _ rfl
 clear hreg f2 d2 k1
 generalize w2.setCell ⟨W.heap.size+2,1,none⟩ (.slice aU M.regs.length cU)=w3 at b3 k3 ⊢
 simp only [List.setIfInBounds_toArray,List.set_cons_zero,List.set_cons_succ] at b3
 have l3:=(Array.getElem?_eq_some_iff.1 b3).1
 have n3:=blk_cell (l:=[.string M.name,.slice aU M.regs.length cU,.slice aC M.classes.length cC,.slice aO M.ops.length cO,.slice aA M.args.length cA,.string M.result,.slice aS M.saved.length cS,.int .i64 M.slots]) b3 2 _ rfl
 have f3:=blk_free (l:=[.string M.name,.slice aU M.regs.length cU,.slice aC M.classes.length cC,.slice aO M.ops.length cO,.slice aA M.args.length cA,.string M.result,.slice aS M.saved.length cS,.int .i64 M.slots]) b3 2
 have B3:=qh b3
 have K3:=qh k3
 clear b3 k3
 go_upto_region 4 with (fail)
 have b4:=heap_set_cells B3.out 2 (.slice none 0 0)
 have k4:Keep (fun k=>k=W.heap.size+2) w2 (w3.setCell ⟨W.heap.size+2,2,none⟩ (.slice none 0 0)):=K3.out.trans (Keep.setCell (fun k=>k=W.heap.size+2) w3 ⟨W.heap.size+2,2,none⟩ _ rfl) (fun _ _ e=>e)
 clear n3 f3 l3
 generalize w3.setCell ⟨W.heap.size+2,2,none⟩ (.slice none 0 0)=w4 at b4 k4 ⊢
 simp only [List.setIfInBounds_toArray,List.set_cons_zero,List.set_cons_succ] at b4
 have B4:=qh b4
 have K4:=qh k4
 clear b4 k4
 have X02:=qh (X1.out.trans X2.out)
 have MB:=qh (X2.out.block B0.out)
 have RB:=qh (X2.out.block B1.out)
 have hl2:W.heap.size+2<w2.heap.size:=l2
 go_wp2_with fail
 go_loopw [4] (fun iv wr=>∃ i:Nat,i≤M.classes.length∧iv=.int .i64 i∧∃ aV cV us,Hid (Keep (fun k=>k=W.heap.size+2) w2 wr∧wr.heap[W.heap.size+2]?=some (.cells #[.string M.name,.slice aU M.regs.length cU,.slice aV i cV,.slice aO M.ops.length cO,.slice aA M.args.length cA,.string M.result,.slice aS M.saved.length cS,.int .i64 M.slots] 27 (0,0))∧ClsO wr w2.heap.size M i (.slice aV i cV) us)) (fun iv _=>M.classes.length - (intOf iv).toNat)
 case atStart=>exact ⟨0,by omega,rfl,none,0,[],qh ⟨K4.out,B4.out,ClsO.nil _ _ _⟩⟩
 case round =>
  clear B4 K4 B3 K3 l2
  obtain ⟨i,hi,rfl,aV,cV,us,hin⟩:=hrel
  rename World=>wr
  have KW:=qh hin.out.1
  have BW:=qh hin.out.2.1
  have CW:=qh hin.out.2.2
  clear hin
  have XWr:Hid (Ext W wr):=qh (keepExt ((Keep.of_ext X02.out:Keep (fun k=>k=W.heap.size+2) W w2).trans KW.out (fun _ _ e=>e)) (fun k e=>by omega))
  have mb:=(KW.out.block W.heap.size (by omega) (fun e=>by omega)).trans MB.out
  have m2:=blk_cell (l:=[.string M.name,.slice aR M.regs.length cR,.slice aC M.classes.length cC,.slice aO M.ops.length cO,.slice aA M.args.length cA,.string M.result,.slice aS M.saved.length cS,.int .i64 M.slots]) mb 2 _ rfl
  have m3:=blk_cell (l:=[.string M.name,.slice aR M.regs.length cR,.slice aC M.classes.length cC,.slice aO M.ops.length cO,.slice aA M.args.length cA,.string M.result,.slice aS M.saved.length cS,.int .i64 M.slots]) mb 3 _ rfl
  have n2:=blk_cell (l:=[.string M.name,.slice aU M.regs.length cU,.slice aV i cV,.slice aO M.ops.length cO,.slice aA M.args.length cA,.string M.result,.slice aS M.saved.length cS,.int .i64 M.slots]) BW.out 2 _ rfl
  have lW:=(Array.getElem?_eq_some_iff.1 BW.out).1
  clear mb
  by_cases hli:i<M.classes.length
  ·clear m3
   have hiz:(i:Int)<(M.classes.length:Int):=by omega
   obtain ⟨c,hc⟩:∃ x,M.classes[i]?=some x:=⟨_,lE hli⟩
   obtain ⟨b1,o1,cp1,u1,f1,q1,q2,q3,p0,p1,hst⟩:=HM.out.cls.at hc
   cases f1
   have p0:=XWr.out.cell p0
   have p1:=XWr.out.cell p1
   obtain ⟨ua,uc,rfl⟩:∃ ua uc,u1=.slice ua c.regs.length uc:=by obtain ⟨p,q,e,_,_⟩:=hst.form;exact ⟨p,q,e⟩
   have hcl:=HS.out.cls c (List.mem_of_getElem? hc)
   have ROW:=qh (fun (w:World) (x:Ext wr w)=>(StrsIn.ext hst HN.out (XWr.out.trans x)).rowS)
   have HC:=qh hc
   have hkz:=KW.out.size
   have hcn:=HS.out.ncls
   clear hc hst q1 q2 q3
   go_upto_region 7 with (fail)
   refine wp_region_M (fun w'=>Ext wr w') 17 (by kernel_rfl) (Ext.drew _) (fun hS=>?_)
   refine' tk 0 hS ?_ ?_;rotate_left;·intros;go_simp;try rfl
   refine' tk 1 hS ?_ ?_;rotate_left;·intro w hSw;have a1:=xc hSw n2;go_simp;try rfl
   refine' tk 2 hS ?_ ?_;rotate_left;·intros;go_simp;try rfl
   try simp only [tD]
   refine' tk 3 hS ?_ ?_;rotate_left;·intro w hSw;have a2:=xc hSw m2;go_simp;try rfl
   refine' tk 4 hS ?_ ?_;rotate_left;·intros;go_simp;try rfl
   refine' tk 5 hS ?_ ?_;rotate_left;·intros;go_simp;try rfl
   try simp only [tD]
   refine' tk 6 hS ?_ ?_;rotate_left;·intros;go_simp;try rfl
   refine' tk 7 hS ?_ ?_;rotate_left;·intro w hSw;have a3:=xc hSw p0;go_simp;try rfl
   refine' tk 8 hS ?_ ?_;rotate_left;·intros;go_simp;try rfl
   try simp only [tD]
   refine' tk 9 hS ?_ ?_;rotate_left;·intro w hSw;have a2:=xc hSw m2;go_simp;try rfl
   refine' tk 10 hS ?_ ?_;rotate_left;·intros;go_simp;try rfl
   refine' tk 11 hS ?_ ?_;rotate_left;·intros;go_simp;try rfl
   try simp only [tD]
   refine' tk 12 hS ?_ ?_;rotate_left;·intros;go_simp;try rfl
   refine' tk 13 hS ?_ ?_;rotate_left;·intro w hSw;have a4:=xc hSw p1;go_simp;try rfl
   try simp only [tD]
   generalize wr.drew=w4 at hS ⊢
   refine rc 14 fun K hK=>?_
   refine wp_append_nil _ _ _ rfl 9 iS _ 1 16 Tryz.underlying25 hiS zS0 zS1 zS2 rfl (by omega) c.regs.length (c.regs.map Value.string) _ rfl (ROW.out w4 hS) (str_one _) (by omega) ?_
   intro u5 w5 ho5 hx5
   obtain ⟨a5,k5,e5,hy1,hy2⟩:=(Row.of_owns ho5).shape
   subst e5
   clear hy1 hy2
   have hS0:=hS
   have hS:=Ext.trans hS hx5
   refine hK.out _ _ hS ?_
   clear hK K
   refine' tk 15 hS ?_ ?_;rotate_left;·intros;go_simp;try rfl
   try simp only [tD]
   refine rc 16 fun K hK=>?_
   go_simp
   have x7:Ext wr (w5.alloc (.cells #[.string c.name,.slice a5 c.regs.length k5] 51)):=hS.trans (Ext.alloc _ _)
   have hz5:=hS.size
   refine hK.out _ _ x7 ?_
   try simp only [tD]
   clear hK K
   refine rl 17 fun K hK=>?_
   refine wp_append_lies _ _ _ _ rfl w2.heap.size 51 iC _ 2 40 Tryz.underlying23 hiC zC0 zC1 zC2 rfl (by omega) (.slice aV i cV) i _ rfl (owns_ext CW.out.own x7) ⟨w5.heap.size,0,none⟩ 1 1 [.string c.name,.slice a5 c.regs.length k5] rfl rfl (World.news_of_block (cs:=#[.string c.name,.slice a5 c.regs.length k5]) (t:=51) (fr:=(0,0)) (heap_alloc_new w5 _)) (by simp [Value.oneCell']) (by omega) (by unfold maxLen;omega) (by omega) (by simp;omega) _ rfl ?_
   intro g8 c8 w8 hown8 hgrow8 hat8 hlt8
   have CN:=qh (ClsO.snoc CW.out HC.out x7 (owns_base (owns_ext ho5 (Ext.alloc w5 (.cells #[.string c.name,.slice a5 c.regs.length k5] 51))) (Nat.le_trans hkz hS0.size)) hgrow8 hown8)
   have kk:Keep (fun k=>k=W.heap.size+2) w2 w8:=(KW.out.trans (Keep.of_ext x7:Keep (fun k=>k=W.heap.size+2) wr _) (fun _ _ e=>e)).trans (Keep.grown hgrow8 (fun _ e=>e)) (fun q hq e=>by have:=(CW.out.own.lt q e).1;omega)
   have b8:=(KeepN.grown (ts:=[51]) (owns_ext CW.out.own x7) hgrow8 (by decide)).2 _ _ (x7.block BW.out) (fun cs t fz e=>by cases e;decide)
   have n8:=blk_cell (l:=[.string M.name,.slice aU M.regs.length cU,.slice aV i cV,.slice aO M.ops.length cO,.slice aA M.args.length cA,.string M.result,.slice aS M.saved.length cS,.int .i64 M.slots]) b8 2 _ rfl
   have f8:=blk_free (l:=[.string M.name,.slice aU M.regs.length cU,.slice aV i cV,.slice aO M.ops.length cO,.slice aA M.args.length cA,.string M.result,.slice aS M.saved.length cS,.int .i64 M.slots]) b8 2
   have l8:=(Array.getElem?_eq_some_iff.1 b8).1
   have K8:=qh kk
   have B8:=qh b8
   clear hown8 hgrow8 hat8 kk b8 ho5 hx5 hS0
   refine hK.out _ _ ?_
   try simp only [tD]
   clear hK K
   refine' tw 18 ?_ ?_;rotate_left;·intros;go_simp;try rfl
   try simp only [tD]
   refine rl 19 fun K hK=>?_
   go_simp
   refine hK.out _ _ ?_
   try simp only [tD]
   clear hK K
   refine wpAnyM_done (by kernel_rfl) ?_ _
   have b9:=heap_set_cells B8.out 2 (.slice (some ⟨g8,0,none⟩) (i+1) c8)
   have c9:=qh (CN.out.keep (KeepN.set B8.out (.slice (some ⟨g8,0,none⟩) (i+1) c8) (i:=2) (ts:=[27]) (by decide)) (by decide) (by decide))
   have k9:=qh (K8.out.trans (Keep.setCell (fun k=>k=W.heap.size+2) w8 ⟨W.heap.size+2,2,none⟩ (.slice (some ⟨g8,0,none⟩) (i+1) c8) rfl) (fun _ _ e=>e))
   simp only [List.setIfInBounds_toArray,List.set_cons_zero,List.set_cons_succ] at b9
   have B9:=qh b9
   clear b9 n8 f8 l8 hS x7
   go_wp2_with fail
   go_roundw
   case rel=>exact ⟨i+1,by omega,by go_num,_,_,_,qh ⟨k9.out,B9.out,c9.out⟩⟩
   case measure=>simp [intOf];omega
  ·have hiz:¬ (i:Int)<(M.classes.length:Int):=by omega
   obtain rfl:i=M.classes.length:=by omega
   clear n2
   have n3:=blk_cell (l:=[.string M.name,.slice aU M.regs.length cU,.slice aV M.classes.length cV,.slice aO M.ops.length cO,.slice aA M.args.length cA,.string M.result,.slice aS M.saved.length cS,.int .i64 M.slots]) BW.out 3 _ rfl
   have f3:=blk_free (l:=[.string M.name,.slice aU M.regs.length cU,.slice aV M.classes.length cV,.slice aO M.ops.length cO,.slice aA M.args.length cA,.string M.result,.slice aS M.saved.length cS,.int .i64 M.slots]) BW.out 3
   go_upto_region 9 with (fail)
   have b4:=heap_set_cells BW.out 3 (.slice none 0 0)
   have k4:Keep (fun k=>k=W.heap.size+2) w2 (wr.setCell ⟨W.heap.size+2,3,none⟩ (.slice none 0 0)):=KW.out.trans (Keep.setCell (fun k=>k=W.heap.size+2) wr ⟨W.heap.size+2,3,none⟩ _ rfl) (fun _ _ e=>e)
   have C4:=qh (CW.out.keep (KeepN.set BW.out (.slice none 0 0) (i:=3) (ts:=[27]) (by decide)) (by decide) (by decide))
   clear n3 f3 m2 m3 lW
   generalize wr.setCell ⟨W.heap.size+2,3,none⟩ (.slice none 0 0)=w4 at b4 k4 C4 ⊢
   simp only [List.setIfInBounds_toArray,List.set_cons_zero,List.set_cons_succ] at b4
   have B4:=qh b4
   have K4:=qh k4
   clear b4 k4 BW KW CW XWr
   go_wp2_with fail
   go_loopw [5] (fun iv wr=>∃ j:Nat,j≤M.ops.length∧iv=.int .i64 j∧∃ aW cW ps,Hid (Keep (fun k=>k=W.heap.size+2) w2 wr∧wr.heap[W.heap.size+2]?=some (.cells #[.string M.name,.slice aU M.regs.length cU,.slice aV M.classes.length cV,.slice aW j cW,.slice aA M.args.length cA,.string M.result,.slice aS M.saved.length cS,.int .i64 M.slots] 27 (0,0))∧ClsO wr w2.heap.size M M.classes.length (.slice aV M.classes.length cV) us∧OpsO wr w2.heap.size M j (.slice aW j cW) ps)) (fun iv _=>M.ops.length - (intOf iv).toNat)
   case atStart=>exact ⟨0,by omega,rfl,none,0,[],qh ⟨K4.out,B4.out,C4.out,OpsO.nil _ _ _⟩⟩
   case round =>
    clear B4 K4 C4
    obtain ⟨j,hj,rfl,aW,cW,ps,hin⟩:=hrel
    rename World=>wr
    have KW:=qh hin.out.1
    have BW:=qh hin.out.2.1
    have CW:=qh hin.out.2.2.1
    have OW:=qh hin.out.2.2.2
    clear hin
    have XWr:Hid (Ext W wr):=qh (keepExt ((Keep.of_ext X02.out:Keep (fun k=>k=W.heap.size+2) W w2).trans KW.out (fun _ _ e=>e)) (fun k e=>by omega))
    have MBr:=qh ((KW.out.block W.heap.size (by omega) (fun e=>by omega)).trans MB.out)
    have RBr:=qh ((KW.out.block (W.heap.size+1) (by omega) (fun e=>by omega)).trans RB.out)
    have hkz:=KW.out.size
    by_cases hlj:j<M.ops.length
    ·have hjz:(j:Int)<(M.ops.length:Int):=by omega
     obtain ⟨o,ho⟩:∃ x,M.ops[j]?=some x:=⟨_,lE hlj⟩
     obtain ⟨b1,o1,cp1,u1,d1,f1,q1,q2,q3,p0,p1,p2,p3,p4,p5,hU,hB,htie⟩:=HM.out.ops.at ho
     have m3:=blk_cell (l:=[.string M.name,.slice aR M.regs.length cR,.slice aC M.classes.length cC,.slice aO M.ops.length cO,.slice aA M.args.length cA,.string M.result,.slice aS M.saved.length cS,.int .i64 M.slots]) MBr.out 3 _ rfl
     cases f1
     obtain ⟨ua,uc,rfl⟩:∃ ua uc,u1=.slice ua o.uses.length uc:=by obtain ⟨p,q,e,_,_⟩:=hU.form;exact ⟨p,q,e⟩
     obtain ⟨va,vc,rfl⟩:∃ ua uc,d1=.slice ua o.clob.length uc:=by obtain ⟨p,q,e,_,_⟩:=hB.form;exact ⟨p,q,e⟩
     have hul:=HS.out.uses o (List.mem_of_getElem? ho)
     have hbl:=HS.out.clob o (List.mem_of_getElem? ho)
     have ROWU:=qh (fun (w:World) (x:Ext W w)=>(OprsIn.rowO (hU.same fun k hk=>Below.block x k (Nat.lt_of_lt_of_le hk HN.out)):Row w 2 (.slice ua o.uses.length uc) o.uses.length _))
     have ROWB:=qh (fun (w:World) (x:Ext W w)=>(StrsIn.ext hB HN.out x).rowS)
     have HO:=qh ho
     have P:=qh (fun (w:World) (x:Ext W w)=>And.intro (x.cell p0) (And.intro (x.cell p1) (And.intro (x.cell p2) (And.intro (x.cell p3) (And.intro (x.cell p4) (x.cell p5))))))
     have hcn:=HS.out.nops
     obtain ⟨r0,r1,r2,r3,r4,r5⟩:=P.out wr XWr.out
     clear ho hU hB q1 q2 q3 htie p0 p1 p2 p3 p4 p5
     go_upto_region 13 with (fail)
     have x5:Ext wr (wr.alloc (.cells #[.string o.name,.string o.dfn.cls,.string o.dfn.fix,.slice ua o.uses.length uc,.int .i64 o.tie,.slice va o.clob.length vc] 60)):=Ext.alloc _ _
     have b5:=heap_alloc_new wr (.cells #[.string o.name,.string o.dfn.cls,.string o.dfn.fix,.slice ua o.uses.length uc,.int .i64 o.tie,.slice va o.clob.length vc] 60)
     clear r0 r1 r2 r3 r4 r5
     generalize wr.alloc (.cells #[.string o.name,.string o.dfn.cls,.string o.dfn.fix,.slice ua o.uses.length uc,.int .i64 o.tie,.slice va o.clob.length vc] 60)=w5 at x5 b5 ⊢
     obtain ⟨r0,r1,r2,r3,r4,r5⟩:=P.out w5 (XWr.out.trans x5)
     have m3:=x5.cell m3
     have X5:=qh x5
     have B5:=qh b5
     have hz5:=(Array.getElem?_eq_some_iff.1 b5).1
     clear x5 b5
     go_upto_region 14 with (at_builtin;go_loud (refine wpList_append_nil _ rfl _ 58 rfl 57 iP _ 2 32 Tryz.underlying58 hiP zP0 zP1 zP2 rfl (by decide) o.uses.length _ _ rfl (ROWU.out w5 (XWr.out.trans X5.out)) (opr_one _) (by omega) ?_;intro v6 w6 ho6 hx6;obtain ⟨a6,k6,e6,hy1,hy2⟩:=(Row.of_owns ho6).shape;subst e6;have O6:=qh ho6;have X6:=qh hx6;have B6:=qh (Ext.block hx6 B5.out);have t3:=blk_cell (l:=[.string o.name,.string o.dfn.cls,.string o.dfn.fix,.slice ua o.uses.length uc,.int .i64 o.tie,.slice va o.clob.length vc]) B6.out 3 _ rfl;have ft3:=blk_free (l:=[.string o.name,.string o.dfn.cls,.string o.dfn.fix,.slice ua o.uses.length uc,.int .i64 o.tie,.slice va o.clob.length vc]) B6.out 3;have lt3:=(Array.getElem?_eq_some_iff.1 B6.out).1;clear ho6 hx6 hy1 hy2))
     have b7:=heap_set_cells B6.out 3 (.slice a6 o.uses.length k6)
     have kn7:=KeepN.set B6.out (.slice a6 o.uses.length k6) (i:=3) (ts:=[60]) (by decide)
     have ke7:=Keep.setCell (fun k=>k=wr.heap.size) w6 ⟨wr.heap.size,3,none⟩ (.slice a6 o.uses.length k6) rfl
     clear t3 ft3 lt3 r0 r1 r2 r3 r4 r5 m3
     generalize w6.setCell ⟨wr.heap.size,3,none⟩ (.slice a6 o.uses.length k6)=w7 at b7 kn7 ke7 ⊢
     simp only [List.setIfInBounds_toArray,List.set_cons_zero,List.set_cons_succ] at b7
     have B7:=qh b7
     have O7:=qh (owns_keepN O6.out kn7 (by decide))
     have X7:Hid (Ext wr w7):=qh (keepExt ((Keep.of_ext (X5.out.trans X6.out):Keep (fun k=>k=wr.heap.size) wr w6).trans ke7 (fun _ _ e=>e)) (fun k e=>by omega))
     have hz7:=X7.out.size
     clear b7 kn7 ke7 O6 B6 X6
     obtain ⟨r0,r1,r2,r3,r4,r5⟩:=P.out w7 (XWr.out.trans X7.out)
     have m3:=blk_cell (l:=[.string M.name,.slice aR M.regs.length cR,.slice aC M.classes.length cC,.slice (some ⟨b1,o1,none⟩) M.ops.length cO,.slice aA M.args.length cA,.string M.result,.slice aS M.saved.length cS,.int .i64 M.slots]) (X7.out.block MBr.out) 3 _ rfl
     go_upto_region 15 with (at_builtin;go_loud (refine wpList_append_nil _ rfl _ 25 rfl 9 iS _ 1 16 Tryz.underlying25 hiS zS0 zS1 zS2 rfl (by decide) o.clob.length _ _ rfl (ROWB.out w7 (XWr.out.trans X7.out)) (str_one _) (by omega) ?_;intro v8 w8 ho8 hx8;obtain ⟨a8,k8,e8,hy1,hy2⟩:=(Row.of_owns ho8).shape;subst e8;have O8:=qh ho8;have X8:=qh hx8;have B8:=qh (Ext.block hx8 B7.out);have t5:=blk_cell (l:=[.string o.name,.string o.dfn.cls,.string o.dfn.fix,.slice a6 o.uses.length k6,.int .i64 o.tie,.slice va o.clob.length vc]) B8.out 5 _ rfl;have ft5:=blk_free (l:=[.string o.name,.string o.dfn.cls,.string o.dfn.fix,.slice a6 o.uses.length k6,.int .i64 o.tie,.slice va o.clob.length vc]) B8.out 5;have lt5:=(Array.getElem?_eq_some_iff.1 B8.out).1;clear ho8 hx8 hy1 hy2))
     have b9:=heap_set_cells B8.out 5 (.slice a8 o.clob.length k8)
     have kn9:=KeepN.set B8.out (.slice a8 o.clob.length k8) (i:=5) (ts:=[60]) (by decide)
     have ke9:=Keep.setCell (fun k=>k=wr.heap.size) w8 ⟨wr.heap.size,5,none⟩ (.slice a8 o.clob.length k8) rfl
     clear t5 ft5 lt5 r0 r1 r2 r3 r4 r5 m3
     generalize w8.setCell ⟨wr.heap.size,5,none⟩ (.slice a8 o.clob.length k8)=w9 at b9 kn9 ke9 ⊢
     simp only [List.setIfInBounds_toArray,List.set_cons_zero,List.set_cons_succ] at b9
     have OU:=qh (owns_base (owns_keepN (owns_ext O7.out X8.out) kn9 (by decide)) (show w2.heap.size≤w5.heap.size from Nat.le_trans hkz X5.out.size))
     have OB:=qh (owns_base (owns_keepN O8.out kn9 (by decide)) (show w2.heap.size≤w7.heap.size from Nat.le_trans hkz X7.out.size))
     have X9:Hid (Ext wr w9):=qh (keepExt ((Keep.of_ext (X7.out.trans X8.out):Keep (fun k=>k=wr.heap.size) wr w8).trans ke9 (fun _ _ e=>e)) (fun k e=>by omega))
     have t:=fun j v h=>blk_cell (l:=[.string o.name,.string o.dfn.cls,.string o.dfn.fix,.slice a6 o.uses.length k6,.int .i64 o.tie,.slice a8 o.clob.length k8]) b9 j v h
     have t0:=t 0 _ rfl
     have t1:=t 1 _ rfl
     have t2:=t 2 _ rfl
     have t3:=t 3 _ rfl
     have t4:=t 4 _ rfl
     have t5:=t 5 _ rfl
     have n3:=blk_cell (l:=[.string M.name,.slice aU M.regs.length cU,.slice aV M.classes.length cV,.slice aW j cW,.slice aA M.args.length cA,.string M.result,.slice aS M.saved.length cS,.int .i64 M.slots]) (X9.out.block BW.out) 3 _ rfl
     have hz9:=X9.out.size
     clear t b9 kn9 ke9 O7 O8 X8 B8 X7 B7 X5 B5 hz5 hz7
     go_upto_region 11 with (at_builtin;go_loud (refine wpList_append_lies _ rfl _ _ 24 rfl w2.heap.size 60 iO _ 6 104 Tryz.underlying24 hiO zO0 zO1 zO2 rfl (by omega) (.slice aW j cW) j _ rfl (owns_ext OW.out.own (X9.out.trans (Ext.alloc _ _))) ⟨w9.heap.size,0,none⟩ 1 1 [.string o.name,.string o.dfn.cls,.string o.dfn.fix,.slice a6 o.uses.length k6,.int .i64 o.tie,.slice a8 o.clob.length k8] rfl rfl (World.news_of_block (cs:=#[.string o.name,.string o.dfn.cls,.string o.dfn.fix,.slice a6 o.uses.length k6,.int .i64 o.tie,.slice a8 o.clob.length k8]) (t:=60) (fr:=(0,0)) (heap_alloc_new w9 _)) (by simp [Value.oneCell']) (by omega) (by unfold maxLen;omega) (by omega) (by simp;omega) _ rfl ?_;intro g8 c8 w10 hown8 hgrow8 hat8 hlt8;have x10:=X9.out.trans (Ext.alloc w9 (.cells #[.string o.name,.string o.dfn.cls,.string o.dfn.fix,.slice a6 o.uses.length k6,.int .i64 o.tie,.slice a8 o.clob.length k8] 60));have CN:=qh (OpsO.snoc OW.out HO.out x10 (owns_ext OU.out (Ext.alloc w9 (.cells #[.string o.name,.string o.dfn.cls,.string o.dfn.fix,.slice a6 o.uses.length k6,.int .i64 o.tie,.slice a8 o.clob.length k8] 60))) (owns_ext OB.out (Ext.alloc w9 (.cells #[.string o.name,.string o.dfn.cls,.string o.dfn.fix,.slice a6 o.uses.length k6,.int .i64 o.tie,.slice a8 o.clob.length k8] 60))) hgrow8 hown8);have kk:Keep (fun k=>k=W.heap.size+2) w2 w10:=(KW.out.trans (Keep.of_ext x10:Keep (fun k=>k=W.heap.size+2) wr _) (fun _ _ e=>e)).trans (Keep.grown hgrow8 (fun _ e=>e)) (fun q hq e=>by have:=(OW.out.own.lt q e).1;omega);have kn:=KeepN.grown (ts:=[60]) (owns_ext OW.out.own x10) hgrow8 (by decide);have b10:=kn.2 _ _ (x10.block BW.out) (fun cs t fz e=>by cases e;decide);have C10:=qh ((CW.out.ext x10).keep kn (by decide) (by decide));have n10:=blk_cell (l:=[.string M.name,.slice aU M.regs.length cU,.slice aV M.classes.length cV,.slice aW j cW,.slice aA M.args.length cA,.string M.result,.slice aS M.saved.length cS,.int .i64 M.slots]) b10 3 _ rfl;have f10:=blk_free (l:=[.string M.name,.slice aU M.regs.length cU,.slice aV M.classes.length cV,.slice aW j cW,.slice aA M.args.length cA,.string M.result,.slice aS M.saved.length cS,.int .i64 M.slots]) b10 3;have l10:=(Array.getElem?_eq_some_iff.1 b10).1;have K10:=qh kk;have B10:=qh b10;clear hown8 hgrow8 hat8 kk kn b10 x10 n3 t0 t1 t2 t3 t4 t5))
     have b11:=heap_set_cells B10.out 3 (.slice (some ⟨g8,0,none⟩) (j+1) c8)
     have kn11:=KeepN.set B10.out (.slice (some ⟨g8,0,none⟩) (j+1) c8) (i:=3) (ts:=[27]) (by decide)
     have c11:=qh (C10.out.keep kn11 (by decide) (by decide))
     have o11:=qh (CN.out.keep kn11 (by decide) (by decide) (by decide))
     have k11:=qh (K10.out.trans (Keep.setCell (fun k=>k=W.heap.size+2) w10 ⟨W.heap.size+2,3,none⟩ (.slice (some ⟨g8,0,none⟩) (j+1) c8) rfl) (fun _ _ e=>e))
     simp only [List.setIfInBounds_toArray,List.set_cons_zero,List.set_cons_succ] at b11
     have B11:=qh b11
     clear b11 kn11 n10 f10 l10
     go_wp2_with fail
     go_roundw
     case rel=>exact ⟨j+1,by omega,by go_num,_,_,_,qh ⟨k11.out,B11.out,c11.out,o11.out⟩⟩
     case measure=>simp [intOf];omega
    ·have hjz:¬ (j:Int)<(M.ops.length:Int):=by omega
     obtain rfl:j=M.ops.length:=by omega
     have m4:=blk_cell (l:=[.string M.name,.slice aR M.regs.length cR,.slice aC M.classes.length cC,.slice aO M.ops.length cO,.slice aA M.args.length cA,.string M.result,.slice aS M.saved.length cS,.int .i64 M.slots]) MBr.out 4 _ rfl
     have m3:=blk_cell (l:=[.string M.name,.slice aR M.regs.length cR,.slice aC M.classes.length cC,.slice aO M.ops.length cO,.slice aA M.args.length cA,.string M.result,.slice aS M.saved.length cS,.int .i64 M.slots]) MBr.out 3 _ rfl
     have ROWA:=qh (fun (w:World) (x:Ext W w)=>(StrsIn.ext HM.out.args HN.out x).rowS)
     have ROWS:=qh (fun (w:World) (x:Ext W w)=>(StrsIn.ext HM.out.saved HN.out x).rowS)
     have hal:=HS.out.args
     have hsl:=HS.out.saved
     go_upto_region 17 with (at_builtin;go_loud (refine wpList_append_nil _ rfl _ 25 rfl 9 iS _ 1 16 Tryz.underlying25 hiS zS0 zS1 zS2 rfl (by decide) M.args.length _ _ rfl (ROWA.out wr XWr.out) (str_one _) (by omega) ?_;intro v6 w6 ho6 hx6;obtain ⟨a6,k6,e6,hy1,hy2⟩:=(Row.of_owns ho6).shape;subst e6;have O6:=qh ho6;have X6:=qh hx6;have B6:=qh (Ext.block hx6 BW.out);have n4:=blk_cell (l:=[.string M.name,.slice aU M.regs.length cU,.slice aV M.classes.length cV,.slice aW M.ops.length cW,.slice aA M.args.length cA,.string M.result,.slice aS M.saved.length cS,.int .i64 M.slots]) B6.out 4 _ rfl;have f4:=blk_free (l:=[.string M.name,.slice aU M.regs.length cU,.slice aV M.classes.length cV,.slice aW M.ops.length cW,.slice aA M.args.length cA,.string M.result,.slice aS M.saved.length cS,.int .i64 M.slots]) B6.out 4;have l4:=(Array.getElem?_eq_some_iff.1 B6.out).1;clear ho6 hx6 hy1 hy2))
     have b7:=heap_set_cells B6.out 4 (.slice a6 M.args.length k6)
     have kn7:=KeepN.set B6.out (.slice a6 M.args.length k6) (i:=4) (ts:=[27]) (by decide)
     have ke7:=Keep.setCell (fun k=>k=W.heap.size+2) w6 ⟨W.heap.size+2,4,none⟩ (.slice a6 M.args.length k6) rfl
     clear n4 f4 l4 m4 m3
     generalize w6.setCell ⟨W.heap.size+2,4,none⟩ (.slice a6 M.args.length k6)=w7 at b7 kn7 ke7 ⊢
     simp only [List.setIfInBounds_toArray,List.set_cons_zero,List.set_cons_succ] at b7
     have B7:=qh b7
     have O7:=qh (owns_keepN O6.out kn7 (by decide))
     have K7:Hid (Keep (fun k=>k=W.heap.size+2) wr w7):=qh ((Keep.of_ext X6.out:Keep (fun k=>k=W.heap.size+2) wr w6).trans ke7 (fun _ _ e=>e))
     have N7:Hid (KeepN [27] wr w7):=qh ((KeepN.ext X6.out).trans kn7)
     have X7:Hid (Ext W w7):=qh (keepExt ((Keep.of_ext XWr.out:Keep (fun k=>k=W.heap.size+2) W wr).trans K7.out (fun _ _ e=>e)) (fun k e=>by omega))
     have hz7:=K7.out.size
     clear b7 kn7 ke7 O6 B6
     have m6:=blk_cell (l:=[.string M.name,.slice aR M.regs.length cR,.slice aC M.classes.length cC,.slice aO M.ops.length cO,.slice aA M.args.length cA,.string M.result,.slice aS M.saved.length cS,.int .i64 M.slots]) ((K7.out.block W.heap.size (by have:=(Array.getElem?_eq_some_iff.1 MBr.out).1;exact this) (fun e=>by omega)).trans MBr.out) 6 _ rfl
     go_upto_region 18 with (at_builtin;go_loud (refine wpList_append_nil _ rfl _ 25 rfl 9 iS _ 1 16 Tryz.underlying25 hiS zS0 zS1 zS2 rfl (by decide) M.saved.length _ _ rfl (ROWS.out w7 X7.out) (str_one _) (by omega) ?_;intro v8 w8 ho8 hx8;obtain ⟨a8,k8,e8,hy1,hy2⟩:=(Row.of_owns ho8).shape;subst e8;have O8:=qh ho8;have X8:=qh hx8;have B8:=qh (Ext.block hx8 B7.out);have n6:=blk_cell (l:=[.string M.name,.slice aU M.regs.length cU,.slice aV M.classes.length cV,.slice aW M.ops.length cW,.slice a6 M.args.length k6,.string M.result,.slice aS M.saved.length cS,.int .i64 M.slots]) B8.out 6 _ rfl;have f6:=blk_free (l:=[.string M.name,.slice aU M.regs.length cU,.slice aV M.classes.length cV,.slice aW M.ops.length cW,.slice a6 M.args.length k6,.string M.result,.slice aS M.saved.length cS,.int .i64 M.slots]) B8.out 6;have l6:=(Array.getElem?_eq_some_iff.1 B8.out).1;clear ho8 hx8 hy1 hy2))
     have b9:=heap_set_cells B8.out 6 (.slice a8 M.saved.length k8)
     have kn9:=KeepN.set B8.out (.slice a8 M.saved.length k8) (i:=6) (ts:=[27]) (by decide)
     have ke9:=Keep.setCell (fun k=>k=W.heap.size+2) w8 ⟨W.heap.size+2,6,none⟩ (.slice a8 M.saved.length k8) rfl
     clear n6 f6 l6 m6
     generalize w8.setCell ⟨W.heap.size+2,6,none⟩ (.slice a8 M.saved.length k8)=w9 at b9 kn9 ke9 ⊢
     simp only [List.setIfInBounds_toArray,List.set_cons_zero,List.set_cons_succ] at b9
     have OA:=qh (owns_keepN (owns_ext O7.out X8.out) kn9 (by decide))
     have OS:=qh (owns_keepN O8.out kn9 (by decide))
     have K9:Hid (Keep (fun k=>k=W.heap.size+2) wr w9):=qh ((K7.out.trans (Keep.of_ext X8.out:Keep (fun k=>k=W.heap.size+2) w7 w8) (fun _ _ e=>e)).trans ke9 (fun _ _ e=>e))
     have N9:Hid (KeepN [27] wr w9):=qh ((N7.out.trans (KeepN.ext X8.out)).trans kn9)
     have r9:=(K9.out.block (W.heap.size+1) (by omega) (fun e=>by omega)).trans RBr.out
     have g:=fun j v h=>blk_cell (l:=[.string M.name,.slice aU M.regs.length cU,.slice aV M.classes.length cV,.slice aW M.ops.length cW,.slice a6 M.args.length k6,.string M.result,.slice a8 M.saved.length k8,.int .i64 M.slots]) b9 j v h
     have g0:=g 0 _ rfl
     have g1:=g 1 _ rfl
     have g2:=g 2 _ rfl
     have g3:=g 3 _ rfl
     have g4:=g 4 _ rfl
     have g5:=g 5 _ rfl
     have g6:=g 6 _ rfl
     have g7:=g 7 _ rfl
     have lr:=(Array.getElem?_eq_some_iff.1 r9).1
     have R9:=qh r9
     have z:=fun j v h=>blk_cell (l:=[.string ⟨#[]⟩,.slice none 0 0,.slice none 0 0,.slice none 0 0,.slice none 0 0,.string ⟨#[]⟩,.slice none 0 0,.int .i64 0]) r9 j v h
     have z0:=z 0 _ rfl
     have z1:=z 1 _ rfl
     have z2:=z 2 _ rfl
     have z3:=z 3 _ rfl
     have z4:=z 4 _ rfl
     have z5:=z 5 _ rfl
     have z6:=z 6 _ rfl
     have z7:=z 7 _ rfl
     have y:=fun j=>blk_free (l:=[.string ⟨#[]⟩,.slice none 0 0,.slice none 0 0,.slice none 0 0,.slice none 0 0,.string ⟨#[]⟩,.slice none 0 0,.int .i64 0]) r9 j
     have y0:=y 0
     have y1:=y 1
     have y2:=y 2
     have y3:=y 3
     have y4:=y 4
     have y5:=y 5
     have y6:=y 6
     have y7:=y 7
     clear z y g r9 b9 kn9 ke9
     go_wp2_with fail
     have he:=eight (v0:=.string M.name) (v1:=.slice aU M.regs.length cU) (v2:=.slice aV M.classes.length cV) (v3:=.slice aW M.ops.length cW) (v4:=.slice a6 M.args.length k6) (v5:=.string M.result) (v6:=.slice a8 M.saved.length k8) (v7:=.int .i64 M.slots) R9.out
     refine bodyPost_ret (results_cell_row rfl _ _ (W.heap.size+1) 27 #[.string M.name,.slice aU M.regs.length cU,.slice aV M.classes.length cV,.slice aW M.ops.length cW,.slice a6 M.args.length k6,.string M.result,.slice a8 M.saved.length k8,.int .i64 M.slots] (0,0) _ rfl he.1 Tryz.underlying27 rfl (by kernel_rfl)) rfl ?_
     have nE:=KeepN.keep (ts:=[27]) he.2 (fun k e=>by subst e;exact ⟨_,_,_,R9.out,by decide⟩)
     have nF:=N9.out.trans nE
     have hz9:=K9.out.size
     have hzE:=he.2.size
     have hx2:=X2.out.size
     have hx1:=X1.out.size
     have kF:Keep (fun k=>k=W.heap.size+1∨k=W.heap.size+2) w2 _:=((KW.out.trans K9.out (fun _ _ e=>e)).mono (fun _ e=>Or.inr e)).trans he.2 (fun _ _ e=>Or.inl e)
     have hcp:CopyO W.heap.size _ (.slice aU M.regs.length cU) (.slice aV M.classes.length cV) (.slice aW M.ops.length cW) (.slice a6 M.args.length k6) (.slice a8 M.saved.length k8) M:=⟨⟨vs,owns_base (owns_same OR.out (fun k e=>by have:=OR.out.lt k e;exact kF.block k this.2 (fun e2=>by omega))) (by omega)⟩,⟨us,(CW.out.keep nF (by decide) (by decide)).base (by omega)⟩,⟨ps,(OW.out.keep nF (by decide) (by decide) (by decide)).base (by omega)⟩,owns_base (owns_keepN OA.out nE (by decide)) (by omega),owns_base (owns_keepN OS.out nE (by decide)) (by omega)⟩
     refine ⟨_,_,_,_,_,rfl,hcp,hcp.mach ((CR.out _ fun k h1 h2=>kF.block k h2 (fun e=>by omega)).up' (by omega)) (fun o ho=>?_) HM.out.slots,keepExt ((Keep.of_ext X02.out:Keep (fun k=>k=W.heap.size+1∨k=W.heap.size+2) W w2).trans kF (fun _ _ e=>e)) (fun k e=>by omega)⟩
     obtain ⟨j,hj⟩:=List.getElem?_of_mem ho
     obtain ⟨_,_,_,_,_,_,_,_,_,_,_,_,_,_,_,_,_,ht⟩:=HM.out.ops.at hj
     exact ht
end Go.Proofs.YtligiddaampneaaGreat
