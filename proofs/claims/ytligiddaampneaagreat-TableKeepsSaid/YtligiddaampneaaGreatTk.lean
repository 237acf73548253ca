/- A description copied: the walk. -/
import Derived.Test.YtligiddaampneaaGreatTj
set_option maxRecDepth 100000
set_option maxHeartbeats 16000000
namespace Go.Proofs.YtligiddaampneaaGreat
open Go.RowKit
attribute [local go_sem] Oper.semAt_some
theorem copied_any {W:World} {M:Mach} {n0:Nat} {vR vC vO vA vS:Value} (hm:MachIn W n0 vR vC vO vA vS M) (hn:n0≤W.heap.size) (hs:SmallM M) :
  Calls Tryz.prog 57 #[.agg #[.string M.name,vR,vC,vO,vA,.string M.result,vS,.int .i64 M.slots]] W fun e w'=>∃ uR uC uO uA uS,e=.returned (.agg #[.string M.name,uR,uC,uO,uA,.string M.result,uS,.int .i64 M.slots])∧MachCopy W.heap.size w' uR uC uO uA uS M∧Ext W w':=by
 obtain ⟨aR,cR,rfl,_,_⟩:=hm.regs.form
 obtain ⟨aC,cC,rfl,_,_⟩:=hm.cls.form
 obtain ⟨aO,cO,rfl,_,_⟩:=hm.ops.form
 obtain ⟨aA,cA,rfl,_,_⟩:=hm.args.form
 obtain ⟨aS,cS,rfl,_,_⟩:=hm.saved.form
 have HM:=qh hm
 have HS:=qh hs
 have HN:=qh hn
 have x1:Ext W ((W.alloc (.cells #[.string M.name,.slice aR M.regs.length cR,.slice aC M.classes.length cC,.slice aO M.ops.length cO,.slice aA M.args.length cA,.string M.result,.slice aS M.saved.length cS,.int .i64 M.slots] 27)).alloc (.cells #[.string ⟨#[]⟩,.slice none 0 0,.slice none 0 0,.slice none 0 0,.slice none 0 0,.string ⟨#[]⟩,.slice none 0 0,.int .i64 0] 27)):=(Ext.alloc _ _).trans (Ext.alloc _ _)
 have hb0:=(Ext.alloc (W.alloc (.cells #[.string M.name,.slice aR M.regs.length cR,.slice aC M.classes.length cC,.slice aO M.ops.length cO,.slice aA M.args.length cA,.string M.result,.slice aS M.saved.length cS,.int .i64 M.slots] 27)) (.cells #[.string ⟨#[]⟩,.slice none 0 0,.slice none 0 0,.slice none 0 0,.slice none 0 0,.string ⟨#[]⟩,.slice none 0 0,.int .i64 0] 27)).block (heap_alloc_new W _)
 have hb1:=heap_alloc_new (W.alloc (.cells #[.string M.name,.slice aR M.regs.length cR,.slice aC M.classes.length cC,.slice aO M.ops.length cO,.slice aA M.args.length cA,.string M.result,.slice aS M.saved.length cS,.int .i64 M.slots] 27)) (.cells #[.string ⟨#[]⟩,.slice none 0 0,.slice none 0 0,.slice none 0 0,.slice none 0 0,.string ⟨#[]⟩,.slice none 0 0,.int .i64 0] 27)
 rw [show (W.alloc (.cells #[.string M.name,.slice aR M.regs.length cR,.slice aC M.classes.length cC,.slice aO M.ops.length cO,.slice aA M.args.length cA,.string M.result,.slice aS M.saved.length cS,.int .i64 M.slots] 27)).heap.size=W.heap.size+1 by simp] at hb1
 clear hm hs hn
 go_enter Tryz.func57,Tryz.ntmps57
 go_upto_region 1 with (fail)
 generalize (W.alloc (.cells #[.string M.name,.slice aR M.regs.length cR,.slice aC M.classes.length cC,.slice aO M.ops.length cO,.slice aA M.args.length cA,.string M.result,.slice aS M.saved.length cS,.int .i64 M.slots] 27)).alloc (.cells #[.string ⟨#[]⟩,.slice none 0 0,.slice none 0 0,.slice none 0 0,.slice none 0 0,.string ⟨#[]⟩,.slice none 0 0,.int .i64 0] 27)=w1 at x1 hb0 hb1 ⊢
 have hl1:=(Array.getElem?_eq_some_iff.1 hb1).1
 have k1:=blk_cell (l:=[.string M.name,.slice aR M.regs.length cR,.slice aC M.classes.length cC,.slice aO M.ops.length cO,.slice aA M.args.length cA,.string M.result,.slice aS M.saved.length cS,.int .i64 M.slots]) hb0 1 _ rfl
 have X1:=qh x1
 have B0:=qh hb0
 have B1:=qh hb1
 have hreg:=qh (copyRegs_any 6 HS.out.regs (HM.out.regs.ext HN.out x1) (Nat.le_trans HN.out x1.size))
 clear x1 hb0 hb1
 go_upto_region 2 with (go_at_call 86;refine hreg.out.mono ?_;rintro e w2 ⟨uR,rfl,hcR,hx2⟩;obtain ⟨aU,cU,eU⟩:∃ p q,uR=.slice p M.regs.length q:=(by obtain ⟨p,q,e,_,_⟩:=(hcR w2 (fun _ _ _=>rfl)).form;exact ⟨p,q,e⟩);subst eU;have b2:=hx2.block B0.out;have f2:=blk_free (l:=[.string M.name,.slice aR M.regs.length cR,.slice aC M.classes.length cC,.slice aO M.ops.length cO,.slice aA M.args.length cA,.string M.result,.slice aS M.saved.length cS,.int .i64 M.slots]) b2 1;have d2:=blk_cell (l:=[.string M.name,.slice aR M.regs.length cR,.slice aC M.classes.length cC,.slice aO M.ops.length cO,.slice aA M.args.length cA,.string M.result,.slice aS M.saved.length cS,.int .i64 M.slots]) b2 1 _ rfl;have l2:=(Array.getElem?_eq_some_iff.1 b2).1;have X2:=qh hx2;have CR:=qh hcR;have BB2:=qh b2;clear hx2 hcR b2)
 obtain ⟨us0,hu1,hu2,hu3⟩:=HM.out.cls
 obtain ⟨ps0,hp1,hp2,hp3⟩:=HM.out.ops
 have hlc:(clsRows M.classes us0).length=M.classes.length:=by unfold clsRows;rw [List.length_zipWith];omega
 have hlo:(opRows M.ops ps0).length=M.ops.length:=by unfold opRows;rw [List.length_zipWith];omega
 have HCL:=qh (fun (w:World) (x:Ext W w)=>cloneCls_any (v:=.slice aC M.classes.length cC) (n:=M.classes.length) (xs:=(clsRows M.classes us0).flatten) (by
  have:=(Tab.same hu2 fun k hk=>Below.block x k (Nat.lt_of_lt_of_le hk HN.out)).row
  rw [show List.zipWith (fun (c:Cls) u=>[Value.string c.name,u]) M.classes us0=clsRows M.classes us0 from rfl,hlc] at this
  exact this) (clsRows_one fun u hu=>by
   obtain ⟨i,hi⟩:=List.getElem?_of_mem hu
   have hil:=(List.getElem?_eq_some_iff.1 hi).1
   obtain ⟨_,_,e,_⟩:=(hu3 i _ u (lE (show i<M.classes.length by omega)) hi).form
   rw [e];rfl) (by have:=HS.out.ncls;omega))
 have HOL:=qh (fun (w:World) (x:Ext W w)=>cloneOpn_any (v:=.slice aO M.ops.length cO) (n:=M.ops.length) (xs:=(opRows M.ops ps0).flatten) (by
  have:=(Tab.same hp2 fun k hk=>Below.block x k (Nat.lt_of_lt_of_le hk HN.out)).row
  rw [show List.zipWith (fun (o:Opn) (u:Value × Value)=>[Value.string o.name,.string o.dfn.cls,.string o.dfn.fix,u.1,.int .i64 o.tie,u.2]) M.ops ps0=opRows M.ops ps0 from rfl,hlo] at this
  exact this) (opRows_one fun u hu=>by
   obtain ⟨i,hi⟩:=List.getElem?_of_mem hu
   have hil:=(List.getElem?_eq_some_iff.1 hi).1
   have h3:=hp3 i _ u (lE (show i<M.ops.length by omega)) hi
   obtain ⟨_,_,e,_⟩:=h3.1.form
   obtain ⟨_,_,e2,_⟩:=h3.2.1.form
   rw [e,e2];exact ⟨rfl,rfl⟩) (by have:=HS.out.nops;omega))
 have US:=qh (And.intro hu1 hu3)
 have PS:=qh (And.intro hp1 hp3)
 have B3:=qh (heap_set_cells BB2.out 1 (.slice aU M.regs.length cU))
 have K3:Hid (Keep (fun k=>k=W.heap.size) w2 (w2.setCell ⟨W.heap.size,1,none⟩ (.slice aU M.regs.length cU))):=qh (Keep.setCell (fun k=>k=W.heap.size) w2 ⟨W.heap.size,1,none⟩ _ rfl)
 clear hu1 hu2 hu3 hp1 hp2 hp3 hlc hlo hreg f2 d2 k1 hl1
 generalize w2.setCell ⟨W.heap.size,1,none⟩ (.slice aU M.regs.length cU)=w3 at B3 K3 ⊢
 have b3:=B3.out
 simp only [List.setIfInBounds_toArray,List.set_cons_zero,List.set_cons_succ] at b3
 have k2:=blk_cell (l:=[.string M.name,.slice aU M.regs.length cU,.slice aC M.classes.length cC,.slice aO M.ops.length cO,.slice aA M.args.length cA,.string M.result,.slice aS M.saved.length cS,.int .i64 M.slots]) b3 2 _ rfl
 have k3:=blk_cell (l:=[.string M.name,.slice aU M.regs.length cU,.slice aC M.classes.length cC,.slice aO M.ops.length cO,.slice aA M.args.length cA,.string M.result,.slice aS M.saved.length cS,.int .i64 M.slots]) b3 3 _ rfl
 have BB3:=qh b3
 have X03:Hid (Ext W w3):=qh (keepExt ((Keep.of_ext (X1.out.trans X2.out):Keep (fun k=>k=W.heap.size) W w2).trans K3.out (fun _ _ e=>e)) (fun k e=>by omega))
 have hsz3:=K3.out.size
 clear b3
 rename_i K1 hK1
 have hK1:=qh hK1
 refine wp_region_M (fun w'=>Ext w3 w') 5 (by kernel_rfl) (Ext.drew _) (fun hS=>?_)
 refine' tk 0 hS ?_ ?_;rotate_left;·intros;go_simp;try rfl
 refine' tk 1 hS ?_ ?_;rotate_left;·intro w hSw;have a2:=xc hSw k2;go_simp;try rfl
 refine' tk 3 hS ?_ ?_;rotate_left;·intros;go_simp;try rfl
 try simp only [tD]
 refine' tk 4 hS ?_ ?_;rotate_left;·intro w hSw;have a3:=xc hSw k3;go_simp;try rfl
 try simp only [tD]
 generalize w3.drew=w4 at hS ⊢
 refine rc 2 fun K hK=>?_
 go_simp
 refine ((HCL.out w4 (X03.out.trans hS))).mono ?_
 rintro e w5 ⟨uC,rfl,hoC,hx5⟩
 obtain ⟨aD,cD,eD,hD1,hD2⟩:=(Row.of_owns hoC).shape
 subst eD
 have hS0:=hS
 have hS:=Ext.trans hS hx5
 refine hK.out _ _ hS ?_
 try simp only [tD]
 clear hK K
 refine' tw 6 ?_ ?_;rotate_left;·intros;go_simp;try rfl
 try simp only [tD]
 refine rl 5 fun K hK=>?_
 go_simp
 refine ((HOL.out w5 (X03.out.trans hS))).mono ?_
 rintro e w6 ⟨uO,rfl,hoO,hx6⟩
 obtain ⟨aE,cE,eE,hE1,hE2⟩:=(Row.of_owns hoO).shape
 subst eE
 have hS6:=Ext.trans hS hx6
 have b6:=hS6.block BB3.out
 have e2:=blk_cell (l:=[.string M.name,.slice aU M.regs.length cU,.slice aC M.classes.length cC,.slice aO M.ops.length cO,.slice aA M.args.length cA,.string M.result,.slice aS M.saved.length cS,.int .i64 M.slots]) b6 2 _ rfl
 have e3:=blk_cell (l:=[.string M.name,.slice aU M.regs.length cU,.slice aC M.classes.length cC,.slice aO M.ops.length cO,.slice aA M.args.length cA,.string M.result,.slice aS M.saved.length cS,.int .i64 M.slots]) b6 3 _ rfl
 have f2:=blk_free (l:=[.string M.name,.slice aU M.regs.length cU,.slice aC M.classes.length cC,.slice aO M.ops.length cO,.slice aA M.args.length cA,.string M.result,.slice aS M.saved.length cS,.int .i64 M.slots]) b6 2
 have f3:=blk_free (l:=[.string M.name,.slice aU M.regs.length cU,.slice aC M.classes.length cC,.slice aO M.ops.length cO,.slice aA M.args.length cA,.string M.result,.slice aS M.saved.length cS,.int .i64 M.slots]) b6 3
 have l6:=(Array.getElem?_eq_some_iff.1 b6).1
 have B6:=qh b6
 have OC:=qh (owns_base (owns_ext hoC hx6) (show w2.heap.size≤w4.heap.size from Nat.le_trans hsz3 hS0.size))
 have OO:=qh (owns_base hoO (show w2.heap.size≤w5.heap.size from Nat.le_trans hsz3 hS.size))
 have X36:=qh hS6
 clear b6 hoC hoO hx5 hx6 hS0 hS6
 refine hK.out _ _ ?_
 try simp only [tD]
 clear hK K
 refine rl 7 fun K hK=>?_
 go_simp
 refine hK.out _ _ ?_
 try simp only [tD]
 clear hK K
 refine' tw 8 ?_ ?_;rotate_left;·intros;go_simp;try rfl
 try simp only [tD]
 refine rl 9 fun K hK=>?_
 go_simp
 refine hK.out _ _ ?_
 try simp only [tD]
 clear hK K
 refine wpAnyM_done (by kernel_rfl) ?_ _
 refine hK1.out _ _ ?_
 have b7:=heap_set_cells B6.out 2 (.slice aD M.classes.length cD)
 have b8:=heap_set_cells b7 3 (.slice aE M.ops.length cE)
 simp only [List.setIfInBounds_toArray,List.set_cons_zero,List.set_cons_succ] at b8
 have kn:KeepN [27] w6 ((w6.setCell ⟨W.heap.size,2,none⟩ (.slice aD M.classes.length cD)).setCell ⟨W.heap.size,3,none⟩ (.slice aE M.ops.length cE)):=(KeepN.set B6.out _ (by decide)).trans (KeepN.set b7 _ (by decide))
 have kk:Keep (fun k=>k=W.heap.size) w2 ((w6.setCell ⟨W.heap.size,2,none⟩ (.slice aD M.classes.length cD)).setCell ⟨W.heap.size,3,none⟩ (.slice aE M.ops.length cE)):=((K3.out.trans (Keep.of_ext X36.out:Keep (fun k=>k=W.heap.size) w3 w6) (fun _ _ e=>e)).trans (Keep.setCell (fun k=>k=W.heap.size) w6 ⟨W.heap.size,2,none⟩ _ rfl) (fun _ _ e=>e)).trans (Keep.setCell (fun k=>k=W.heap.size) _ ⟨W.heap.size,3,none⟩ _ rfl) (fun _ _ e=>e)
 have CP:Hid (CpI W w2 n0 M [.string M.name,.slice aU M.regs.length cU,.slice aD M.classes.length cD,.slice aE M.ops.length cE,.slice aA M.args.length cA,.string M.result,.slice aS M.saved.length cS,.int .i64 M.slots] (.slice aD M.classes.length cD) (.slice aE M.ops.length cE) 0 0 ((w6.setCell ⟨W.heap.size,2,none⟩ (.slice aD M.classes.length cD)).setCell ⟨W.heap.size,3,none⟩ (.slice aE M.ops.length cE))):=qh ⟨kk,l2,b8,⟨us0,US.out.1,owns_keepN OC.out kn (by decide),fun k c u hc hu=>⟨fun hk=>by omega,fun _=>US.out.2 k c u hc hu⟩⟩,⟨ps0,PS.out.1,owns_keepN OO.out kn (by decide),fun k o u ho hu=>⟨(PS.out.2 k o u ho hu).2.2,fun hk=>by omega,fun _=>⟨(PS.out.2 k o u ho hu).1,(PS.out.2 k o u ho hu).2.1⟩⟩⟩⟩
 have X02:=qh (X1.out.trans X2.out)
 clear b7 b8 kn kk hS e2 e3 f2 f3 l6 k2 k3 US PS HCL HOL
 generalize (w6.setCell ⟨W.heap.size,2,none⟩ (.slice aD M.classes.length cD)).setCell ⟨W.heap.size,3,none⟩ (.slice aE M.ops.length cE)=w8 at CP ⊢
 have k2:=blk_cell (l:=[.string M.name,.slice aU M.regs.length cU,.slice aD M.classes.length cD,.slice aE M.ops.length cE,.slice aA M.args.length cA,.string M.result,.slice aS M.saved.length cS,.int .i64 M.slots]) CP.out.blk 2 _ rfl
 unfold maxLen at hD2 hE2
 go_wp2_with fail
 go_loopw [20] (fun iv wr=>∃ i:Nat,i≤M.classes.length∧iv=.int .i64 i∧Hid (CpI W w2 n0 M [.string M.name,.slice aU M.regs.length cU,.slice aD M.classes.length cD,.slice aE M.ops.length cE,.slice aA M.args.length cA,.string M.result,.slice aS M.saved.length cS,.int .i64 M.slots] (.slice aD M.classes.length cD) (.slice aE M.ops.length cE) i 0 wr)) (fun iv _=>M.classes.length - (intOf iv).toNat)
 case atStart=>exact ⟨0,by omega,rfl,CP⟩
 case round =>
  clear CP k2
  obtain ⟨i,hi,rfl,hin⟩:=hrel
  rename World=>wr
  have k2:=blk_cell (l:=[.string M.name,.slice aU M.regs.length cU,.slice aD M.classes.length cD,.slice aE M.ops.length cE,.slice aA M.args.length cA,.string M.result,.slice aS M.saved.length cS,.int .i64 M.slots]) hin.out.blk 2 _ rfl
  have XWr:Hid (Ext W wr):=qh (keepExt ((Keep.of_ext X02.out:Keep (fun k=>k=W.heap.size) W w2).trans hin.out.keep (fun _ _ e=>e)) (fun k e=>by omega))
  by_cases hli:i<M.classes.length
  ·have hiz:(i:Int)<(M.classes.length:Int):=by omega
   obtain ⟨c,hc⟩:∃ x,M.classes[i]?=some x:=⟨_,lE hli⟩
   obtain ⟨us,c1,c2,c3⟩:=hin.out.cls
   obtain ⟨u,hu⟩:∃ u,us[i]?=some u:=⟨us[i]'(by omega),lE _⟩
   obtain ⟨g,rfl⟩:∃ g,aD=some ⟨g,0,none⟩:=by
    rcases c2.2 with ⟨e,e2⟩ | ⟨g,cp,cu,e,_⟩
    ·omega
    ·simp only [Value.slice.injEq] at e
     exact ⟨g,e.1⟩
   have hgl:=(c2.lt g rfl).2
   have hus:=(c3 i c u hc hu).2 (Nat.le_refl _)
   obtain ⟨ua,uc,rfl,_,_⟩:=hus.form
   have cu:wr.cell? ⟨g,i * 2+1,none⟩=some (.slice ua c.regs.length uc):=by
    have hf:=flatten_at (rows:=clsRows M.classes us) clsRows_len (clsRows_at hc hu) (j:=1) rfl
    obtain ⟨b,off,cap3,e,_,_,_,hcell⟩:=Row.at (Row.of_owns c2) (fun e=>by rw [e] at hf;simp at hf)
    cases e
    have:=hcell _ _ hf
    rw [Nat.zero_add] at this
    exact this
   have HCS:=qh (fun (w:World) (x:Ext wr w)=>clone_any (hus.ext HN.out (XWr.out.trans x)) (HS.out.cls c (List.mem_of_getElem? hc)))
   have HC:=qh hc
   have HCI:=qh hin.out
   have OW:=qh c2
   have hszr:=hin.out.keep.size
   clear c1 c3 c2 hu hus hc hin
   go_upto_region 6 with (fail)
   refine wp_region_M (fun w'=>Ext wr w') 12 (by kernel_rfl) (Ext.drew _) (fun hS=>?_)
   refine' tk 0 hS ?_ ?_;rotate_left;·intros;go_simp;try rfl
   refine' tk 1 hS ?_ ?_;rotate_left;·intro w hSw;have a2:=xc hSw k2;go_simp;try rfl
   refine' tk 2 hS ?_ ?_;rotate_left;·intros;go_simp;try rfl
   try simp only [tD]
   refine' tk 3 hS ?_ ?_;rotate_left;·intros;go_simp;try rfl
   refine' tk 4 hS ?_ ?_;rotate_left;·intro w hSw;have a2:=xc hSw k2;go_simp;try rfl
   refine' tk 5 hS ?_ ?_;rotate_left;·intros;go_simp;try rfl
   try simp only [tD]
   refine' tk 6 hS ?_ ?_;rotate_left;·intros;go_simp;try rfl
   refine' tk 7 hS ?_ ?_;rotate_left;·intros;go_simp;try rfl
   refine' tk 8 hS ?_ ?_;rotate_left;·intro w hSw;have a3:=xc hSw cu;go_simp;try rfl
   try simp only [tD]
   generalize wr.drew=w4 at hS ⊢
   refine rc 9 fun K hK=>?_
   go_simp
   refine ((HCS.out w4 hS)).mono ?_
   rintro e w5 ⟨u5,rfl,ho5,hx5⟩
   obtain ⟨a5,c5,e5,_,_⟩:=(Row.of_owns ho5).shape
   subst e5
   have hS0:=hS
   have hS:=Ext.trans hS hx5
   have cu5:=xc hS cu
   have fu5:=World.ownsRow.frozenAt (owns_ext OW.out hS) (i * 2+1)
   have lu5:g<w5.heap.size:=Nat.lt_of_lt_of_le hgl hS.size
   refine hK.out _ _ hS ?_
   clear hK K
   refine' tk 10 hS ?_ ?_;rotate_left;·intros;go_simp;try rfl
   refine' tk 11 hS ?_ ?_;rotate_left;·intros;go_simp;try rfl
   try simp only [tD]
   refine rl 12 fun K hK=>?_
   go_simp
   refine hK.out _ _ ?_
   try simp only [tD]
   clear hK K
   refine wpAnyM_done (by kernel_rfl) ?_ _
   have CN:=qh (CpI.set_cls (HCI.out.ext hS) HC.out (owns_base ho5 (Nat.le_trans hszr hS0.size)))
   clear hS hS0 hx5 ho5 fu5 cu5
   go_wp2_with fail
   go_roundw
   case rel=>exact ⟨i+1,by omega,by go_num,CN⟩
   case measure=>simp [intOf];omega
  ·have hiz:¬ (i:Int)<(M.classes.length:Int):=by omega
   obtain rfl:i=M.classes.length:=by omega
   have CP:=qh hin.out
   have k3:=blk_cell (l:=[.string M.name,.slice aU M.regs.length cU,.slice aD M.classes.length cD,.slice aE M.ops.length cE,.slice aA M.args.length cA,.string M.result,.slice aS M.saved.length cS,.int .i64 M.slots]) hin.out.blk 3 _ rfl
   clear hin
   go_wp2_with fail
   go_loopw [39] (fun iv wr=>∃ j:Nat,j≤M.ops.length∧iv=.int .i64 j∧Hid (CpI W w2 n0 M [.string M.name,.slice aU M.regs.length cU,.slice aD M.classes.length cD,.slice aE M.ops.length cE,.slice aA M.args.length cA,.string M.result,.slice aS M.saved.length cS,.int .i64 M.slots] (.slice aD M.classes.length cD) (.slice aE M.ops.length cE) M.classes.length j wr)) (fun iv _=>M.ops.length - (intOf iv).toNat)
   case atStart=>exact ⟨0,by omega,rfl,CP⟩
   case round =>
    clear CP k3 k2 XWr hiz
    obtain ⟨j,hj,rfl,hin⟩:=hrel
    rename World=>wr
    have k3:=blk_cell (l:=[.string M.name,.slice aU M.regs.length cU,.slice aD M.classes.length cD,.slice aE M.ops.length cE,.slice aA M.args.length cA,.string M.result,.slice aS M.saved.length cS,.int .i64 M.slots]) hin.out.blk 3 _ rfl
    have XWr:Hid (Ext W wr):=qh (keepExt ((Keep.of_ext X02.out:Keep (fun k=>k=W.heap.size) W w2).trans hin.out.keep (fun _ _ e=>e)) (fun k e=>by omega))
    by_cases hlj:j<M.ops.length
    ·have hjz:(j:Int)<(M.ops.length:Int):=by omega
     obtain ⟨o,ho⟩:∃ x,M.ops[j]?=some x:=⟨_,lE hlj⟩
     obtain ⟨ps,c1,c2,c3⟩:=hin.out.ops
     obtain ⟨u,hu⟩:∃ u,ps[j]?=some u:=⟨ps[j]'(by omega),lE _⟩
     obtain ⟨g,rfl⟩:∃ g,aE=some ⟨g,0,none⟩:=by
      rcases c2.2 with ⟨e,e2⟩ | ⟨g,cp,cu,e,_⟩
      ·omega
      ·simp only [Value.slice.injEq] at e
       exact ⟨g,e.1⟩
     have hgl:=(c2.lt g rfl).2
     have hus:=(c3 j o u ho hu).2.2 (Nat.le_refl _)
     obtain ⟨u1,u2⟩:=u
     obtain ⟨hU,hB⟩:=hus
     dsimp only at hU hB
     obtain ⟨ua,uc,rfl,_,_⟩:=hU.form
     obtain ⟨va,vc,rfl,_,_⟩:=hB.form
     have hrow:=opRows_at ho hu
     have cu:wr.cell? ⟨g,j * 6+3,none⟩=some (.slice ua o.uses.length uc):=by
      have hf:=flatten_at (rows:=opRows M.ops ps) opRows_len hrow (j:=3) rfl
      obtain ⟨b,off,cap3,e,_,_,_,hcell⟩:=Row.at (Row.of_owns c2) (fun e=>by rw [e] at hf;simp at hf)
      cases e
      have:=hcell _ _ hf
      rw [Nat.zero_add] at this
      exact this
     have cv:wr.cell? ⟨g,j * 6+5,none⟩=some (.slice va o.clob.length vc):=by
      have hf:=flatten_at (rows:=opRows M.ops ps) opRows_len hrow (j:=5) rfl
      obtain ⟨b,off,cap3,e,_,_,_,hcell⟩:=Row.at (Row.of_owns c2) (fun e=>by rw [e] at hf;simp at hf)
      cases e
      have:=hcell _ _ hf
      rw [Nat.zero_add] at this
      exact this
     have HCU:=qh (fun (w:World) (x:Ext wr w)=>cloneOpr_any (v:=.slice ua o.uses.length uc) (n:=o.uses.length) (xs:=(o.uses.map fun o=>[Value.string o.cls,.string o.fix]).flatten) (by
      have:=(Tab.same hU fun k hk=>Below.block (XWr.out.trans x) k (Nat.lt_of_lt_of_le hk HN.out)).row
      rw [List.length_map] at this
      exact this) (fun q hq=>by
       obtain ⟨r,hr,hq⟩:=List.mem_flatten.1 hq
       obtain ⟨x,_,rfl⟩:=List.mem_map.1 hr
       simp only [List.mem_cons,List.not_mem_nil,or_false] at hq
       rcases hq with rfl | rfl <;> rfl) (by have:=HS.out.uses o (List.mem_of_getElem? ho);omega))
     have HCB:=qh (fun (w:World) (x:Ext wr w)=>clone_any (StrsIn.ext hB HN.out (XWr.out.trans x)) (HS.out.clob o (List.mem_of_getElem? ho)))
     have HO:=qh ho
     have HCI:=qh hin.out
     have OW:=qh c2
     have hszr:=hin.out.keep.size
     clear c1 c3 c2 hu ho hU hB hin hrow
     go_upto_region 11 with (fail)
     refine wp_region_M (fun w'=>Ext wr w') 22 (by kernel_rfl) (Ext.drew _) (fun hS=>?_)
     refine' tk 0 hS ?_ ?_;rotate_left;·intros;go_simp;try rfl
     refine' tk 1 hS ?_ ?_;rotate_left;·intro w hSw;have a2:=xc hSw k3;go_simp;try rfl
     refine' tk 2 hS ?_ ?_;rotate_left;·intros;go_simp;try rfl
     try simp only [tD]
     refine' tw 3 ?_ ?_;rotate_left;·intros;go_simp;try rfl
     try simp only [tD]
     refine' tw 5 ?_ ?_;rotate_left;·intros;go_simp;try rfl
     refine' tk 6 hS ?_ ?_;rotate_left;·intros;go_simp;try rfl
     refine' tk 7 hS ?_ ?_;rotate_left;·intro w hSw;have a2:=xc hSw k3;go_simp;try rfl
     try simp only [tD]
     refine' tk 8 hS ?_ ?_;rotate_left;·intros;go_simp;try rfl
     refine' tk 9 hS ?_ ?_;rotate_left;·intros;go_simp;try rfl
     refine' tk 10 hS ?_ ?_;rotate_left;·intros;go_simp;try rfl
     try simp only [tD]
     refine' tk 11 hS ?_ ?_;rotate_left;·intro w hSw;have a3:=xc hSw cu;go_simp;try rfl
     refine' tk 13 hS ?_ ?_;rotate_left;·intros;go_simp;try rfl
     refine' tk 14 hS ?_ ?_;rotate_left;·intro w hSw;have a2:=xc hSw k3;go_simp;try rfl
     try simp only [tD]
     refine' tk 15 hS ?_ ?_;rotate_left;·intros;go_simp;try rfl
     refine' tk 16 hS ?_ ?_;rotate_left;·intros;go_simp;try rfl
     refine' tk 17 hS ?_ ?_;rotate_left;·intros;go_simp;try rfl
     try simp only [tD]
     refine' tk 18 hS ?_ ?_;rotate_left;·intro w hSw;have a4:=xc hSw cv;go_simp;try rfl
     try simp only [tD]
     generalize wr.drew=w4 at hS ⊢
     apply once
     ·intro REST
      refine wpAnyM_ready [4,12] (by kernel_rfl) rfl ?_
      refine (AllM.cons rfl rfl (fun K hK=>?_) (AllM.cons rfl rfl (fun K hK=>?_) AllM.nil))
      ·skip
       have z4:=xc hS k3
       go_simp
       refine hK.out _ _ hS ?_
       try simp only [tD]
       clear hK K
       refine rc 12 fun K hK=>?_
       go_simp
       refine ((HCU.out w4 hS)).mono ?_
       rintro e w5 ⟨q5,rfl,ho5,hx5⟩
       obtain ⟨a5,c5,e5,hz1,hz2⟩:=(Row.of_owns ho5).shape
       subst e5
       clear hz1 hz2
       have hS4:=hS
       have hS:=Ext.trans hS hx5
       refine hK.out _ _ hS ?_
       try simp only [tD]
       clear hK K
       refine rc 19 fun K hK=>?_
       go_simp
       refine ((HCB.out w5 hS)).mono ?_
       rintro e w6 ⟨q6,rfl,ho6,hx6⟩
       obtain ⟨a6,c6,e6,hz1,hz2⟩:=(Row.of_owns ho6).shape
       subst e6
       clear hz1 hz2
       have hS5:=hS
       have hS:=Ext.trans hS hx6
       have OU:=owns_base (owns_ext ho5 hx6) (Nat.le_trans hszr hS4.size)
       have OB:=owns_base ho6 (Nat.le_trans hszr hS5.size)
       refine hK.out _ _ hS ?_
       clear hK K
       refine' tk 20 hS ?_ ?_;rotate_left;·intros;go_simp;try rfl
       refine' tk 21 hS ?_ ?_;rotate_left;·intros;go_simp;try rfl
       try simp only [tD]
       have cu6:=xc hS cu
       have fu6:=World.ownsRow.frozenAt (owns_ext OW.out hS) (j * 6+3)
       have fv6:=World.ownsRow.frozenAt (owns_ext OW.out hS) (j * 6+5)
       have lu6:g<w6.heap.size:=Nat.lt_of_lt_of_le hgl hS.size
       obtain ⟨q7,hq7⟩:=cell?_setCell_some (w:=w6) (p:=⟨g,j * 6+3,none⟩) (x:=.slice a5 o.uses.length c5) (q:=⟨g,j * 6+5,none⟩) (xc hS cv)
       refine rl 22 fun K hK=>?_
       go_simp
       refine hK.out _ _ ?_
       try simp only [tD]
       clear hK K
       refine' tw 23 ?_ ?_;rotate_left;·intros;go_simp;try rfl
       try simp only [tD]
       refine' tw 24 ?_ ?_;rotate_left;·intros;go_simp;try rfl
       try simp only [tD]
       refine rl 25 fun K hK=>?_
       go_simp
       refine hK.out _ _ ?_
       try simp only [tD]
       clear hK K
       refine wpAnyM_done (by kernel_rfl) ?_ _
       clear fu6 fv6 lu6 cu6 hq7 q7 hx6 ho6 hS5
       have XX:=hS
       clear hS
       clear hx5 ho5
       revert OU OB XX
       revert a5 c5 a6 c6 w6
       exact REST.out
      ·skip
       go_simp
       refine ((HCU.out w4 hS)).mono ?_
       rintro e w5 ⟨q5,rfl,ho5,hx5⟩
       obtain ⟨a5,c5,e5,hz1,hz2⟩:=(Row.of_owns ho5).shape
       subst e5
       clear hz1 hz2
       have hS4:=hS
       have hS:=Ext.trans hS hx5
       refine hK.out _ _ hS ?_
       try simp only [tD]
       clear hK K
       refine wpAnyM_ready [4,19] (by kernel_rfl) rfl ?_
       refine (AllM.cons rfl rfl (fun K hK=>?_) (AllM.cons rfl rfl (fun K hK=>?_) AllM.nil))
       ·skip
        have z4:=xc hS k3
        go_simp
        refine hK.out _ _ hS ?_
        try simp only [tD]
        clear hK K
        refine rc 19 fun K hK=>?_
        go_simp
        refine ((HCB.out w5 hS)).mono ?_
        rintro e w6 ⟨q6,rfl,ho6,hx6⟩
        obtain ⟨a6,c6,e6,hz1,hz2⟩:=(Row.of_owns ho6).shape
        subst e6
        clear hz1 hz2
        have hS5:=hS
        have hS:=Ext.trans hS hx6
        have OU:=owns_base (owns_ext ho5 hx6) (Nat.le_trans hszr hS4.size)
        have OB:=owns_base ho6 (Nat.le_trans hszr hS5.size)
        refine hK.out _ _ hS ?_
        clear hK K
        refine' tk 20 hS ?_ ?_;rotate_left;·intros;go_simp;try rfl
        refine' tk 21 hS ?_ ?_;rotate_left;·intros;go_simp;try rfl
        try simp only [tD]
        have cu6:=xc hS cu
        have fu6:=World.ownsRow.frozenAt (owns_ext OW.out hS) (j * 6+3)
        have fv6:=World.ownsRow.frozenAt (owns_ext OW.out hS) (j * 6+5)
        have lu6:g<w6.heap.size:=Nat.lt_of_lt_of_le hgl hS.size
        obtain ⟨q7,hq7⟩:=cell?_setCell_some (w:=w6) (p:=⟨g,j * 6+3,none⟩) (x:=.slice a5 o.uses.length c5) (q:=⟨g,j * 6+5,none⟩) (xc hS cv)
        refine rl 22 fun K hK=>?_
        go_simp
        refine hK.out _ _ ?_
        try simp only [tD]
        clear hK K
        refine' tw 23 ?_ ?_;rotate_left;·intros;go_simp;try rfl
        try simp only [tD]
        refine' tw 24 ?_ ?_;rotate_left;·intros;go_simp;try rfl
        try simp only [tD]
        refine rl 25 fun K hK=>?_
        go_simp
        refine hK.out _ _ ?_
        try simp only [tD]
        clear hK K
        refine wpAnyM_done (by kernel_rfl) ?_ _
        exact REST.out _ _ _ _ _ OU OB hS
       ·skip
        go_simp
        refine ((HCB.out w5 hS)).mono ?_
        rintro e w6 ⟨q6,rfl,ho6,hx6⟩
        obtain ⟨a6,c6,e6,hz1,hz2⟩:=(Row.of_owns ho6).shape
        subst e6
        clear hz1 hz2
        have hS5:=hS
        have hS:=Ext.trans hS hx6
        have OU:=owns_base (owns_ext ho5 hx6) (Nat.le_trans hszr hS4.size)
        have OB:=owns_base ho6 (Nat.le_trans hszr hS5.size)
        refine hK.out _ _ hS ?_
        clear hK K
        refine' tk 20 hS ?_ ?_;rotate_left;·intros;go_simp;try rfl
        refine' tk 21 hS ?_ ?_;rotate_left;·intros;go_simp;try rfl
        try simp only [tD]
        have cu6:=xc hS cu
        have fu6:=World.ownsRow.frozenAt (owns_ext OW.out hS) (j * 6+3)
        have fv6:=World.ownsRow.frozenAt (owns_ext OW.out hS) (j * 6+5)
        have lu6:g<w6.heap.size:=Nat.lt_of_lt_of_le hgl hS.size
        obtain ⟨q7,hq7⟩:=cell?_setCell_some (w:=w6) (p:=⟨g,j * 6+3,none⟩) (x:=.slice a5 o.uses.length c5) (q:=⟨g,j * 6+5,none⟩) (xc hS cv)
        refine wpAnyM_ready [4,22] (by kernel_rfl) rfl ?_
        refine (AllM.cons rfl rfl (fun K hK=>?_) (AllM.late rfl rfl (by kernel_rfl) (fun K hK=>?_) AllM.nil))
        ·skip
         have z4:=xc hS k3
         go_simp
         refine hK.out _ _ hS ?_
         try simp only [tD]
         clear hK K
         refine rl 22 fun K hK=>?_
         go_simp
         refine hK.out _ _ ?_
         try simp only [tD]
         clear hK K
         refine' tw 23 ?_ ?_;rotate_left;·intros;go_simp;try rfl
         try simp only [tD]
         refine' tw 24 ?_ ?_;rotate_left;·intros;go_simp;try rfl
         try simp only [tD]
         refine rl 25 fun K hK=>?_
         go_simp
         refine hK.out _ _ ?_
         try simp only [tD]
         clear hK K
         refine wpAnyM_done (by kernel_rfl) ?_ _
         exact REST.out _ _ _ _ _ OU OB hS
        ·skip
         go_simp
         refine hK.out _ _ ?_
         try simp only [tD]
         clear hK K
         have z4:(w6.setCell ⟨g,j * 6+3,none⟩ (.slice a5 o.uses.length c5)).cell? ⟨W.heap.size,3,none⟩=some (.slice (some ⟨g,0,none⟩) M.ops.length cE):=by
          have e:=Below.heap_setCell w6 ⟨g,j * 6+3,none⟩ (.slice a5 o.uses.length c5) W.heap.size (fun e=>owns_ne OW.out HCI.out.blk (by decide) (by rw [e];rfl))
          have:=xc hS k3
          simp only [World.cell?,e] at this ⊢
          exact this
         refine rl 4 fun K hK=>?_
         go_simp
         refine hK.out _ _ ?_
         try simp only [tD]
         clear hK K
         refine' tw 23 ?_ ?_;rotate_left;·intros;go_simp;try rfl
         try simp only [tD]
         refine' tw 24 ?_ ?_;rotate_left;·intros;go_simp;try rfl
         try simp only [tD]
         refine rl 25 fun K hK=>?_
         go_simp
         refine hK.out _ _ ?_
         try simp only [tD]
         clear hK K
         refine wpAnyM_done (by kernel_rfl) ?_ _
         exact REST.out _ _ _ _ _ OU OB hS
     clear HCU HCB
     intro w6 a5 c5 a6 c6 OU OB XX
     have CN:=qh (CpI.set_ops (HCI.out.ext XX) HO.out OU OB)
     clear OU OB XX
     go_wp2_with fail
     go_roundw
     case rel=>exact ⟨j+1,by omega,by go_num,CN⟩
     case measure=>simp [intOf];omega
    ·have hjz:¬ (j:Int)<(M.ops.length:Int):=by omega
     obtain rfl:j=M.ops.length:=by omega
     have CP:=qh hin.out
     have k4:=blk_cell (l:=[.string M.name,.slice aU M.regs.length cU,.slice aD M.classes.length cD,.slice aE M.ops.length cE,.slice aA M.args.length cA,.string M.result,.slice aS M.saved.length cS,.int .i64 M.slots]) hin.out.blk 4 _ rfl
     have k6:=blk_cell (l:=[.string M.name,.slice aU M.regs.length cU,.slice aD M.classes.length cD,.slice aE M.ops.length cE,.slice aA M.args.length cA,.string M.result,.slice aS M.saved.length cS,.int .i64 M.slots]) hin.out.blk 6 _ rfl
     have hszr:=hin.out.keep.size
     have HCA:=qh (fun (w:World) (x:Ext wr w)=>clone_any (StrsIn.ext HM.out.args HN.out (XWr.out.trans x)) HS.out.args)
     have HCS:=qh (fun (w:World) (x:Ext wr w)=>clone_any (StrsIn.ext HM.out.saved HN.out (XWr.out.trans x)) HS.out.saved)
     have BR:=qh ((hin.out.keep.block (W.heap.size+1) (by have:=X2.out.size;have:=(Array.getElem?_eq_some_iff.1 B1.out).1;omega) (fun e=>by omega)).trans (X2.out.block B1.out))
     clear hin k3
     go_upto_region 13 with (fail)
     rename_i K1 hK1
     have hK1:=qh hK1
     refine wp_region_M (fun w'=>Ext wr w') 5 (by kernel_rfl) (Ext.drew _) (fun hS=>?_)
     refine' tk 0 hS ?_ ?_;rotate_left;·intros;go_simp;try rfl
     refine' tk 1 hS ?_ ?_;rotate_left;·intro w hSw;have a2:=xc hSw k4;go_simp;try rfl
     refine' tk 3 hS ?_ ?_;rotate_left;·intros;go_simp;try rfl
     try simp only [tD]
     refine' tk 4 hS ?_ ?_;rotate_left;·intro w hSw;have a3:=xc hSw k6;go_simp;try rfl
     try simp only [tD]
     generalize wr.drew=w4 at hS ⊢
     refine rc 2 fun K hK=>?_
     go_simp
     refine ((HCA.out w4 hS)).mono ?_
     rintro e w5 ⟨q5,rfl,ho5,hx5⟩
     obtain ⟨a5,c5,e5,hz1,hz2⟩:=(Row.of_owns ho5).shape
     subst e5
     have hS4:=hS
     have hS:=Ext.trans hS hx5
     clear hz1 hz2
     refine hK.out _ _ hS ?_
     try simp only [tD]
     clear hK K
     refine' tw 6 ?_ ?_;rotate_left;·intros;go_simp;try rfl
     try simp only [tD]
     refine rl 5 fun K hK=>?_
     go_simp
     refine ((HCS.out w5 hS)).mono ?_
     rintro e w6 ⟨q6,rfl,ho6,hx6⟩
     obtain ⟨a6,c6,e6,hz1,hz2⟩:=(Row.of_owns ho6).shape
     subst e6
     have hS5:=hS
     have hS:=Ext.trans hS hx6
     have OA:=qh (owns_base (owns_ext ho5 hx6) (Nat.le_trans hszr hS4.size))
     have OS:=qh (owns_base ho6 (Nat.le_trans hszr hS5.size))
     have b6:=hS.block CP.out.blk
     have e4:=blk_cell (l:=[.string M.name,.slice aU M.regs.length cU,.slice aD M.classes.length cD,.slice aE M.ops.length cE,.slice aA M.args.length cA,.string M.result,.slice aS M.saved.length cS,.int .i64 M.slots]) b6 4 _ rfl
     have e6:=blk_cell (l:=[.string M.name,.slice aU M.regs.length cU,.slice aD M.classes.length cD,.slice aE M.ops.length cE,.slice aA M.args.length cA,.string M.result,.slice aS M.saved.length cS,.int .i64 M.slots]) b6 6 _ rfl
     have f4:=blk_free (l:=[.string M.name,.slice aU M.regs.length cU,.slice aD M.classes.length cD,.slice aE M.ops.length cE,.slice aA M.args.length cA,.string M.result,.slice aS M.saved.length cS,.int .i64 M.slots]) b6 4
     have f6:=blk_free (l:=[.string M.name,.slice aU M.regs.length cU,.slice aD M.classes.length cD,.slice aE M.ops.length cE,.slice aA M.args.length cA,.string M.result,.slice aS M.saved.length cS,.int .i64 M.slots]) b6 6
     have l6:=(Array.getElem?_eq_some_iff.1 b6).1
     have B6:=qh b6
     have R6:=qh (hS.block BR.out)
     have X6:=qh hS
     clear hz1 hz2 ho5 ho6 hx5 hx6 hS4 hS5 b6
     refine hK.out _ _ ?_
     try simp only [tD]
     clear hK K
     refine rl 7 fun K hK=>?_
     go_simp
     refine hK.out _ _ ?_
     try simp only [tD]
     clear hK K
     refine' tw 8 ?_ ?_;rotate_left;·intros;go_simp;try rfl
     try simp only [tD]
     refine rl 9 fun K hK=>?_
     go_simp
     refine hK.out _ _ ?_
     try simp only [tD]
     clear hK K
     refine wpAnyM_done (by kernel_rfl) ?_ _
     refine hK1.out _ _ ?_
     have b7:=heap_set_cells B6.out 4 (.slice a5 M.args.length c5)
     have b8:=heap_set_cells b7 6 (.slice a6 M.saved.length c6)
     simp only [List.setIfInBounds_toArray,List.set_cons_zero,List.set_cons_succ] at b8
     have kk:Keep (fun k=>k=W.heap.size) w6 ((w6.setCell ⟨W.heap.size,4,none⟩ (.slice a5 M.args.length c5)).setCell ⟨W.heap.size,6,none⟩ (.slice a6 M.saved.length c6)):=(Keep.setCell (fun k=>k=W.heap.size) w6 ⟨W.heap.size,4,none⟩ _ rfl).trans (Keep.setCell (fun k=>k=W.heap.size) _ ⟨W.heap.size,6,none⟩ _ rfl) (fun _ _ e=>e)
     have MC:=qh (CpI.mach (CP.out.ext X6.out) (Nat.le_trans X2.out.size (Nat.le_refl _)) (by have:=(Array.getElem?_eq_some_iff.1 B1.out).1;omega) CR.out OA.out OS.out HM.out.slots)
     have KK:=qh kk
     have B8:=qh b8
     clear b7 b8 kk hS e4 e6 f4 f6 l6 k4 k6
     generalize (w6.setCell ⟨W.heap.size,4,none⟩ (.slice a5 M.args.length c5)).setCell ⟨W.heap.size,6,none⟩ (.slice a6 M.saved.length c6)=w8 at KK B8 ⊢
     have r8:=(KK.out.block (W.heap.size+1) (Array.getElem?_eq_some_iff.1 R6.out).1 (fun e=>by omega)).trans R6.out
     have g0:=blk_cell (l:=[.string M.name,.slice aU M.regs.length cU,.slice aD M.classes.length cD,.slice aE M.ops.length cE,.slice a5 M.args.length c5,.string M.result,.slice a6 M.saved.length c6,.int .i64 M.slots]) B8.out 0 _ rfl
     have g1:=blk_cell (l:=[.string M.name,.slice aU M.regs.length cU,.slice aD M.classes.length cD,.slice aE M.ops.length cE,.slice a5 M.args.length c5,.string M.result,.slice a6 M.saved.length c6,.int .i64 M.slots]) B8.out 1 _ rfl
     have g2:=blk_cell (l:=[.string M.name,.slice aU M.regs.length cU,.slice aD M.classes.length cD,.slice aE M.ops.length cE,.slice a5 M.args.length c5,.string M.result,.slice a6 M.saved.length c6,.int .i64 M.slots]) B8.out 2 _ rfl
     have g3:=blk_cell (l:=[.string M.name,.slice aU M.regs.length cU,.slice aD M.classes.length cD,.slice aE M.ops.length cE,.slice a5 M.args.length c5,.string M.result,.slice a6 M.saved.length c6,.int .i64 M.slots]) B8.out 3 _ rfl
     have g4:=blk_cell (l:=[.string M.name,.slice aU M.regs.length cU,.slice aD M.classes.length cD,.slice aE M.ops.length cE,.slice a5 M.args.length c5,.string M.result,.slice a6 M.saved.length c6,.int .i64 M.slots]) B8.out 4 _ rfl
     have g5:=blk_cell (l:=[.string M.name,.slice aU M.regs.length cU,.slice aD M.classes.length cD,.slice aE M.ops.length cE,.slice a5 M.args.length c5,.string M.result,.slice a6 M.saved.length c6,.int .i64 M.slots]) B8.out 5 _ rfl
     have g6:=blk_cell (l:=[.string M.name,.slice aU M.regs.length cU,.slice aD M.classes.length cD,.slice aE M.ops.length cE,.slice a5 M.args.length c5,.string M.result,.slice a6 M.saved.length c6,.int .i64 M.slots]) B8.out 6 _ rfl
     have g7:=blk_cell (l:=[.string M.name,.slice aU M.regs.length cU,.slice aD M.classes.length cD,.slice aE M.ops.length cE,.slice a5 M.args.length c5,.string M.result,.slice a6 M.saved.length c6,.int .i64 M.slots]) B8.out 7 _ rfl
     have lr:=(Array.getElem?_eq_some_iff.1 r8).1
     have R8:=qh r8
     have z:=fun j v h=>blk_cell (l:=[.string ⟨#[]⟩,.slice none 0 0,.slice none 0 0,.slice none 0 0,.slice none 0 0,.string ⟨#[]⟩,.slice none 0 0,.int .i64 0]) r8 j v h
     have z0:=z 0 _ rfl
     have z1:=z 1 _ rfl
     have z2:=z 2 _ rfl
     have z3:=z 3 _ rfl
     have z4:=z 4 _ rfl
     have z5:=z 5 _ rfl
     have z6:=z 6 _ rfl
     have z7:=z 7 _ rfl
     have y:=fun j=>blk_free (l:=[.string ⟨#[]⟩,.slice none 0 0,.slice none 0 0,.slice none 0 0,.slice none 0 0,.string ⟨#[]⟩,.slice none 0 0,.int .i64 0]) r8 j
     have y0:=y 0
     have y1:=y 1
     have y2:=y 2
     have y3:=y 3
     have y4:=y 4
     have y5:=y 5
     have y6:=y 6
     have y7:=y 7
     clear z y r8
     go_wp2_with fail
     have he:=eight (v0:=.string M.name) (v1:=.slice aU M.regs.length cU) (v2:=.slice aD M.classes.length cD) (v3:=.slice aE M.ops.length cE) (v4:=.slice a5 M.args.length c5) (v5:=.string M.result) (v6:=.slice a6 M.saved.length c6) (v7:=.int .i64 M.slots) R8.out
     refine bodyPost_ret (results_cell_row rfl _ _ (W.heap.size+1) 27 #[.string M.name,.slice aU M.regs.length cU,.slice aD M.classes.length cD,.slice aE M.ops.length cE,.slice a5 M.args.length c5,.string M.result,.slice a6 M.saved.length c6,.int .i64 M.slots] (0,0) _ rfl he.1 Tryz.underlying27 rfl (by kernel_rfl)) rfl ?_
     have hl1:=(Array.getElem?_eq_some_iff.1 B1.out).1
     have hz1:=KK.out.size
     have hz2:=he.2.size
     have hz3:=(CP.out.ext X6.out).keep.size
     refine ⟨_,_,_,_,_,rfl,MC.out.later (by omega) (by omega) (fun k h1 h2=>(he.2.block k (by omega) (fun e=>by omega)).trans (KK.out.block k h2 (fun e=>by omega))),?_⟩
     exact keepExt ((((Keep.of_ext (XWr.out.trans X6.out):Keep (fun k=>k=W.heap.size∨k=W.heap.size+1) W w6)).trans KK.out (fun _ _ e=>Or.inl e)).trans he.2 (fun _ _ e=>Or.inr e)) (fun k e=>by omega)
end Go.Proofs.YtligiddaampneaaGreat
