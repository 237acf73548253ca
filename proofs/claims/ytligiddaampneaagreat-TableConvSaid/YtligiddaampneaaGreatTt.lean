/- The law of the convention (TableConv), whole. -/
import Derived.Test.YtligiddaampneaaGreatMv
namespace Go.Proofs.YtligiddaampneaaGreat
open Go.RowKit
attribute [local go_sem] Oper.semAt_some
set_option maxRecDepth 100000 in
set_option maxHeartbeats 16000000 in
theorem tableConv_any {W:World} {M:Mach} {n0:Nat} {vR vC vO vA vS:Value} (hm:MachIn W n0 vR vC vO vA vS M) (hn:n0≤W.heap.size) :
  Calls Tryz.prog 4 #[.agg #[.string M.name,vR,vC,vO,vA,.string M.result,vS,.int .i64 M.slots]] W fun e W'=>e=.returned (.bool true)∧Ext W W':=by
 obtain ⟨aR,cR,rfl,_,_⟩:=hm.regs.form
 obtain ⟨aC,cC,rfl,_,_⟩:=hm.cls.form
 obtain ⟨aO,cO,rfl,_,_⟩:=hm.ops.form
 obtain ⟨aA,cA,rfl,_,_⟩:=hm.args.form
 obtain ⟨aS,cS,rfl,_,_⟩:=hm.saved.form
 have x0:Ext W (W.alloc (.cells #[.string M.name,.slice aR M.regs.length cR,.slice aC M.classes.length cC,.slice aO M.ops.length cO,.slice aA M.args.length cA,.string M.result,.slice aS M.saved.length cS,.int .i64 M.slots] 27)):=Ext.alloc _ _
 have bm:=heap_alloc_new W (.cells #[.string M.name,.slice aR M.regs.length cR,.slice aC M.classes.length cC,.slice aO M.ops.length cO,.slice aA M.args.length cA,.string M.result,.slice aS M.saved.length cS,.int .i64 M.slots] 27)
 have HM:=Lib.hid (fun (w:World) (x:Ext W w)=>hm.same (W':=w) fun k hk=>Below.block x k (by omega))
 have HBIG:=Lib.hid (fun (w:World) (x:Ext W w)=>bigR_any (HM.out w x) (Nat.le_trans hn x.size))
 have HMK:=Lib.hid (fun (w:World) (x:Ext W w)=>makeL_any (HM.out w x) (Nat.le_trans hn x.size))
 clear hm
 go_enter Tryz.func4,Tryz.ntmps4
 go_upto_region 1 with (fail)
 generalize W.alloc (.cells #[.string M.name,.slice aR M.regs.length cR,.slice aC M.classes.length cC,.slice aO M.ops.length cO,.slice aA M.args.length cA,.string M.result,.slice aS M.saved.length cS,.int .i64 M.slots] 27)=w1 at x0 bm ⊢
 generalize W.heap.size=b0 at bm ⊢
 have X0:=Lib.hid x0
 clear x0
 have BM:=Lib.hid bm
 clear bm
 go_upto_region 2 with (go_at_call 9;refine (alive7_any _).mono ?_;rintro e w2 ⟨rfl,hx2⟩;have X2:=Lib.hid (X0.out.trans hx2);have BM:=Lib.hid (hx2.block BM.out);clear hx2)
 have d0:=blk_cell BM.out 0 _ rfl
 have d1:=blk_cell BM.out 1 _ rfl
 have d2:=blk_cell BM.out 2 _ rfl
 have d3:=blk_cell BM.out 3 _ rfl
 have d4:=blk_cell BM.out 4 _ rfl
 have d5:=blk_cell BM.out 5 _ rfl
 have d6:=blk_cell BM.out 6 _ rfl
 have d7:=blk_cell BM.out 7 _ rfl
 go_upto_region 3 with (go_at_call 10;refine (HBIG.out w2 X2.out).mono ?_;rintro e w3 ⟨⟨bb,rfl⟩,hx3⟩;have X3:=Lib.hid (X2.out.trans hx3);have BM:=Lib.hid (hx3.block BM.out);clear hx3)
 clear d0 d1 d2 d3 d4 d5 d6 d7
 cases bb with
 | true =>
  go_wp2_with fail
  go_ret
  exact ⟨rfl,X3.out⟩
 | false =>
 have d0:=blk_cell BM.out 0 _ rfl
 have d1:=blk_cell BM.out 1 _ rfl
 have d2:=blk_cell BM.out 2 _ rfl
 have d3:=blk_cell BM.out 3 _ rfl
 have d4:=blk_cell BM.out 4 _ rfl
 have d5:=blk_cell BM.out 5 _ rfl
 have d6:=blk_cell BM.out 6 _ rfl
 have d7:=blk_cell BM.out 7 _ rfl
 have hmk:=HMK.out w3 X3.out
 unfold MakeLPost at hmk
 cases hc:checkS M with
 | error x =>
  rw [hc] at hmk
  have HMK:=Lib.hid hmk
  clear hmk hc
  go_wp2_with (go_at_call 11;refine HMK.out.mono ?_;rintro e w4 ⟨hx4,rfl⟩;have X4:=Lib.hid (X3.out.trans hx4);clear hx4)
  go_ret
  exact ⟨rfl,X4.out⟩
 | ok u =>
  rw [hc] at hmk
  have HMK:=Lib.hid hmk
  clear hmk hc
  go_upto_region 6 with (go_at_call 11;refine HMK.out.mono ?_;rintro e w4 ⟨hx4,bt,V,br,VR,vK,N,L,rfl,hT,hTB,hTR,_⟩;have X4:=Lib.hid (X3.out.trans hx4);have BM:=Lib.hid (hx4.block BM.out);have TK:=Lib.hid hT;have TB:=Lib.hid hTB;have TR:=Lib.hid hTR;clear hx4 hT hTB hTR)
  clear d0 d1 d2 d3 d4 d5 d6 d7
  have hsm:=TK.out.small
  have LA:Hid (listS N M.args=M.args.map (idx N)):=Lib.hid (listS_all TK.out.known.args)
  have LS:Hid (listS N M.saved=M.saved.map (idx N)):=Lib.hid (listS_all TK.out.known.saved)
  have HA:=Lib.hid (fun (w:World) (x:Ext w4 w)=>targs_any (TB.out.ext x) TK.out.small)
  have HS:=Lib.hid (fun (w:World) (x:Ext w4 w)=>tsaved_any (TB.out.ext x) TK.out.small)
  have HRA:Hid (∀ w,Ext w4 w→Calls Tryz.prog 17 #[.pointer (some ⟨br,0,none⟩)] w fun e w'=>∃ u,e=.returned u∧w'.ownsRow w.heap.size 3 1 u M.args.length ((M.args.map (idx N)).map (Value.int .i64))∧Ext w w'):=Lib.hid (fun w x=>by
   have:=argsT_any (TR.out.ext x) TK.out.small.args
   rw [LA.out,List.length_map] at this
   exact this)
  have HRS:Hid (∀ w,Ext w4 w→Calls Tryz.prog 18 #[.pointer (some ⟨br,0,none⟩)] w fun e w'=>∃ u,e=.returned u∧w'.ownsRow w.heap.size 3 1 u M.saved.length ((M.saved.map (idx N)).map (Value.int .i64))∧Ext w w'):=Lib.hid (fun w x=>by
   have:=savedT_any (TR.out.ext x) TK.out.small.saved
   rw [LS.out,List.length_map] at this
   exact this)
  have HSAME:Hid (∀ (w:World) (l:List ByteArray) (b1 b2:Nat) (u v:Value),w.ownsRow b1 3 1 u l.length ((l.map (idx N)).map (Value.int .i64))→w.ownsRow b2 3 1 v l.length ((l.map (idx N)).map (Value.int .i64))→Calls Tryz.prog 16 #[u,v] w fun e w'=>e=.returned (.bool true)∧Ext w w'):=Lib.hid (fun w l b1 b2 u v h1 h2=>(same_any (a:=l.map (idx N)) (b:=l.map (idx N)) (by have:=Row.of_owns h1;unfold SliceInts;rw [List.length_map];exact this) (by have:=Row.of_owns h2;unfold SliceInts;rw [List.length_map];exact this)).mono fun _ _ h=>⟨by rw [h.1];simp,h.2⟩)
  have HTR:=Lib.hid (fun (w:World) (x:Ext w4 w)=>tresult_any (TB.out.ext x) TK.out.known.result)
  have HRR:=Lib.hid (fun (w:World) (x:Ext w4 w)=>resultT_any (TR.out.ext x))
  have HTS:=Lib.hid (fun (w:World) (x:Ext w4 w)=>tslots_any (TB.out.ext x))
  have HTM:=Lib.hid (fun (w:World) (x:Ext w4 w)=>tmachine_any (TB.out.ext x) TK.out.small)
  have hb1:(idx N M.result == idx N M.result)=true:=by simp
  have hb2:(M.slots == M.slots)=true:=by simp
  go_upto_region 10 with (first
   | (go_at_call 14;refine (HA.out w4 (Ext.refl _)).mono ?_;rintro e w5 ⟨a5,k5,rfl,ho5,hx5⟩;have X5:=Lib.hid hx5;have O5:=Lib.hid ho5;have L5:=Lib.hid (fun q e=>(ho5.lt q e).2);clear hx5 ho5)
   | (go_at_call 15;refine (HS.out w5 X5.out).mono ?_;rintro e w6 ⟨a6,k6,rfl,ho6,hx6⟩;have X6:=Lib.hid (X5.out.trans hx6);have Y6:=Lib.hid hx6;have O6:=Lib.hid ho6;clear hx6 ho6))
  have O5:=Lib.hid (owns_ext O5.out Y6.out)
  have BM:=Lib.hid (X6.out.block BM.out)
  have d0:=blk_cell BM.out 0 _ rfl
  have d1:=blk_cell BM.out 1 _ rfl
  have d2:=blk_cell BM.out 2 _ rfl
  have d3:=blk_cell BM.out 3 _ rfl
  have d4:=blk_cell BM.out 4 _ rfl
  have d5:=blk_cell BM.out 5 _ rfl
  have d6:=blk_cell BM.out 6 _ rfl
  have d7:=blk_cell BM.out 7 _ rfl
  rename_i K1 hK1
  have hK1:=Lib.hid hK1
  refine wp_region_M (fun w'=>Ext w6 w') 28 (by kernel_rfl) (Ext.drew _) (fun hS=>?_)
  refine' tk 0 hS ?_ ?_;rotate_left;· (intro w hSw;(try dsimp only at hSw);go_simp;try with_reducible rfl)
  (try simp only [Act.put,tA,tB,tC])
  refine' tk 1 hS ?_ ?_;rotate_left;· (intro w hSw;(try dsimp only at hSw);go_simp;try with_reducible rfl)
  (try simp only [Act.put,tA,tB,tC])
  generalize w6.drew=w7 at hS ⊢
  refine rc 2 fun K hK=>?_
  go_simp
  refine ((HRA.out w7 (X6.out.trans hS))).mono ?_
  rintro e w8 ⟨u8,rfl,ho8,hx8⟩
  have hS:=Ext.trans hS hx8
  refine hK.out _ _ hS ?_
  (try simp only [Act.put,tA,tB,tC])
  clear hK K
  refine rc 3 fun K hK=>?_
  go_simp
  refine ((HSAME.out w8 M.args _ _ _ _ (owns_ext O5.out hS) ho8)).mono ?_
  rintro e w9 ⟨rfl,hx9⟩
  have hS:=Ext.trans hS hx9
  clear ho8
  refine hK.out _ _ hS ?_
  (try simp only [Act.put,tA,tB,tC])
  clear hK K
  refine' tk 4 hS ?_ ?_;rotate_left;· (intro w hSw;(try dsimp only at hSw);go_simp;try with_reducible rfl)
  (try simp only [Act.put,tA,tB,tC])
  refine' tk 5 hS ?_ ?_;rotate_left;· (intro w hSw;(try dsimp only at hSw);go_simp;try with_reducible rfl)
  (try simp only [Act.put,tA,tB,tC])
  refine' tk 6 hS ?_ ?_;rotate_left;· (intro w hSw;(try dsimp only at hSw);go_simp;try with_reducible rfl)
  (try simp only [Act.put,tA,tB,tC])
  refine rc 7 fun K hK=>?_
  go_simp
  refine ((HRS.out w9 (X6.out.trans hS))).mono ?_
  rintro e w10 ⟨u10,rfl,ho10,hx10⟩
  have hS:=Ext.trans hS hx10
  refine hK.out _ _ hS ?_
  (try simp only [Act.put,tA,tB,tC])
  clear hK K
  refine rc 8 fun K hK=>?_
  go_simp
  refine ((HSAME.out w10 M.saved _ _ _ _ (owns_ext O6.out hS) ho10)).mono ?_
  rintro e w11 ⟨rfl,hx11⟩
  have hS:=Ext.trans hS hx11
  clear ho10
  refine hK.out _ _ hS ?_
  (try simp only [Act.put,tA,tB,tC])
  clear hK K
  refine' tk 9 hS ?_ ?_;rotate_left;· (intro w hSw;(try dsimp only at hSw);go_simp;try with_reducible rfl)
  (try simp only [Act.put,tA,tB,tC])
  refine' tk 10 hS ?_ ?_;rotate_left;· (intro w hSw;(try dsimp only at hSw);go_simp;try with_reducible rfl)
  (try simp only [Act.put,tA,tB,tC])
  refine' tk 11 hS ?_ ?_;rotate_left;· (intro w hSw;(try dsimp only at hSw);go_simp;try with_reducible rfl)
  (try simp only [Act.put,tA,tB,tC])
  refine' tk 13 hS ?_ ?_;rotate_left;· (intro w hSw;(try dsimp only at hSw);go_simp;try with_reducible rfl)
  (try simp only [Act.put,tA,tB,tC])
  refine rc 12 fun K hK=>?_
  go_simp
  refine ((HTR.out w11 (X6.out.trans hS))).mono ?_
  rintro e w12 ⟨rfl,hx12⟩
  have hS:=Ext.trans hS hx12
  refine hK.out _ _ hS ?_
  (try simp only [Act.put,tA,tB,tC])
  clear hK K
  refine rc 14 fun K hK=>?_
  go_simp
  refine ((HRR.out w12 (X6.out.trans hS))).mono ?_
  rintro e w12' ⟨rfl,rfl⟩
  refine hK.out _ _ hS ?_
  (try simp only [Act.put,tA,tB,tC])
  clear hK K
  refine' tk 15 hS ?_ ?_;rotate_left;· (intro w hSw;have z7:=Ext.cell hSw d7;(try dsimp only at hSw);go_simp;try with_reducible rfl)
  (try simp only [Act.put,tA,tB,tC])
  refine' tk 16 hS ?_ ?_;rotate_left;· (intro w hSw;have z7:=Ext.cell hSw d7;(try dsimp only at hSw);go_simp;try with_reducible rfl)
  (try simp only [Act.put,tA,tB,tC])
  refine' tk 17 hS ?_ ?_;rotate_left;· (intro w hSw;have z7:=Ext.cell hSw d7;(try dsimp only at hSw);go_simp;try with_reducible rfl)
  (try simp only [Act.put,tA,tB,tC])
  refine' tk 18 hS ?_ ?_;rotate_left;· (intro w hSw;have z7:=Ext.cell hSw d7;(try dsimp only at hSw);go_simp;try with_reducible rfl)
  (try simp only [Act.put,tA,tB,tC])
  refine' tk 20 hS ?_ ?_;rotate_left;· (intro w hSw;have z7:=Ext.cell hSw d7;(try dsimp only at hSw);go_simp;try with_reducible rfl)
  (try simp only [Act.put,tA,tB,tC])
  refine' tk 21 hS ?_ ?_;rotate_left;· (intro w hSw;have z7:=Ext.cell hSw d7;(try dsimp only at hSw);go_simp;try with_reducible rfl)
  (try simp only [Act.put,tA,tB,tC])
  refine rc 19 fun K hK=>?_
  go_simp
  refine ((HTS.out w12 (X6.out.trans hS))).mono ?_
  rintro e w12' ⟨rfl,rfl⟩
  refine hK.out _ _ hS ?_
  (try simp only [Act.put,tA,tB,tC])
  clear hK K
  refine' tk 22 hS ?_ ?_;rotate_left;· (intro w hSw;have z0:=Ext.cell hSw d0;have z1:=Ext.cell hSw d1;have z2:=Ext.cell hSw d2;have z3:=Ext.cell hSw d3;have z4:=Ext.cell hSw d4;have z5:=Ext.cell hSw d5;have z6:=Ext.cell hSw d6;have z7:=Ext.cell hSw d7;(try dsimp only at hSw);go_simp;try with_reducible rfl)
  (try simp only [Act.put,tA,tB,tC])
  refine' tk 23 hS ?_ ?_;rotate_left;· (intro w hSw;have z0:=Ext.cell hSw d0;have z1:=Ext.cell hSw d1;have z2:=Ext.cell hSw d2;have z3:=Ext.cell hSw d3;have z4:=Ext.cell hSw d4;have z5:=Ext.cell hSw d5;have z6:=Ext.cell hSw d6;have z7:=Ext.cell hSw d7;(try dsimp only at hSw);go_simp;try with_reducible rfl)
  (try simp only [Act.put,tA,tB,tC])
  refine' tk 24 hS ?_ ?_;rotate_left;· (intro w hSw;have z0:=Ext.cell hSw d0;have z1:=Ext.cell hSw d1;have z2:=Ext.cell hSw d2;have z3:=Ext.cell hSw d3;have z4:=Ext.cell hSw d4;have z5:=Ext.cell hSw d5;have z6:=Ext.cell hSw d6;have z7:=Ext.cell hSw d7;(try dsimp only at hSw);go_simp;try with_reducible rfl)
  (try simp only [Act.put,tA,tB,tC])
  refine' tk 25 hS ?_ ?_;rotate_left;· (intro w hSw;have z0:=Ext.cell hSw d0;have z1:=Ext.cell hSw d1;have z2:=Ext.cell hSw d2;have z3:=Ext.cell hSw d3;have z4:=Ext.cell hSw d4;have z5:=Ext.cell hSw d5;have z6:=Ext.cell hSw d6;have z7:=Ext.cell hSw d7;(try dsimp only at hSw);go_simp;try with_reducible rfl)
  (try simp only [Act.put,tA,tB,tC])
  refine' tk 27 hS ?_ ?_;rotate_left;· (intro w hSw;have z0:=Ext.cell hSw d0;have z1:=Ext.cell hSw d1;have z2:=Ext.cell hSw d2;have z3:=Ext.cell hSw d3;have z4:=Ext.cell hSw d4;have z5:=Ext.cell hSw d5;have z6:=Ext.cell hSw d6;have z7:=Ext.cell hSw d7;(try dsimp only at hSw);go_simp;try with_reducible rfl)
  (try simp only [Act.put,tA,tB,tC])
  refine rc 26 fun K hK=>?_
  go_simp
  refine ((HTM.out w12 (X6.out.trans hS))).mono ?_
  rintro e w13 ⟨uR,uC,uO,uA,uS,rfl,hmi,hx13⟩
  have hS:=Ext.trans hS hx13
  have MI:=Lib.hid hmi
  clear hmi
  refine hK.out _ _ hS ?_
  (try simp only [Act.put,tA,tB,tC])
  clear hK K
  have hn13:n0≤w13.heap.size:=by have h1:=X4.out.size;have h2:=X6.out.size;have h3:=hS.size;omega
  refine rl 28 fun K hK=>?_
  go_simp
  refine ((sameM_any MI.out (Nat.le_refl _) (HM.out w13 ((X4.out.trans X6.out).trans hS)) hn13 TK.out.small.regs)).mono ?_
  rintro e w14 ⟨rfl,hx14⟩
  have X14:=Lib.hid (hS.trans hx14)
  refine hK.out _ _ ?_
  (try simp only [Act.put,tA,tB,tC])
  clear hK K
  refine' tw 29 ?_ ?_;rotate_left;· (intro w;go_simp;try with_reducible rfl)
  (try simp only [Act.put,tA,tB,tC])
  refine' tw 30 ?_ ?_;rotate_left;· (intro w;go_simp;try with_reducible rfl)
  (try simp only [Act.put,tA,tB,tC])
  refine wpAnyM_done (by kernel_rfl) ?_ _
  refine hK1.out _ _ ?_
  clear hS d0 d1 d2 d3 d4 d5 d6 d7
  have OA:=Lib.hid (owns_ext O5.out X14.out)
  have OS:=Lib.hid (owns_ext O6.out X14.out)
  have Y14:=Lib.hid (X6.out.trans X14.out)
  have hz5:=X5.out.size
  have hz6:=Y6.out.size
  have hz14:=X14.out.size
  have hla:=hsm.args
  have hls:=hsm.saved
  clear O5 O6 X6 X14 hb1 hb2 hsm
  go_wp2_with fail
  go_loopw [11] (fun iv wr=>∃ i:Nat,i≤M.args.length∧iv=.int .i64 i∧Hid (Keep (fun k=>(Value.slice a5 M.args.length k5).ownBlock=some k) w14 wr∧∃ xs,wr.ownsRow w4.heap.size 3 1 (.slice a5 M.args.length k5) M.args.length xs)) (fun iv _=>M.args.length - (intOf iv).toNat)
  case atStart=>exact ⟨0,by omega,rfl,Lib.hid ⟨Keep.refl _ _,_,OA.out⟩⟩
  case round =>
   obtain ⟨i,hi,rfl,hin⟩:=hrel
   rename World=>w15
   by_cases hli:i<M.args.length
   ·have hiz:(i:Int)<(M.args.length:Int):=by omega
    obtain ⟨k15,xs,o15⟩:=hin.out
    obtain ⟨g,c,e,_,_⟩:=o15.form (by omega)
    cases e
    obtain ⟨x,hx⟩:∃ x,xs[i]?=some x:=⟨xs[i]'(by have:=o15.1;omega),List.getElem?_eq_getElem _⟩
    have ci:w15.cell? ⟨g,i,none⟩=some x:=by rw [o15.cellAt i (by omega)];exact hx
    have fi:=o15.frozenAt i
    have gl:=o15.lt g rfl
    have hst:=World.ownsRow.stored o15 i (.int .i64 (-1))
    have ks:Keep (fun k=>(Value.slice (some ⟨g,0,none⟩) M.args.length k5).ownBlock=some k) w15 (w15.setCell ⟨g,i,none⟩ (.int .i64 (-1))):=Keep.setCell _ w15 ⟨g,i,none⟩ _ rfl
    have ST:=Lib.hid (And.intro (k15.trans ks (fun _ _ h=>h)) hst.1)
    have gl2:=gl.2
    clear hin k15 o15 hst ks hx
    go_wp2_with fail
    go_roundw
    case rel=>exact ⟨i+1,by omega,by go_num,Lib.hid ⟨ST.out.1,_,ST.out.2⟩⟩
    case measure=>simp [intOf];omega
   ·have hiz:¬ (i:Int)<(M.args.length:Int):=by omega
    obtain ⟨k15,xs,o15⟩:=hin.out
    have X15:Hid (Ext w4 w15):=Lib.hid (Y14.out.keep k15 (fun q e=>(OA.out.lt q e).1))
    have hge:∀ q,(Value.slice a5 M.args.length k5).ownBlock=some q→q<w5.heap.size:=L5.out
    have OS15:Hid (w15.ownsRow w5.heap.size 3 1 (.slice a6 M.saved.length k6) M.saved.length ((M.saved.map (idx N)).map (Value.int .i64))):=Lib.hid (owns_same OS.out fun q e=>k15.block q (OS.out.lt q e).2 (fun e2=>by have h1:=(OS.out.lt q e).1;have h2:=hge q e2;omega))
    clear hin k15 o15 hge
    go_wp2_with fail
    go_loopw [12] (fun iv wr=>∃ j:Nat,j≤M.saved.length∧iv=.int .i64 j∧Hid (Keep (fun k=>(Value.slice a6 M.saved.length k6).ownBlock=some k) w15 wr∧∃ xs,wr.ownsRow w5.heap.size 3 1 (.slice a6 M.saved.length k6) M.saved.length xs)) (fun iv _=>M.saved.length - (intOf iv).toNat)
    case atStart=>exact ⟨0,by omega,rfl,Lib.hid ⟨Keep.refl _ _,_,OS15.out⟩⟩
    case round =>
     obtain ⟨j,hj,rfl,hin⟩:=hrel
     rename World=>w16
     by_cases hlj:j<M.saved.length
     ·have hjz:(j:Int)<(M.saved.length:Int):=by omega
      obtain ⟨k16,xs,o16⟩:=hin.out
      obtain ⟨g,c,e,_,_⟩:=o16.form (by omega)
      cases e
      obtain ⟨x,hx⟩:∃ x,xs[j]?=some x:=⟨xs[j]'(by have:=o16.1;omega),List.getElem?_eq_getElem _⟩
      have ci:w16.cell? ⟨g,j,none⟩=some x:=by rw [o16.cellAt j (by omega)];exact hx
      have fi:=o16.frozenAt j
      have gl:=o16.lt g rfl
      have hst:=World.ownsRow.stored o16 j (.int .i64 (-1))
      have ks:Keep (fun k=>(Value.slice (some ⟨g,0,none⟩) M.saved.length k6).ownBlock=some k) w16 (w16.setCell ⟨g,j,none⟩ (.int .i64 (-1))):=Keep.setCell _ w16 ⟨g,j,none⟩ _ rfl
      have ST:=Lib.hid (And.intro (k16.trans ks (fun _ _ h=>h)) hst.1)
      have gl2:=gl.2
      clear hin k16 o16 hst ks hx
      go_wp2_with fail
      go_roundw
      case rel=>exact ⟨j+1,by omega,by go_num,Lib.hid ⟨ST.out.1,_,ST.out.2⟩⟩
      case measure=>simp [intOf];omega
     ·have hjz:¬ (j:Int)<(M.saved.length:Int):=by omega
      have X16:Hid (Ext w4 w16):=Lib.hid (X15.out.keep hin.out.1 (fun q e=>by have:=(OS15.out.lt q e).1;omega))
      clear hin
      go_wp2_with (first
       | (go_at_call 14;refine (HA.out w16 X16.out).mono ?_;rintro e w17 ⟨a7,k7,rfl,ho7,hx7⟩;have X17:=Lib.hid (X16.out.trans hx7);have O7:=Lib.hid ho7;clear hx7 ho7)
       | (go_at_call 17;refine (HRA.out w17 X17.out).mono ?_;rintro e w18 ⟨u8,rfl,ho8,hx8⟩;have X18:=Lib.hid (X17.out.trans hx8);have O8:=Lib.hid (And.intro (owns_ext O7.out hx8) ho8);clear hx8 ho8)
       | (go_at_call 15;refine (HS.out w19 X19.out).mono ?_;rintro e w20 ⟨a9,k9,rfl,ho9,hx9⟩;have X20:=Lib.hid (X19.out.trans hx9);have O9:=Lib.hid ho9;clear hx9 ho9)
       | (go_at_call 18;refine (HRS.out w20 X20.out).mono ?_;rintro e w21 ⟨u10,rfl,ho10,hx10⟩;have X21:=Lib.hid (X20.out.trans hx10);have O10:=Lib.hid (And.intro (owns_ext O9.out hx10) ho10);clear hx10 ho10)
       | (go_at_call 16;(with_reducible refine (HSAME.out w18 M.args _ _ _ _ O8.out.1 O8.out.2).mono ?_);rintro e w19 ⟨rfl,hx11⟩;have X19:=Lib.hid (X18.out.trans hx11);clear hx11)
       | (go_at_call 16;(with_reducible refine (HSAME.out w21 M.saved _ _ _ _ O10.out.1 O10.out.2).mono ?_);rintro e w22 ⟨rfl,hx12⟩;have X22:=Lib.hid (X21.out.trans hx12);clear hx12))
      go_ret
      exact ⟨rfl,X4.out.trans X22.out⟩
end Go.Proofs.YtligiddaampneaaGreat
