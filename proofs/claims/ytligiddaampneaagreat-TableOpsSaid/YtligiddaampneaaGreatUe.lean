/- The law of operations (TableOps), whole. -/
import Derived.Test.YtligiddaampneaaGreatMo
namespace Go.Proofs.YtligiddaampneaaGreat
open Go.RowKit
attribute [local go_sem] Oper.semAt_some
set_option maxRecDepth 100000 in
set_option maxHeartbeats 16000000 in
theorem tableOps_any {W:World} {M:Mach} {n0:Nat} {vR vC vO vA vS:Value} (hm:MachIn W n0 vR vC vO vA vS M) (hn:n0≤W.heap.size) (name:ByteArray) (n operand reg:Int) (hfn:fits64 n) (hfo:fits64 operand) (hfr:fits64 reg) :
  Calls Tryz.prog 7 #[.agg #[.string M.name,vR,vC,vO,vA,.string M.result,vS,.int .i64 M.slots],.string name,.int .i64 n,.int .i64 operand,.int .i64 reg] W fun e W'=>e=.returned (.bool true)∧Ext W W':=by
 obtain ⟨aR,cR,rfl,_,_⟩:=hm.regs.form
 obtain ⟨aC,cC,rfl,_,_⟩:=hm.cls.form
 obtain ⟨aO,cO,rfl,_,_⟩:=hm.ops.form
 obtain ⟨aA,cA,rfl,_,_⟩:=hm.args.form
 obtain ⟨aS,cS,rfl,_,_⟩:=hm.saved.form
 have x0:Ext W (W.alloc (.cells #[.string M.name,.slice aR M.regs.length cR,.slice aC M.classes.length cC,.slice aO M.ops.length cO,.slice aA M.args.length cA,.string M.result,.slice aS M.saved.length cS,.int .i64 M.slots] 27)):=Ext.alloc _ _
 have bm:=heap_alloc_new W (.cells #[.string M.name,.slice aR M.regs.length cR,.slice aC M.classes.length cC,.slice aO M.ops.length cO,.slice aA M.args.length cA,.string M.result,.slice aS M.saved.length cS,.int .i64 M.slots] 27)
 have HM:=Lib.hid (fun (w:World) (x:Ext W w)=>hm.same (W':=w) fun k hk=>Below.block x k (by omega))
 have HBIG:=Lib.hid (fun (w:World) (x:Ext W w)=>bigR_any (HM.out w x) (Nat.le_trans hn x.size))
 have HMK:=Lib.hid (fun (w:World) (x:Ext W w)=>makeL_any (HM.out w x) (Nat.le_trans hn x.size))
 clear hm
 go_enter Tryz.func7,Tryz.ntmps7
 go_upto_region 1 with (fail)
 generalize W.alloc (.cells #[.string M.name,.slice aR M.regs.length cR,.slice aC M.classes.length cC,.slice aO M.ops.length cO,.slice aA M.args.length cA,.string M.result,.slice aS M.saved.length cS,.int .i64 M.slots] 27)=w1 at x0 bm ⊢
 generalize W.heap.size=b0 at bm ⊢
 have X0:=Lib.hid x0
 clear x0
 have BM:=Lib.hid bm
 clear bm
 go_upto_region 2 with (go_at_call 9;refine (alive7_any _).mono ?_;rintro e w2 ⟨rfl,hx2⟩;have X2:=Lib.hid (X0.out.trans hx2);have BM:=Lib.hid (hx2.block BM.out);clear hx2)
 have d0:=blk_cell BM.out 0 _ rfl
 have d1:=blk_cell BM.out 1 _ rfl
 have d2:=blk_cell BM.out 2 _ rfl
 have d3:=blk_cell BM.out 3 _ rfl
 have d4:=blk_cell BM.out 4 _ rfl
 have d5:=blk_cell BM.out 5 _ rfl
 have d6:=blk_cell BM.out 6 _ rfl
 have d7:=blk_cell BM.out 7 _ rfl
 go_upto_region 3 with (go_at_call 10;refine (HBIG.out w2 X2.out).mono ?_;rintro e w3 ⟨⟨bb,rfl⟩,hx3⟩;have X3:=Lib.hid (X2.out.trans hx3);have BM:=Lib.hid (hx3.block BM.out);clear hx3)
 clear d0 d1 d2 d3 d4 d5 d6 d7
 cases bb with
 | true =>
  go_wp2_with fail
  go_ret
  exact ⟨rfl,X3.out⟩
 | false =>
 by_cases hnl:(1000:Int)<name.size
 ·go_wp2_with fail
  go_ret
  exact ⟨rfl,X3.out⟩
 have d0:=blk_cell BM.out 0 _ rfl
 have d1:=blk_cell BM.out 1 _ rfl
 have d2:=blk_cell BM.out 2 _ rfl
 have d3:=blk_cell BM.out 3 _ rfl
 have d4:=blk_cell BM.out 4 _ rfl
 have d5:=blk_cell BM.out 5 _ rfl
 have d6:=blk_cell BM.out 6 _ rfl
 have d7:=blk_cell BM.out 7 _ rfl
 have hmk:=HMK.out w3 X3.out
 unfold MakeLPost at hmk
 cases hc:checkS M with
 | error x =>
  rw [hc] at hmk
  have HMK:=Lib.hid hmk
  clear hmk hc
  go_wp2_with (go_at_call 11;refine HMK.out.mono ?_;rintro e w4 ⟨hx4,rfl⟩;have X4:=Lib.hid (X3.out.trans hx4);clear hx4)
  go_ret
  exact ⟨rfl,X4.out⟩
 | ok u =>
  rw [hc] at hmk
  have HMK:=Lib.hid hmk
  clear hmk hc
  go_upto_region 6 with (go_at_call 11;refine HMK.out.mono ?_;rintro e w4 ⟨hx4,bt,V,br,VR,vK,N,L,rfl,hT,hTB,hTR,_⟩;have X4:=Lib.hid (X3.out.trans hx4);have BM:=Lib.hid (hx4.block BM.out);have TK:=Lib.hid hT;have TB:=Lib.hid hTB;have TR:=Lib.hid hTR;clear hx4 hT hTB hTR)
  clear d0 d1 d2 d3 d4 d5 d6 d7
  have hsm:=TK.out.small
  have hnop:=hsm.nops
  have hN2:N.length≤200:=TK.out.le
  have HOP:Hid (∀ w,Ext w4 w→∀ s,Calls Tryz.prog 32 #[.pointer (some ⟨bt,0,none⟩),.string s] w fun e w'=>e=.returned (.tuple #[.int .i64 (if 0≤opIxT M s then opIxT M s else 0),.bool (decide (0≤opIxT M s))])∧w=w'):=Lib.hid (fun w x s=>topn_any (TB.out.ext x) s)
  have HRO:=Lib.hid (fun (w:World) (x:Ext w4 w)=>opOfT_any (TR.out.ext x) name)
  have HMT:Hid (∀ w,Ext w4 w→∀ op k r:Int,fits64 r→Calls Tryz.prog 34 #[.pointer (some ⟨bt,0,none⟩),.int .i64 op,.int .i64 k,.int .i64 r] w fun e w'=>e=.returned (.bool (mayV M N L (numsC N M.classes) op k r))∧Ext w w'):=Lib.hid (fun w x op k r hr=>tmay_any (TB.out.ext x) op k r hr)
  have HMR:Hid (∀ w,Ext w4 w→∀ op k r:Int,fits64 r→fits64 k→Calls Tryz.prog 35 #[.pointer (some ⟨br,0,none⟩),.int .i64 op,.int .i64 k,.int .i64 r] w fun e w'=>e=.returned (.bool (mayV M N L (numsC N M.classes) op k r))∧Ext w w'):=Lib.hid (fun w x op k r hr hk=>mayR_any (TR.out.ext x) TK.out op k r hr hk)
  have HTI:=Lib.hid (fun (w:World) (x:Ext w4 w)=>ttie_any (TB.out.ext x) n)
  have HCT:=Lib.hid (fun (w:World) (x:Ext w4 w)=>tclob_any (TB.out.ext x) TK.out.small n)
  have HCR:=Lib.hid (fun (w:World) (x:Ext w4 w)=>clobR_any (TR.out.ext x) TK.out n)
  obtain ⟨aN,cN,eN,_,hN5⟩:=TR.out.ck.nm.form
  have hn8:=TR.out.ck.cells 8 _ rfl
  obtain ⟨qR,qC,qO,qA,qS,qN,qP⟩:=VR
  dsimp only at eN hn8
  subst eN
  unfold maxLen at hN5
  obtain ⟨c0,hc0⟩:∃ x,opIxT M name=x:=⟨_,rfl⟩
  have hcl1:=HOP.out w4 (Ext.refl _) name
  rw [hc0] at hcl1
  have hrc1:=HRO.out w4 (Ext.refl _)
  rw [hc0] at hrc1
  obtain ⟨kk,hkk⟩:∃ x,(if 0≤c0 then c0 else 0)=x:=⟨_,rfl⟩
  obtain ⟨isb,hisb⟩:∃ x,decide (0≤c0)=x:=⟨_,rfl⟩
  rw [hkk,hisb] at hcl1
  have HCL1:=Lib.hid hcl1
  have HRC1:=Lib.hid hrc1
  have HKK:=Lib.hid (And.intro hkk hisb)
  clear hcl1 hrc1 hkk hisb hc0 HRO HOP
  obtain ⟨mv,hmv⟩:∃ f:Int→Int→Int→Bool,mayV M N L (numsC N M.classes)=f:=⟨_,rfl⟩
  rw [hmv] at HMT HMR
  clear hmv
  obtain ⟨cl,hcl⟩:∃ f:List Int,ofL (M.ops.map fun o=>o.clob.map (idx N)) n=f:=⟨_,rfl⟩
  have HCT2:Hid (∀ w,Ext w4 w→Calls Tryz.prog 37 #[.pointer (some ⟨bt,0,none⟩),.int .i64 n] w fun e w'=>∃ v,e=.returned v∧w'.ownsRow w.heap.size 3 1 v cl.length (cl.map (Value.int .i64))∧Ext w w'):=Lib.hid (fun w x=>by have:=HCT.out w x;rw [hcl] at this;exact this)
  have HCR2:Hid (∀ w,Ext w4 w→Calls Tryz.prog 38 #[.pointer (some ⟨br,0,none⟩),.int .i64 n] w fun e w'=>∃ v,e=.returned v∧w'.ownsRow w.heap.size 3 1 v cl.length (cl.map (Value.int .i64))∧Ext w w'):=Lib.hid (fun w x=>by have:=HCR.out w x;rw [hcl] at this;exact this)
  clear HCT HCR hcl
  obtain ⟨m1,hm1⟩:∃ b,mv n operand reg=b:=⟨_,rfl⟩
  have hmt1:=HMT.out
  have HM1:Hid (∀ w,Ext w4 w→Calls Tryz.prog 34 #[.pointer (some ⟨bt,0,none⟩),.int .i64 n,.int .i64 operand,.int .i64 reg] w fun e w'=>e=.returned (.bool m1)∧Ext w w'):=Lib.hid (fun w x=>by have:=HMT.out w x n operand reg hfr;rw [hm1] at this;exact this)
  have HM2:Hid (∀ w,Ext w4 w→Calls Tryz.prog 35 #[.pointer (some ⟨br,0,none⟩),.int .i64 n,.int .i64 operand,.int .i64 reg] w fun e w'=>e=.returned (.bool m1)∧Ext w w'):=Lib.hid (fun w x=>by have:=HMR.out w x n operand reg hfr hfo;rw [hm1] at this;exact this)
  clear hm1 hmt1
  have hmm:(m1 != m1)=false:=by simp
  go_upto_region 10 with (first
   | (go_at_call 32;refine HCL1.out.mono ?_;rintro e w' ⟨rfl,rfl⟩)
   | (go_at_call 33;refine HRC1.out.mono ?_;rintro e w' ⟨rfl,rfl⟩))
  go_cut [91] from 59 to 90 (fun tv wx=>tv=.bool false∧Hid (Ext w4 wx))
  case first =>
   by_cases h0:0≤c0
   ·obtain ⟨rfl,rfl⟩:kk=c0∧isb=true:=⟨by rw [← HKK.out.1,if_pos h0],by rw [← HKK.out.2,decide_eq_true h0]⟩
    have hcc:(kk != kk)=false:=by simp
    go_wp2_with (first
     | (go_at_call 34;refine (HM1.out w4 (Ext.refl _)).mono ?_;rintro e w5 ⟨rfl,hx5⟩;have X5:=Lib.hid hx5;clear hx5)
     | (go_at_call 35;refine (HM2.out w5 X5.out).mono ?_;rintro e w6 ⟨rfl,hx6⟩;have X6:=Lib.hid (X5.out.trans hx6);clear hx6))
    go_meet
    case rel=>exact ⟨by simp,X6⟩
   ·obtain ⟨rfl,rfl⟩:kk=0∧isb=false:=⟨by rw [← HKK.out.1,if_neg h0],by rw [← HKK.out.2,decide_eq_false h0]⟩
    go_wp2_with (first
     | (go_at_call 34;refine (HM1.out w4 (Ext.refl _)).mono ?_;rintro e w5 ⟨rfl,hx5⟩;have X5:=Lib.hid hx5;clear hx5)
     | (go_at_call 35;refine (HM2.out w5 X5.out).mono ?_;rintro e w6 ⟨rfl,hx6⟩;have X6:=Lib.hid (X5.out.trans hx6);clear hx6))
    go_meet
    case rel=>exact ⟨by simp,X6⟩
  case rest =>
  obtain ⟨rfl,XC⟩:=hcut
  clear HCL1 HRC1 HKK HM1 HM2 hmm
  have XC4:=Lib.hid (X4.out.trans XC.out)
  have BMC:=Lib.hid (XC.out.block BM.out)
  have HSAME:Hid (∀ (w:World) (u v:Value),SliceInts w u cl→SliceInts w v cl→Calls Tryz.prog 16 #[u,v] w fun e w'=>e=.returned (.bool true)∧Ext w w'):=Lib.hid (fun w u v h1 h2=>(same_any h1 h2).mono fun _ _ h=>⟨by rw [h.1];simp,h.2⟩)
  have d3:=blk_cell BMC.out 3 _ rfl
  have hn8c:=XC.out.cell hn8
  obtain ⟨tv,htv⟩:∃ z,tieV M n=z:=⟨_,rfl⟩
  have HTI2:=Lib.hid (HTI.out wc XC.out)
  rw [htv] at HTI2
  clear HTI
  obtain ⟨bb,hbb⟩:∃ z,decide (0≤n∧n<(M.ops.length:Int))=z:=⟨_,rfl⟩
  go_upto_region 13 with fail
  go_cut [100] from 92 to 99 (fun bv wx=>bv=.bool bb∧wx=wc)
  case first =>
   by_cases hnn:0≤n
   ·by_cases hnl2:n<(M.ops.length:Int)
    ·have hd:bb=true:=by rw [← hbb];exact decide_eq_true ⟨hnn,hnl2⟩
     subst hd
     clear hbb
     go_wp2_with fail
     go_meet
     case rel=>exact ⟨by simp,rfl⟩
    ·have hd:bb=false:=by rw [← hbb];exact decide_eq_false (fun h=>hnl2 h.2)
     subst hd
     clear hbb
     go_wp2_with fail
     go_meet
     case rel=>exact ⟨by simp,rfl⟩
   ·have hd:bb=false:=by rw [← hbb];exact decide_eq_false (fun h=>hnn h.1)
    subst hd
    clear hbb
    go_wp2_with fail
    go_meet
    case rel=>exact ⟨by simp,rfl⟩
  case rest =>
  obtain ⟨rfl,rfl⟩:=hcut
  have XC:=Lib.hid XC.out
  go_upto_if 100 with fail
  go_cut [19] from 101 to 106 (fun tie wx=>tie=.int .i64 tv∧wx=wc)
  case first =>
   by_cases hnn:0≤n∧n<(M.ops.length:Int)
   ·have hd:bb=true:=by rw [← hbb];exact decide_eq_true hnn
    subst hd
    clear hbb
    obtain ⟨i,rfl⟩:∃ i:Nat,n=i:=⟨n.toNat,by omega⟩
    obtain ⟨o,ho⟩:∃ o,M.ops[i]?=some o:=⟨_,List.getElem?_eq_getElem (by omega)⟩
    obtain ⟨b,off,cap,u,c,e,_,_,_,_,_,_,_,o4,_,_,_,_⟩:=(HM.out wc XC4.out).ops.at ho
    cases e
    have HV:tv=o.tie:=by rw [← htv];unfold tieV;rw [if_pos hnn.1,Int.toNat_natCast,ho]
    subst HV
    clear htv ho
    have hiz:(i:Int)<(M.ops.length:Int):=hnn.2
    clear hnn
    go_wp2_with fail
    go_meet
    case rel=>exact ⟨rfl,rfl⟩
   ·have hd:bb=false:=by rw [← hbb];exact decide_eq_false hnn
    subst hd
    clear hbb
    have HV:tv = -1:=by
     rw [← htv]
     unfold tieV
     split
     ·rw [List.getElem?_eq_none (by omega)]
     ·rfl
    subst HV
    clear htv hnn
    go_wp2_with fail
    go_meet
    case rel=>exact ⟨rfl,rfl⟩
  case rest =>
  obtain ⟨rfl,rfl⟩:=hcut
  clear htv hbb
  have htt:(tv != tv)=false:=by simp
  go_upto_region 17 with (first
   | (go_at_call 36;refine HTI2.out.mono ?_;rintro e w' ⟨rfl,rfl⟩)
   | (go_at_call 37;refine (HCT2.out _ XC.out).mono ?_;rintro e w5 ⟨v5,rfl,ho5,hx5⟩;have X5:=Lib.hid (XC.out.trans hx5);have O5:=Lib.hid ho5;clear hx5 ho5)
   | (go_at_call 38;refine (HCR2.out w5 X5.out).mono ?_;rintro e w6 ⟨v6,rfl,ho6,hx6⟩;have X6:=Lib.hid (X5.out.trans hx6);have O6:=Lib.hid ho6;have Y6:=Lib.hid (owns_ext O5.out hx6);clear hx6 ho6)
   | (go_at_call 16;refine (HSAME.out w6 v5 v6 (Row.of_owns Y6.out:SliceInts w6 v5 cl) (Row.of_owns O6.out:SliceInts w6 v6 cl)).mono ?_;rintro e w7 ⟨rfl,hx7⟩;have X7:=Lib.hid (X6.out.trans hx7);clear hx7))
  clear d3 hn8c
  have HD:=Lib.hid (fun (w:World) (x:Ext w4 w)=>blk_cell (x.block BM.out) 3 _ rfl)
  have HN:=Lib.hid (fun (w:World) (x:Ext w4 w)=>x.cell hn8)
  have hnN:N.length≤200:=hN2
  go_wp2_with fail
  go_loopw [20] (fun iv wr=>∃ i:Nat,i≤M.ops.length∧iv=.int .i64 i∧Hid (Ext w4 wr)) (fun iv _=>M.ops.length - (intOf iv).toNat)
  case atStart=>exact ⟨0,by omega,rfl,X7⟩
  case round =>
   obtain ⟨i,hi,rfl,hin⟩:=hrel
   rename World=>w8
   have d3:=HD.out w8 hin.out
   by_cases hli:i<M.ops.length
   ·have hiz:(i:Int)<(M.ops.length:Int):=by omega
    go_wp2_with fail
    go_loopw [21] (fun pv wr=>∃ p:Nat,p≤4∧pv=.int .i64 p∧Hid (Ext w4 wr)) (fun pv _=>4 - (intOf pv).toNat)
    case atStart=>exact ⟨0,by omega,rfl,hin⟩
    case round =>
     obtain ⟨p,hp,rfl,hin9⟩:=hrel
     rename World=>w9
     clear d3
     by_cases hlp:p≤3
     ·have hpz:(p:Int)≤3:=by omega
      go_wp2_with fail
      go_loopw [22] (fun qv wr=>∃ q:Nat,q≤N.length∧qv=.int .i64 q∧Hid (Ext w4 wr)) (fun qv _=>N.length - (intOf qv).toNat)
      case atStart=>exact ⟨0,by omega,rfl,hin9⟩
      case round =>
       obtain ⟨q,hq,rfl,hin10⟩:=hrel
       rename World=>w10
       have hn8d:=HN.out w10 hin10.out
       by_cases hlq:q<N.length
       ·have hqz:(q:Int)<(N.length:Int):=by omega
        obtain ⟨m1,hm1⟩:∃ b,mv (i:Int) (p:Int) (q:Int)=b:=⟨_,rfl⟩
        have hmt:=HMT.out w10 hin10.out (i:Int) (p:Int) (q:Int) (by unfold fits64;omega)
        rw [hm1] at hmt
        have HM1:=Lib.hid hmt
        have HM2:Hid (∀ w,Ext w4 w→Calls Tryz.prog 35 #[.pointer (some ⟨br,0,none⟩),.int .i64 (i:Int),.int .i64 (p:Int),.int .i64 (q:Int)] w fun e w'=>e=.returned (.bool m1)∧Ext w w'):=Lib.hid (fun w x=>by have:=HMR.out w x (i:Int) (p:Int) (q:Int) (by unfold fits64;omega) (by unfold fits64;omega);rw [hm1] at this;exact this)
        clear hm1 hmt
        have hmm:(m1 != m1)=false:=by simp
        go_wp2_with (first
         | (go_at_call 34;refine HM1.out.mono ?_;rintro e w11 ⟨rfl,hx11⟩;have X11:=Lib.hid (hin10.out.trans hx11);clear hx11)
         | (go_at_call 35;refine (HM2.out w11 X11.out).mono ?_;rintro e w12 ⟨rfl,hx12⟩;have X12:=Lib.hid (X11.out.trans hx12);clear hx12))
        go_roundw
        case rel=>exact ⟨q+1,by omega,by go_num,X12⟩
        case measure=>simp [intOf];omega
       ·have hqz:¬ (q:Int)<(N.length:Int):=by omega
        go_wp2_with fail
        go_roundw
        case rel=>exact ⟨p+1,by omega,by go_num,hin10⟩
        case measure=>simp [intOf];omega
     ·have hpz:¬ (p:Int)≤3:=by omega
      go_wp2_with fail
      go_roundw
      case rel=>exact ⟨i+1,by omega,by go_num,hin9⟩
      case measure=>simp [intOf];omega
   ·have hiz:¬ (i:Int)<(M.ops.length:Int):=by omega
    go_wp2_with fail
    go_ret
    exact ⟨rfl,X4.out.trans hin.out⟩
end Go.Proofs.YtligiddaampneaaGreat
