/- The law of classes (TableClasses), whole. -/
import Derived.Test.YtligiddaampneaaGreatUa
namespace Go.Proofs.YtligiddaampneaaGreat
open Go.RowKit
attribute [local go_sem] Oper.semAt_some
set_option maxRecDepth 100000 in
set_option maxHeartbeats 16000000 in
theorem tableClasses_any {W:World} {M:Mach} {n0:Nat} {vR vC vO vA vS:Value} (hm:MachIn W n0 vR vC vO vA vS M) (hn:n0≤W.heap.size) (name:ByteArray) (n reg:Int) (hfn:fits64 n) (hfr:fits64 reg) :
  Calls Tryz.prog 5 #[.agg #[.string M.name,vR,vC,vO,vA,.string M.result,vS,.int .i64 M.slots],.string name,.int .i64 n,.int .i64 reg] W fun e W'=>e=.returned (.bool true)∧Ext W W':=by
 obtain ⟨aR,cR,rfl,_,_⟩:=hm.regs.form
 obtain ⟨aC,cC,rfl,_,_⟩:=hm.cls.form
 obtain ⟨aO,cO,rfl,_,_⟩:=hm.ops.form
 obtain ⟨aA,cA,rfl,_,_⟩:=hm.args.form
 obtain ⟨aS,cS,rfl,_,_⟩:=hm.saved.form
 have x0:Ext W (W.alloc (.cells #[.string M.name,.slice aR M.regs.length cR,.slice aC M.classes.length cC,.slice aO M.ops.length cO,.slice aA M.args.length cA,.string M.result,.slice aS M.saved.length cS,.int .i64 M.slots] 27)):=Ext.alloc _ _
 have bm:=heap_alloc_new W (.cells #[.string M.name,.slice aR M.regs.length cR,.slice aC M.classes.length cC,.slice aO M.ops.length cO,.slice aA M.args.length cA,.string M.result,.slice aS M.saved.length cS,.int .i64 M.slots] 27)
 have HM:=Lib.hid (fun (w:World) (x:Ext W w)=>hm.same (W':=w) fun k hk=>Below.block x k (by omega))
 have HBIG:=Lib.hid (fun (w:World) (x:Ext W w)=>bigR_any (HM.out w x) (Nat.le_trans hn x.size))
 have HMK:=Lib.hid (fun (w:World) (x:Ext W w)=>makeL_any (HM.out w x) (Nat.le_trans hn x.size))
 clear hm
 go_enter Tryz.func5,Tryz.ntmps5
 go_upto_region 1 with (fail)
 generalize W.alloc (.cells #[.string M.name,.slice aR M.regs.length cR,.slice aC M.classes.length cC,.slice aO M.ops.length cO,.slice aA M.args.length cA,.string M.result,.slice aS M.saved.length cS,.int .i64 M.slots] 27)=w1 at x0 bm ⊢
 generalize W.heap.size=b0 at bm ⊢
 have X0:=Lib.hid x0
 clear x0
 have BM:=Lib.hid bm
 clear bm
 go_upto_region 2 with (go_at_call 9;refine (alive7_any _).mono ?_;rintro e w2 ⟨rfl,hx2⟩;have X2:=Lib.hid (X0.out.trans hx2);have BM:=Lib.hid (hx2.block BM.out);clear hx2)
 have d0:=blk_cell BM.out 0 _ rfl
 have d1:=blk_cell BM.out 1 _ rfl
 have d2:=blk_cell BM.out 2 _ rfl
 have d3:=blk_cell BM.out 3 _ rfl
 have d4:=blk_cell BM.out 4 _ rfl
 have d5:=blk_cell BM.out 5 _ rfl
 have d6:=blk_cell BM.out 6 _ rfl
 have d7:=blk_cell BM.out 7 _ rfl
 go_upto_region 3 with (go_at_call 10;refine (HBIG.out w2 X2.out).mono ?_;rintro e w3 ⟨⟨bb,rfl⟩,hx3⟩;have X3:=Lib.hid (X2.out.trans hx3);have BM:=Lib.hid (hx3.block BM.out);clear hx3)
 clear d0 d1 d2 d3 d4 d5 d6 d7
 cases bb with
 | true =>
  go_wp2_with fail
  go_ret
  exact ⟨rfl,X3.out⟩
 | false =>
 by_cases hnl:(1000:Int)<name.size
 ·go_wp2_with fail
  go_ret
  exact ⟨rfl,X3.out⟩
 have d0:=blk_cell BM.out 0 _ rfl
 have d1:=blk_cell BM.out 1 _ rfl
 have d2:=blk_cell BM.out 2 _ rfl
 have d3:=blk_cell BM.out 3 _ rfl
 have d4:=blk_cell BM.out 4 _ rfl
 have d5:=blk_cell BM.out 5 _ rfl
 have d6:=blk_cell BM.out 6 _ rfl
 have d7:=blk_cell BM.out 7 _ rfl
 have hmk:=HMK.out w3 X3.out
 unfold MakeLPost at hmk
 cases hc:checkS M with
 | error x =>
  rw [hc] at hmk
  have HMK:=Lib.hid hmk
  clear hmk hc
  go_wp2_with (go_at_call 11;refine HMK.out.mono ?_;rintro e w4 ⟨hx4,rfl⟩;have X4:=Lib.hid (X3.out.trans hx4);clear hx4)
  go_ret
  exact ⟨rfl,X4.out⟩
 | ok u =>
  rw [hc] at hmk
  have HMK:=Lib.hid hmk
  clear hmk hc
  go_upto_region 6 with (go_at_call 11;refine HMK.out.mono ?_;rintro e w4 ⟨hx4,bt,V,br,VR,vK,N,L,rfl,hT,hTB,hTR,_⟩;have X4:=Lib.hid (X3.out.trans hx4);have BM:=Lib.hid (hx4.block BM.out);have TK:=Lib.hid hT;have TB:=Lib.hid hTB;have TR:=Lib.hid hTR;clear hx4 hT hTB hTR)
  clear d0 d1 d2 d3 d4 d5 d6 d7
  have hsm:=TK.out.small
  have hncl:=hsm.ncls
  have hl2:L.length≤200:=by rw [TK.out.len];exact TK.out.le
  have HNUM:Hid (∀ c∈numsC N M.classes,∀ n∈c,0≤n∧n<(L.length:Int)):=Lib.hid (TK.out.good.nums TK.out.len)
  have HNE:Hid (∀ c∈numsC N M.classes,c≠[]):=Lib.hid (fun c hc e=>by
   unfold numsC at hc
   obtain ⟨x,hx,rfl⟩:=List.mem_map.1 hc
   rw [List.map_eq_nil_iff] at e
   exact TK.out.good.ne x hx e)
  have HSMA:Hid (∀ c∈numsC N M.classes,c.length≤1000):=Lib.hid (nums_small hsm)
  have HCL:Hid (∀ w,Ext w4 w→∀ s,Calls Tryz.prog 24 #[.pointer (some ⟨bt,0,none⟩),.string s] w fun e w'=>e=.returned (.tuple #[.int .i64 (if 0≤clsIx M s then clsIx M s else 0),.bool (decide (0≤clsIx M s))])∧w=w'):=Lib.hid (fun w x s=>tclass_any (TB.out.ext x) s)
  have HOF:=Lib.hid (fun (w:World) (x:Ext w4 w) (c:Int)=>tof_any (TB.out.ext x) TK.out.small c)
  have HW:=Lib.hid (fun (w:World) (x:Ext w4 w) (c:Int)=>twidth_any (TB.out.ext x) HNUM.out HNE.out c)
  have HRW:=Lib.hid (fun (w:World) (x:Ext w4 w) (c:Int)=>widthT_any (TR.out.ext x) HNUM.out c)
  have HIN:=Lib.hid (fun (w:World) (x:Ext w4 w) (c r:Int) (hr:fits64 r)=>tin_any (TB.out.ext x) HNUM.out hl2 c r hr)
  have HRI:=Lib.hid (fun (w:World) (x:Ext w4 w) (c r:Int)=>inT_any (TR.out.ext x) c r)
  have HRC:=Lib.hid (fun (w:World) (x:Ext w4 w)=>classOfT_any (TR.out.ext x) name)
  have HIX:Hid (∀ (k:Nat) (c:Cls),M.classes[k]?=some c→clsIx M c.name=(k:Int)):=Lib.hid TK.out.good.ix
  have HLEN:Hid ((numsC N M.classes).length=M.classes.length):=Lib.hid (numsC_len _ _)
  have hKf:=TR.out.k.form
  have hcl:=TR.out.cl
  have HK:Hid (∀ w,Ext w4 w→∀ (i:Nat) (c:List Int),(numsC N M.classes)[i]?=some c→∃ b off cap ua uc,vK=.slice (some ⟨b,off,none⟩) (numsC N M.classes).length cap∧w.cell? ⟨b,off+i,none⟩=some (.slice ua c.length uc)∧SliceInts w (.slice ua c.length uc) c):=Lib.hid (fun w x i c hc=>by
   obtain ⟨b,off,cap,ua,uc,e,_,_,hc1,hi⟩:=(TR.out.ext x).k.at hc
   exact ⟨b,off,cap,ua,uc,e,hc1,hi.slice⟩)
  obtain ⟨c0,hc0⟩:∃ x,clsIx M name=x:=⟨_,rfl⟩
  have hcl1:=HCL.out w4 (Ext.refl _) name
  rw [hc0] at hcl1
  have hrc1:=HRC.out w4 (Ext.refl _)
  rw [hc0] at hrc1
  obtain ⟨kk,hkk⟩:∃ x,(if 0≤c0 then c0 else 0)=x:=⟨_,rfl⟩
  obtain ⟨isb,hisb⟩:∃ x,decide (0≤c0)=x:=⟨_,rfl⟩
  rw [hkk,hisb] at hcl1
  have HCL1:=Lib.hid hcl1
  have HRC1:=Lib.hid hrc1
  have HKK:=Lib.hid (And.intro hkk hisb)
  clear hcl1 hrc1 hkk hisb hc0 HRC
  generalize numsC N M.classes=C at HNUM HNE HSMA HOF HW HRW HIN HRI HLEN hKf hcl HK
  obtain ⟨aK,capK,rfl,hK1,hK2⟩:=hKf
  unfold maxLen at hK2
  go_upto_region 10 with (first
   | (go_at_call 24;refine HCL1.out.mono ?_;rintro e w' ⟨rfl,rfl⟩)
   | (go_at_call 25;refine HRC1.out.mono ?_;rintro e w' ⟨rfl,rfl⟩))
  go_cut [78] from 59 to 77 (fun tv wx=>tv=.bool false∧wx=w4)
  case first =>
   by_cases h0:0≤c0
   ·obtain ⟨rfl,rfl⟩:kk=c0∧isb=true:=⟨by rw [← HKK.out.1,if_pos h0],by rw [← HKK.out.2,decide_eq_true h0]⟩
    go_wp2_with fail
    go_meet
    case rel=>exact ⟨by simp,rfl⟩
   ·obtain ⟨rfl,rfl⟩:kk=0∧isb=false:=⟨by rw [← HKK.out.1,if_neg h0],by rw [← HKK.out.2,decide_eq_false h0]⟩
    go_wp2_with fail
    go_meet
    case rel=>exact ⟨by simp,rfl⟩
  case rest =>
  obtain ⟨rfl,rfl⟩:=hcut
  clear HCL1 HRC1 HKK
  have BM4:=BM
  have hC64:C.length≤64:=by rw [HLEN.out];exact hncl
  have cKc:=hcl
  go_wp2_with fail
  go_loopw [17] (fun iv wr=>∃ i:Nat,i≤C.length∧iv=.int .i64 i∧Hid (Ext wc wr)) (fun iv _=>C.length - (intOf iv).toNat)
  case atStart=>exact ⟨0,by omega,rfl,Lib.hid (Ext.refl _)⟩
  case round =>
   obtain ⟨i,hi,rfl,hin⟩:=hrel
   rename World=>w5
   have cK5:=hin.out.cell cKc
   by_cases hli:i<C.length
   ·have hiz:(i:Int)<(C.length:Int):=by omega
    obtain ⟨l,hl⟩:∃ x,C[i]?=some x:=⟨_,List.getElem?_eq_getElem hli⟩
    obtain ⟨c,hc⟩:∃ x,M.classes[i]?=some x:=⟨_,List.getElem?_eq_getElem (by rw [← HLEN.out];exact hli)⟩
    have hlm:=List.mem_of_getElem? hl
    have hiM:(i:Int)<(M.classes.length:Int):=by rw [← HLEN.out];exact hiz
    have X5:=Lib.hid hin.out
    have hll:=HSMA.out l hlm
    have HOL:Hid (ofL C (i:Int)=l):=Lib.hid (by unfold ofL;rw [if_pos (by omega),Int.toNat_natCast,hl])
    have hof:Calls Tryz.prog 26 #[.pointer (some ⟨bt,0,none⟩),.int .i64 (i:Int)] w5 fun e w'=>∃ v,e=.returned v∧w'.ownsRow w5.heap.size 3 1 v l.length (l.map (Value.int .i64))∧Ext w5 w':=by
     have:=HOF.out w5 hin.out (i:Int)
     rw [HOL.out] at this
     exact this
    have HOFI:=Lib.hid hof
    have HCLI:Hid (∀ w,Ext wc w→Calls Tryz.prog 24 #[.pointer (some ⟨bt,0,none⟩),.string c.name] w fun e w'=>e=.returned (.tuple #[.int .i64 (i:Int),.bool true])∧w=w'):=Lib.hid (fun w x=>by
     have:=HCL.out w x c.name
     rw [HIX.out i c hc,if_pos (by omega),decide_eq_true (by omega)] at this
     exact this)
    obtain ⟨b1,o1,cp1,u1,f1,_,_,_,p0,_,_⟩:=(HM.out w5 (X4.out.trans hin.out)).cls.at hc
    cases f1
    have BM5:=Lib.hid (hin.out.block BM4.out)
    have d2:=blk_cell BM5.out 2 _ rfl
    obtain ⟨bk,ok,cpk,ua,uc,ek,hcell,hsl⟩:=HK.out w5 hin.out i l hl
    cases ek
    have HLL:=Lib.hid (And.intro hl hlm)
    clear hc hl hlm hof hin hcell hsl
    obtain ⟨wd,hwd⟩:∃ x,widI L C (i:Int)=x:=⟨_,rfl⟩
    have HWI:Hid (∀ w,Ext wc w→Calls Tryz.prog 27 #[.pointer (some ⟨bt,0,none⟩),.int .i64 (i:Int)] w fun e w'=>e=.returned (.int .i64 wd)∧Ext w w'):=Lib.hid (fun w x=>by have:=HW.out w x (i:Int);rw [hwd] at this;exact this)
    have HRWI:Hid (∀ w,Ext wc w→Calls Tryz.prog 28 #[.pointer (some ⟨br,0,none⟩),.int .i64 (i:Int)] w fun e w'=>e=.returned (.int .i64 wd)∧Ext w w'):=Lib.hid (fun w x=>by have:=HRW.out w x (i:Int);rw [hwd] at this;exact this)
    clear hwd
    have hwz:(wd != wd)=false:=by simp
    have hiz2:((i:Int) != (i:Int))=false:=by simp
    go_upto_region 16 with (go_at_call 26;refine HOFI.out.mono ?_;rintro e w6 ⟨v6,rfl,ho6,hx6⟩;obtain ⟨a6,k6,e6,_,_⟩:=(Row.of_owns ho6).shape;subst e6;have O6:=Lib.hid ho6;have X6:=Lib.hid (X5.out.trans hx6);have d2:=hx6.cell d2;have p0:=hx6.cell p0;have cK5:=hx6.cell cK5;clear ho6 hx6)
    go_upto_region 17 with (go_at_call 24;refine (HCLI.out w6 X6.out).mono ?_;rintro e w' ⟨rfl,rfl⟩)
    obtain ⟨bk2,ok2,cpk2,ua2,uc2,ek2,hcell6,hsl6⟩:=HK.out w6 X6.out i l HLL.out.1
    cases ek2
    have HSL6:=Lib.hid hsl6
    clear hsl6
    go_upto_region 19 with (first
     | (go_at_call 16;refine (same_any (Row.of_owns O6.out:SliceInts w6 (.slice a6 l.length k6) l) HSL6.out).mono ?_;rintro e w7 ⟨rfl,hx7⟩;have X7:=Lib.hid (X6.out.trans hx7);have Y7:=Lib.hid hx7;clear hx7)
     | (go_at_call 27;refine (HWI.out w7 X7.out).mono ?_;rintro e w8 ⟨rfl,hx8⟩;have X8:=Lib.hid (X7.out.trans hx8);have Y8:=Lib.hid (Y7.out.trans hx8);clear hx8)
     | (go_at_call 28;refine (HRWI.out w8 X8.out).mono ?_;rintro e w9 ⟨rfl,hx9⟩;have X9:=Lib.hid (X8.out.trans hx9);have Y9:=Lib.hid (Y8.out.trans hx9);clear hx9))
    have O9:=Lib.hid (owns_ext O6.out Y9.out)
    have hz5:=X5.out.size
    go_wp2_with fail
    go_loopw [21] (fun jv wr=>∃ j:Nat,j≤l.length∧jv=.int .i64 j∧Hid (Keep (fun k=>(Value.slice a6 l.length k6).ownBlock=some k) w9 wr∧∃ xs,wr.ownsRow w5.heap.size 3 1 (.slice a6 l.length k6) l.length xs∧∀ q,j≤q→xs[q]?=(l.map (Value.int .i64))[q]?)) (fun jv _=>l.length - (intOf jv).toNat)
    case atStart=>exact ⟨0,by omega,rfl,Lib.hid ⟨Keep.refl _ _,_,O9.out,fun q _=>rfl⟩⟩
    case round =>
     obtain ⟨j,hj,rfl,hin⟩:=hrel
     rename World=>w10
     have X10:Hid (Ext wc w10):=Lib.hid (X9.out.keep hin.out.1 (fun q e=>by have:=(O9.out.lt q e).1;omega))
     by_cases hlj:j<l.length
     ·have hjz:(j:Int)<(l.length:Int):=by omega
      obtain ⟨k10,xs,o10,hxs⟩:=hin.out
      obtain ⟨g,cg,e,_,_⟩:=o10.form (by omega)
      cases e
      obtain ⟨x,hx⟩:∃ x,l[j]?=some x:=⟨_,List.getElem?_eq_getElem hlj⟩
      have hxm:=List.mem_of_getElem? hx
      have hxb:=HNUM.out l HLL.out.2 x hxm
      have cj:w10.cell? ⟨g,j,none⟩=some (.int .i64 x):=by rw [o10.cellAt j (by omega),hxs j (Nat.le_refl _),List.getElem?_map,hx];rfl
      have hinj:Calls Tryz.prog 29 #[.pointer (some ⟨bt,0,none⟩),.int .i64 (i:Int),.int .i64 x] w10 fun e w'=>e=.returned (.bool true)∧Ext w10 w':=by
       have:=HIN.out w10 X10.out (i:Int) x (by unfold fits64;omega)
       have ht:inI C (i:Int) x=true:=by
        unfold inI
        rw [if_pos (by omega),Int.toNat_natCast,HLL.out.1]
        exact decide_eq_true hxm
       rw [ht] at this
       exact this
      have HINJ:=Lib.hid hinj
      have OX:=Lib.hid (And.intro k10 (And.intro o10 hxs))
      clear hin k10 o10 hxs hinj hx hxm hxb
      go_wp2_with (go_at_call 29;refine HINJ.out.mono ?_;rintro e w11 ⟨rfl,hx11⟩;have X11:=Lib.hid hx11;have cj1:=hx11.cell cj;have fj:=(owns_ext OX.out.2.1 hx11).frozenAt j;have gl:=((owns_ext OX.out.2.1 hx11).lt g rfl).2;clear hx11)
      go_roundw
      case rel =>
       have hst:=World.ownsRow.stored (owns_ext OX.out.2.1 X11.out) j (.int .i64 (-1))
       refine ⟨j+1,by omega,by go_num,Lib.hid ⟨(OX.out.1.trans (Keep.of_ext X11.out:Keep (fun k=>(Value.slice (some ⟨g,0,none⟩) l.length k6).ownBlock=some k) w10 w11) (fun _ _ h=>h)).trans (Keep.setCell (fun k=>(Value.slice (some ⟨g,0,none⟩) l.length k6).ownBlock=some k) w11 ⟨g,j,none⟩ _ rfl) (fun _ _ h=>h),_,hst.1,fun q hq=>?_⟩⟩
       rw [List.getElem?_set_ne (by omega)]
       exact OX.out.2.2 q (by omega)
      case measure=>simp [intOf];omega
     ·have hjz:¬ (j:Int)<(l.length:Int):=by omega
      clear hin
      go_wp2_with fail
      go_roundw
      case rel=>exact ⟨i+1,by omega,by go_num,Lib.hid X10.out⟩
      case measure=>simp [intOf];omega
   ·have hiz:¬ (i:Int)<(C.length:Int):=by omega
    have X5:=Lib.hid hin.out
    clear hin
    obtain ⟨wd,hwd⟩:∃ x,widI L C n=x:=⟨_,rfl⟩
    have HWI:Hid (∀ w,Ext wc w→Calls Tryz.prog 27 #[.pointer (some ⟨bt,0,none⟩),.int .i64 n] w fun e w'=>e=.returned (.int .i64 wd)∧Ext w w'):=Lib.hid (fun w x=>by have:=HW.out w x n;rw [hwd] at this;exact this)
    have HRWI:Hid (∀ w,Ext wc w→Calls Tryz.prog 28 #[.pointer (some ⟨br,0,none⟩),.int .i64 n] w fun e w'=>e=.returned (.int .i64 wd)∧Ext w w'):=Lib.hid (fun w x=>by have:=HRW.out w x n;rw [hwd] at this;exact this)
    obtain ⟨ib,hib⟩:∃ x,inI C n reg=x:=⟨_,rfl⟩
    have HI1:Hid (∀ w,Ext wc w→Calls Tryz.prog 29 #[.pointer (some ⟨bt,0,none⟩),.int .i64 n,.int .i64 reg] w fun e w'=>e=.returned (.bool ib)∧Ext w w'):=Lib.hid (fun w x=>by have:=HIN.out w x n reg hfr;rw [hib] at this;exact this)
    have HI2:Hid (∀ w,Ext wc w→Calls Tryz.prog 30 #[.pointer (some ⟨br,0,none⟩),.int .i64 n,.int .i64 reg] w fun e w'=>e=.returned (.bool ib)∧w=w'):=Lib.hid (fun w x=>by have:=HRI.out w x n reg;rw [hib] at this;exact this)
    clear hwd hib
    have hwz:(wd == wd)=true:=by simp
    have hbz:(ib == ib)=true:=by simp
    by_cases hnr:0≤n∧n<(C.length:Int)
    ·obtain ⟨k,rfl⟩:∃ k:Nat,n=k:=⟨n.toNat,by omega⟩
     obtain ⟨l,hl⟩:∃ x,C[k]?=some x:=⟨_,List.getElem?_eq_getElem (by omega)⟩
     have hkz:(k:Int)<(C.length:Int):=hnr.2
     have HOL:Hid (ofL C (k:Int)=l):=Lib.hid (by unfold ofL;rw [if_pos (by omega),Int.toNat_natCast,hl])
     have HOFK:Hid (∀ w,Ext wc w→Calls Tryz.prog 26 #[.pointer (some ⟨bt,0,none⟩),.int .i64 (k:Int)] w fun e w'=>∃ v,e=.returned v∧w'.ownsRow w.heap.size 3 1 v l.length (l.map (Value.int .i64))∧Ext w w'):=Lib.hid (fun w x=>by
      have:=HOF.out w x (k:Int)
      rw [HOL.out] at this
      exact this)
     obtain ⟨bk,ok,cpk,ua,uc,ek,hcell,hsl⟩:=HK.out w5 X5.out k l hl
     cases ek
     have HSL:=Lib.hid (fun (w:World) (x:Ext w5 w)=>(hsl.below x:SliceInts w (.slice ua l.length uc) l))
     clear hl hsl
     go_wp2_with (first
      | (go_at_call 29;refine (HI1.out w5 X5.out).mono ?_;rintro e w6 ⟨rfl,hx6⟩;have X6:=Lib.hid (X5.out.trans hx6);have Y6:=Lib.hid hx6;clear hx6)
      | (go_at_call 30;refine (HI2.out w6 X6.out).mono ?_;rintro e w' ⟨rfl,rfl⟩)
      | (go_at_call 27;refine (HWI.out w6 X6.out).mono ?_;rintro e w7 ⟨rfl,hx7⟩;have X7:=Lib.hid (X6.out.trans hx7);have Y7:=Lib.hid (Y6.out.trans hx7);clear hx7)
      | (go_at_call 28;refine (HRWI.out w7 X7.out).mono ?_;rintro e w8 ⟨rfl,hx8⟩;have X8:=Lib.hid (X7.out.trans hx8);have Y8:=Lib.hid (Y7.out.trans hx8);clear hx8)
      | (go_at_call 26;refine (HOFK.out w8 X8.out).mono ?_;rintro e w9 ⟨v9,rfl,ho9,hx9⟩;have X9:=Lib.hid (X8.out.trans hx9);have Y9:=Lib.hid (Y8.out.trans hx9);have O9:=Lib.hid ho9;clear hx9 ho9)
      | (go_at_call 16;refine (same_any (Row.of_owns O9.out:SliceInts w9 v9 l) (HSL.out w9 Y9.out)).mono ?_;rintro e w10 ⟨rfl,hx10⟩;have X10:=Lib.hid (X9.out.trans hx10);clear hx10))
     go_ret
     exact ⟨ret_bool (by simp),X4.out.trans X10.out⟩
    ·have HOL:Hid (ofL C n=[]):=Lib.hid (by
      unfold ofL
      split
      ·rw [List.getElem?_eq_none (by omega)]
      ·rfl)
     have HOFK:Hid (∀ w,Ext wc w→Calls Tryz.prog 26 #[.pointer (some ⟨bt,0,none⟩),.int .i64 n] w fun e w'=>∃ v,e=.returned v∧w'.ownsRow w.heap.size 3 1 v 0 []∧Ext w w'):=Lib.hid (fun w x=>by
      have:=HOF.out w x n
      rw [HOL.out] at this
      exact this)
     have hnil:∀ w:World,SliceInts w (.slice none 0 0) []:=fun w=>Row.of_owns (World.ownsRow_nil w 0 3 1)
     have HNIL:=Lib.hid hnil
     clear hnil
     by_cases h0:0≤n
     ·have h1:¬ n<(C.length:Int):=fun h=>hnr ⟨h0,h⟩
      go_wp2_with (first
       | (go_at_call 29;refine (HI1.out w5 X5.out).mono ?_;rintro e w6 ⟨rfl,hx6⟩;have X6:=Lib.hid (X5.out.trans hx6);clear hx6)
       | (go_at_call 30;refine (HI2.out w6 X6.out).mono ?_;rintro e w' ⟨rfl,rfl⟩)
       | (go_at_call 27;refine (HWI.out w6 X6.out).mono ?_;rintro e w7 ⟨rfl,hx7⟩;have X7:=Lib.hid (X6.out.trans hx7);clear hx7)
       | (go_at_call 28;refine (HRWI.out w7 X7.out).mono ?_;rintro e w8 ⟨rfl,hx8⟩;have X8:=Lib.hid (X7.out.trans hx8);clear hx8)
       | (go_at_call 26;refine (HOFK.out w8 X8.out).mono ?_;rintro e w9 ⟨v9,rfl,ho9,hx9⟩;have X9:=Lib.hid (X8.out.trans hx9);have O9:=Lib.hid ho9;clear hx9 ho9)
       | (go_at_call 16;refine (same_any (Row.of_owns O9.out:SliceInts w9 v9 []) (HNIL.out w9)).mono ?_;rintro e w10 ⟨rfl,hx10⟩;have X10:=Lib.hid (X9.out.trans hx10);clear hx10))
      go_ret
      exact ⟨ret_bool (by simp),X4.out.trans X10.out⟩
     ·go_wp2_with (first
       | (go_at_call 29;refine (HI1.out w5 X5.out).mono ?_;rintro e w6 ⟨rfl,hx6⟩;have X6:=Lib.hid (X5.out.trans hx6);clear hx6)
       | (go_at_call 30;refine (HI2.out w6 X6.out).mono ?_;rintro e w' ⟨rfl,rfl⟩)
       | (go_at_call 27;refine (HWI.out w6 X6.out).mono ?_;rintro e w7 ⟨rfl,hx7⟩;have X7:=Lib.hid (X6.out.trans hx7);clear hx7)
       | (go_at_call 28;refine (HRWI.out w7 X7.out).mono ?_;rintro e w8 ⟨rfl,hx8⟩;have X8:=Lib.hid (X7.out.trans hx8);clear hx8)
       | (go_at_call 26;refine (HOFK.out w8 X8.out).mono ?_;rintro e w9 ⟨v9,rfl,ho9,hx9⟩;have X9:=Lib.hid (X8.out.trans hx9);have O9:=Lib.hid ho9;clear hx9 ho9)
       | (go_at_call 16;refine (same_any (Row.of_owns O9.out:SliceInts w9 v9 []) (HNIL.out w9)).mono ?_;rintro e w10 ⟨rfl,hx10⟩;have X10:=Lib.hid (X9.out.trans hx10);clear hx10))
      go_ret
      exact ⟨ret_bool (by simp),X4.out.trans X10.out⟩
end Go.Proofs.YtligiddaampneaaGreat
