/- The law of registers (TableRegs), whole. -/
import Derived.Test.YtligiddaampneaaGreatUf
set_option maxRecDepth 100000
set_option maxHeartbeats 16000000
namespace Go.Proofs.YtligiddaampneaaGreat
open Go.RowKit
attribute [local go_sem] Oper.semAt_some
theorem idx_atU {l:List ByteArray} {i:Nat} {s:ByteArray} (hn:l.Nodup) (h:l[i]?=some s):idx l s=(i:Int) :=
 (idx_at_iff h).2 fun hm=>by
  obtain ⟨j,hj⟩:=List.getElem?_of_mem hm
  rw [List.getElem?_take] at hj
  split at hj
  ·rename_i hji
   obtain ⟨h1,e1⟩:=List.getElem?_eq_some_iff.1 h
   obtain ⟨h2,e2⟩:=List.getElem?_eq_some_iff.1 hj
   exact List.pairwise_iff_getElem.1 hn j i h2 h1 hji (e2.trans e1.symm)
  ·cases hj
theorem lapsL_row (L:List Pl) (i:Int):lapsL L i=rowOf (fun j:Nat=>lapI L i (j:Int)) L.length:=by
 unfold lapsL
 by_cases h:0≤i∧i<(L.length:Int)
 ·rw [if_pos h]
  unfold lapRow rowOf
  congr 1
  refine List.filter_congr fun j hj=>?_
  rw [List.mem_range] at hj
  obtain ⟨a,rfl⟩:∃ a:Nat,i=a:=⟨i.toNat,by omega⟩
  obtain ⟨p,hp⟩:∃ x,L[a]?=some x:=⟨_,lE (by omega)⟩
  obtain ⟨q,hq⟩:∃ x,L[j]?=some x:=⟨_,lE hj⟩
  unfold lapI
  rw [if_pos ⟨h.1,by omega⟩,Int.toNat_natCast,Int.toNat_natCast,List.getD_eq_getElem?_getD,List.getD_eq_getElem?_getD,hp,hq]
  rfl
 ·rw [if_neg h]
  unfold rowOf
  rw [List.filter_eq_nil_iff.2 (fun j _=>by rw [lapI_out h];decide)]
  rfl
theorem regs_any {W:World} {n1 bt br:Nat} {V:TV} {VR:MV} {vK:Value} {M:Mach} {N:List ByteArray} {L:List Pl} (h:TblIn W bt V M N L) (hR:TabIn W n1 br VR vK M N L (numsC N M.classes)) (T:Taken M N L) :
  Calls Tryz.prog 31 #[.pointer (some ⟨bt,0,none⟩),.pointer (some ⟨br,0,none⟩)] W fun e w'=>e=.returned (.bool true)∧Ext W w':=by
 have hN2:N.length≤200:=T.le
 have hLN:=T.len
 have hl2:L.length≤200:=by rw [hLN];exact hN2
 have HNR:=qh (nregs_any h)
 have HTR:=qh (troots_any h)
 have HRR:=qh (rootsR_any hR)
 have HREG:=qh (fun (w:World) (x:Ext W w) (s:ByteArray)=>treg_any (h.ext x) s)
 have HNM:=qh (fun (w:World) (x:Ext W w) (i:Int)=>tname_any (h.ext x) i)
 have HPL:=qh (fun (w:World) (x:Ext W w) (i:Int)=>tplace_any (h.ext x) i)
 have HSU:=qh (fun (w:World) (x:Ext W w) (i:Int) (hi:fits64 i)=>tsurv_any (h.ext x) hl2 i hi)
 have HSR:=qh (fun (w:World) (x:Ext W w) (i:Int)=>survR_any (hR.ext x) T i)
 have HLA:=qh (fun (w:World) (x:Ext W w) (i:Int)=>laps_any (h.ext x) hl2 i)
 have HLR:=qh (fun (w:World) (x:Ext W w) (a b:Int) (ha:fits64 a) (hb:fits64 b)=>lapT_any (hR.ext x) a b ha hb)
 have HNB:=qh (fun (w:World) (x:Ext W w)=>(hR.ext x).ck.nm)
 have HPB:=qh (fun (w:World) (x:Ext W w)=>(hR.ext x).ck.pl)
 have HNE:=qh T.named
 have HND:=qh T.nd
 have n8:=hR.ck.cells 8 _ rfl
 have n9:=hR.ck.cells 9 _ rfl
 obtain ⟨aN,cN,eN,hN3,hN5⟩:=hR.ck.nm.form
 obtain ⟨aP,cP,eP,hP3,hP5⟩:=hR.ck.pl.form
 obtain ⟨qR,qC,qO,qA,qS,qN,qP⟩:=VR
 dsimp only at eN eP n8 n9 HNB HPB
 subst eN
 subst eP
 unfold maxLen at hN5 hP5
 have HC8:=qh (fun (w:World) (x:Ext W w)=>x.cell n8)
 have HC9:=qh (fun (w:World) (x:Ext W w)=>x.cell n9)
 generalize survV L (M.saved.map (idx N))=sv at HSU HSR
 have hLZ:(L.length:Int)=(N.length:Int):=by omega
 have HROW:=qh (fun i=>by have:=lapsL_row L i;rw [hLN] at this;exact this:∀ i:Int,lapsL L i=rowOf (fun j:Nat=>lapI L i (j:Int)) N.length)
 have hz1:((N.length:Int) != (N.length:Int))=false:=by simp
 have hz2:((M.regs.length:Int) != (M.regs.length:Int))=false:=by simp
 obtain ⟨iI,hiI,zI0,zI1,zI2⟩:=info_parts infoI
 clear h hR T
 go_enter Tryz.func31,Tryz.ntmps31
 go_upto_region 4 with (first
  | (go_at_call 45;refine HNR.out.mono ?_;rintro e w' ⟨rfl,rfl⟩)
  | (go_at_call 60;refine HTR.out.mono ?_;rintro e w' ⟨rfl,rfl⟩)
  | (go_at_call 61;refine HRR.out.mono ?_;rintro e w' ⟨rfl,rfl⟩))
 clear HNR HTR HRR hz1 hz2
 go_wp2_with fail
 go_loopw [6] (fun iv wr=>∃ i:Int,-1≤i∧i≤(N.length:Int)+1∧iv=.int .i64 i∧Hid (Ext W wr)) (fun iv _=>((N.length:Int)+1 - intOf iv).toNat)
 case atStart=>exact ⟨-1,by omega,by omega,rfl,qh (Ext.refl _)⟩
 case round =>
  obtain ⟨i,hi0,hi1,rfl,X4⟩:=hrel
  rename World=>w4
  by_cases hle:i≤(N.length:Int)
  ·have n8:=HC8.out w4 X4.out
   have n9:=HC9.out w4 X4.out
   obtain ⟨bb,hbb⟩:∃ z,decide (0≤i∧i<(N.length:Int))=z:=⟨_,rfl⟩
   go_upto_region 9 with (fail)
   go_cut [43] from 37 to 42 (fun bv wx=>bv=.bool bb∧wx=w4.alloc (.cells #[.int .i64 0,.int .i64 0,.int .i64 0] 88))
   case first =>
    by_cases hnn:0≤i
    ·by_cases hnl2:i<(N.length:Int)
     ·have hd:bb=true:=by rw [← hbb];exact decide_eq_true ⟨hnn,hnl2⟩
      subst hd
      clear hbb
      go_wp2_with fail
      go_meet
      case rel=>exact ⟨by simp,rfl⟩
     ·have hd:bb=false:=by rw [← hbb];exact decide_eq_false (fun h=>hnl2 h.2)
      subst hd
      clear hbb
      go_wp2_with fail
      go_meet
      case rel=>exact ⟨by simp,rfl⟩
    ·have hd:bb=false:=by rw [← hbb];exact decide_eq_false (fun h=>hnn h.1)
     subst hd
     clear hbb
     go_wp2_with fail
     go_meet
     case rel=>exact ⟨by simp,rfl⟩
   case rest =>
   obtain ⟨rfl,rfl⟩:=hcut
   go_upto_if 43 with (fail)
   go_cut [7] from 44 to 57 (fun tv wx=>tv=.string (nameV N i)∧Hid (Ext w4 wx∧wx.heap[w4.heap.size]?=some (.cells (placeV L i).cells.toArray 88 (0,0))))
   case first =>
    by_cases hnn:0≤i∧i<(N.length:Int)
    ·have hd:bb=true:=by rw [← hbb];exact decide_eq_true hnn
     subst hd
     clear hbb
     obtain ⟨k,rfl⟩:∃ k:Nat,i=k:=⟨i.toNat,by omega⟩
     obtain ⟨s,hs⟩:∃ s,N[k]?=some s:=⟨_,lE (by omega)⟩
     obtain ⟨p,hp⟩:∃ s,L[k]?=some s:=⟨_,lE (by omega)⟩
     have HV:Hid (nameV N (k:Int)=s):=qh (by unfold nameV;rw [if_pos hnn.1,Int.toNat_natCast,hs];rfl)
     have HP:Hid (placeV L (k:Int)=p):=qh (by unfold placeV;rw [if_pos hnn.1,Int.toNat_natCast,hp];rfl)
     obtain ⟨_,_,_,e1,_,_,_,z0⟩:=(HNB.out _ (X4.out.trans (Ext.alloc w4 (.cells #[.int .i64 0,.int .i64 0,.int .i64 0] 88)))).at hs
     obtain ⟨_,_,_,e2,_,_,_,r0,r1,r2⟩:=(HPB.out _ (X4.out.trans (Ext.alloc w4 (.cells #[.int .i64 0,.int .i64 0,.int .i64 0] 88)))).at hp
     cases e1
     cases e2
     have n8:=(Ext.alloc w4 (.cells #[.int .i64 0,.int .i64 0,.int .i64 0] 88)).cell n8
     have n9:=(Ext.alloc w4 (.cells #[.int .i64 0,.int .i64 0,.int .i64 0] 88)).cell n9
     have hkz:(k:Int)<(N.length:Int):=hnn.2
     have hkl:(k:Int)<(L.length:Int):=by omega
     clear hs hp hnn
     go_wp2_with fail
     go_meet
     case rel=>exact ⟨by rw [HV.out],qh ⟨Ext.alloc _ _,by rw [HP.out];exact heap_alloc_new w4 _⟩⟩
    ·have hd:bb=false:=by rw [← hbb];exact decide_eq_false hnn
     subst hd
     clear hbb
     have HV:Hid (nameV N i=⟨#[]⟩):=qh (by
      unfold nameV
      split
      ·rw [List.getElem?_eq_none (by omega)];rfl
      ·rfl)
     have HP:Hid (placeV L i=⟨0,0,0⟩):=qh (by
      unfold placeV
      split
      ·rw [List.getElem?_eq_none (by omega)];rfl
      ·rfl)
     go_wp2_with fail
     go_meet
     case rel=>exact ⟨by rw [HV.out],qh ⟨Ext.alloc _ _,by rw [HP.out];exact heap_alloc_new w4 _⟩⟩
   case rest =>
   obtain ⟨rfl,HC⟩:=hcut
   rename World=>w5
   have X5:=qh (X4.out.trans HC.out.1)
   have hin:(0≤i∧i<(N.length:Int))→idx N (nameV N i)=i∧nameV N i≠⟨#[]⟩:=fun hh=>by
    obtain ⟨k,rfl⟩:∃ k:Nat,i=k:=⟨i.toNat,by omega⟩
    obtain ⟨s,hs⟩:∃ s,N[k]?=some s:=⟨_,lE (by omega)⟩
    have e:nameV N (k:Int)=s:=by unfold nameV;rw [if_pos hh.1,Int.toNat_natCast,hs];rfl
    rw [e]
    exact ⟨idx_atU HND.out hs,HNE.out s (List.mem_of_getElem? hs)⟩
   have hout:¬ (0≤i∧i<(N.length:Int))→idx N (nameV N i) = -1∧nameV N i=⟨#[]⟩:=fun hh=>by
    have e:nameV N i=⟨#[]⟩:=by
     unfold nameV
     split
     ·rw [List.getElem?_eq_none (by omega)];rfl
     ·rfl
    rw [e]
    exact ⟨idx_not (fun hm=>HNE.out _ hm rfl),rfl⟩
   have HIN:=qh hin
   have HOUT:=qh hout
   have HNM1:=qh (fun (w:World) (x:Ext W w)=>HNM.out w x i)
   have HPL1:=qh (fun (w:World) (x:Ext W w)=>HPL.out w x i)
   obtain ⟨nm,hnm⟩:∃ z,nameV N i=z:=⟨_,rfl⟩
   rw [hnm] at HIN HOUT HNM1 ⊢
   obtain ⟨q,hq⟩:∃ z,placeV L i=z:=⟨_,rfl⟩
   rw [hq] at HPL1 HC
   obtain ⟨pr,pb,pw⟩:=q
   have HPL1:Hid (∀ w,Ext W w→Calls Tryz.prog 64 #[.pointer (some ⟨bt,0,none⟩),.int .i64 i] w fun e w'=>e=.returned (.agg #[.int .i64 pr,.int .i64 pb,.int .i64 pw])∧Ext w w'):=HPL1
   have hcb:=HC.out.2
   have bq:=(Array.getElem?_eq_some_iff.1 hcb).1
   generalize w4.heap.size=b4 at hcb bq
   have s0:=blk_cell hcb 0 _ rfl
   have s1:=blk_cell hcb 1 _ rfl
   have s2:=blk_cell hcb 2 _ rfl
   have hreg:=HREG.out w5 X5.out nm
   obtain ⟨kk,hkk⟩:∃ z,(if 0≤idx N nm then idx N nm else 0)=z:=⟨_,rfl⟩
   obtain ⟨isb,hisb⟩:∃ z,decide (0≤idx N nm)=z:=⟨_,rfl⟩
   rw [hkk,hisb] at hreg
   have HREG1:=qh hreg
   have HKK:=qh (And.intro hkk hisb)
   have hfi:fits64 i:=by unfold fits64;omega
   obtain ⟨sb,hsb⟩:∃ z,sv i=z:=⟨_,rfl⟩
   have HS1:Hid (∀ w,Ext W w→Calls Tryz.prog 65 #[.pointer (some ⟨bt,0,none⟩),.int .i64 i] w fun e w'=>e=.returned (.bool sb)∧Ext w w'):=qh (fun w x=>by have:=HSU.out w x i hfi;rw [hsb] at this;exact this)
   have HS2:Hid (∀ w,Ext W w→Calls Tryz.prog 66 #[.pointer (some ⟨br,0,none⟩),.int .i64 i] w fun e w'=>e=.returned (.bool sb)∧Ext w w'):=qh (fun w x=>by have:=HSR.out w x i;rw [hsb] at this;exact this)
   clear hin hout hnm hq hcb hreg hkk hisb hsb HC hbb
   have hsz:(sb != sb)=false:=by simp
   go_upto_region 13 with (go_at_call 62;refine HREG1.out.mono ?_;rintro e w' ⟨rfl,rfl⟩)
   have hnz:(nm != nm)=false:=by rw [bne,(ba_beq nm nm).2 rfl];rfl
   have hiz0:(i != i)=false:=by simp
   go_cut [106] from 64 to 105 (fun tv wx=>tv=.bool false∧Hid (Ext w5 wx))
   case first =>
    by_cases hin:0≤i∧i<(N.length:Int)
    ·obtain ⟨e1,e2⟩:=HIN.out hin
     obtain ⟨e3,e4⟩:i=kk∧true=isb:=⟨by rw [← HKK.out.1,e1,if_pos hin.1],by rw [← HKK.out.2,e1,decide_eq_true hin.1]⟩
     subst e4
     clear e1 hin
     have hne:nm.toList.isEmpty=false:=by rw [empty_beq];exact ba_bne e2
     have hki:(kk != i)=false:=by rw [e3];simp
     clear e2 e3
     clear HIN HOUT HKK
     refine wp_region_M (fun w'=>Ext w5 w') 37 (by kernel_rfl) (Ext.drew _) (fun hS=>?_)
     refine' tk 0 hS ?_ ?_;rotate_left;·intros;go_simp;try rfl
     refine' tk 1 hS ?_ ?_;rotate_left;·intros;go_simp;try rfl
     refine' tk 3 hS ?_ ?_;rotate_left;·intros;go_simp;try rfl
     try simp only [tD]
     generalize w5.drew=w6 at hS ⊢
     refine rc 2 fun K hK=>?_
     go_simp
     refine ((HNM1.out w6 (X5.out.trans hS))).mono ?_
     rintro e w' ⟨rfl,rfl⟩
     refine hK.out _ _ hS ?_
     clear hK K
     refine' tk 4 hS ?_ ?_;rotate_left;·intros;go_simp;try rfl
     refine' tk 5 hS ?_ ?_;rotate_left;·intros;go_simp;try rfl
     try simp only [tD]
     refine' tk 6 hS ?_ ?_;rotate_left;·intros;go_simp;try rfl
     refine' tk 7 hS ?_ ?_;rotate_left;·intros;go_simp;try rfl
     refine' tk 9 hS ?_ ?_;rotate_left;·intro w hSw;have t0:=xc hSw s0;have t1:=xc hSw s1;have t2:=xc hSw s2;go_simp;try rfl
     try simp only [tD]
     refine rc 8 fun K hK=>?_
     go_simp
     refine ((HPL1.out w6 (X5.out.trans hS))).mono ?_
     rintro e w7 ⟨rfl,hx7⟩
     have hS:=Ext.trans hS hx7
     refine hK.out _ _ hS ?_
     clear hK K
     refine' tk 10 hS ?_ ?_;rotate_left;·intros;go_simp;try rfl
     refine' tk 11 hS ?_ ?_;rotate_left;·intros;go_simp;try rfl
     try simp only [tD]
     refine' tk 12 hS ?_ ?_;rotate_left;·intros;go_simp;try rfl
     refine' tk 13 hS ?_ ?_;rotate_left;·intros;go_simp;try rfl
     refine' tk 14 hS ?_ ?_;rotate_left;·intros;go_simp;try rfl
     try simp only [tD]
     refine' tk 15 hS ?_ ?_;rotate_left;·intros;go_simp;try rfl
     refine' tk 16 hS ?_ ?_;rotate_left;·intros;go_simp;try rfl
     refine' tk 17 hS ?_ ?_;rotate_left;·intros;go_simp;try rfl
     try simp only [tD]
     refine' tk 18 hS ?_ ?_;rotate_left;·intros;go_simp;try rfl
     refine' tk 19 hS ?_ ?_;rotate_left;·intros;go_simp;try rfl
     refine' tk 20 hS ?_ ?_;rotate_left;·intros;go_simp;try rfl
     try simp only [tD]
     refine' tk 21 hS ?_ ?_;rotate_left;·intros;go_simp;try rfl
     refine' tk 22 hS ?_ ?_;rotate_left;·intros;go_simp;try rfl
     refine' tk 23 hS ?_ ?_;rotate_left;·intros;go_simp;try rfl
     try simp only [tD]
     refine' tk 24 hS ?_ ?_;rotate_left;·intros;go_simp;try rfl
     refine' tk 25 hS ?_ ?_;rotate_left;·intros;go_simp;try rfl
     refine' tk 26 hS ?_ ?_;rotate_left;·intros;go_simp;try rfl
     try simp only [tD]
     refine' tk 27 hS ?_ ?_;rotate_left;·intros;go_simp;try rfl
     refine' tk 28 hS ?_ ?_;rotate_left;·intros;go_simp;try rfl
     refine' tk 29 hS ?_ ?_;rotate_left;·intros;go_simp;try rfl
     try simp only [tD]
     refine sk 30 hS ?_
     try simp only [tD]
     refine sk 31 hS ?_
     try simp only [tD]
     refine' tk 32 hS ?_ ?_;rotate_left;·intros;go_simp;try rfl
     refine' tk 33 hS ?_ ?_;rotate_left;·intros;go_simp;try rfl
     refine' tk 34 hS ?_ ?_;rotate_left;·intros;go_simp;try rfl
     try simp only [tD]
     refine' tk 35 hS ?_ ?_;rotate_left;·intros;go_simp;try rfl
     refine' tk 36 hS ?_ ?_;rotate_left;·intros;go_simp;try rfl
     try simp only [tD]
     refine' tw 38 ?_ ?_;rotate_left;·intros;go_simp;try rfl
     try simp only [tD]
     refine' tw 39 ?_ ?_;rotate_left;·intros;go_simp;try rfl
     try simp only [tD]
     refine rl 37 fun K hK=>?_
     go_simp
     refine ((HS1.out w7 (X5.out.trans hS))).mono ?_
     rintro e w8 ⟨rfl,hx8⟩
     have hS:=Ext.trans hS hx8
     refine hK.out _ _ ?_
     try simp only [tD]
     clear hK K
     refine rl 40 fun K hK=>?_
     go_simp
     refine ((HS2.out w8 (X5.out.trans hS))).mono ?_
     rintro e w9 ⟨rfl,hx9⟩
     have X9:=qh (hS.trans hx9)
     refine hK.out _ _ ?_
     try simp only [tD]
     clear hK K
     refine' tw 41 ?_ ?_;rotate_left;·intros;go_simp;try rfl
     try simp only [tD]
     refine' tw 42 ?_ ?_;rotate_left;·intros;go_simp;try rfl
     try simp only [tD]
     refine wpAnyM_done (by kernel_rfl) ?_ _
     clear hS
     go_wp2_with fail
     go_meet
     case rel=>exact ⟨by simp,X9⟩
    ·obtain ⟨e1,e2⟩:=HOUT.out hin
     obtain ⟨e3,e4⟩:(0:Int)=kk∧false=isb:=⟨by rw [← HKK.out.1,e1,if_neg (by omega)],by rw [← HKK.out.2,e1,decide_eq_false (by omega)]⟩
     subst e3 e4
     clear e1 hin
     have hne:nm.toList.isEmpty=true:=by rw [empty_beq];exact (ba_beq _ _).2 e2
     clear e2
     clear HIN HOUT HKK
     refine wp_region_M (fun w'=>Ext w5 w') 37 (by kernel_rfl) (Ext.drew _) (fun hS=>?_)
     refine' tk 0 hS ?_ ?_;rotate_left;·intros;go_simp;try rfl
     refine' tk 1 hS ?_ ?_;rotate_left;·intros;go_simp;try rfl
     refine' tk 3 hS ?_ ?_;rotate_left;·intros;go_simp;try rfl
     try simp only [tD]
     generalize w5.drew=w6 at hS ⊢
     refine rc 2 fun K hK=>?_
     go_simp
     refine ((HNM1.out w6 (X5.out.trans hS))).mono ?_
     rintro e w' ⟨rfl,rfl⟩
     refine hK.out _ _ hS ?_
     clear hK K
     refine' tk 4 hS ?_ ?_;rotate_left;·intros;go_simp;try rfl
     refine' tk 5 hS ?_ ?_;rotate_left;·intros;go_simp;try rfl
     try simp only [tD]
     refine' tk 6 hS ?_ ?_;rotate_left;·intros;go_simp;try rfl
     refine' tk 7 hS ?_ ?_;rotate_left;·intros;go_simp;try rfl
     refine' tk 9 hS ?_ ?_;rotate_left;·intro w hSw;have t0:=xc hSw s0;have t1:=xc hSw s1;have t2:=xc hSw s2;go_simp;try rfl
     try simp only [tD]
     refine rc 8 fun K hK=>?_
     go_simp
     refine ((HPL1.out w6 (X5.out.trans hS))).mono ?_
     rintro e w7 ⟨rfl,hx7⟩
     have hS:=Ext.trans hS hx7
     refine hK.out _ _ hS ?_
     clear hK K
     refine' tk 10 hS ?_ ?_;rotate_left;·intros;go_simp;try rfl
     refine' tk 11 hS ?_ ?_;rotate_left;·intros;go_simp;try rfl
     try simp only [tD]
     refine' tk 12 hS ?_ ?_;rotate_left;·intros;go_simp;try rfl
     refine' tk 13 hS ?_ ?_;rotate_left;·intros;go_simp;try rfl
     refine' tk 14 hS ?_ ?_;rotate_left;·intros;go_simp;try rfl
     try simp only [tD]
     refine' tk 15 hS ?_ ?_;rotate_left;·intros;go_simp;try rfl
     refine' tk 16 hS ?_ ?_;rotate_left;·intros;go_simp;try rfl
     refine' tk 17 hS ?_ ?_;rotate_left;·intros;go_simp;try rfl
     try simp only [tD]
     refine' tk 18 hS ?_ ?_;rotate_left;·intros;go_simp;try rfl
     refine' tk 19 hS ?_ ?_;rotate_left;·intros;go_simp;try rfl
     refine' tk 20 hS ?_ ?_;rotate_left;·intros;go_simp;try rfl
     try simp only [tD]
     refine sk 21 hS ?_
     try simp only [tD]
     refine sk 22 hS ?_
     try simp only [tD]
     refine sk 23 hS ?_
     try simp only [tD]
     refine' tk 24 hS ?_ ?_;rotate_left;·intros;go_simp;try rfl
     refine' tk 25 hS ?_ ?_;rotate_left;·intros;go_simp;try rfl
     refine' tk 26 hS ?_ ?_;rotate_left;·intros;go_simp;try rfl
     try simp only [tD]
     refine' tk 27 hS ?_ ?_;rotate_left;·intros;go_simp;try rfl
     refine' tk 28 hS ?_ ?_;rotate_left;·intros;go_simp;try rfl
     refine' tk 29 hS ?_ ?_;rotate_left;·intros;go_simp;try rfl
     try simp only [tD]
     refine' tk 30 hS ?_ ?_;rotate_left;·intros;go_simp;try rfl
     refine' tk 31 hS ?_ ?_;rotate_left;·intros;go_simp;try rfl
     refine' tk 32 hS ?_ ?_;rotate_left;·intros;go_simp;try rfl
     try simp only [tD]
     refine' tk 33 hS ?_ ?_;rotate_left;·intros;go_simp;try rfl
     refine' tk 34 hS ?_ ?_;rotate_left;·intros;go_simp;try rfl
     refine' tk 35 hS ?_ ?_;rotate_left;·intros;go_simp;try rfl
     try simp only [tD]
     refine' tk 36 hS ?_ ?_;rotate_left;·intros;go_simp;try rfl
     try simp only [tD]
     refine' tw 38 ?_ ?_;rotate_left;·intros;go_simp;try rfl
     try simp only [tD]
     refine' tw 39 ?_ ?_;rotate_left;·intros;go_simp;try rfl
     try simp only [tD]
     refine rl 37 fun K hK=>?_
     go_simp
     refine ((HS1.out w7 (X5.out.trans hS))).mono ?_
     rintro e w8 ⟨rfl,hx8⟩
     have hS:=Ext.trans hS hx8
     refine hK.out _ _ ?_
     try simp only [tD]
     clear hK K
     refine rl 40 fun K hK=>?_
     go_simp
     refine ((HS2.out w8 (X5.out.trans hS))).mono ?_
     rintro e w9 ⟨rfl,hx9⟩
     have X9:=qh (hS.trans hx9)
     refine hK.out _ _ ?_
     try simp only [tD]
     clear hK K
     refine' tw 41 ?_ ?_;rotate_left;·intros;go_simp;try rfl
     try simp only [tD]
     refine' tw 42 ?_ ?_;rotate_left;·intros;go_simp;try rfl
     try simp only [tD]
     refine wpAnyM_done (by kernel_rfl) ?_ _
     clear hS
     go_wp2_with fail
     go_meet
     case rel=>exact ⟨by simp,X9⟩
   case rest =>
   obtain ⟨rfl,hX6⟩:=hcut
   rename World=>w6
   have X6:=qh (X5.out.trans hX6.out)
   clear HIN HOUT HKK HREG1 HNM1 HPL1 HS1 HS2 hX6
   obtain ⟨f,hf⟩:∃ f:Nat→Bool,(fun j:Nat=>lapI L i (j:Int))=f:=⟨_,rfl⟩
   have hrow:=HROW.out i
   rw [hf] at hrow
   have HF:Hid (∀ j:Nat,lapI L i (j:Int)=f j):=qh (fun j=>by rw [← hf])
   have HLR1:Hid (∀ w,Ext W w→∀ j:Nat,(j:Int)<1000→Calls Tryz.prog 13 #[.pointer (some ⟨br,0,none⟩),.int .i64 i,.int .i64 (j:Int)] w fun e w'=>e=.returned (.bool (f j))∧Ext w w'):=qh (fun w x j hj=>by have:=HLR.out w x i (j:Int) hfi (by unfold fits64;omega);rw [HF.out j] at this;exact this)
   have HROW1:=qh hrow
   clear hf hrow s0 s1 s2 bq
   go_wp2_with fail
   go_loopw [11,12] (fun ov iv wr=>∃ j:Nat,j≤N.length∧iv=.int .i64 j∧∃ a4 c4,ov=.slice a4 (rowOf f j).length c4∧Hid (Ext w6 wr∧wr.ownsRow w6.heap.size 3 1 (.slice a4 (rowOf f j).length c4) (rowOf f j).length ((rowOf f j).map (Value.int .i64)))) (fun _ iv _=>N.length - (intOf iv).toNat)
   case atStart=>exact ⟨0,by omega,rfl,none,0,rfl,qh ⟨Ext.refl _,World.ownsRow_nil _ _ _ _⟩⟩
   case round =>
    obtain ⟨j,hj,rfl,a4,c4,rfl,hin4⟩:=hrel
    rename World=>w7
    have X7:=qh hin4.out.1
    have O7:=qh hin4.out.2
    have hrl:=rowOf_len f j
    clear hin4
    by_cases hlj:j<N.length
    ·have hjz:(j:Int)<(N.length:Int):=by omega
     have HSU:=rowOf_succ f j
     have hlr:=HLR1.out w7 (X6.out.trans X7.out) j (by omega)
     obtain ⟨lb,hlb⟩:∃ x,f j=x:=⟨_,rfl⟩
     rw [hlb] at hlr HSU
     have HS:=qh HSU
     have HL1:=qh hlr
     clear HSU hlr hlb
     cases lb with
     | true =>
      rw [if_pos rfl] at HS
      go_wp2_with (first
       | (go_at_call 13;refine HL1.out.mono ?_;rintro e w8 ⟨rfl,hx8⟩;have Y8:=qh hx8;clear hx8)
       | (at_builtin;go_loud (refine wpList_append_lies _ rfl _ _ 36 rfl w6.heap.size 3 iI _ 1 8 Tryz.underlying36 hiI zI0 zI1 zI2 rfl (by omega) (.slice a4 (rowOf f j).length c4) (rowOf f j).length ((rowOf f j).map (Value.int .i64)) rfl ((owns_ext O7.out Y8.out).alloc _) ⟨w8.heap.size,0,none⟩ 1 1 [.int .i64 (j:Int)] rfl rfl (World.news_of_block (cs:=#[.int .i64 (j:Int)]) (t:=3) (fr:=(0,0)) (heap_alloc_new w8 _)) (by simp [Value.oneCell']) (by omega) (by unfold maxLen;omega) (by omega) (by have:=X7.out.size;have:=Y8.out.size;simp;omega) _ rfl ?_;intro g9 c9 w9 hown9 hgrow9 hat9 hlt9)))
      have X9:Hid (Ext w6 w9):=qh (Ext.grown ((X7.out.trans Y8.out).trans (Ext.alloc w8 _)) hgrow9 (fun q e=>(O7.out.lt q e).1))
      have O9:=qh hown9
      have HLN:Hid ((rowOf f (j+1)).length=(rowOf f j).length+1):=qh (by rw [HS.out,List.length_append];rfl)
      clear hown9 hgrow9 hat9
      go_roundw
      case rel=>exact ⟨j+1,by omega,by go_num,some ⟨g9,0,none⟩,c9,by rw [HLN.out],qh ⟨X9.out,by rw [HLN.out,HS.out,List.map_append];exact O9.out⟩⟩
      case measure=>simp [intOf];omega
     | false =>
      rw [if_neg (by decide),List.append_nil] at HS
      go_wp2_with (go_at_call 13;refine HL1.out.mono ?_;rintro e w8 ⟨rfl,hx8⟩;have Y8:=qh hx8;clear hx8)
      go_roundw
      case rel=>exact ⟨j+1,by omega,by go_num,a4,c4,by rw [HS.out],qh ⟨X7.out.trans Y8.out,by rw [HS.out];exact owns_ext O7.out Y8.out⟩⟩
      case measure=>simp [intOf];omega
    ·have hjz:¬ (j:Int)<(N.length:Int):=by omega
     obtain rfl:j=N.length:=by omega
     have hla:=HLA.out w7 (X6.out.trans X7.out) i
     rw [HROW1.out] at hla
     have HLA7:=qh hla
     have X67:=qh (X6.out.trans X7.out)
     clear hla HROW1 HLR1 HF
     obtain ⟨row,hrow⟩:∃ r,rowOf f N.length=r:=⟨_,rfl⟩
     rw [hrow] at HLA7 O7 hrl ⊢
     clear hrow
     go_upto_region 22 with (fail)
     go_upto_region 23 with (go_at_call 46;refine HLA7.out.mono ?_;rintro e w8 ⟨v8,rfl,ho8,hx8⟩;obtain ⟨a8,k8,e8,_,_⟩:=(Row.of_owns ho8).shape;subst e8;have O8:=qh ho8;have X8:=qh hx8;clear ho8 hx8)
     have O78:=qh (owns_ext O7.out X8.out)
     go_upto_region 25 with (go_at_call 16;refine (same_any (Row.of_owns O8.out:SliceInts w8 (.slice a8 row.length k8) row) (Row.of_owns O78.out:SliceInts w8 (.slice a4 row.length c4) row)).mono ?_;rintro e w9 ⟨rfl,hx9⟩;have X9:=qh hx9;clear hx9)
     have O9:=qh (owns_ext O8.out X9.out)
     have XW9:=qh ((X67.out.trans X8.out).trans X9.out)
     have hz7:=X67.out.size
     go_wp2_with fail
     go_loopw [15] (fun jv wr=>∃ j:Nat,j≤row.length∧jv=.int .i64 j∧Hid (Keep (fun k=>(Value.slice a8 row.length k8).ownBlock=some k) w9 wr∧∃ xs,wr.ownsRow w7.heap.size 3 1 (.slice a8 row.length k8) row.length xs)) (fun jv _=>row.length - (intOf jv).toNat)
     case atStart=>exact ⟨0,by omega,rfl,qh ⟨Keep.refl _ _,_,O9.out⟩⟩
     case round =>
      obtain ⟨m,hm,rfl,hin⟩:=hrel
      rename World=>w10
      have X10:Hid (Ext W w10):=qh (XW9.out.keep hin.out.1 (fun q e=>by have:=(O9.out.lt q e).1;omega))
      by_cases hlm:m<row.length
      ·have hmz:(m:Int)<(row.length:Int):=by omega
       obtain ⟨k10,xs,o10⟩:=hin.out
       obtain ⟨g,cg,e,_,_⟩:=o10.form (by omega)
       cases e
       have fj:=o10.frozenAt m
       obtain ⟨_,hcj⟩:∃ x,w10.cell? ⟨g,m,none⟩=some x:=⟨_,(o10.cellAt m (by omega)).trans (lE (by have:=o10.1;omega))⟩
       have gl:=(o10.lt g rfl).2
       have OX:=qh (And.intro k10 o10)
       clear hin k10 o10
       go_wp2_with fail
       go_roundw
       case rel =>
        have hst:=World.ownsRow.stored OX.out.2 m (.int .i64 (-1))
        exact ⟨m+1,by omega,by go_num,qh ⟨OX.out.1.trans (Keep.setCell (fun k=>(Value.slice (some ⟨g,0,none⟩) row.length k8).ownBlock=some k) w10 ⟨g,m,none⟩ _ rfl) (fun _ _ h=>h),_,hst.1⟩⟩
       case measure=>simp [intOf];omega
      ·have hmz:¬ (m:Int)<(row.length:Int):=by omega
       clear hin
       go_wp2_with fail
       go_roundw
       case rel=>exact ⟨i+1,by omega,by omega,by go_num,X10⟩
       case measure=>simp [intOf];omega
  ·go_wp2_with fail
   go_ret
   exact ⟨rfl,X4.out⟩
end Go.Proofs.YtligiddaampneaaGreat
