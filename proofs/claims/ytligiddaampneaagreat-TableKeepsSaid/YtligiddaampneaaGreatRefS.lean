/- The reference's table: the classes asked, and filled in: the walk. -/
import Derived.Test.YtligiddaampneaaGreatRefR
set_option maxRecDepth 100000
set_option maxHeartbeats 16000000
-- shrunk
namespace Go.Proofs.YtligiddaampneaaGreat
open Go.RowKit
attribute [local go_sem] Oper.semAt_some
variable {W : World} {n0 bt kb : Nat} {V : MV} {vK : Value} {M : Mach} {N : List ByteArray} {L : List Pl} {C : List (List Int)}
theorem classesT_any (h:TabG W n0 bt W.heap.size V (.slice none 0 0) M N L []) :
  Calls Tryz.prog 96 #[.pointer (some ⟨bt,0,none⟩)] W fun e w'=>e=.returned (.int .i64 (clssC M N L))∧Keep (fun k=>k=bt) W w'∧(clssC M N L=0→∃ vK,TabG w' n0 bt W.heap.size V vK M N L (numsC N M.classes)):=by
 have HG:=qh h
 have c2:=h.tab.ck.cells 2 _ rfl
 obtain ⟨aC,cC,eC,hC1,hC2⟩:=h.m.cls.form
 unfold maxLen at hC2
 obtain ⟨vR,vC,vO,vA,vS,vN,vP⟩:=V
 dsimp only at c2 eC
 subst eC
 obtain ⟨res,hres⟩:∃ x,clssC M N L=x:=⟨_,rfl⟩
 rw [hres]
 unfold clssC at hres
 clear h
 obtain ⟨iI,hiI,zI0,zI1,zI2⟩:=info_parts infoI
 obtain ⟨iK,hiK,zK0,zK1,zK2⟩:=info_parts infoK
 go_enter Tryz.func96,Tryz.ntmps96
 by_cases h64:64<M.classes.length
 ·rw [if_pos h64] at hres
  subst hres
  have hz:(64:Int)<(M.classes.length:Int):=by omega
  go_wp2_with fail
  go_ret
  exact ⟨rfl,Keep.refl _ _,fun e=>by cases e⟩
 rw [if_neg h64] at hres
 have hz:¬ (64:Int)<(M.classes.length:Int):=by omega
 have start:Hid (Keep (fun k=>k=bt) W W∧TabG W n0 bt W.heap.size ⟨vR,.slice aC M.classes.length cC,vO,vA,vS,vN,vP⟩ (.slice none 0 0) M N L (numsC N (M.classes.take 0))∧firstNZ (clsC M N L) 0 (M.classes.drop 0)=res):=qh ⟨Keep.refl _ _,HG.out,hres⟩
 clear hres
 go_wp2_with fail
 go_loopw [3] (fun i wr=>∃ m:Nat,m≤M.classes.length∧i=.int .i64 m∧∃ vK,Hid (Keep (fun k=>k=bt) W wr∧TabG wr n0 bt W.heap.size ⟨vR,.slice aC M.classes.length cC,vO,vA,vS,vN,vP⟩ vK M N L (numsC N (M.classes.take m))∧firstNZ (clsC M N L) m (M.classes.drop m)=res)) (fun i _=>M.classes.length - (intOf i).toNat)
 case atStart=>exact ⟨0,by omega,rfl,_,start⟩
 case round =>
  clear start c2
  obtain ⟨m,hm,rfl,vK,hin⟩:=hrel
  rename World=>w0
  have HT:=qh hin.out.2.1.tab
  have HG0:=qh hin.out.2.1
  have K0:=qh hin.out.1
  have c2:=HT.out.ck.cells 2 _ rfl
  have hlb:=qh HG0.out.lt
  by_cases hlt:m<M.classes.length
  case neg =>
   have hmz:¬ (m:Int)<(M.classes.length:Int):=by omega
   have htk:M.classes.take m=M.classes:=List.take_of_length_le (by omega)
   have hr:Hid (res=0):=qh (by
    have:=hin.out.2.2
    rw [List.drop_of_length_le (by omega)] at this
    exact this.symm)
   go_wp2_with fail
   go_ret
   exact ⟨by rw [hr.out];rfl,K0.out,fun _=>⟨vK,by have:=HG0.out;rw [htk] at this;exact this⟩⟩
  case pos =>
  have hmz:(m:Int)<(M.classes.length:Int):=by omega
  obtain ⟨c,hc⟩:∃ x,M.classes[m]?=some x:=⟨_,lE hlt⟩
  have hres2:=hin.out.2.2
  rw [firstNZ_at hc] at hres2
  have RES:=qh hres2
  obtain ⟨b,off,cap,u,e,hl1,hl2,hb,o0,o1,hR⟩:=HT.out.ck.m.cls.at hc
  obtain ⟨ua,uc,eu,hul,hul2⟩:=StrsIn.form hR
  dsimp only at e
  cases e
  subst eu
  unfold maxLen at hul2
  have HR:=qh hR
  have x1:Ext w0 (w0.alloc (.cells #[.string c.name,.slice ua c.regs.length uc] 51)):=Ext.alloc _ _
  have hcc:=cells_one w0 [.string c.name,.slice ua c.regs.length uc] 51
  have d0:=hcc 0 _ rfl
  have d1:=hcc 1 _ rfl
  have HC:=qh hc
  clear hcc hR hres2 hin hc
  go_upto_region 7 with (fail)
  generalize w0.alloc (.cells #[.string c.name,.slice ua c.regs.length uc] 51)=w1 at x1 d0 d1 ⊢
  generalize w0.heap.size=bo at d0 d1 ⊢
  have X1:=qh x1
  clear x1
  have hnm:=qh (namedR_any c.name w1)
  have hci:=qh (classOfT_any (HT.out.ext X1.out) c.name)
  have hre:=qh (regT_any (HT.out.ext X1.out) c.name)
  obtain ⟨nb,hnb⟩:∃ x,namedS c.name=x:=⟨_,rfl⟩
  obtain ⟨ci,hcie⟩:∃ x,clsIx M c.name=x:=⟨_,rfl⟩
  obtain ⟨ri,hrie⟩:∃ x,idx N c.name=x:=⟨_,rfl⟩
  rw [hnb] at hnm
  rw [hcie] at hci
  rw [hrie] at hre
  have HNC:=qh (And.intro hnb (And.intro hcie hrie))
  have K1:Hid (Keep (fun k=>k=bt) W w1):=qh (K0.out.trans (Keep.of_ext X1.out) (fun _ _ h=>h))
  clear hnb hcie hrie
  by_cases k1:nb=false∨ci<m∨0≤ri
  ·have hr:Hid (res=5):=qh (by
    have e:clsC M N L m c=5:=by unfold clsC;rw [HNC.out.1,HNC.out.2.1,HNC.out.2.2,if_pos k1]
    have:=RES.out
    rw [e,if_neg (by decide)] at this
    exact this.symm)
   cases nb with
   | false =>
    go_wp2_with (go_at_call 94;refine hnm.out.mono ?_;rintro e w' ⟨rfl,rfl⟩)
    go_ret
    exact ⟨by rw [hr.out];rfl,K1.out,fun e=>by rw [hr.out] at e;cases e⟩
   | true =>
    by_cases k2:ci<m
    ·go_wp2_with (first
      | (go_at_call 94;refine hnm.out.mono ?_;rintro e w' ⟨rfl,rfl⟩)
      | (go_at_call 25;refine hci.out.mono ?_;rintro e w' ⟨rfl,rfl⟩))
     go_ret
     exact ⟨by rw [hr.out];rfl,K1.out,fun e=>by rw [hr.out] at e;cases e⟩
    ·have k3:0≤ri:=(k1.resolve_left (by decide)).resolve_left k2
     have k3d:decide (0≤ri)=true:=decide_eq_true k3
     go_wp2_with (first
      | (go_at_call 94;refine hnm.out.mono ?_;rintro e w' ⟨rfl,rfl⟩)
      | (go_at_call 25;refine hci.out.mono ?_;rintro e w' ⟨rfl,rfl⟩)
      | (go_at_call 54;refine hre.out.mono ?_;rintro e w' ⟨rfl,rfl⟩))
     go_ret
     exact ⟨by rw [hr.out];rfl,K1.out,fun e=>by rw [hr.out] at e;cases e⟩
  cases nb with
  | false=>exact absurd (Or.inl rfl) k1
  | true =>
  have k2:¬ ci<m:=fun e=>k1 (Or.inr (Or.inl e))
  have k3:¬ 0≤ri:=fun e=>k1 (Or.inr (Or.inr e))
  have k3d:decide (0≤ri)=false:=decide_eq_false k3
  have HK1:=qh k1
  clear k1
  by_cases k4:c.regs.length<1∨64<c.regs.length
  ·have hr:Hid (res=8):=qh (by
    have e:clsC M N L m c=8:=by unfold clsC;rw [HNC.out.1,HNC.out.2.1,HNC.out.2.2,if_neg HK1.out,if_pos k4]
    have:=RES.out
    rw [e,if_neg (by decide)] at this
    exact this.symm)
   by_cases k5:c.regs.length<1
   ·have k5z:(c.regs.length:Int)<1:=by omega
    go_wp2_with (first
      | (go_at_call 94;refine hnm.out.mono ?_;rintro e w' ⟨rfl,rfl⟩)
      | (go_at_call 25;refine hci.out.mono ?_;rintro e w' ⟨rfl,rfl⟩)
      | (go_at_call 54;refine hre.out.mono ?_;rintro e w' ⟨rfl,rfl⟩))
    go_ret
    exact ⟨by rw [hr.out];rfl,K1.out,fun e=>by rw [hr.out] at e;cases e⟩
   ·have k5z:¬ (c.regs.length:Int)<1:=by omega
    have k6z:(64:Int)<(c.regs.length:Int):=by omega
    go_wp2_with (first
      | (go_at_call 94;refine hnm.out.mono ?_;rintro e w' ⟨rfl,rfl⟩)
      | (go_at_call 25;refine hci.out.mono ?_;rintro e w' ⟨rfl,rfl⟩)
      | (go_at_call 54;refine hre.out.mono ?_;rintro e w' ⟨rfl,rfl⟩))
    go_ret
    exact ⟨by rw [hr.out];rfl,K1.out,fun e=>by rw [hr.out] at e;cases e⟩
  have k5z:¬ (c.regs.length:Int)<1:=by omega
  have k6z:¬ (64:Int)<(c.regs.length:Int):=by omega
  have HK4:=qh k4
  clear k4
  have hcls:Hid (clsC M N L m c=if (List.range c.regs.length).all (okR N L c.regs) then 0 else 8):=qh (by
   unfold clsC;rw [HNC.out.1,HNC.out.2.1,HNC.out.2.2,if_neg HK1.out,if_neg HK4.out])
  go_wp2_with (first
      | (go_at_call 94;refine hnm.out.mono ?_;rintro e w' ⟨rfl,rfl⟩)
      | (go_at_call 25;refine hci.out.mono ?_;rintro e w' ⟨rfl,rfl⟩)
      | (go_at_call 54;refine hre.out.mono ?_;rintro e w' ⟨rfl,rfl⟩))
  clear hnm hci hre
  go_loopw [6,7] (fun lv kv wr=>∃ q:Nat,q≤c.regs.length∧kv=.int .i64 q∧∃ aI cI,lv=.slice aI q cI∧Hid (Ext w1 wr∧wr.ownsRow w1.heap.size 3 1 (.slice aI q cI) q (((c.regs.take q).map (idx N)).map (Value.int .i64))∧∀ j,j<q→okR N L c.regs j=true)) (fun _ kv _=>c.regs.length - (intOf kv).toNat)
  case atStart=>exact ⟨0,by omega,rfl,none,0,rfl,qh ⟨Ext.refl _,World.ownsRow_nil _ _ _ _,fun j hj=>by omega⟩⟩
  case round =>
   obtain ⟨q,hq,rfl,aI,cI,rfl,hin⟩:=hrel
   rename World=>w2
   have d1:=xc hin.out.1 d1
   have HX2:=qh hin.out.1
   have HOW:=qh hin.out.2.1
   have X2:=qh (X1.out.trans HX2.out)
   have hle2:=HX2.out.size
   have HOKP:=qh hin.out.2.2
   clear hin
   by_cases hlq:q<c.regs.length
   case neg =>
    have hqz:¬ (q:Int)<(c.regs.length:Int):=by omega
    have hqe:q=c.regs.length:=by omega
    have e0:clsC M N L m c=0:=by
     rw [hcls.out,if_pos]
     rw [List.all_eq_true]
     intro j hj
     exact HOKP.out j (by rw [hqe];simpa using hj)
    have RES2:=RES.out
    rw [e0,if_pos rfl] at RES2
    have RES3:=qh RES2
    have htk:c.regs.take q=c.regs:=List.take_of_length_le (by omega)
    have hnm2:numsC N (M.classes.take (m+1))=numsC N (M.classes.take m) ++ [c.regs.map (idx N)]:=by
     rw [← numsC_snoc,List.take_add_one,HC.out];rfl
    have HNM:=qh hnm2
    have HTK:=qh htk
    have hCl:(numsC N (M.classes.take m)).length=m:=by unfold numsC;rw [List.length_map,List.length_take];omega
    have HG2:=qh (HG0.out.ext X2.out)
    have HQE:=qh hqe
    generalize numsC N (M.classes.take m)=C2 at HG2 HNM hCl
    obtain ⟨us,hk⟩:=HG2.out.k
    obtain ⟨aK,cK,eK,hK1,hK2⟩:=(Row.of_owns hk.own).shape
    subst eK
    unfold maxLen at hK2
    have HK:=qh hk
    have HKO:Hid (w2.ownsRow W.heap.size 36 1 (.slice aK m cK) m us):=qh (by have:=hk.own;rwa [hCl] at this)
    have c10:=HG2.out.c10
    rw [hCl] at c10 hK1
    have HCL:=qh hCl
    clear hCl
    have f10:=HG2.out.f10
    have hWs:W.heap.size≤w2.heap.size:=Nat.le_trans K1.out.size hle2
    clear e0 RES2 htk hnm2 hk hqe
    go_wp2_with (at_builtin;go_loud (refine wpList_append_lies _ rfl _ _ 46 rfl W.heap.size 36 iK _ 1 24 Tryz.underlying46 hiK zK0 zK1 zK2 rfl (by omega) (.slice aK m cK) m us rfl (HKO.out.alloc _) ⟨w2.heap.size,0,none⟩ 1 1 [.slice aI q cI] rfl rfl (World.news_of_block (cs:=#[.slice aI q cI]) (t:=36) (fr:=(0,0)) (heap_alloc_new w2 _)) (by simp [Value.oneCell']) (by omega) (by unfold maxLen;omega) (by omega) (by simp;omega) _ rfl ?_;intro gK cpK w6 hownK hgrowK hatK hltK;have k6:Hid (Keep (fun k=>(Value.slice aK m cK).ownBlock=some k) w2 w6):=qh ((Keep.of_ext (Ext.alloc w2 _):Keep (fun k=>(Value.slice aK m cK).ownBlock=some k) w2 _).trans (Keep.grown hgrowK (fun _ e=>e)) (fun _ _ h=>h));have b6:=(k6.out.block bt HG2.out.lt (owns_ne HKO.out HG2.out.blk (by decide))).trans HG2.out.blk;rw [HCL.out] at b6;have g10:=blk_cell b6 10 (.slice aK m cK) rfl;have gf10:=blk_free b6 10;have hOWN:=qh hownK;have hGROW:=qh hgrowK;clear hownK hgrowK hatK b6))
    have KF:Hid (Keep (fun k=>k=bt) W (w6.setCell ⟨bt,10,none⟩ (.slice (some ⟨gK,0,none⟩) (m+1) cpK))):=qh (((K1.out.trans (Keep.of_ext HX2.out:Keep (fun k=>k=bt) w1 w2) (fun _ _ h=>h)).trans k6.out (fun i hi e=>by have:=(HKO.out.lt i e).1;omega)).trans (Keep.setCell (fun k=>k=bt) w6 ⟨bt,10,none⟩ _ rfl) (fun _ _ h=>h))
    have GF:Hid (TabG (w6.setCell ⟨bt,10,none⟩ (.slice (some ⟨gK,0,none⟩) (m+1) cpK)) n0 bt W.heap.size ⟨vR,.slice (some ⟨b,off,none⟩) M.classes.length cC,vO,vA,vS,vN,vP⟩ (.slice (some ⟨gK,0,none⟩) (m+1) cpK) M N L (C2 ++ [c.regs.map (idx N)])):=qh (HG2.out.snoc HK.out (Ext.alloc w2 _) (by rw [HCL.out];exact hGROW.out) (by rw [HCL.out];exact hOWN.out) (u:=.slice aI q cI) (by
     have:=HOW.out
     rw [HTK.out] at this
     rw [List.length_map,← HQE.out]
     exact owns_base this (Nat.zero_le _)))
    go_roundw
    case rel=>exact ⟨m+1,by omega,by go_num,_,qh ⟨KF.out,by rw [HNM.out];exact GF.out,RES3.out⟩⟩
    case measure=>simp [intOf];omega
   case pos =>
   have hqz:(q:Int)<(c.regs.length:Int):=by omega
   obtain ⟨s,hs⟩:∃ x,c.regs[q]?=some x:=⟨_,lE hlq⟩
   obtain ⟨b7,f7,p7,e7,_,_,_,g0⟩:=StrsIn.at (StrsIn.ext HR.out (Nat.le_refl _) X2.out) hs
   cases e7
   have hrc:=qh (regT_any (HT.out.ext X2.out) s)
   obtain ⟨r,hr0⟩:∃ x,idx N s=x:=⟨_,rfl⟩
   rw [hr0] at hrc
   have hlen:((c.regs.take q).map (idx N)).length=q:=by rw [List.length_map,List.length_take];omega
   have hIn:=qh (fun (w:World) (x:Ext w2 w)=>inR_any (.slice aI q cI) ((c.regs.take q).map (idx N)) r w (by
    have:=Row.of_owns (owns_ext HOW.out x)
    unfold SliceInts
    rw [hlen]
    exact this))
   have HTK:Hid (((c.regs.take (q+1)).map (idx N)).map (Value.int .i64)=((c.regs.take q).map (idx N)).map (Value.int .i64) ++ [.int .i64 r]):=qh (by
    rw [List.take_add_one,hs]
    simp [hr0])
   have HOKS:Hid (okR N L c.regs q=true→∀ j,j<q+1→okR N L c.regs j=true):=qh (fun e j hj=>by
    by_cases e2:j=q
    ·subst e2;exact e
    ·exact HOKP.out j (by omega))
   have HBAD:Hid (okR N L c.regs q=false→res=8):=qh (fun e=>by
    have e2:clsC M N L m c=8:=by
     rw [hcls.out,if_neg]
     rw [List.all_eq_true]
     intro h
     have:=h q (by simpa using hlq)
     rw [e] at this
     cases this
    have:=RES.out
    rw [e2,if_neg (by decide)] at this
    exact this.symm)
   have KX:Hid (∀ w,Ext w2 w→Keep (fun k=>k=bt) W w):=qh (fun w x=>K1.out.trans (Keep.of_ext (HX2.out.trans x)) (fun _ _ h=>h))
   have HS:=qh (And.intro hs hr0)
   clear hs hr0 hlen
   by_cases h1:r<0
   ·have hr:Hid (res=8):=qh (HBAD.out (by unfold okR;rw [HS.out.1];dsimp only;rw [HS.out.2,decide_eq_false (by omega)];rfl))
    go_upto_region 17 with (go_at_call 54;refine hrc.out.mono ?_;rintro e w' ⟨rfl,rfl⟩)
    go_quiet (fail)
    have xq:=qh (Ext.drewN w2 nq)
    go_wp2_with fail
    go_ret
    exact ⟨by rw [hr.out];rfl,KX.out _ xq.out,fun e=>by rw [hr.out] at e;cases e⟩
   have h1d:decide (r<0)=false:=decide_eq_false h1
   obtain ⟨bi,hbi⟩:∃ x,decide (r∈(c.regs.take q).map (idx N))=x:=⟨_,rfl⟩
   rw [hbi] at hIn
   have HBI:Hid (((c.regs.take q).map (idx N)).contains r=bi):=qh (by rw [← hbi,List.contains_eq_mem])
   clear hbi
   cases bi with
   | true =>
    have hr:Hid (res=8):=qh (HBAD.out (by unfold okR;rw [HS.out.1];dsimp only;rw [HS.out.2,HBI.out,Bool.not_true,Bool.and_false];rfl))
    go_upto_region 17 with (go_at_call 54;refine hrc.out.mono ?_;rintro e w' ⟨rfl,rfl⟩)
    rename_i K1 hK1
    have hK1:=qh hK1
    refine wp_region_M (fun w'=>Ext w2 w') 31 (by kernel_rfl) (Ext.drew _) (fun hS=>?_)
    refine' tk 0 hS ?_ ?_;rotate_left;·intros;go_simp;try rfl
    refine' tk 1 hS ?_ ?_;rotate_left;·intros;go_simp;try rfl
    refine' tk 2 hS ?_ ?_;rotate_left;·intros;go_simp;try rfl
    try simp only [tD]
    refine' tk 3 hS ?_ ?_;rotate_left;·intros;go_simp;try rfl
    refine' tk 4 hS ?_ ?_;rotate_left;·intros;go_simp;try rfl
    try simp only [tD]
    generalize w2.drew=w3 at hS ⊢
    refine rc 5 fun K hK=>?_
    go_simp
    refine ((hIn.out w3 hS)).mono ?_
    rintro e w4 ⟨rfl,rfl⟩
    refine hK.out _ _ hS ?_
    clear hK K
    refine' tk 6 hS ?_ ?_;rotate_left;·intros;go_simp;try rfl
    refine' tk 7 hS ?_ ?_;rotate_left;·intros;go_simp;try rfl
    try simp only [tD]
    refine sk 8 hS ?_
    try simp only [tD]
    refine sk 9 hS ?_
    try simp only [tD]
    refine sk 10 hS ?_
    try simp only [tD]
    refine sk 11 hS ?_
    try simp only [tD]
    refine sk 12 hS ?_
    try simp only [tD]
    refine sk 13 hS ?_
    try simp only [tD]
    refine sk 14 hS ?_
    try simp only [tD]
    refine sk 15 hS ?_
    try simp only [tD]
    refine sk 16 hS ?_
    try simp only [tD]
    refine sk 17 hS ?_
    try simp only [tD]
    refine sk 18 hS ?_
    try simp only [tD]
    refine sk 19 hS ?_
    try simp only [tD]
    refine sk 20 hS ?_
    try simp only [tD]
    refine sk 21 hS ?_
    try simp only [tD]
    refine sk 22 hS ?_
    try simp only [tD]
    refine sk 23 hS ?_
    try simp only [tD]
    refine sk 24 hS ?_
    try simp only [tD]
    refine sk 25 hS ?_
    try simp only [tD]
    refine sk 26 hS ?_
    try simp only [tD]
    refine sk 27 hS ?_
    try simp only [tD]
    refine sk 28 hS ?_
    try simp only [tD]
    refine sk 29 hS ?_
    try simp only [tD]
    refine sk 30 hS ?_
    try simp only [tD]
    refine rl 31 fun K hK=>?_
    go_simp
    refine hK.out _ _ ?_
    try simp only [tD]
    clear hK K
    refine wpAnyM_done (by kernel_rfl) ?_ _
    refine hK1.out _ _ ?_
    have XQ:=qh hS
    clear hS
    go_wp2_with fail
    go_ret
    exact ⟨by rw [hr.out];rfl,KX.out _ XQ.out,fun e=>by rw [hr.out] at e;cases e⟩
   | false =>
   by_cases hq0:q=0
   ·have HOKQ:Hid (okR N L c.regs q=true):=qh (by unfold okR;rw [HS.out.1];dsimp only;rw [HS.out.2,HBI.out,decide_eq_true (by omega),show (q == 0)=true by simp [hq0]];rfl)
    have hq0z:¬ (0:Int)<(q:Int):=by omega
    have hq0d:decide ((0:Int)<(q:Int))=false:=decide_eq_false hq0z
    have hq0n:decide (0<q)=false:=decide_eq_false (by omega)
    clear hq0
    go_upto_region 17 with (go_at_call 54;refine hrc.out.mono ?_;rintro e w' ⟨rfl,rfl⟩)
    rename_i K1 hK1
    have hK1:=qh hK1
    refine wp_region_M (fun w'=>Ext w2 w') 31 (by kernel_rfl) (Ext.drew _) (fun hS=>?_)
    refine' tk 0 hS ?_ ?_;rotate_left;·intros;go_simp;try rfl
    refine' tk 1 hS ?_ ?_;rotate_left;·intros;go_simp;try rfl
    refine' tk 2 hS ?_ ?_;rotate_left;·intros;go_simp;try rfl
    try simp only [tD]
    refine' tk 3 hS ?_ ?_;rotate_left;·intros;go_simp;try rfl
    refine' tk 4 hS ?_ ?_;rotate_left;·intros;go_simp;try rfl
    try simp only [tD]
    generalize w2.drew=w3 at hS ⊢
    refine rc 5 fun K hK=>?_
    go_simp
    refine ((hIn.out w3 hS)).mono ?_
    rintro e w4 ⟨rfl,rfl⟩
    refine hK.out _ _ hS ?_
    clear hK K
    refine' tk 6 hS ?_ ?_;rotate_left;·intros;go_simp;try rfl
    refine' tk 7 hS ?_ ?_;rotate_left;·intros;go_simp;try rfl
    try simp only [tD]
    refine' tk 8 hS ?_ ?_;rotate_left;·intros;go_simp;try rfl
    refine' tk 9 hS ?_ ?_;rotate_left;·intros;go_simp;try rfl
    refine' tk 10 hS ?_ ?_;rotate_left;·intros;go_simp;try rfl
    try simp only [tD]
    refine sk 11 hS ?_
    try simp only [tD]
    refine sk 12 hS ?_
    try simp only [tD]
    refine sk 13 hS ?_
    try simp only [tD]
    refine sk 14 hS ?_
    try simp only [tD]
    refine sk 15 hS ?_
    try simp only [tD]
    refine sk 16 hS ?_
    try simp only [tD]
    refine sk 17 hS ?_
    try simp only [tD]
    refine sk 18 hS ?_
    try simp only [tD]
    refine sk 19 hS ?_
    try simp only [tD]
    refine sk 20 hS ?_
    try simp only [tD]
    refine sk 21 hS ?_
    try simp only [tD]
    refine sk 22 hS ?_
    try simp only [tD]
    refine sk 23 hS ?_
    try simp only [tD]
    refine sk 24 hS ?_
    try simp only [tD]
    refine sk 25 hS ?_
    try simp only [tD]
    refine sk 26 hS ?_
    try simp only [tD]
    refine sk 27 hS ?_
    try simp only [tD]
    refine sk 28 hS ?_
    try simp only [tD]
    refine sk 29 hS ?_
    try simp only [tD]
    refine' tk 30 hS ?_ ?_;rotate_left;·intros;go_simp;try rfl
    try simp only [tD]
    refine rl 31 fun K hK=>?_
    go_simp
    refine hK.out _ _ ?_
    try simp only [tD]
    clear hK K
    refine wpAnyM_done (by kernel_rfl) ?_ _
    refine hK1.out _ _ ?_
    have XQ:=qh hS
    clear hS
    go_wp2_with (at_builtin;go_loud (refine wpList_append_lies _ rfl _ _ 36 rfl w1.heap.size 3 iI _ 1 8 Tryz.underlying36 hiI zI0 zI1 zI2 rfl (by omega) (.slice aI q cI) q (((c.regs.take q).map (idx N)).map (Value.int .i64)) rfl ((owns_ext HOW.out XQ.out).alloc _) ⟨w3.heap.size,0,none⟩ 1 1 [.int .i64 r] rfl rfl (World.news_of_block (cs:=#[.int .i64 r]) (t:=3) (fr:=(0,0)) (heap_alloc_new w3 _)) (by simp [Value.oneCell']) (by omega) (by unfold maxLen;omega) (by omega) (by have:=HX2.out.size;have:=XQ.out.size;simp;omega) _ rfl ?_;intro gO cpO w6 hownO hgrowO hatO hltO))
    have X6:Hid (Ext w1 w6):=qh (Ext.grown ((HX2.out.trans XQ.out).trans (Ext.alloc w3 _)) hgrowO (fun y e=>(HOW.out.lt y e).1))
    have HO6:=qh hownO
    clear hownO hgrowO hatO
    go_roundw
    case rel=>exact ⟨q+1,by omega,by go_num,some ⟨gO,0,none⟩,cpO,rfl,qh ⟨X6.out,by rw [HTK.out];exact HO6.out,HOKS.out HOKQ.out⟩⟩
    case measure=>simp [intOf];omega
   have hqp:0<q:=by omega
   have hqp2:(0:Int)<(q:Int):=by omega
   have hqp2d:decide ((0:Int)<(q:Int))=true:=decide_eq_true hqp2
   have hqpn:decide (0<q)=true:=decide_eq_true hqp
   obtain ⟨s0,hs0⟩:∃ x,c.regs[0]?=some x:=⟨_,lE (by omega)⟩
   have hn0:=okR_num hs0 (HOKP.out 0 hqp) HG0.out.len
   obtain ⟨k0,hk0⟩:∃ k:Nat,idx N s0=k:=⟨(idx N s0).toNat,by omega⟩
   obtain ⟨kr,rfl⟩:∃ k:Nat,r=k:=⟨r.toNat,by omega⟩
   have hkr:kr<L.length:=by
    have:=idx_lt (N:=N) (s:=s) (by rw [HS.out.2];omega)
    rw [HS.out.2] at this
    have:=HG0.out.len
    omega
   have hk0l:k0<L.length:=by rw [hk0] at hn0;omega
   have hkrz:(kr:Int)<(L.length:Int):=by omega
   have hk0z:(k0:Int)<(L.length:Int):=by omega
   obtain ⟨p,hp⟩:∃ x,L[kr]?=some x:=⟨_,lE hkr⟩
   obtain ⟨p0,hp0⟩:∃ x,L[k0]?=some x:=⟨_,lE hk0l⟩
   have c9:=(HT.out.ext X2.out).cells.2
   obtain ⟨bP,oP,cP,e1,_,hP2,_,t0,t1,t2⟩:=(HT.out.ext X2.out).ck.pl.at hp
   obtain ⟨_,_,_,e2,_,_,_,u0,u1,u2⟩:=(HT.out.ext X2.out).ck.pl.at hp0
   dsimp only at e1 e2
   subst e1
   cases e2
   unfold maxLen at hP2
   obtain ⟨bI,oI,cI2,e3,_,_,_,hcell⟩:=Row.at (Row.of_owns HOW.out) (fun e=>by
    have:(List.map (Value.int .i64) ((c.regs.take q).map (idx N))).length=0:=by rw [e];rfl
    rw [List.length_map,List.length_map,List.length_take] at this
    omega)
   cases e3
   have y0:=hcell 0 (.int .i64 (k0:Int)) (by
    rw [← hk0,List.getElem?_map,List.getElem?_map,List.getElem?_take,if_pos hqp,hs0];rfl)
   rw [Nat.add_zero] at y0
   have HP:=qh (And.intro hp (And.intro hp0 (And.intro hs0 hk0)))
   clear hcell hp hp0 hs0 hk0 hn0 t0 t1 u0 u1
   cases hw:(p.width != p0.width) with
   | true =>
    have hr:Hid (res=8):=qh (HBAD.out (by
     unfold okR;rw [HS.out.1,HP.out.2.2.1];dsimp only;rw [HS.out.2,HP.out.2.2.2,Int.toNat_natCast,Int.toNat_natCast,HP.out.1,HP.out.2.1];dsimp only
     have e:(p.width == p0.width)=false:=by simpa using hw
     rw [e,Bool.or_false,show (q == 0)=false by simpa using hq0,Bool.and_false]))
    go_upto_region 17 with (go_at_call 54;refine hrc.out.mono ?_;rintro e w' ⟨rfl,rfl⟩)
    rename_i K1 hK1
    have hK1:=qh hK1
    refine wp_region_M (fun w'=>Ext w2 w') 31 (by kernel_rfl) (Ext.drew _) (fun hS=>?_)
    refine' tk 0 hS ?_ ?_;rotate_left;·intros;go_simp;try rfl
    refine' tk 1 hS ?_ ?_;rotate_left;·intros;go_simp;try rfl
    refine' tk 2 hS ?_ ?_;rotate_left;·intros;go_simp;try rfl
    try simp only [tD]
    refine' tk 3 hS ?_ ?_;rotate_left;·intros;go_simp;try rfl
    refine' tk 4 hS ?_ ?_;rotate_left;·intros;go_simp;try rfl
    try simp only [tD]
    generalize w2.drew=w3 at hS ⊢
    refine rc 5 fun K hK=>?_
    go_simp
    refine ((hIn.out w3 hS)).mono ?_
    rintro e w4 ⟨rfl,rfl⟩
    refine hK.out _ _ hS ?_
    clear hK K
    refine' tk 6 hS ?_ ?_;rotate_left;·intros;go_simp;try rfl
    refine' tk 7 hS ?_ ?_;rotate_left;·intros;go_simp;try rfl
    try simp only [tD]
    refine' tk 8 hS ?_ ?_;rotate_left;·intros;go_simp;try rfl
    refine' tk 9 hS ?_ ?_;rotate_left;·intros;go_simp;try rfl
    refine' tk 10 hS ?_ ?_;rotate_left;·intros;go_simp;try rfl
    try simp only [tD]
    refine' tk 11 hS ?_ ?_;rotate_left;·intros;go_simp;try rfl
    refine' tk 12 hS ?_ ?_;rotate_left;·intros;go_simp;try rfl
    refine' tk 13 hS ?_ ?_;rotate_left;·intros;go_simp;try rfl
    try simp only [tD]
    refine' tk 14 hS ?_ ?_;rotate_left;·intro w hSw;have a9:=xc hSw c9;go_simp;try rfl
    refine' tk 15 hS ?_ ?_;rotate_left;·intros;go_simp;try rfl
    refine' tk 16 hS ?_ ?_;rotate_left;·intros;go_simp;try rfl
    try simp only [tD]
    refine' tk 17 hS ?_ ?_;rotate_left;·intros;go_simp;try rfl
    refine' tk 18 hS ?_ ?_;rotate_left;·intro w hSw;have a0:=xc hSw t2;go_simp;try rfl
    refine' tk 19 hS ?_ ?_;rotate_left;·intros;go_simp;try rfl
    try simp only [tD]
    refine' tk 20 hS ?_ ?_;rotate_left;·intros;go_simp;try rfl
    refine' tk 21 hS ?_ ?_;rotate_left;·intros;go_simp;try rfl
    refine' tk 22 hS ?_ ?_;rotate_left;·intro w hSw;have a9:=xc hSw c9;go_simp;try rfl
    try simp only [tD]
    refine' tk 23 hS ?_ ?_;rotate_left;·intros;go_simp;try rfl
    refine' tk 24 hS ?_ ?_;rotate_left;·intros;go_simp;try rfl
    refine' tk 25 hS ?_ ?_;rotate_left;·intro w hSw;have a2:=xc hSw y0;go_simp;try rfl
    try simp only [tD]
    refine' tk 26 hS ?_ ?_;rotate_left;·intros;go_simp;try rfl
    refine' tk 27 hS ?_ ?_;rotate_left;·intros;go_simp;try rfl
    refine' tk 28 hS ?_ ?_;rotate_left;·intro w hSw;have a1:=xc hSw u2;go_simp;try rfl
    try simp only [tD]
    refine' tk 29 hS ?_ ?_;rotate_left;·intros;go_simp;try rfl
    refine' tk 30 hS ?_ ?_;rotate_left;·intros;go_simp;try rfl
    try simp only [tD]
    refine rl 31 fun K hK=>?_
    go_simp
    refine hK.out _ _ ?_
    try simp only [tD]
    clear hK K
    refine wpAnyM_done (by kernel_rfl) ?_ _
    refine hK1.out _ _ ?_
    have XQ:=qh hS
    clear hS
    go_wp2_with fail
    go_ret
    exact ⟨by rw [hr.out];rfl,KX.out _ XQ.out,fun e=>by rw [hr.out] at e;cases e⟩
   | false =>
    have HOKQ:Hid (okR N L c.regs q=true):=qh (by
     unfold okR;rw [HS.out.1,HP.out.2.2.1];dsimp only;rw [HS.out.2,HP.out.2.2.2,Int.toNat_natCast,Int.toNat_natCast,HP.out.1,HP.out.2.1,HBI.out];dsimp only
     have e:(p.width == p0.width)=true:=by simpa using hw
     rw [e,Bool.or_true,decide_eq_true (by omega)];rfl)
    go_upto_region 17 with (go_at_call 54;refine hrc.out.mono ?_;rintro e w' ⟨rfl,rfl⟩)
    rename_i K1 hK1
    have hK1:=qh hK1
    refine wp_region_M (fun w'=>Ext w2 w') 31 (by kernel_rfl) (Ext.drew _) (fun hS=>?_)
    refine' tk 0 hS ?_ ?_;rotate_left;·intros;go_simp;try rfl
    refine' tk 1 hS ?_ ?_;rotate_left;·intros;go_simp;try rfl
    refine' tk 2 hS ?_ ?_;rotate_left;·intros;go_simp;try rfl
    try simp only [tD]
    refine' tk 3 hS ?_ ?_;rotate_left;·intros;go_simp;try rfl
    refine' tk 4 hS ?_ ?_;rotate_left;·intros;go_simp;try rfl
    try simp only [tD]
    generalize w2.drew=w3 at hS ⊢
    refine rc 5 fun K hK=>?_
    go_simp
    refine ((hIn.out w3 hS)).mono ?_
    rintro e w4 ⟨rfl,rfl⟩
    refine hK.out _ _ hS ?_
    clear hK K
    refine' tk 6 hS ?_ ?_;rotate_left;·intros;go_simp;try rfl
    refine' tk 7 hS ?_ ?_;rotate_left;·intros;go_simp;try rfl
    try simp only [tD]
    refine' tk 8 hS ?_ ?_;rotate_left;·intros;go_simp;try rfl
    refine' tk 9 hS ?_ ?_;rotate_left;·intros;go_simp;try rfl
    refine' tk 10 hS ?_ ?_;rotate_left;·intros;go_simp;try rfl
    try simp only [tD]
    refine' tk 11 hS ?_ ?_;rotate_left;·intros;go_simp;try rfl
    refine' tk 12 hS ?_ ?_;rotate_left;·intros;go_simp;try rfl
    refine' tk 13 hS ?_ ?_;rotate_left;·intros;go_simp;try rfl
    try simp only [tD]
    refine' tk 14 hS ?_ ?_;rotate_left;·intro w hSw;have a9:=xc hSw c9;go_simp;try rfl
    refine' tk 15 hS ?_ ?_;rotate_left;·intros;go_simp;try rfl
    refine' tk 16 hS ?_ ?_;rotate_left;·intros;go_simp;try rfl
    try simp only [tD]
    refine' tk 17 hS ?_ ?_;rotate_left;·intros;go_simp;try rfl
    refine' tk 18 hS ?_ ?_;rotate_left;·intro w hSw;have a0:=xc hSw t2;go_simp;try rfl
    refine' tk 19 hS ?_ ?_;rotate_left;·intros;go_simp;try rfl
    try simp only [tD]
    refine' tk 20 hS ?_ ?_;rotate_left;·intros;go_simp;try rfl
    refine' tk 21 hS ?_ ?_;rotate_left;·intros;go_simp;try rfl
    refine' tk 22 hS ?_ ?_;rotate_left;·intro w hSw;have a9:=xc hSw c9;go_simp;try rfl
    try simp only [tD]
    refine' tk 23 hS ?_ ?_;rotate_left;·intros;go_simp;try rfl
    refine' tk 24 hS ?_ ?_;rotate_left;·intros;go_simp;try rfl
    refine' tk 25 hS ?_ ?_;rotate_left;·intro w hSw;have a2:=xc hSw y0;go_simp;try rfl
    try simp only [tD]
    refine' tk 26 hS ?_ ?_;rotate_left;·intros;go_simp;try rfl
    refine' tk 27 hS ?_ ?_;rotate_left;·intros;go_simp;try rfl
    refine' tk 28 hS ?_ ?_;rotate_left;·intro w hSw;have a1:=xc hSw u2;go_simp;try rfl
    try simp only [tD]
    refine' tk 29 hS ?_ ?_;rotate_left;·intros;go_simp;try rfl
    refine' tk 30 hS ?_ ?_;rotate_left;·intros;go_simp;try rfl
    try simp only [tD]
    refine rl 31 fun K hK=>?_
    go_simp
    refine hK.out _ _ ?_
    try simp only [tD]
    clear hK K
    refine wpAnyM_done (by kernel_rfl) ?_ _
    refine hK1.out _ _ ?_
    have XQ:=qh hS
    clear hS
    go_wp2_with (at_builtin;go_loud (refine wpList_append_lies _ rfl _ _ 36 rfl w1.heap.size 3 iI _ 1 8 Tryz.underlying36 hiI zI0 zI1 zI2 rfl (by omega) (.slice (some ⟨bI,oI,none⟩) q cI) q (((c.regs.take q).map (idx N)).map (Value.int .i64)) rfl ((owns_ext HOW.out XQ.out).alloc _) ⟨w3.heap.size,0,none⟩ 1 1 [.int .i64 (kr:Int)] rfl rfl (World.news_of_block (cs:=#[.int .i64 (kr:Int)]) (t:=3) (fr:=(0,0)) (heap_alloc_new w3 _)) (by simp [Value.oneCell']) (by omega) (by unfold maxLen;omega) (by omega) (by have:=HX2.out.size;have:=XQ.out.size;simp;omega) _ rfl ?_;intro gO cpO w6 hownO hgrowO hatO hltO))
    have X6:Hid (Ext w1 w6):=qh (Ext.grown ((HX2.out.trans XQ.out).trans (Ext.alloc w3 _)) hgrowO (fun y e=>(HOW.out.lt y e).1))
    have HO6:=qh hownO
    clear hownO hgrowO hatO
    go_roundw
    case rel=>exact ⟨q+1,by omega,by go_num,some ⟨gO,0,none⟩,cpO,rfl,qh ⟨X6.out,by rw [HTK.out];exact HO6.out,HOKS.out HOKQ.out⟩⟩
    case measure=>simp [intOf];omega
end Go.Proofs.YtligiddaampneaaGreat
