/- The reference's table: the operations asked. For every table that lies in memory. -/
import Derived.Test.YtligiddaampneaaGreatRefO
import Derived.Deep.Cut
import Derived.Deep.CutBlock
import Derived.Deep.DeepCutAuto
set_option maxRecDepth 100000
set_option maxHeartbeats 16000000
-- shrunk
namespace Go.Proofs.YtligiddaampneaaGreat
open Go.RowKit
attribute [local go_sem] Oper.semAt_some
variable {W : World} {n1 bt : Nat} {V : MV} {vK : Value} {M : Mach} {N : List ByteArray} {L : List Pl} {C : List (List Int)}
def tailB (N:List ByteArray) (o:Opn):Bool:=decide (o.tie < -1) || decide (arityOf o.name.data.toList≤o.tie) || (decide (0≤o.tie) && (match o.uses[o.tie.toNat]? with | some u=>!(u.cls == o.dfn.cls && u.fix == o.dfn.fix) | none=>true)) || !distB N o.clob
def opC (M:Mach) (N:List ByteArray) (L:List Pl) (C:List (List Int)) (i:Nat) (o:Opn):Int :=
 if arityOf o.name.data.toList=0∨opIxT M o.name<i then 5
 else if (o.uses.length:Int)≠arityOf o.name.data.toList then 9
 else if (operB M N C o.dfn && o.uses.all (operB M N C))=false then 9
 else if (o.uses.any fun u=>decide (widI L C (clsIx M u.cls)≠widI L C (clsIx M o.dfn.cls)))=true then 9
 else if tailB N o=true then 9 else 0
def firstNZ {α:Type} (f:Nat→α→Int):Nat→List α→Int
 | _,[]=>0
 | i,x :: l=>if f i x=0 then firstNZ f (i+1) l else f i x
def opsC (M:Mach) (N:List ByteArray) (L:List Pl) (C:List (List Int)):Int:=if 64<M.ops.length then 2 else firstNZ (opC M N L C) 0 M.ops
theorem firstNZ_at {α:Type} {f:Nat→α→Int} {l:List α} {i:Nat} {x:α} (hx:l[i]?=some x) (j:Nat):firstNZ f j (l.drop i)=if f j x=0 then firstNZ f (j+1) (l.drop (i+1)) else f j x:=by
 obtain ⟨hi,e⟩:=List.getElem?_eq_some_iff.1 hx
 rw [List.drop_eq_getElem_cons hi,e]
 rfl
theorem opsT_any (h:TabIn W n1 bt V vK M N L C) (hok:∀ c∈C,∀ n∈c,0≤n∧n<(L.length:Int)) :
  Calls Tryz.prog 97 #[.pointer (some ⟨bt,0,none⟩)] W fun e w'=>e=.returned (.int .i64 (opsC M N L C))∧Ext W w':=by
 have c3:=h.ck.cells 3 _ rfl
 have HT:=qh h
 have HOK:=qh hok
 have hle:=h.ck.le
 obtain ⟨aO,cO,eO,hO1,hO2⟩:=h.ck.m.ops.form
 unfold maxLen at hO2
 obtain ⟨vR,vC,vO,vA,vS,vN,vP⟩:=V
 dsimp only at c3 eO
 subst eO
 obtain ⟨res,hres⟩:∃ x,opsC M N L C=x:=⟨_,rfl⟩
 rw [hres]
 unfold opsC at hres
 clear h hok
 go_enter Tryz.func97,Tryz.ntmps97
 by_cases h64:64<M.ops.length
 ·rw [if_pos h64] at hres
  subst hres
  have hz:(64:Int)<(M.ops.length:Int):=by omega
  go_wp2_with fail
  go_ret
  exact ⟨rfl,Ext.refl _⟩
 rw [if_neg h64] at hres
 have hz:¬ (64:Int)<(M.ops.length:Int):=by omega
 have start:Hid (Ext W W∧firstNZ (opC M N L C) 0 (M.ops.drop 0)=res):=qh ⟨Ext.refl _,hres⟩
 clear hres
 go_wp2_with fail
 go_loopw [3] (fun i wr=>∃ m:Nat,m≤M.ops.length∧i=.int .i64 m∧Hid (Ext W wr∧firstNZ (opC M N L C) m (M.ops.drop m)=res)) (fun i _=>M.ops.length - (intOf i).toNat)
 case atStart=>exact ⟨0,by omega,rfl,start⟩
 case round =>
  clear start
  obtain ⟨m,hm,rfl,hin⟩:=hrel
  rename World=>w0
  have c3:=xc hin.out.1 c3
  by_cases hlt:m<M.ops.length
  case neg =>
   have hmz:¬ (m:Int)<(M.ops.length:Int):=by omega
   have hr:Hid (res=0):=qh (by
    have:=hin.out.2
    rw [List.drop_of_length_le (by omega)] at this
    exact this.symm)
   go_wp2_with fail
   go_ret
   exact ⟨by rw [hr.out];rfl,hin.out.1⟩
  case pos =>
  have hmz:(m:Int)<(M.ops.length:Int):=by omega
  obtain ⟨o,ho⟩:∃ x,M.ops[m]?=some x:=⟨_,lE hlt⟩
  have hres2:=hin.out.2
  rw [firstNZ_at ho] at hres2
  have RES:=qh hres2
  have X0:=qh hin.out.1
  obtain ⟨b,off,cap,u,c,e,hl1,hl2,hb,o0,o1,o2,o3,o4,o5,hU,hK,hti⟩:=((HT.out.ext X0.out).ck.m.ops.at ho)
  obtain ⟨ua,uc,eu,hul,hul2⟩:=hU.form
  obtain ⟨ka,kc,ek,_,_⟩:=hK.form
  dsimp only at e
  cases e
  subst eu ek
  unfold maxLen at hul2
  have HU:=qh hU
  have HK:=qh hK
  obtain ⟨hti1,hti2⟩:=hti
  have x1:Ext w0 (w0.alloc (.cells #[.string o.name,.string o.dfn.cls,.string o.dfn.fix,.slice ua o.uses.length uc,.int .i64 o.tie,.slice ka o.clob.length kc] 60)):=Ext.alloc _ _
  have hcc:=cells_one w0 [.string o.name,.string o.dfn.cls,.string o.dfn.fix,.slice ua o.uses.length uc,.int .i64 o.tie,.slice ka o.clob.length kc] 60
  have d0:=hcc 0 _ rfl
  have d1:=hcc 1 _ rfl
  have d2:=hcc 2 _ rfl
  have d3:=hcc 3 _ rfl
  have d4:=hcc 4 _ rfl
  have d5:=hcc 5 _ rfl
  have HO:=qh ho
  clear hcc hU hK hres2 hin ho
  go_upto_region 7 with (fail)
  generalize w0.alloc (.cells #[.string o.name,.string o.dfn.cls,.string o.dfn.fix,.slice ua o.uses.length uc,.int .i64 o.tie,.slice ka o.clob.length kc] 60)=w1 at x1 d0 d1 d2 d3 d4 d5 ⊢
  generalize w0.heap.size=bo at d0 d1 d2 d3 d4 d5 ⊢
  have X1:=qh (X0.out.trans x1)
  have Y1:=qh x1
  clear x1
  have har:=qh (arityR_any o.name w1)
  obtain ⟨ar,har2⟩:∃ x,arityOf o.name.data.toList=x:=⟨_,rfl⟩
  rw [har2] at har
  have HAR:=qh har2
  clear har2
  have hopx:=qh (opOfT_any (HT.out.ext X1.out) o.name)
  obtain ⟨ox,hox⟩:∃ x,opIxT M o.name=x:=⟨_,rfl⟩
  rw [hox] at hopx
  have HOX:=qh hox
  clear hox
  by_cases k1:ar=0∨ox<m
  ·have hr:Hid (res=5):=qh (by
    have e:opC M N L C m o=5:=by unfold opC;rw [HAR.out,HOX.out,if_pos k1]
    have:=RES.out
    rw [e,if_neg (by decide)] at this
    exact this.symm)
   by_cases k0:ar=0
   ·have k0z:(ar == 0)=true:=by simp [k0]
    go_wp2_with (go_at_call 119;refine har.out.mono ?_;rintro e w' ⟨rfl,rfl⟩)
    go_ret
    exact ⟨by rw [hr.out];rfl,X1.out⟩
   ·have k0z:(ar == 0)=false:=by simp [k0]
    have k2z:ox<(m:Int):=k1.resolve_left k0
    go_wp2_with (first
     | (go_at_call 119;refine har.out.mono ?_;rintro e w' ⟨rfl,rfl⟩)
     | (go_at_call 33;refine hopx.out.mono ?_;rintro e w' ⟨rfl,rfl⟩))
    go_ret
    exact ⟨by rw [hr.out];rfl,X1.out⟩
  ·have k0:¬ ar=0:=fun e=>k1 (Or.inl e)
   have k2:¬ ox<(m:Int):=fun e=>k1 (Or.inr e)
   have k0z:(ar == 0)=false:=by simp [k0]
   by_cases k3:(o.uses.length:Int)=ar
   case neg =>
    have k3z:((o.uses.length:Int) != ar)=true:=by simp [k3]
    have hr:Hid (res=9):=qh (by
     have e:opC M N L C m o=9:=by unfold opC;rw [HAR.out,HOX.out,if_neg k1,if_pos k3]
     have:=RES.out
     rw [e,if_neg (by decide)] at this
     exact this.symm)
    go_wp2_with (first
     | (go_at_call 119;refine har.out.mono ?_;rintro e w' ⟨rfl,rfl⟩)
     | (go_at_call 33;refine hopx.out.mono ?_;rintro e w' ⟨rfl,rfl⟩))
    go_ret
    exact ⟨by rw [hr.out];rfl,X1.out⟩
   case pos =>
   subst k3
   have k3z:((o.uses.length:Int) != (o.uses.length:Int))=false:=by simp
   have hop:=qh (fun (w:World) (x:Ext W w) (v:Opr)=>operandT_any (HT.out.ext x) v)
   have HK1:=qh k1
   clear k1
   go_upto_block 2 with (first
     | (go_at_call 119;refine har.out.mono ?_;rintro e w' ⟨rfl,rfl⟩)
     | (go_at_call 33;refine hopx.out.mono ?_;rintro e w' ⟨rfl,rfl⟩)
     | (go_at_call 120;refine (hop.out _ X1.out o.dfn).mono ?_;rintro e w2 ⟨rfl,hx2⟩;have X2:=qh hx2;clear hx2))
   have d1:=xc X2.out d1
   have d2:=xc X2.out d2
   have d3:=xc X2.out d3
   have d4:=xc X2.out d4
   have d5:=xc X2.out d5
   have Y2:=qh (Y1.out.trans X2.out)
   have Z2:=qh (X1.out.trans X2.out)
   obtain ⟨ob,hob⟩:∃ z,operB M N C o.dfn=z:=⟨_,rfl⟩
   rw [hob]
   have HOB:=qh hob
   clear hob
   go_cut [6] from 57 to 72 (fun okv wx=>okv=.bool (ob && o.uses.all (operB M N C))∧Ext w2 wx)
   case first =>
    go_wp2_with fail
    go_loopw [6,7] (fun okv kv wr=>∃ q:Nat,q≤o.uses.length∧kv=.int .i64 q∧∃ bq:Bool,okv=.bool bq∧Hid (Ext w2 wr∧bq=(ob && (o.uses.take q).all (operB M N C)))) (fun _ kv _=>o.uses.length - (intOf kv).toNat)
    case atStart=>exact ⟨0,by omega,rfl,ob,rfl,qh ⟨Ext.refl _,by simp⟩⟩
    case round =>
     obtain ⟨q,hq,rfl,bq,rfl,hin⟩:=hrel
     rename World=>w3
     have d3:=xc hin.out.1 d3
     by_cases hlq:q<o.uses.length
     ·have hqz:(q:Int)<(o.uses.length:Int):=by omega
      cases bq with
      | false =>
       have hf:Hid ((ob && o.uses.all (operB M N C))=false):=qh (by
        have h1:=hin.out.2.symm
        rw [← List.take_append_drop q o.uses,List.all_append,← Bool.and_assoc,h1,Bool.false_and])
       go_wp2_with fail
       go_meet
       case rel=>exact ⟨by rw [hf.out],hin.out.1⟩
      | true =>
       obtain ⟨v,hv⟩:∃ x,o.uses[q]?=some x:=⟨_,lE hlq⟩
       obtain ⟨b7,f7,p7,e7,_,_,_,g0,g1⟩:=OprsIn.at (Tab.same HU.out (fun k hk=>Below.block (Y2.out.trans hin.out.1) k (Nat.lt_of_lt_of_le hk (Nat.le_trans hle X0.out.size)))) hv
       cases e7
       have htk:o.uses.take (q+1)=o.uses.take q ++ [v]:=by rw [List.take_add_one,hv];rfl
       have hnew:Hid (operB M N C v=(ob && (o.uses.take (q+1)).all (operB M N C))):=qh (by
        rw [htk,List.all_append,← Bool.and_assoc,← hin.out.2];simp)
       have hopc:=qh (hop.out w3 (Z2.out.trans hin.out.1) v)
       clear hv htk
       go_wp2_with (go_at_call 120;refine hopc.out.mono ?_;rintro e w4 ⟨rfl,hx4⟩;have X4:=qh hx4;clear hx4)
       go_roundw
       case rel=>exact ⟨q+1,by omega,by go_num,_,rfl,qh ⟨hin.out.1.trans X4.out,hnew.out⟩⟩
       case measure=>simp [intOf];omega
     ·have hqz:¬ (q:Int)<(o.uses.length:Int):=by omega
      have hf:Hid (bq=(ob && o.uses.all (operB M N C))):=qh (by
       have h1:=hin.out.2
       rw [List.take_of_length_le (by omega)] at h1
       exact h1)
      go_wp2_with fail
      go_meet
      case rel=>exact ⟨by rw [hf.out],hin.out.1⟩
   case rest =>
   obtain ⟨rfl,hx5⟩:=hcut
   have d1:=xc hx5 d1
   have d2:=xc hx5 d2
   have d3:=xc hx5 d3
   have d4:=xc hx5 d4
   have d5:=xc hx5 d5
   have Y5:=qh (Y2.out.trans hx5)
   have Z5:=qh (Z2.out.trans hx5)
   obtain ⟨kb,hkb⟩:∃ z,(ob && o.uses.all (operB M N C))=z:=⟨_,rfl⟩
   rw [hkb]
   have HKB:=qh hkb
   clear hkb hx5
   cases kb with
   | false =>
    have hr:Hid (res=9):=qh (by
     have e:opC M N L C m o=9:=by unfold opC;rw [HAR.out,HOX.out,if_neg HK1.out,if_neg (by simp),HOB.out,if_pos HKB.out]
     have:=RES.out
     rw [e,if_neg (by decide)] at this
     exact this.symm)
    go_wp2_with fail
    go_ret
    exact ⟨by rw [hr.out];rfl,Z5.out⟩
   | true =>
    obtain ⟨wd,hwd⟩:∃ z,widI L C (clsIx M o.dfn.cls)=z:=⟨_,rfl⟩
    have HWD:=qh hwd
    have hcd:=qh (fun (w:World) (x:Ext W w)=>classOfT_any (HT.out.ext x) o.dfn.cls)
    have hwdc:=qh (fun (w:World) (x:Ext W w)=>widthT_any (HT.out.ext x) HOK.out (clsIx M o.dfn.cls))
    rw [hwd] at hwdc
    clear hwd
    go_wp2_with fail
    go_loopw [8] (fun kv wr=>∃ q:Nat,q≤o.uses.length∧kv=.int .i64 q∧Hid (Ext wc wr∧∀ j v,j<q→o.uses[j]?=some v→widI L C (clsIx M v.cls)=wd)) (fun kv _=>o.uses.length - (intOf kv).toNat)
    case atStart=>exact ⟨0,by omega,rfl,qh ⟨Ext.refl _,fun j v hj=>by omega⟩⟩
    case round =>
     obtain ⟨q,hq,rfl,hin⟩:=hrel
     rename World=>w6
     have d1:=xc hin.out.1 d1
     have d2:=xc hin.out.1 d2
     have d3:=xc hin.out.1 d3
     have d4:=xc hin.out.1 d4
     have d5:=xc hin.out.1 d5
     have Z6:=qh (Z5.out.trans hin.out.1)
     by_cases hlq:q<o.uses.length
     ·have hqz:(q:Int)<(o.uses.length:Int):=by omega
      obtain ⟨v,hv⟩:∃ x,o.uses[q]?=some x:=⟨_,lE hlq⟩
      obtain ⟨b7,f7,p7,e7,_,_,_,g0,g1⟩:=OprsIn.at (Tab.same HU.out (fun k hk=>Below.block (Y5.out.trans hin.out.1) k (Nat.lt_of_lt_of_le hk (Nat.le_trans hle X0.out.size)))) hv
      cases e7
      have hcv:=qh (fun (w:World) (x:Ext W w)=>classOfT_any (HT.out.ext x) v.cls)
      have hwv:=qh (fun (w:World) (x:Ext W w)=>widthT_any (HT.out.ext x) HOK.out (clsIx M v.cls))
      obtain ⟨wv,hwv2⟩:∃ z,widI L C (clsIx M v.cls)=z:=⟨_,rfl⟩
      rw [hwv2] at hwv
      have HV:=qh (And.intro hv hwv2)
      clear hv hwv2
      go_upto_region 22 with (fail)
      rename_i K1 hK1
      have hK1:=qh hK1
      refine wp_region_M (fun w'=>Ext w6 w') 15 (by kernel_rfl) (Ext.drew _) (fun hS=>?_)
      refine' tk 0 hS ?_ ?_;rotate_left;·intros;go_simp;try rfl
      refine' tk 1 hS ?_ ?_;rotate_left;·intros;go_simp;try rfl
      refine' tk 2 hS ?_ ?_;rotate_left;·intros;go_simp;try rfl
      try simp only [tD]
      refine' tk 3 hS ?_ ?_;rotate_left;·intro w hSw;have q0:=xc hSw d3;go_simp;try rfl
      refine' tk 4 hS ?_ ?_;rotate_left;·intros;go_simp;try rfl
      refine' tk 5 hS ?_ ?_;rotate_left;·intros;go_simp;try rfl
      try simp only [tD]
      refine' tk 6 hS ?_ ?_;rotate_left;·intros;go_simp;try rfl
      refine' tk 7 hS ?_ ?_;rotate_left;·intro w hSw;have q1:=xc hSw g0;go_simp;try rfl
      try simp only [tD]
      refine' tw 10 ?_ ?_;rotate_left;·intros;go_simp;try rfl
      refine' tk 11 hS ?_ ?_;rotate_left;·intros;go_simp;try rfl
      refine' tk 12 hS ?_ ?_;rotate_left;·intros;go_simp;try rfl
      try simp only [tD]
      refine' tk 13 hS ?_ ?_;rotate_left;·intros;go_simp;try rfl
      refine' tk 14 hS ?_ ?_;rotate_left;·intro w hSw;have q2:=xc hSw d1;go_simp;try rfl
      try simp only [tD]
      generalize w6.drew=w7 at hS ⊢
      refine rc 8 fun K hK=>?_
      go_simp
      refine ((hcv.out w7 (Z6.out.trans hS))).mono ?_
      rintro e w8 ⟨rfl,rfl⟩
      refine hK.out _ _ hS ?_
      try simp only [tD]
      clear hK K
      refine rc 9 fun K hK=>?_
      go_simp
      refine ((hwv.out _ (Z6.out.trans hS))).mono ?_
      rintro e w9 ⟨rfl,x9⟩
      have hS0:=hS
      have hS:=Ext.trans hS x9
      refine hK.out _ _ hS ?_
      try simp only [tD]
      clear hK K
      refine rl 15 fun K hK=>?_
      go_simp
      refine ((hcd.out w9 (Z6.out.trans hS))).mono ?_
      rintro e w10 ⟨rfl,rfl⟩
      refine hK.out _ _ ?_
      try simp only [tD]
      clear hK K
      refine rl 16 fun K hK=>?_
      go_simp
      refine ((hwdc.out _ (Z6.out.trans hS))).mono ?_
      rintro e w11 ⟨rfl,x11⟩
      have hS1:=hS
      have hS:=Ext.trans hS x11
      refine hK.out _ _ ?_
      try simp only [tD]
      clear hK K
      refine' tw 17 ?_ ?_;rotate_left;·intros;go_simp;try rfl
      try simp only [tD]
      refine wpAnyM_done (by kernel_rfl) ?_ _
      refine hK1.out _ _ ?_
      have X11:=qh hS
      clear hS hS0 hS1
      by_cases kw:wv=wd
      ·have kwz:(wv != wd)=false:=by simp [kw]
       have hst:∀ j z,j<q+1→o.uses[j]?=some z→widI L C (clsIx M z.cls)=wd:=fun j z hj hz=>by
        by_cases e:j=q
        ·subst e;rw [HV.out.1] at hz;cases hz;rw [HV.out.2];exact kw
        ·exact hin.out.2 j z (by omega) hz
       have HST:=qh hst
       clear hst kw
       go_wp2_with fail
       go_roundw
       case rel=>exact ⟨q+1,by omega,by go_num,qh ⟨hin.out.1.trans X11.out,HST.out⟩⟩
       case measure=>simp [intOf];omega
      ·have kwz:(wv != wd)=true:=by simp [kw]
       have hr:Hid (res=9):=qh (by
        have e:opC M N L C m o=9:=by
         unfold opC
         rw [HAR.out,HOX.out,if_neg HK1.out,if_neg (by simp),HOB.out,if_neg (by rw [HKB.out];simp),if_pos]
         rw [List.any_eq_true]
         exact ⟨v,List.mem_of_getElem? HV.out.1,by rw [HV.out.2,HWD.out];simpa using kw⟩
        have:=RES.out
        rw [e,if_neg (by decide)] at this
        exact this.symm)
       clear kw
       go_wp2_with fail
       go_ret
       exact ⟨by rw [hr.out];rfl,Z6.out.trans X11.out⟩
     ·have hqz:¬ (q:Int)<(o.uses.length:Int):=by omega
      have hnw:(o.uses.any fun u=>decide (widI L C (clsIx M u.cls)≠widI L C (clsIx M o.dfn.cls)))=false:=by
       rw [List.any_eq_false]
       intro z hz
       obtain ⟨j,hj⟩:=List.getElem?_of_mem hz
       rw [hin.out.2 j z (by have:=(List.getElem?_eq_some_iff.1 hj).1;omega) hj,HWD.out]
       simp
      have hop9:Hid (opC M N L C m o=if tailB N o=true then 9 else 0):=qh (by
       unfold opC
       rw [HAR.out,HOX.out,if_neg HK1.out,if_neg (by simp),HOB.out,if_neg (by rw [HKB.out];simp),if_neg (by rw [hnw];simp)])
      clear hnw
      have Y6:=qh (Y5.out.trans hin.out.1)
      have hdis:=qh (distinctT_any (HT.out.ext Z6.out) (StrsIn.ext HK.out (Nat.le_trans hle X0.out.size) Y6.out))
      obtain ⟨db,hdb⟩:∃ z,distB N o.clob=z:=⟨_,rfl⟩
      rw [hdb] at hdis
      have HDB:=qh hdb
      clear hdb
      have HTB:Hid (tailB N o=((decide (o.tie < -1) || decide ((o.uses.length:Int)≤o.tie) || (decide (0≤o.tie) && (match o.uses[o.tie.toNat]? with | some u=>!(u.cls == o.dfn.cls && u.fix == o.dfn.fix) | none=>true))) || !db)):=qh (by unfold tailB;rw [HAR.out,HDB.out])
      go_upto_region 25 with (go_at_call 121;refine hdis.out.mono ?_;rintro e w' ⟨rfl,rfl⟩)
      obtain ⟨tv,htv⟩:∃ z,o.tie=z:=⟨_,rfl⟩
      rw [htv] at d4 hti1 hti2
      rw [htv] at HTB
      by_cases t1:tv < -1
      ·skip
       have hr:Hid (res=9):=qh (by
        have e:=hop9.out
        rw [HTB.out,decide_eq_true t1,Bool.true_or,Bool.true_or,Bool.true_or,if_pos rfl] at e
        have h2:=RES.out
        rw [e] at h2
        exact h2.symm)
       go_quiet (fail)
       have xq:=qh (Ext.drewN w6 nq)
       go_wp2_with fail
       go_ret
       exact ⟨by rw [hr.out];rfl,Z6.out.trans xq.out⟩
      have t1d:decide (tv < -1)=false:=decide_eq_false t1
      by_cases t2:(o.uses.length:Int)≤tv
      ·skip
       have hr:Hid (res=9):=qh (by
        have e:=hop9.out
        rw [HTB.out,t1d,decide_eq_true t2,Bool.false_or,Bool.true_or,Bool.true_or,if_pos rfl] at e
        have h2:=RES.out
        rw [e] at h2
        exact h2.symm)
       go_quiet (fail)
       have xq:=qh (Ext.drewN w6 nq)
       go_wp2_with fail
       go_ret
       exact ⟨by rw [hr.out];rfl,Z6.out.trans xq.out⟩
      have t2d:decide ((o.uses.length:Int)≤tv)=false:=decide_eq_false t2
      by_cases t3:tv<0
      ·have t3d:decide (0≤tv)=false:=decide_eq_false (by omega)
       cases db with
       | false =>
        have hr:Hid (res=9):=qh (by
         have e:=hop9.out
         rw [HTB.out,Bool.not_false,Bool.or_true,if_pos rfl] at e
         have h2:=RES.out
         rw [e] at h2
         exact h2.symm)
        go_quiet (fail)
        have xq:=qh (Ext.drewN w6 nq)
        go_wp2_with fail
        go_ret
        exact ⟨by rw [hr.out];rfl,Z6.out.trans xq.out⟩
       | true =>
        have hr:Hid (firstNZ (opC M N L C) (m+1) (M.ops.drop (m+1))=res):=qh (by
         have e:=hop9.out
         rw [HTB.out,t1d,t2d,t3d,Bool.false_and,Bool.or_false,Bool.not_true,Bool.or_false,if_neg (by decide)] at e
         have h2:=RES.out
         rw [e] at h2
         exact h2)
        go_quiet (fail)
        have xq:=qh (Ext.drewN w6 nq)
        go_wp2_with fail
        go_roundw
        case rel=>exact ⟨m+1,by omega,by go_num,qh ⟨Z6.out.trans xq.out,hr.out⟩⟩
        case measure=>simp [intOf];omega
      obtain ⟨kt,rfl⟩:∃ k:Nat,tv=k:=⟨tv.toNat,by omega⟩
      have t3z:(kt:Int)<(o.uses.length:Int):=by omega
      have t2n:decide (o.uses.length≤kt)=false:=decide_eq_false (by omega)
      obtain ⟨v,hv⟩:∃ x,o.uses[kt]?=some x:=⟨_,lE (by omega)⟩
      obtain ⟨b7,f7,p7,e7,_,_,_,g0,g1⟩:=OprsIn.at (Tab.same HU.out (fun k hk=>Below.block Y6.out k (Nat.lt_of_lt_of_le hk (Nat.le_trans hle X0.out.size)))) hv
      cases e7
      rw [Int.toNat_natCast,hv] at HTB
      dsimp only at HTB
      have z1:=str_beq o.dfn.cls v.cls
      have z2:=str_beq o.dfn.fix v.fix
      have z3:(v.cls.toList == o.dfn.cls.toList)=(v.cls == o.dfn.cls):=by rw [← str_beq];exact BEq.comm
      have z4:(v.fix.toList == o.dfn.fix.toList)=(v.fix == o.dfn.fix):=by rw [← str_beq];exact BEq.comm
      cases q1:(v.cls == o.dfn.cls) with
      | false =>
       rw [q1] at z1 z3 HTB
       have hr:Hid (res=9):=qh (by
        have e:=hop9.out
        rw [HTB.out,t1d,t2d,decide_eq_true (by omega:(0:Int)≤(kt:Int)),Bool.false_and,Bool.not_false,Bool.and_true,Bool.or_true,Bool.true_or,if_pos rfl] at e
        have h2:=RES.out
        rw [e] at h2
        exact h2.symm)
       clear q1 t1 t2 t3
       go_quiet (fail)
       have xq:=qh (Ext.drewN w6 nq)
       go_wp2_with fail
       go_ret
       exact ⟨by rw [hr.out];rfl,Z6.out.trans xq.out⟩
      | true =>
       rw [q1] at z1 z3 HTB
       cases q2:(v.fix == o.dfn.fix) with
       | false =>
        rw [q2] at z2 z4 HTB
        have hr:Hid (res=9):=qh (by
         have e:=hop9.out
         rw [HTB.out,t1d,t2d,decide_eq_true (by omega:(0:Int)≤(kt:Int)),Bool.and_false,Bool.not_false,Bool.and_true,Bool.or_true,Bool.true_or,if_pos rfl] at e
         have h2:=RES.out
         rw [e] at h2
         exact h2.symm)
        clear q1 q2 t1 t2 t3
        go_quiet (fail)
        have xq:=qh (Ext.drewN w6 nq)
        go_wp2_with fail
        go_ret
        exact ⟨by rw [hr.out];rfl,Z6.out.trans xq.out⟩
       | true =>
        rw [q2] at z2 z4 HTB
        cases db with
        | false =>
         have hr:Hid (res=9):=qh (by
          have e:=hop9.out
          rw [HTB.out,Bool.not_false,Bool.or_true,if_pos rfl] at e
          have h2:=RES.out
          rw [e] at h2
          exact h2.symm)
         clear q1 q2 t1 t2 t3
         go_quiet (fail)
         have xq:=qh (Ext.drewN w6 nq)
         go_wp2_with fail
         go_ret
         exact ⟨by rw [hr.out];rfl,Z6.out.trans xq.out⟩
        | true =>
         have hr:Hid (firstNZ (opC M N L C) (m+1) (M.ops.drop (m+1))=res):=qh (by
          have e:=hop9.out
          rw [HTB.out,t1d,t2d,Bool.and_true,Bool.not_true,Bool.and_false,Bool.or_false,Bool.or_false,Bool.or_false,if_neg (by decide)] at e
          have h2:=RES.out
          rw [e] at h2
          exact h2)
         clear q1 q2 t1 t2 t3
         go_quiet (fail)
         have xq:=qh (Ext.drewN w6 nq)
         go_wp2_with fail
         go_roundw
         case rel=>exact ⟨m+1,by omega,by go_num,qh ⟨Z6.out.trans xq.out,hr.out⟩⟩
         case measure=>simp [intOf];omega
end Go.Proofs.YtligiddaampneaaGreat
