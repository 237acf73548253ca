/- Several texts joined. No condition. -/
import Derived.Test.YtligiddaampneaaGreatRefK
set_option maxRecDepth 100000
set_option maxHeartbeats 4000000
-- shrunk
namespace Go.Proofs.YtligiddaampneaaGreat
open Go.RowKit
attribute [local go_sem] Oper.semAt_some
variable {W : World} {n1 bt : Nat} {V : MV} {vK : Value} {M : Mach} {N : List ByteArray} {L : List Pl} {C : List (List Int)}
theorem clobT_any (h:TabIn W n1 bt V vK M N L C) {k:Nat} {o:Opn} (ho:M.ops[k]?=some o) (hl:o.clob.length≤1000) :
  Calls Tryz.prog 38 #[.pointer (some ⟨bt,0,none⟩),.int .i64 (k:Int)] W fun e w'=>∃ u,e=.returned u∧w'.ownsRow W.heap.size 3 1 u (listS N o.clob).length ((listS N o.clob).map (Value.int .i64))∧Ext W w':=by
 have c3:=h.ck.cells 3 _ rfl
 obtain ⟨b,off,cap,u,c,e,hl1,hl2,hb,o0,o1,o2,o3,o4,o5,hU,hK,_⟩:=h.ck.m.ops.at ho
 have hlist:=qh (listT_any h hK hl)
 obtain ⟨ka,kc,ek,_,_⟩:=hK.form
 have hkz:(k:Int)<(M.ops.length:Int):=by have:=(List.getElem?_eq_some_iff.1 ho).1;omega
 have hkx:decide (M.ops.length≤k)=false:=decide_eq_false (by have:=(List.getElem?_eq_some_iff.1 ho).1;omega)
 have hky:¬ (M.ops.length:Int)≤(k:Int):=by omega
 have hk0:¬ (k:Int)<0:=by omega
 unfold maxLen at hl2
 obtain ⟨vR,vC,vO,vA,vS,vN,vP⟩:=V
 dsimp only at c3 e
 subst e ek
 clear h ho hU hK
 go_enter Tryz.func38,Tryz.ntmps38
 go_wp2_with (go_at_call 53;refine hlist.out.mono ?_;rintro e w' ⟨u,rfl,ho,hx⟩;have HO:=qh ho;have HX:=qh hx;clear ho hx)
 go_ret
 exact ⟨u,rfl,HO.out,HX.out⟩
def clearB (N:List ByteArray) (L:List Pl) (o:Opn) (r:Int):Bool:=(listS N o.clob).all fun n=>!lapI L n r
theorem listS_fits {N l:List ByteArray} (h:N.length≤1000) {n:Int} (hn:n∈listS N l):fits64 n:=by
 unfold listS at hn
 obtain ⟨h1,_⟩:=List.mem_filter.1 hn
 obtain ⟨s,_,rfl⟩:=List.mem_map.1 h1
 exact idx_fits (by omega)
theorem clearT_any (h:TabIn W n1 bt V vK M N L C) {k:Nat} {o:Opn} (ho:M.ops[k]?=some o) (hl:o.clob.length≤1000) (hN:N.length≤1000) (r:Int) (hr:fits64 r) :
  Calls Tryz.prog 69 #[.pointer (some ⟨bt,0,none⟩),.int .i64 (k:Int),.int .i64 r] W fun e w'=>e=.returned (.bool (clearB N L o r))∧Ext W w':=by
 have HT:=qh h
 have hcl:=qh (clobT_any h ho hl)
 obtain ⟨res,hres⟩:∃ x,clearB N L o r=x:=⟨_,rfl⟩
 rw [hres]
 unfold clearB at hres
 have hfit:=qh (fun n (hn:n∈listS N o.clob)=>listS_fits hN hn)
 have hlen:(listS N o.clob).length≤1000:=by
  unfold listS
  refine Nat.le_trans (List.length_filter_le _ _) ?_
  rw [List.length_map];exact hl
 generalize listS N o.clob=D at hres hcl hfit hlen
 have RES:=qh hres
 have HR:=qh hr
 clear h ho hres hr
 go_enter Tryz.func69,Tryz.ntmps69
 go_upto_region 2 with (go_at_call 38;refine hcl.out.mono ?_;rintro e w1 ⟨u,rfl,hown,hx⟩)
 have hsl:SliceInts w1 u D:=Row.of_owns hown
 obtain ⟨aD,cD,eu,hc1,hc2⟩:=hsl.shape
 subst eu
 have HSL:=qh hsl
 have X1:=qh hx
 clear hown hx hsl hcl
 go_wp2_with fail
 go_loopw [8] (fun i wr=>∃ m:Nat,m≤D.length∧i=.int .i64 m∧Hid (Ext w1 wr∧∀ j n,j<m→D[j]?=some n→lapI L n r=false)) (fun i _=>D.length - (intOf i).toNat)
 case atStart=>exact ⟨0,by omega,rfl,qh ⟨Ext.refl _,fun j n hj=>by omega⟩⟩
 case round =>
  obtain ⟨m,hm,rfl,hin⟩:=hrel
  by_cases hlt:m<D.length
  ·have hmz:(m:Int)<(D.length:Int):=by omega
   obtain ⟨n,hn⟩:∃ x,D[m]?=some x:=⟨_,lE hlt⟩
   obtain ⟨b,off,cap,e,_,_,_,hcell⟩:=Row.at (HSL.out.below hin.out.1) (fun e=>by rw [List.map_eq_nil_iff] at e;rw [e] at hlt;simp at hlt)
   cases e
   have c0:=hcell m (.int .i64 n) (by simp [hn])
   have hlapc:=qh (lapT_any (HT.out.ext (X1.out.trans hin.out.1)) n r (hfit.out n (List.mem_of_getElem? hn)) HR.out)
   have HNN:=qh hn
   obtain ⟨bb,hbb⟩:∃ y,lapI L n r=y:=⟨_,rfl⟩
   rw [hbb] at hlapc
   have HBB:=qh hbb
   clear hbb hn hcell
   cases bb with
   | true =>
    have hbad:Hid (res=false):=qh (by
     rw [← RES.out,List.all_eq_false]
     exact ⟨n,List.mem_of_getElem? HNN.out,by rw [HBB.out];simp⟩)
    go_wp2_with (go_at_call 13;refine hlapc.out.mono ?_;rintro e w7 ⟨rfl,x7⟩;have X7:=qh x7;clear x7)
    go_ret
    exact ⟨by rw [hbad.out];rfl,X1.out.trans (hin.out.1.trans X7.out)⟩
   | false =>
    have hst:∀ j y,j<m+1→D[j]?=some y→lapI L y r=false:=fun j y hj hy=>by
     by_cases e:j=m
     ·subst e;rw [HNN.out] at hy;cases hy;exact HBB.out
     ·exact hin.out.2 j y (by omega) hy
    have HST:=qh hst
    clear hst
    go_wp2_with (go_at_call 13;refine hlapc.out.mono ?_;rintro e w7 ⟨rfl,x7⟩;have X7:=qh x7;clear x7)
    go_roundw
    case rel=>exact ⟨m+1,by omega,by go_num,qh ⟨hin.out.1.trans X7.out,HST.out⟩⟩
    case measure=>simp [intOf];omega
  ·have hgood:Hid (res=true):=qh (by
    rw [← RES.out,List.all_eq_true]
    intro n hn
    obtain ⟨j,hj⟩:=List.getElem?_of_mem hn
    rw [hin.out.2 j n (by have:=(List.getElem?_eq_some_iff.1 hj).1;omega) hj]
    rfl)
   have hmz:¬ (m:Int)<(D.length:Int):=by omega
   go_wp2_with fail
   go_ret
   exact ⟨by rw [hgood.out];rfl,X1.out.trans hin.out.1⟩
end Go.Proofs.YtligiddaampneaaGreat
set_option maxRecDepth 100000
set_option maxHeartbeats 4000000
-- shrunk
namespace Go.Proofs.YtligiddaampneaaGreat
open Go.RowKit
attribute [local go_sem] Oper.semAt_some
variable {W : World} {n1 bt : Nat} {V : MV} {vK : Value} {M : Mach} {N : List ByteArray} {L : List Pl} {C : List (List Int)}
def pairI (L:List Pl) (C:List (List Int)) (a b:Int):Bool:=if 0≤a∧0≤b then (match C[a.toNat]?,C[b.toNat]? with
 | some x,some y=>x.any fun p=>y.any fun q=>!lapI L p q
 | _,_=>false) else false
theorem pairT2_any (h:TabIn W n1 bt V vK M N L C) (hok:∀ c∈C,∀ n∈c,fits64 n) (a b:Int) :
  Calls Tryz.prog 74 #[.pointer (some ⟨bt,0,none⟩),.int .i64 a,.int .i64 b] W fun e w'=>e=.returned (.bool (pairI L C a b))∧Ext W w':=by
 have cK:=h.cl
 have HT:=qh h
 obtain ⟨aK,capK,ev,hl1,hl2⟩:=h.k.form
 rw [ev] at cK
 unfold maxLen at hl2
 have HOK:=qh hok
 clear h hok
 obtain ⟨res,hres⟩:∃ x,pairI L C a b=x:=⟨_,rfl⟩
 rw [hres]
 unfold pairI at hres
 go_enter Tryz.func74,Tryz.ntmps74
 by_cases h1:a<0
 ·rw [if_neg (by omega)] at hres
  subst hres
  go_wp2
  go_ret
  exact ⟨rfl,Ext.refl _⟩
 by_cases h2:b<0
 ·rw [if_neg (by omega)] at hres
  subst hres
  go_wp2
  go_ret
  exact ⟨rfl,Ext.refl _⟩
 rw [if_pos (by omega)] at hres
 obtain ⟨ka,rfl⟩:∃ k:Nat,a=k:=⟨a.toNat,by omega⟩
 obtain ⟨kb,rfl⟩:∃ k:Nat,b=k:=⟨b.toNat,by omega⟩
 rw [Int.toNat_natCast,Int.toNat_natCast] at hres
 by_cases h3:C.length≤ka
 ·rw [List.getElem?_eq_none h3] at hres
  dsimp only at hres
  subst hres
  have hd:(C.length:Int)≤(ka:Int):=by omega
  go_wp2
  go_ret
  exact ⟨rfl,Ext.refl _⟩
 have h3z:(ka:Int)<(C.length:Int):=by omega
 have h3x:decide (C.length≤ka)=false:=decide_eq_false h3
 obtain ⟨la,hla⟩:∃ x,C[ka]?=some x:=⟨_,lE (by omega)⟩
 by_cases h4:C.length≤kb
 ·rw [hla,List.getElem?_eq_none h4] at hres
  dsimp only at hres
  subst hres
  have hd:(C.length:Int)≤(kb:Int):=by omega
  clear hla
  go_wp2
  go_ret
  exact ⟨rfl,Ext.refl _⟩
 have h4z:(kb:Int)<(C.length:Int):=by omega
 have h4x:decide (C.length≤kb)=false:=decide_eq_false h4
 obtain ⟨lb,hlb⟩:∃ x,C[kb]?=some x:=⟨_,lE (by omega)⟩
 rw [hla,hlb] at hres
 dsimp only at hres
 obtain ⟨b1,o1,p1,ua,uc,e1,_,_,d0,hia⟩:=HT.out.k.at hla
 rw [ev] at e1
 cases e1
 obtain ⟨_,_,_,va,vc,e2,_,_,d1,hib⟩:=HT.out.k.at hlb
 rw [ev] at e2
 cases e2
 have hfa:=qh (HOK.out la (List.mem_of_getElem? hla))
 have hfb:=qh (HOK.out lb (List.mem_of_getElem? hlb))
 have HIA:=qh hia
 have HIB:=qh hib
 have hle:=HT.out.ck.le
 obtain ⟨_,_,ea,ha1,ha2⟩:=hia.form
 obtain ⟨_,_,eb,hb1,hb2⟩:=hib.form
 unfold maxLen at ha2 hb2
 cases ea
 cases eb
 have RES:=qh hres
 clear hla hlb hia hib hres ev
 go_wp2
 go_loopw [7] (fun i wr=>∃ m:Nat,m≤la.length∧i=.int .i64 m∧Hid (Ext W wr∧∀ j n,j<m→la[j]?=some n→(lb.any fun q=>!lapI L n q)=false)) (fun i _=>la.length - (intOf i).toNat)
 case atStart=>exact ⟨0,by omega,rfl,qh ⟨Ext.refl _,fun j n hj=>by omega⟩⟩
 case round =>
  obtain ⟨m,hm,rfl,hin⟩:=hrel
  rename World=>w0
  have cK:=xc hin.out.1 cK
  have d0:=xc hin.out.1 d0
  have d1:=xc hin.out.1 d1
  by_cases hlt:m<la.length
  ·have hmz:(m:Int)<(la.length:Int):=by omega
   obtain ⟨n,hn⟩:∃ x,la[m]?=some x:=⟨_,lE hlt⟩
   have HNN:=qh hn
   clear hn
   go_wp2
   go_loopw [8] (fun t wr=>∃ q:Nat,q≤lb.length∧t=.int .i64 q∧Hid (Ext w0 wr∧∀ j y,j<q→lb[j]?=some y→lapI L n y=true)) (fun t _=>lb.length - (intOf t).toNat)
   case atStart=>exact ⟨0,by omega,rfl,qh ⟨Ext.refl _,fun j y hj=>by omega⟩⟩
   case round =>
    obtain ⟨q,hq,rfl,hin2⟩:=hrel
    have cK:=xc hin2.out.1 cK
    have d0:=xc hin2.out.1 d0
    have d1:=xc hin2.out.1 d1
    by_cases hlq:q<lb.length
    ·have hqz:(q:Int)<(lb.length:Int):=by omega
     obtain ⟨y,hy⟩:∃ x,lb[q]?=some x:=⟨_,lE hlq⟩
     have xx:=hin.out.1.trans hin2.out.1
     obtain ⟨b3,o3,p3,e3,_,_,s0⟩:=IntsIn.at (Tab.same HIA.out (fun k hk=>Below.block xx k (Nat.lt_of_lt_of_le hk hle))) HNN.out
     obtain ⟨b4,o4,p4,e4,_,_,s1⟩:=IntsIn.at (Tab.same HIB.out (fun k hk=>Below.block xx k (Nat.lt_of_lt_of_le hk hle))) hy
     cases e3
     cases e4
     have hlapc:=qh (fun (w:World) (x:Ext W w)=>lapT_any (HT.out.ext x) n y (hfa.out n (List.mem_of_getElem? HNN.out)) (hfb.out y (List.mem_of_getElem? hy)))
     obtain ⟨bb,hbb⟩:∃ z,lapI L n y=z:=⟨_,rfl⟩
     rw [hbb] at hlapc
     have HY:=qh (And.intro hy hbb)
     have XX:=qh xx
     clear hy hbb xx
     cases bb with
     | false =>
      have hgood:Hid (res=true):=qh (by
       rw [← RES.out,List.any_eq_true]
       refine ⟨n,List.mem_of_getElem? HNN.out,?_⟩
       rw [List.any_eq_true]
       exact ⟨y,List.mem_of_getElem? HY.out.1,by rw [HY.out.2];rfl⟩)
      go_upto_region 9 with (fail)
      rename_i K1 hK1
      have hK1:=qh hK1
      refine wp_region_M (fun w'=>Ext wr w') 21 (by kernel_rfl) (Ext.drew _) (fun hS=>?_)
      refine' tk 0 hS ?_ ?_;rotate_left;·intros;go_simp;try rfl
      refine' tk 1 hS ?_ ?_;rotate_left;·intros;go_simp;try rfl
      refine' tk 2 hS ?_ ?_;rotate_left;·intros;go_simp;try rfl
      try simp only [tD]
      refine' tk 3 hS ?_ ?_;rotate_left;·intros;go_simp;try rfl
      refine' tk 4 hS ?_ ?_;rotate_left;·intro w hSw;have q0:=xc hSw cK;go_simp;try rfl
      refine' tk 5 hS ?_ ?_;rotate_left;·intros;go_simp;try rfl
      try simp only [tD]
      refine' tk 6 hS ?_ ?_;rotate_left;·intros;go_simp;try rfl
      refine' tk 7 hS ?_ ?_;rotate_left;·intro w hSw;have q1:=xc hSw d0;go_simp;try rfl
      refine' tk 8 hS ?_ ?_;rotate_left;·intros;go_simp;try rfl
      try simp only [tD]
      refine' tk 9 hS ?_ ?_;rotate_left;·intros;go_simp;try rfl
      refine' tk 10 hS ?_ ?_;rotate_left;·intro w hSw;have q3:=xc hSw s0;go_simp;try rfl
      refine' tk 11 hS ?_ ?_;rotate_left;·intros;go_simp;try rfl
      try simp only [tD]
      refine' tk 12 hS ?_ ?_;rotate_left;·intros;go_simp;try rfl
      refine' tk 13 hS ?_ ?_;rotate_left;·intros;go_simp;try rfl
      refine' tk 14 hS ?_ ?_;rotate_left;·intro w hSw;have q0:=xc hSw cK;go_simp;try rfl
      try simp only [tD]
      refine' tk 15 hS ?_ ?_;rotate_left;·intros;go_simp;try rfl
      refine' tk 16 hS ?_ ?_;rotate_left;·intros;go_simp;try rfl
      refine' tk 17 hS ?_ ?_;rotate_left;·intro w hSw;have q2:=xc hSw d1;go_simp;try rfl
      try simp only [tD]
      refine' tk 18 hS ?_ ?_;rotate_left;·intros;go_simp;try rfl
      refine' tk 19 hS ?_ ?_;rotate_left;·intros;go_simp;try rfl
      refine' tk 20 hS ?_ ?_;rotate_left;·intro w hSw;have q4:=xc hSw s1;go_simp;try rfl
      try simp only [tD]
      generalize wr.drew=w4 at hS ⊢
      refine rl 21 fun K hK=>?_
      go_simp
      refine ((hlapc.out w4 (XX.out.trans hS))).mono ?_
      rintro e w5 ⟨rfl,x5⟩
      have hS0:=hS
      have hS:=Ext.trans hS x5
      refine hK.out _ _ ?_
      try simp only [tD]
      clear hK K
      refine' tw 22 ?_ ?_;rotate_left;·intros;go_simp;try rfl
      try simp only [tD]
      refine wpAnyM_done (by kernel_rfl) ?_ _
      refine hK1.out _ _ ?_
      go_wp2_with fail
      go_ret
      exact ⟨by rw [hgood.out];rfl,XX.out.trans hS⟩
     | true =>
      have hst:∀ j z,j<q+1→lb[j]?=some z→lapI L n z=true:=fun j z hj hz=>by
       by_cases e:j=q
       ·subst e;rw [HY.out.1] at hz;cases hz;exact HY.out.2
       ·exact hin2.out.2 j z (by omega) hz
      have HST:=qh hst
      clear hst
      go_upto_region 9 with (fail)
      rename_i K1 hK1
      have hK1:=qh hK1
      refine wp_region_M (fun w'=>Ext wr w') 21 (by kernel_rfl) (Ext.drew _) (fun hS=>?_)
      refine' tk 0 hS ?_ ?_;rotate_left;·intros;go_simp;try rfl
      refine' tk 1 hS ?_ ?_;rotate_left;·intros;go_simp;try rfl
      refine' tk 2 hS ?_ ?_;rotate_left;·intros;go_simp;try rfl
      try simp only [tD]
      refine' tk 3 hS ?_ ?_;rotate_left;·intros;go_simp;try rfl
      refine' tk 4 hS ?_ ?_;rotate_left;·intro w hSw;have q0:=xc hSw cK;go_simp;try rfl
      refine' tk 5 hS ?_ ?_;rotate_left;·intros;go_simp;try rfl
      try simp only [tD]
      refine' tk 6 hS ?_ ?_;rotate_left;·intros;go_simp;try rfl
      refine' tk 7 hS ?_ ?_;rotate_left;·intro w hSw;have q1:=xc hSw d0;go_simp;try rfl
      refine' tk 8 hS ?_ ?_;rotate_left;·intros;go_simp;try rfl
      try simp only [tD]
      refine' tk 9 hS ?_ ?_;rotate_left;·intros;go_simp;try rfl
      refine' tk 10 hS ?_ ?_;rotate_left;·intro w hSw;have q3:=xc hSw s0;go_simp;try rfl
      refine' tk 11 hS ?_ ?_;rotate_left;·intros;go_simp;try rfl
      try simp only [tD]
      refine' tk 12 hS ?_ ?_;rotate_left;·intros;go_simp;try rfl
      refine' tk 13 hS ?_ ?_;rotate_left;·intros;go_simp;try rfl
      refine' tk 14 hS ?_ ?_;rotate_left;·intro w hSw;have q0:=xc hSw cK;go_simp;try rfl
      try simp only [tD]
      refine' tk 15 hS ?_ ?_;rotate_left;·intros;go_simp;try rfl
      refine' tk 16 hS ?_ ?_;rotate_left;·intros;go_simp;try rfl
      refine' tk 17 hS ?_ ?_;rotate_left;·intro w hSw;have q2:=xc hSw d1;go_simp;try rfl
      try simp only [tD]
      refine' tk 18 hS ?_ ?_;rotate_left;·intros;go_simp;try rfl
      refine' tk 19 hS ?_ ?_;rotate_left;·intros;go_simp;try rfl
      refine' tk 20 hS ?_ ?_;rotate_left;·intro w hSw;have q4:=xc hSw s1;go_simp;try rfl
      try simp only [tD]
      generalize wr.drew=w4 at hS ⊢
      refine rl 21 fun K hK=>?_
      go_simp
      refine ((hlapc.out w4 (XX.out.trans hS))).mono ?_
      rintro e w5 ⟨rfl,x5⟩
      have hS0:=hS
      have hS:=Ext.trans hS x5
      refine hK.out _ _ ?_
      try simp only [tD]
      clear hK K
      refine' tw 22 ?_ ?_;rotate_left;·intros;go_simp;try rfl
      try simp only [tD]
      refine wpAnyM_done (by kernel_rfl) ?_ _
      refine hK1.out _ _ ?_
      have XF:=qh (hin2.out.1.trans hS)
      go_wp2_with fail
      go_roundw
      case rel=>exact ⟨q+1,by omega,by go_num,qh ⟨XF.out,HST.out⟩⟩
      case measure=>simp [intOf];omega
    ·have hno:(lb.any fun z=>!lapI L n z)=false:=by
      rw [List.any_eq_false]
      intro z hz
      obtain ⟨j,hj⟩:=List.getElem?_of_mem hz
      rw [hin2.out.2 j z (by have:=(List.getElem?_eq_some_iff.1 hj).1;omega) hj]
      simp
     have hst:∀ j y,j<m+1→la[j]?=some y→(lb.any fun q=>!lapI L y q)=false:=fun j y hj hy=>by
      by_cases e:j=m
      ·subst e;rw [HNN.out] at hy;cases hy;exact hno
      ·exact hin.out.2 j y (by omega) hy
     have HST:=qh hst
     have hqz:¬ (q:Int)<(lb.length:Int):=by omega
     clear hst hno
     go_wp2_with fail
     go_roundw
     case rel=>exact ⟨m+1,by omega,by go_num,qh ⟨hin.out.1.trans hin2.out.1,HST.out⟩⟩
     case measure=>simp [intOf];omega
  ·have hbad:Hid (res=false):=qh (by
    rw [← RES.out,List.any_eq_false]
    intro z hz
    obtain ⟨j,hj⟩:=List.getElem?_of_mem hz
    rw [hin.out.2 j z (by have:=(List.getElem?_eq_some_iff.1 hj).1;omega) hj]
    simp)
   have hmz:¬ (m:Int)<(la.length:Int):=by omega
   go_wp2_with fail
   go_ret
   exact ⟨by rw [hbad.out];rfl,hin.out.1⟩
end Go.Proofs.YtligiddaampneaaGreat
set_option maxRecDepth 100000
set_option maxHeartbeats 4000000
-- shrunk
namespace Go.Proofs.YtligiddaampneaaGreat
open Go.RowKit
attribute [local go_sem] Oper.semAt_some
variable {W : World} {n1 bt : Nat} {V : MV} {vK : Value} {M : Mach} {N : List ByteArray} {L : List Pl} {C : List (List Int)}
theorem mayT0_any (h:TabIn W n1 bt V vK M N L C) {k:Nat} {o:Opn} (ho:M.ops[k]?=some o) (hl:o.clob.length≤1000) (hN:N.length≤1000) (hlen:clsIx M o.dfn.cls<C.length) (r:Int) (hr:fits64 r) :
  Calls Tryz.prog 35 #[.pointer (some ⟨bt,0,none⟩),.int .i64 (k:Int),.int .i64 0,.int .i64 r] W fun e w'=>e=.returned (.bool (decide (r∈choI M N C o.dfn) && clearB N L o r))∧Ext W w':=by
 have c3:=h.ck.cells 3 _ rfl
 obtain ⟨b,off,cap,u,c,e,hl1,hl2,hb,o0,o1,o2,o3,o4,o5,hU,hK,_⟩:=h.ck.m.ops.at ho
 have hcho:=qh (choicesT_any h o.dfn hlen)
 have hclr:=qh (fun (w:World) (x:Ext W w)=>clearT_any (h.ext x) ho hl hN r hr)
 obtain ⟨ua,uc,eu,_,_⟩:=hU.form
 have hkz:(k:Int)<(M.ops.length:Int):=by have:=(List.getElem?_eq_some_iff.1 ho).1;omega
 have hkx:decide (M.ops.length≤k)=false:=decide_eq_false (by have:=(List.getElem?_eq_some_iff.1 ho).1;omega)
 have hky:¬ (M.ops.length:Int)≤(k:Int):=by omega
 have hk0:¬ (k:Int)<0:=by omega
 unfold maxLen at hl2
 obtain ⟨vR,vC,vO,vA,vS,vN,vP⟩:=V
 dsimp only at c3 e
 subst e eu
 obtain ⟨D,hD⟩:∃ x,choI M N C o.dfn=x:=⟨_,rfl⟩
 rw [hD] at hcho ⊢
 obtain ⟨cb,hcb⟩:∃ x,clearB N L o r=x:=⟨_,rfl⟩
 rw [hcb] at hclr ⊢
 obtain ⟨ib,hib⟩:∃ x,decide (r∈D)=x:=⟨_,rfl⟩
 have HIB:=qh hib
 rw [hib]
 clear h ho hU hK hD hcb hib
 go_enter Tryz.func35,Tryz.ntmps35
 cases ib
 all_goals
  cases cb
  all_goals
   go_wp2_with (first
    | (go_at_call 68;refine hcho.out.mono ?_;rintro e w1 ⟨u,rfl,hs,hx⟩;have hin:=inR_any u D r w1 hs;rw [HIB.out] at hin;have HIN:=qh hin;have X1:=qh hx;obtain ⟨_,_,eu,_,_⟩:=hs.shape;subst eu;clear hs hx hin)
    | (go_at_call 59;refine HIN.out.mono ?_;rintro e w' ⟨rfl,rfl⟩)
    | (go_at_call 69;refine (hclr.out _ X1.out).mono ?_;rintro e w2 ⟨rfl,hx2⟩;have X2:=qh (X1.out.trans hx2);clear hx2))
   go_ret
   exact ⟨rfl,X2.out⟩
end Go.Proofs.YtligiddaampneaaGreat
