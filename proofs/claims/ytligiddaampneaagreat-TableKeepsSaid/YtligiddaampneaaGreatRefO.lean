/- The reference's Arity, and its table's Fits. For every table that lies in memory. -/
import Derived.Test.YtligiddaampneaaGreatRefN
set_option maxRecDepth 100000
set_option maxHeartbeats 8000000
-- shrunk
namespace Go.Proofs.YtligiddaampneaaGreat
open Go.RowKit
attribute [local go_sem] Oper.semAt_some
theorem arityR_any (s:ByteArray) (w:World):Calls Tryz.prog 119 #[.string s] w fun e w'=>e=.returned (.int .i64 (arityOf s.data.toList))∧w=w':=by
 unfold arityOf
 cases h:opOf s.data.toList with
 | none =>
  have f_add:(s.toList == [97,100,100])=false:=noOp h .add
  have f_sub:(s.toList == [115,117,98])=false:=noOp h .sub
  have f_mul:(s.toList == [109,117,108])=false:=noOp h .mul
  have f_and:(s.toList == [97,110,100])=false:=noOp h .and
  have f_or:(s.toList == [111,114])=false:=noOp h .or
  have f_xor:(s.toList == [120,111,114])=false:=noOp h .xor
  have f_shl:(s.toList == [115,104,108])=false:=noOp h .shl
  have f_shr:(s.toList == [115,104,114])=false:=noOp h .shr
  have f_div:(s.toList == [100,105,118])=false:=noOp h .div
  have f_rem:(s.toList == [114,101,109])=false:=noOp h .rem
  have f_lt:(s.toList == [108,116])=false:=noOp h .lt
  have f_eq:(s.toList == [101,113])=false:=noOp h .eq
  have f_not:(s.toList == [110,111,116])=false:=noOp h .not
  clear h
  go_enter Tryz.func119,Tryz.ntmps119
  go_wp2
  go_ret
  exact ⟨rfl,rfl⟩
 | some o =>
  have hs:=bytes_eq (opOf_some h)
  clear h
  subst hs
  cases o
  all_goals
   simp only [OpN.bytes]
   go_enter Tryz.func119,Tryz.ntmps119
   go_wp2
   go_ret
   exact ⟨rfl,rfl⟩
variable {W : World} {n1 bt : Nat} {V : MV} {vK : Value} {M : Mach} {N : List ByteArray} {L : List Pl} {C : List (List Int)}
def okDef (M:Mach) (N:List ByteArray) (L:List Pl) (C:List (List Int)) (o:Opn) (x y:Int):Bool :=
 if 0≤o.tie then decide ((if o.tie=0 then x else y)∈choI M N C o.dfn) && clearB N L o (if o.tie=0 then x else y) else (choI M N C o.dfn).any (clearB N L o)
def useA (M:Mach) (N:List ByteArray) (C:List (List Int)) (o:Opn):List Int:=match o.uses with | u :: _=>choI M N C u | []=>[]
def useB (M:Mach) (N:List ByteArray) (C:List (List Int)) (o:Opn):List Int:=match o.uses with | _ :: u :: _=>choI M N C u | _=>[-1]
def fitsI (M:Mach) (N:List ByteArray) (L:List Pl) (C:List (List Int)) (o:Opn):Bool :=
 (useA M N C o).any fun x=>(useB M N C o).any fun y=>!lapI L x y && okDef M N L C o x y
theorem choI_fits (hN:N.length≤1000) (hok:∀ c∈C,∀ n∈c,fits64 n) {o:Opr} {n:Int} (hn:n∈choI M N C o):fits64 n:=by
 unfold choI at hn
 split at hn
 ·split at hn
  ·split at hn
   ·rename_i l hl
    exact hok l (List.mem_of_getElem? hl) n hn
   ·cases hn
  ·exact listS_fits hN hn
 ·cases hn
theorem fitsT2_any (h:TabIn W n1 bt V vK M N L C) {k:Nat} {o:Opn} (ho:M.ops[k]?=some o) (hl:o.clob.length≤1000) (hN:N.length≤1000) (hok:∀ c∈C,∀ n∈c,fits64 n)
  (hcl:∀ u:Opr,clsIx M u.cls<C.length) (hu1:1≤o.uses.length) (htie:o.tie<2) :
  Calls Tryz.prog 73 #[.pointer (some ⟨bt,0,none⟩),.int .i64 (k:Int)] W fun e w'=>e=.returned (.bool (fitsI M N L C o))∧Ext W w':=by
 have c3:=h.ck.cells 3 _ rfl
 have HT:=qh h
 have HO:=qh ho
 have HL:=qh hl
 have HOK:=qh hok
 have HCL:=qh hcl
 have hle:=h.ck.le
 obtain ⟨b,off,cap,u,c,e,hl1,hl2,hb,o0,o1,o2,o3,o4,o5,hU,hK,hti⟩:=h.ck.m.ops.at ho
 obtain ⟨ua,uc,eu,hul,hul2⟩:=hU.form
 obtain ⟨ka,kc,ek,_,_⟩:=hK.form
 have hkz:(k:Int)<(M.ops.length:Int):=by have:=(List.getElem?_eq_some_iff.1 ho).1;omega
 have hkx:decide (M.ops.length≤k)=false:=decide_eq_false (by have:=(List.getElem?_eq_some_iff.1 ho).1;omega)
 have hky:¬ (M.ops.length:Int)≤(k:Int):=by omega
 have hk0:¬ (k:Int)<0:=by omega
 unfold maxLen at hl2 hul2
 obtain ⟨vR,vC,vO,vA,vS,vN,vP⟩:=V
 dsimp only at c3 e
 subst e eu ek
 have HU:=qh hU
 obtain ⟨res,hres⟩:∃ x,fitsI M N L C o=x:=⟨_,rfl⟩
 rw [hres]
 have RES:=qh hres
 obtain ⟨u0,hu0⟩:∃ x,o.uses[0]?=some x:=⟨_,lE (by omega)⟩
 have hA:useA M N C o=choI M N C u0:=by
  unfold useA
  cases hh:o.uses with
  | nil=>rw [hh] at hu0;cases hu0
  | cons y l=>rw [hh] at hu0;cases hu0;rfl
 have hA':=qh hA
 clear h ho hl hok hcl hK hres hU hA
 have x1:Ext W (W.alloc (.cells #[.string o.name,.string o.dfn.cls,.string o.dfn.fix,.slice ua o.uses.length uc,.int .i64 o.tie,.slice ka o.clob.length kc] 60)):=Ext.alloc _ _
 have hcc:=cells_one W [.string o.name,.string o.dfn.cls,.string o.dfn.fix,.slice ua o.uses.length uc,.int .i64 o.tie,.slice ka o.clob.length kc] 60
 have d1:=hcc 1 _ rfl
 have d2:=hcc 2 _ rfl
 have d3:=hcc 3 _ rfl
 have d4:=hcc 4 _ rfl
 clear hcc
 go_enter Tryz.func73,Tryz.ntmps73
 go_upto_region 4 with (fail)
 generalize W.alloc (.cells #[.string o.name,.string o.dfn.cls,.string o.dfn.fix,.slice ua o.uses.length uc,.int .i64 o.tie,.slice ka o.clob.length kc] 60)=w1 at x1 d1 d2 d3 d4 ⊢
 generalize W.heap.size=bo at d1 d2 d3 d4 ⊢
 obtain ⟨b0,f0,p0,e0,_,_,_,g0,g1⟩:=OprsIn.at (Tab.same HU.out (fun k hk=>Below.block x1 k (Nat.lt_of_lt_of_le hk hle))) hu0
 cases e0
 simp only [Nat.zero_mul,Nat.add_zero] at g0 g1
 have hch0:=qh (choicesT_any (HT.out.ext x1) u0 (HCL.out u0))
 have X1:=qh x1
 have huz:(0:Int)<(o.uses.length:Int):=by omega
 clear x1 hu0
 go_upto_region 5 with (go_at_call 68;refine hch0.out.mono ?_;rintro e w2 ⟨uA,rfl,hsA,hx2⟩)
 rw [← hA'.out] at hsA
 obtain ⟨aA,cA,eA,hA1,hA2⟩:=hsA.shape
 subst eA
 unfold maxLen at hA2
 have HSA:=qh hsA
 have X2:=qh (X1.out.trans hx2)
 have d1:=xc hx2 d1
 have d2:=xc hx2 d2
 have d3:=xc hx2 d3
 have d4:=xc hx2 d4
 clear hsA hx2 g0 g1 hch0
 have x3:Ext w2 (w2.alloc (.cells #[.int .i64 (-1)] 3)):=Ext.alloc _ _
 have hnb:=heap_alloc_new w2 (.cells #[.int .i64 (-1)] 3)
 have hm1:IntsIn (w2.alloc (.cells #[.int .i64 (-1)] 3)) (w2.heap.size+1) (.slice (some ⟨w2.heap.size,0,none⟩) 1 1) [-1]:=Tab.of_new (rows:=[[.int .i64 (-1)]]) hnb (by simp) le_max1
 clear hnb
 go_upto_region 6 with (fail)
 generalize w2.alloc (.cells #[.int .i64 (-1)] 3)=w3 at x3 hm1 ⊢
 have HM1:=qh hm1.slice
 generalize w2.heap.size=bm1 at hm1 HM1 ⊢
 have d1:=xc x3 d1
 have d2:=xc x3 d2
 have d3:=xc x3 d3
 have d4:=xc x3 d4
 have HSA:=qh (HSA.out.below x3)
 have X3:=qh (X2.out.trans x3)
 clear x3 hm1
 go_upto_if 46 with (fail)
 go_cut [7] from 42 to 53 (fun bv wx=>Ext w3 wx∧∃ aB cB,bv=.slice aB (useB M N C o).length cB∧SliceInts wx (.slice aB (useB M N C o).length cB) (useB M N C o))
 case first =>
  by_cases h2:1<o.uses.length
  ·have h2z:(1:Int)<(o.uses.length:Int):=by omega
   obtain ⟨u1,hu1'⟩:∃ x,o.uses[1]?=some x:=⟨_,lE (by omega)⟩
   have hB:useB M N C o=choI M N C u1:=by
    unfold useB
    cases hh:o.uses with
    | nil=>rw [hh] at hu1';cases hu1'
    | cons y l =>
     rw [hh] at hu1'
     cases l with
     | nil=>cases hu1'
     | cons z l=>cases hu1';rfl
   obtain ⟨b0,f0,p0,e0,_,_,_,g0,g1⟩:=OprsIn.at (Tab.same HU.out (fun k hk=>Below.block X3.out k (Nat.lt_of_lt_of_le hk hle))) hu1'
   cases e0
   simp only [Nat.one_mul] at g0 g1
   have hch1:=qh (choicesT_any (HT.out.ext X3.out) u1 (HCL.out u1))
   have HB:=qh hB
   clear hu1' hB
   go_wp2_with (go_at_call 68;refine hch1.out.mono ?_;rintro e w4 ⟨uB,rfl,hsB,hx4⟩;have HSB:=qh hsB;have X4:=qh hx4;clear hsB hx4)
   go_meet
   case rel =>
    obtain ⟨aB,cB,eB,_,_⟩:=HSB.out.shape
    rw [HB.out]
    exact ⟨X4.out,aB,cB,eB,by rw [← eB];exact HSB.out⟩
  ·have h2z:¬ (1:Int)<(o.uses.length:Int):=by omega
   have hB:useB M N C o=[-1]:=by
    unfold useB
    cases hh:o.uses with
    | nil=>rfl
    | cons y l =>
     cases l with
     | nil=>rfl
     | cons z l=>rw [hh] at h2;simp at h2
   have HB:=qh hB
   clear hB
   go_wp2_with fail
   go_meet
   case rel=>exact ⟨Ext.refl _,some ⟨bm1,0,none⟩,1,by rw [HB.out];rfl,by rw [HB.out];exact HM1.out⟩
 case rest =>
 obtain ⟨hx4,aB,cB,rfl,hsB⟩:=hcut
 have d1:=xc hx4 d1
 have d2:=xc hx4 d2
 have d3:=xc hx4 d3
 have d4:=xc hx4 d4
 have HSA:=qh (HSA.out.below hx4)
 have HSB:=qh hsB
 have X4:=qh (X3.out.trans hx4)
 obtain ⟨_,_,eB,hB1,hB2⟩:=hsB.shape
 cases eB
 unfold maxLen at hB2
 have hfA:=qh (fun n (hn:n∈useA M N C o)=>(by rw [hA'.out] at hn;exact choI_fits hN HOK.out hn:fits64 n))
 have hfB:=qh (fun n (hn:n∈useB M N C o)=>(by
  unfold useB at hn
  split at hn
  ·exact choI_fits hN HOK.out hn
  ·rw [List.mem_singleton] at hn;subst hn;exact fits_m1:fits64 n))
 have hRES:=RES.out
 unfold fitsI at hRES
 have RES:=qh hRES
 generalize useA M N C o=A at HSA hfA RES hA1 ⊢
 generalize useB M N C o=B at HSB hfB RES hB1 ⊢
 clear hx4 hsB hRES HM1
 go_wp2_with fail
 go_loopw [8] (fun i wr=>∃ m:Nat,m≤A.length∧i=.int .i64 m∧Hid (Ext wc wr∧∀ j x,j<m→A[j]?=some x→(B.any fun y=>!lapI L x y && okDef M N L C o x y)=false)) (fun i _=>A.length - (intOf i).toNat)
 case atStart=>exact ⟨0,by omega,rfl,qh ⟨Ext.refl _,fun j x hj=>by omega⟩⟩
 case round =>
  obtain ⟨m,hm,rfl,hin⟩:=hrel
  rename World=>w5
  by_cases hlt:m<A.length
  ·have hmz:(m:Int)<(A.length:Int):=by omega
   obtain ⟨x,hx⟩:∃ x,A[m]?=some x:=⟨_,lE hlt⟩
   have HX:=qh hx
   clear hx
   go_wp2_with fail
   go_loopw [9] (fun t wr=>∃ q:Nat,q≤B.length∧t=.int .i64 q∧Hid (Ext w5 wr∧∀ j y,j<q→B[j]?=some y→(!lapI L x y && okDef M N L C o x y)=false)) (fun t _=>B.length - (intOf t).toNat)
   case atStart=>exact ⟨0,by omega,rfl,qh ⟨Ext.refl _,fun j y hj=>by omega⟩⟩
   case round =>
    obtain ⟨q,hq,rfl,hin2⟩:=hrel
    rename World=>w6
    by_cases hlq:q<B.length
    ·have hqz:(q:Int)<(B.length:Int):=by omega
     obtain ⟨y,hy⟩:∃ x,B[q]?=some x:=⟨_,lE hlq⟩
     have xx:=hin.out.1.trans hin2.out.1
     obtain ⟨b5,f5,p5,e5,_,_,_,h5⟩:=Row.at (HSA.out.below xx) (fun e=>by rw [List.map_eq_nil_iff] at e;rw [e] at hlt;simp at hlt)
     cases e5
     have s0:=h5 m (.int .i64 x) (by rw [List.getElem?_map,HX.out];rfl)
     obtain ⟨b6,f6,p6,e6,_,_,_,h6⟩:=Row.at (HSB.out.below xx) (fun e=>by rw [List.map_eq_nil_iff] at e;rw [e] at hlq;simp at hlq)
     cases e6
     have s1:=h6 q (.int .i64 y) (by rw [List.getElem?_map,hy];rfl)
     have XX:=qh (X4.out.trans xx)
     have d1:=xc xx d1
     have d2:=xc xx d2
     have d3:=xc xx d3
     have d4:=xc xx d4
     have hlapc:=qh (fun (w:World) (x':Ext W w)=>lapT_any (HT.out.ext x') x y (hfA.out x (List.mem_of_getElem? HX.out)) (hfB.out y (List.mem_of_getElem? hy)))
     have HY:=qh hy
     clear hy xx h5 h6
     obtain ⟨bb,hbb⟩:∃ z,lapI L x y=z:=⟨_,rfl⟩
     rw [hbb] at hlapc
     have HBB:=qh hbb
     clear hbb
     go_upto_region 14 with (fail)
     rename_i K1 hK1
     have hK1:=qh hK1
     refine wp_region_M (fun w'=>Ext w6 w') 9 (by kernel_rfl) (Ext.drew _) (fun hS=>?_)
     refine' tk 0 hS ?_ ?_;rotate_left;·intros;go_simp;try rfl
     refine' tk 1 hS ?_ ?_;rotate_left;·intros;go_simp;try rfl
     refine' tk 2 hS ?_ ?_;rotate_left;·intros;go_simp;try rfl
     try simp only [tD]
     refine' tk 3 hS ?_ ?_;rotate_left;·intros;go_simp;try rfl
     refine' tk 4 hS ?_ ?_;rotate_left;·intro w hSw;have q0:=xc hSw s0;go_simp;try rfl
     refine' tk 5 hS ?_ ?_;rotate_left;·intros;go_simp;try rfl
     try simp only [tD]
     refine' tk 6 hS ?_ ?_;rotate_left;·intros;go_simp;try rfl
     refine' tk 7 hS ?_ ?_;rotate_left;·intros;go_simp;try rfl
     refine' tk 8 hS ?_ ?_;rotate_left;·intro w hSw;have q1:=xc hSw s1;go_simp;try rfl
     try simp only [tD]
     generalize w6.drew=w7 at hS ⊢
     refine rl 9 fun K hK=>?_
     go_simp
     refine ((hlapc.out w7 (XX.out.trans hS))).mono ?_
     rintro e w8 ⟨rfl,x8⟩
     have hS0:=hS
     have hS:=Ext.trans hS x8
     refine hK.out _ _ ?_
     try simp only [tD]
     clear hK K
     refine' tw 10 ?_ ?_;rotate_left;·intros;go_simp;try rfl
     try simp only [tD]
     refine wpAnyM_done (by kernel_rfl) ?_ _
     refine hK1.out _ _ ?_
     have X8:=qh hS
     clear hS hS0 x8 hlapc
     cases bb with
     | true =>
      have hst:∀ j z,j<q+1→B[j]?=some z→(!lapI L x z && okDef M N L C o x z)=false:=fun j z hj hz=>by
       by_cases e:j=q
       ·subst e;rw [HY.out] at hz;cases hz;rw [HBB.out];rfl
       ·exact hin2.out.2 j z (by omega) hz
      have HST:=qh hst
      clear hst
      go_wp2_with fail
      go_roundw
      case rel=>exact ⟨q+1,by omega,by go_num,qh ⟨hin2.out.1.trans X8.out,HST.out⟩⟩
      case measure=>simp [intOf];omega
     | false =>
      have xx8:=XX.out.trans X8.out
      have d1:=xc X8.out d1
      have d2:=xc X8.out d2
      have d3:=xc X8.out d3
      have d4:=xc X8.out d4
      have s0:=xc X8.out s0
      have s1:=xc X8.out s1
      have XX8:=qh xx8
      obtain ⟨db,hdb⟩:∃ z,okDef M N L C o x y=z:=⟨_,rfl⟩
      have HDB:=qh hdb
      have hst:db=false→∀ j z,j<q+1→B[j]?=some z→(!lapI L x z && okDef M N L C o x z)=false:=fun hf j z hj hz=>by
       by_cases e:j=q
       ·subst e;rw [HY.out] at hz;cases hz;rw [HDB.out,hf,Bool.and_false]
       ·exact hin2.out.2 j z (by omega) hz
      have hgd:db=true→res=true:=fun ht=>by
       rw [← RES.out,List.any_eq_true]
       refine ⟨x,List.mem_of_getElem? HX.out,?_⟩
       rw [List.any_eq_true]
       exact ⟨y,List.mem_of_getElem? HY.out,by rw [HBB.out,HDB.out,ht];rfl⟩
      have HST:=qh hst
      have HGD:=qh hgd
      clear hst hgd hdb xx8
      by_cases ht0:o.tie<0
      ·have hokd:okDef M N L C o x y=(choI M N C o.dfn).any (clearB N L o):=by unfold okDef;rw [if_neg (by omega)]
       have hch:=qh (choicesT_any (HT.out.ext XX8.out) o.dfn (HCL.out o.dfn))
       rw [HDB.out] at hokd
       have HOKD:=qh hokd
       have hfD:=qh (fun n (hn:n∈choI M N C o.dfn)=>(choI_fits hN HOK.out hn:fits64 n))
       generalize choI M N C o.dfn=D at hch HOKD hfD
       clear hokd
       go_upto_region 22 with (go_at_call 68;refine hch.out.mono ?_;rintro e w9 ⟨uD,rfl,hsD,hx9⟩)
       obtain ⟨aD,cD,eD,hD1,hD2⟩:=hsD.shape
       subst eD
       unfold maxLen at hD2
       have HSD:=qh hsD
       have X9:=qh (XX8.out.trans hx9)
       have Y9:=qh hx9
       clear hsD hx9 hch
       go_wp2_with fail
       go_loopw [14] (fun t wr=>∃ g:Nat,g≤D.length∧t=.int .i64 g∧Hid (Ext w9 wr∧∀ j z,j<g→D[j]?=some z→clearB N L o z=false)) (fun t _=>D.length - (intOf t).toNat)
       case atStart=>exact ⟨0,by omega,rfl,qh ⟨Ext.refl _,fun j z hj=>by omega⟩⟩
       case round =>
        obtain ⟨g,hg,rfl,hin3⟩:=hrel
        by_cases hlg:g<D.length
        ·have hgz:(g:Int)<(D.length:Int):=by omega
         obtain ⟨z,hz⟩:∃ x,D[g]?=some x:=⟨_,lE hlg⟩
         obtain ⟨b7,f7,p7,e7,_,_,_,h7⟩:=Row.at (HSD.out.below hin3.out.1) (fun e=>by rw [List.map_eq_nil_iff] at e;rw [e] at hlg;simp at hlg)
         cases e7
         have s7:=h7 g (.int .i64 z) (by rw [List.getElem?_map,hz];rfl)
         have hclr:=qh (clearT_any (HT.out.ext (X9.out.trans hin3.out.1)) HO.out HL.out hN z (hfD.out z (List.mem_of_getElem? hz)))
         obtain ⟨cb,hcb⟩:∃ v,clearB N L o z=v:=⟨_,rfl⟩
         rw [hcb] at hclr
         have HZ:=qh (And.intro hz hcb)
         clear hz hcb h7
         cases cb with
         | true =>
          have hgood:Hid (res=true):=qh (HGD.out (by rw [HOKD.out,List.any_eq_true];exact ⟨z,List.mem_of_getElem? HZ.out.1,HZ.out.2⟩))
          go_wp2_with (go_at_call 69;refine hclr.out.mono ?_;rintro e w10 ⟨rfl,hx10⟩;have X10:=qh hx10;clear hx10)
          go_ret
          exact ⟨by rw [hgood.out];rfl,X9.out.trans (hin3.out.1.trans X10.out)⟩
         | false =>
          have hs3:∀ j v,j<g+1→D[j]?=some v→clearB N L o v=false:=fun j v hj hv=>by
           by_cases e:j=g
           ·subst e;rw [HZ.out.1] at hv;cases hv;exact HZ.out.2
           ·exact hin3.out.2 j v (by omega) hv
          have HS3:=qh hs3
          clear hs3
          go_wp2_with (go_at_call 69;refine hclr.out.mono ?_;rintro e w10 ⟨rfl,hx10⟩;have X10:=qh hx10;clear hx10)
          go_roundw
          case rel=>exact ⟨g+1,by omega,by go_num,qh ⟨hin3.out.1.trans X10.out,HS3.out⟩⟩
          case measure=>simp [intOf];omega
        ·have hDn:D.any (clearB N L o)=false:=by
          rw [List.any_eq_false]
          intro z hz
          obtain ⟨j,hj⟩:=List.getElem?_of_mem hz
          rw [hin3.out.2 j z (by have:=(List.getElem?_eq_some_iff.1 hj).1;omega) hj]
          simp
         have hbad:Hid (res=false):=qh (by
          rw [← RES.out,List.any_eq_false]
          intro x' hx'
          rw [Bool.not_eq_true,List.any_eq_false]
          intro y' hy'
          have:okDef M N L C o x' y'=false:=by
           have e1:okDef M N L C o x' y'=okDef M N L C o x y:=by unfold okDef;rw [if_neg (by omega),if_neg (by omega)]
           rw [e1,HDB.out,HOKD.out,hDn]
          rw [this,Bool.and_false]
          simp)
         have hgz:¬ (g:Int)<(D.length:Int):=by omega
         clear hDn
         go_wp2_with fail
         go_ret
         exact ⟨by rw [hbad.out];rfl,X9.out.trans hin3.out.1⟩
      ·by_cases htt:o.tie=0
       ·skip
        have hokd:okDef M N L C o x y=(decide (x∈choI M N C o.dfn) && clearB N L o x):=by unfold okDef;rw [htt];rfl
        rw [HDB.out] at hokd
        have hmay:=qh (fun (w:World) (x':Ext W w)=>mayT0_any (HT.out.ext x') HO.out HL.out hN (HCL.out o.dfn) x (hfA.out x (List.mem_of_getElem? HX.out)))
        rw [← hokd] at hmay
        rw [htt] at d4
        clear hokd htt ht0
        go_upto_region 17 with (fail)
        rename_i K1 hK1
        have hK1:=qh hK1
        refine wp_region_M (fun w'=>Ext w8 w') 13 (by kernel_rfl) (Ext.drew _) (fun hS=>?_)
        refine' tk 0 hS ?_ ?_;rotate_left;·intros;go_simp;try rfl
        refine' tk 1 hS ?_ ?_;rotate_left;·intros;go_simp;try rfl
        refine' tk 2 hS ?_ ?_;rotate_left;·intros;go_simp;try rfl
        try simp only [tD]
        refine' tk 3 hS ?_ ?_;rotate_left;·intro w hSw;have q0:=xc hSw s0;go_simp;try rfl
        refine' tk 4 hS ?_ ?_;rotate_left;·intros;go_simp;try rfl
        refine' tk 5 hS ?_ ?_;rotate_left;·intros;go_simp;try rfl
        try simp only [tD]
        refine' tk 6 hS ?_ ?_;rotate_left;·intros;go_simp;try rfl
        refine' tk 7 hS ?_ ?_;rotate_left;·intro w hSw;have q1:=xc hSw s1;go_simp;try rfl
        refine' tk 9 hS ?_ ?_;rotate_left;·intros;go_simp;try rfl
        try simp only [tD]
        refine' tk 10 hS ?_ ?_;rotate_left;·intro w hSw;have q4:=xc hSw d4;go_simp;try rfl
        try simp only [tD]
        generalize w8.drew=w9 at hS ⊢
        refine rc 8 fun K hK=>?_
        go_simp
        have x9:Ext w8 (w9.alloc (.cells #[.int .i64 x,.int .i64 y] 3)):=hS.trans (Ext.alloc _ _)
        have n0:(w9.alloc (.cells #[.int .i64 x,.int .i64 y] 3)).cell? ⟨w9.heap.size,0,none⟩=some (.int .i64 x):=cell_new w9 _ _ 0
        refine hK.out _ _ x9 ?_
        try simp only [tD]
        clear hK K
        have hS:=x9
        generalize w9.alloc (.cells #[.int .i64 x,.int .i64 y] 3)=w10 at x9 hS n0 ⊢
        refine' tk 11 hS ?_ ?_;rotate_left;·intros;go_simp;try rfl
        try simp only [tD]
        refine rc 12 fun K hK=>?_
        go_simp
        refine hK.out _ _ hS ?_
        try simp only [tD]
        clear hK K
        refine rl 13 fun K hK=>?_
        go_simp
        refine hK.out _ _ ?_
        try simp only [tD]
        clear hK K
        refine wpAnyM_done (by kernel_rfl) ?_ _
        refine hK1.out _ _ ?_
        have X10:=qh (XX8.out.trans x9)
        have Y10:=qh (X8.out.trans x9)
        clear hS x9 n0
        cases db with
        | true =>
         have hgood:=qh (HGD.out rfl)
         go_wp2_with (go_at_call 35;refine (hmay.out _ X10.out).mono ?_;rintro e w11 ⟨rfl,hx11⟩;have X11:=qh hx11;clear hx11)
         go_ret
         exact ⟨by rw [hgood.out];rfl,X10.out.trans X11.out⟩
        | false =>
         have hs9:=qh (HST.out rfl)
         go_wp2_with (go_at_call 35;refine (hmay.out _ X10.out).mono ?_;rintro e w11 ⟨rfl,hx11⟩;have X11:=qh hx11;clear hx11)
         go_roundw
         case rel=>exact ⟨q+1,by omega,by go_num,qh ⟨hin2.out.1.trans (Y10.out.trans X11.out),hs9.out⟩⟩
         case measure=>simp [intOf];omega
       ·have htt:o.tie=1:=by omega
        have hokd:okDef M N L C o x y=(decide (y∈choI M N C o.dfn) && clearB N L o y):=by unfold okDef;rw [htt];rfl
        rw [HDB.out] at hokd
        have hmay:=qh (fun (w:World) (x':Ext W w)=>mayT0_any (HT.out.ext x') HO.out HL.out hN (HCL.out o.dfn) y (hfB.out y (List.mem_of_getElem? HY.out)))
        rw [← hokd] at hmay
        rw [htt] at d4
        clear hokd htt ht0
        go_upto_region 17 with (fail)
        rename_i K1 hK1
        have hK1:=qh hK1
        refine wp_region_M (fun w'=>Ext w8 w') 13 (by kernel_rfl) (Ext.drew _) (fun hS=>?_)
        refine' tk 0 hS ?_ ?_;rotate_left;·intros;go_simp;try rfl
        refine' tk 1 hS ?_ ?_;rotate_left;·intros;go_simp;try rfl
        refine' tk 2 hS ?_ ?_;rotate_left;·intros;go_simp;try rfl
        try simp only [tD]
        refine' tk 3 hS ?_ ?_;rotate_left;·intro w hSw;have q0:=xc hSw s0;go_simp;try rfl
        refine' tk 4 hS ?_ ?_;rotate_left;·intros;go_simp;try rfl
        refine' tk 5 hS ?_ ?_;rotate_left;·intros;go_simp;try rfl
        try simp only [tD]
        refine' tk 6 hS ?_ ?_;rotate_left;·intros;go_simp;try rfl
        refine' tk 7 hS ?_ ?_;rotate_left;·intro w hSw;have q1:=xc hSw s1;go_simp;try rfl
        refine' tk 9 hS ?_ ?_;rotate_left;·intros;go_simp;try rfl
        try simp only [tD]
        refine' tk 10 hS ?_ ?_;rotate_left;·intro w hSw;have q4:=xc hSw d4;go_simp;try rfl
        try simp only [tD]
        generalize w8.drew=w9 at hS ⊢
        refine rc 8 fun K hK=>?_
        go_simp
        have x9:Ext w8 (w9.alloc (.cells #[.int .i64 x,.int .i64 y] 3)):=hS.trans (Ext.alloc _ _)
        have n0:(w9.alloc (.cells #[.int .i64 x,.int .i64 y] 3)).cell? ⟨w9.heap.size,1,none⟩=some (.int .i64 y):=cell_new w9 _ _ 1
        refine hK.out _ _ x9 ?_
        try simp only [tD]
        clear hK K
        have hS:=x9
        generalize w9.alloc (.cells #[.int .i64 x,.int .i64 y] 3)=w10 at x9 hS n0 ⊢
        refine' tk 11 hS ?_ ?_;rotate_left;·intros;go_simp;try rfl
        try simp only [tD]
        refine rc 12 fun K hK=>?_
        go_simp
        refine hK.out _ _ hS ?_
        try simp only [tD]
        clear hK K
        refine rl 13 fun K hK=>?_
        go_simp
        refine hK.out _ _ ?_
        try simp only [tD]
        clear hK K
        refine wpAnyM_done (by kernel_rfl) ?_ _
        refine hK1.out _ _ ?_
        have X10:=qh (XX8.out.trans x9)
        have Y10:=qh (X8.out.trans x9)
        clear hS x9 n0
        cases db with
        | true =>
         have hgood:=qh (HGD.out rfl)
         go_wp2_with (go_at_call 35;refine (hmay.out _ X10.out).mono ?_;rintro e w11 ⟨rfl,hx11⟩;have X11:=qh hx11;clear hx11)
         go_ret
         exact ⟨by rw [hgood.out];rfl,X10.out.trans X11.out⟩
        | false =>
         have hs9:=qh (HST.out rfl)
         go_wp2_with (go_at_call 35;refine (hmay.out _ X10.out).mono ?_;rintro e w11 ⟨rfl,hx11⟩;have X11:=qh hx11;clear hx11)
         go_roundw
         case rel=>exact ⟨q+1,by omega,by go_num,qh ⟨hin2.out.1.trans (Y10.out.trans X11.out),hs9.out⟩⟩
         case measure=>simp [intOf];omega
    ·have hno:(B.any fun y=>!lapI L x y && okDef M N L C o x y)=false:=by
      rw [List.any_eq_false]
      intro z hz
      obtain ⟨j,hj⟩:=List.getElem?_of_mem hz
      rw [hin2.out.2 j z (by have:=(List.getElem?_eq_some_iff.1 hj).1;omega) hj]
      simp
     have hst:∀ j z,j<m+1→A[j]?=some z→(B.any fun y=>!lapI L z y && okDef M N L C o z y)=false:=fun j z hj hz=>by
      by_cases e:j=m
      ·subst e;rw [HX.out] at hz;cases hz;exact hno
      ·exact hin.out.2 j z (by omega) hz
     have HST:=qh hst
     have hqz:¬ (q:Int)<(B.length:Int):=by omega
     clear hst hno
     go_wp2_with fail
     go_roundw
     case rel=>exact ⟨m+1,by omega,by go_num,qh ⟨hin.out.1.trans hin2.out.1,HST.out⟩⟩
     case measure=>simp [intOf];omega
  ·have hbad:Hid (res=false):=qh (by
    rw [← RES.out,List.any_eq_false]
    intro z hz
    obtain ⟨j,hj⟩:=List.getElem?_of_mem hz
    rw [hin.out.2 j z (by have:=(List.getElem?_eq_some_iff.1 hj).1;omega) hj]
    simp)
   have hmz:¬ (m:Int)<(A.length:Int):=by omega
   go_wp2_with fail
   go_ret
   exact ⟨by rw [hbad.out];rfl,X4.out.trans hin.out.1⟩
end Go.Proofs.YtligiddaampneaaGreat
