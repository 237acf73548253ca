/- The reference's table: Pair. For every table that lies in memory. -/
import Derived.Test.YtligiddaampneaaGreatRefL
-- shrunk
namespace Go.Proofs.YtligiddaampneaaGreat
open Go.RowKit
attribute [local go_sem] Oper.semAt_some
variable {W : World} {n1 bt : Nat} {V : MV} {vK : Value} {M : Mach} {N : List ByteArray} {L : List Pl} {C : List (List Int)}
def pairI (L:List Pl) (C:List (List Int)) (a b:Int):Bool:=if 0≤a∧0≤b then (match C[a.toNat]?,C[b.toNat]? with
 | some x,some y=>x.any fun p=>y.any fun q=>!lapI L p q
 | _,_=>false) else false
set_option maxRecDepth 100000 in
set_option maxHeartbeats 4000000 in
theorem pairT2_any (h:TabIn W n1 bt V vK M N L C) (hok:∀ c∈C,∀ n∈c,fits64 n) (a b:Int) :
  Calls Tryz.prog 74 #[.pointer (some ⟨bt,0,none⟩),.int .i64 a,.int .i64 b] W fun e w'=>e=.returned (.bool (pairI L C a b))∧Ext W w':=by
 have cK:=h.cl
 have HT:=Lib.hid h
 obtain ⟨aK,capK,ev,hl1,hl2⟩:=h.k.form
 rw [ev] at cK
 unfold maxLen at hl2
 have HOK:=Lib.hid hok
 clear h hok
 obtain ⟨res,hres⟩:∃ x,pairI L C a b=x:=⟨_,rfl⟩
 rw [hres]
 unfold pairI at hres
 go_enter Tryz.func74,Tryz.ntmps74
 by_cases h1:a<0
 ·rw [if_neg (by omega)] at hres
  subst hres
  go_wp2
  go_ret
  exact ⟨rfl,Ext.refl _⟩
 by_cases h2:b<0
 ·rw [if_neg (by omega)] at hres
  subst hres
  go_wp2
  go_ret
  exact ⟨rfl,Ext.refl _⟩
 rw [if_pos (by omega)] at hres
 obtain ⟨ka,rfl⟩:∃ k:Nat,a=k:=⟨a.toNat,by omega⟩
 obtain ⟨kb,rfl⟩:∃ k:Nat,b=k:=⟨b.toNat,by omega⟩
 rw [Int.toNat_natCast,Int.toNat_natCast] at hres
 by_cases h3:C.length≤ka
 ·rw [List.getElem?_eq_none h3] at hres
  dsimp only at hres
  subst hres
  have hd:(C.length:Int)≤(ka:Int):=by omega
  go_wp2
  go_ret
  exact ⟨rfl,Ext.refl _⟩
 have h3z:(ka:Int)<(C.length:Int):=by omega
 have h3x:decide (C.length≤ka)=false:=decide_eq_false h3
 obtain ⟨la,hla⟩:∃ x,C[ka]?=some x:=⟨_,List.getElem?_eq_getElem (by omega)⟩
 by_cases h4:C.length≤kb
 ·rw [hla,List.getElem?_eq_none h4] at hres
  dsimp only at hres
  subst hres
  have hd:(C.length:Int)≤(kb:Int):=by omega
  clear hla
  go_wp2
  go_ret
  exact ⟨rfl,Ext.refl _⟩
 have h4z:(kb:Int)<(C.length:Int):=by omega
 have h4x:decide (C.length≤kb)=false:=decide_eq_false h4
 obtain ⟨lb,hlb⟩:∃ x,C[kb]?=some x:=⟨_,List.getElem?_eq_getElem (by omega)⟩
 rw [hla,hlb] at hres
 dsimp only at hres
 obtain ⟨b1,o1,p1,ua,uc,e1,_,_,d0,hia⟩:=HT.out.k.at hla
 rw [ev] at e1
 cases e1
 obtain ⟨_,_,_,va,vc,e2,_,_,d1,hib⟩:=HT.out.k.at hlb
 rw [ev] at e2
 cases e2
 have hfa:=Lib.hid (HOK.out la (List.mem_of_getElem? hla))
 have hfb:=Lib.hid (HOK.out lb (List.mem_of_getElem? hlb))
 have HIA:=Lib.hid hia
 have HIB:=Lib.hid hib
 have hle:=HT.out.ck.le
 obtain ⟨_,_,ea,ha1,ha2⟩:=hia.form
 obtain ⟨_,_,eb,hb1,hb2⟩:=hib.form
 unfold maxLen at ha2 hb2
 cases ea
 cases eb
 have RES:=Lib.hid hres
 clear hla hlb hia hib hres ev
 go_wp2
 go_loopw [7] (fun i wr=>∃ m:Nat,m≤la.length∧i=.int .i64 m∧Hid (Ext W wr∧∀ j n,j<m→la[j]?=some n→(lb.any fun q=>!lapI L n q)=false)) (fun i _=>la.length - (intOf i).toNat)
 case atStart=>exact ⟨0,by omega,rfl,Lib.hid ⟨Ext.refl _,fun j n hj=>by omega⟩⟩
 case round =>
  obtain ⟨m,hm,rfl,hin⟩:=hrel
  rename World=>w0
  have cK:=Ext.cell hin.out.1 cK
  have d0:=Ext.cell hin.out.1 d0
  have d1:=Ext.cell hin.out.1 d1
  by_cases hlt:m<la.length
  ·have hmz:(m:Int)<(la.length:Int):=by omega
   obtain ⟨n,hn⟩:∃ x,la[m]?=some x:=⟨_,List.getElem?_eq_getElem hlt⟩
   have HNN:=Lib.hid hn
   clear hn
   go_wp2
   go_loopw [8] (fun t wr=>∃ q:Nat,q≤lb.length∧t=.int .i64 q∧Hid (Ext w0 wr∧∀ j y,j<q→lb[j]?=some y→lapI L n y=true)) (fun t _=>lb.length - (intOf t).toNat)
   case atStart=>exact ⟨0,by omega,rfl,Lib.hid ⟨Ext.refl _,fun j y hj=>by omega⟩⟩
   case round =>
    obtain ⟨q,hq,rfl,hin2⟩:=hrel
    have cK:=Ext.cell hin2.out.1 cK
    have d0:=Ext.cell hin2.out.1 d0
    have d1:=Ext.cell hin2.out.1 d1
    by_cases hlq:q<lb.length
    ·have hqz:(q:Int)<(lb.length:Int):=by omega
     obtain ⟨y,hy⟩:∃ x,lb[q]?=some x:=⟨_,List.getElem?_eq_getElem hlq⟩
     have xx:=hin.out.1.trans hin2.out.1
     obtain ⟨b3,o3,p3,e3,_,_,s0⟩:=IntsIn.at (Tab.same HIA.out (fun k hk=>Below.block xx k (Nat.lt_of_lt_of_le hk hle))) HNN.out
     obtain ⟨b4,o4,p4,e4,_,_,s1⟩:=IntsIn.at (Tab.same HIB.out (fun k hk=>Below.block xx k (Nat.lt_of_lt_of_le hk hle))) hy
     cases e3
     cases e4
     have hlapc:=Lib.hid (fun (w:World) (x:Ext W w)=>lapT_any (HT.out.ext x) n y (hfa.out n (List.mem_of_getElem? HNN.out)) (hfb.out y (List.mem_of_getElem? hy)))
     obtain ⟨bb,hbb⟩:∃ z,lapI L n y=z:=⟨_,rfl⟩
     rw [hbb] at hlapc
     have HY:=Lib.hid (And.intro hy hbb)
     have XX:=Lib.hid xx
     clear hy hbb xx
     cases bb with
     | false =>
      have hgood:Hid (res=true):=Lib.hid (by
       rw [← RES.out,List.any_eq_true]
       refine ⟨n,List.mem_of_getElem? HNN.out,?_⟩
       rw [List.any_eq_true]
       exact ⟨y,List.mem_of_getElem? HY.out.1,by rw [HY.out.2];rfl⟩)
      go_upto_region 9 with (fail)
      rename_i K1 hK1
      have hK1:=Lib.hid hK1
      refine wp_region_M (fun w'=>Ext wr w') 21 (by kernel_rfl) (Ext.drew _) (fun hS=>?_)
      refine' tk 0 hS ?_ ?_;rotate_left;· (intro w hSw;have q0:=Ext.cell hSw cK;have q1:=Ext.cell hSw d0;have q2:=Ext.cell hSw d1;have q3:=Ext.cell hSw s0;have q4:=Ext.cell hSw s1;(try dsimp only at hSw);go_simp;try with_reducible rfl)
      (try simp only [Act.put,sA,sB,sC])
      refine' tk 1 hS ?_ ?_;rotate_left;· (intro w hSw;have q0:=Ext.cell hSw cK;have q1:=Ext.cell hSw d0;have q2:=Ext.cell hSw d1;have q3:=Ext.cell hSw s0;have q4:=Ext.cell hSw s1;(try dsimp only at hSw);go_simp;try with_reducible rfl)
      (try simp only [Act.put,sA,sB,sC])
      refine' tk 2 hS ?_ ?_;rotate_left;· (intro w hSw;have q0:=Ext.cell hSw cK;have q1:=Ext.cell hSw d0;have q2:=Ext.cell hSw d1;have q3:=Ext.cell hSw s0;have q4:=Ext.cell hSw s1;(try dsimp only at hSw);go_simp;try with_reducible rfl)
      (try simp only [Act.put,sA,sB,sC])
      refine' tk 3 hS ?_ ?_;rotate_left;· (intro w hSw;have q0:=Ext.cell hSw cK;have q1:=Ext.cell hSw d0;have q2:=Ext.cell hSw d1;have q3:=Ext.cell hSw s0;have q4:=Ext.cell hSw s1;(try dsimp only at hSw);go_simp;try with_reducible rfl)
      (try simp only [Act.put,sA,sB,sC])
      refine' tk 4 hS ?_ ?_;rotate_left;· (intro w hSw;have q0:=Ext.cell hSw cK;have q1:=Ext.cell hSw d0;have q2:=Ext.cell hSw d1;have q3:=Ext.cell hSw s0;have q4:=Ext.cell hSw s1;(try dsimp only at hSw);go_simp;try with_reducible rfl)
      (try simp only [Act.put,sA,sB,sC])
      refine' tk 5 hS ?_ ?_;rotate_left;· (intro w hSw;have q0:=Ext.cell hSw cK;have q1:=Ext.cell hSw d0;have q2:=Ext.cell hSw d1;have q3:=Ext.cell hSw s0;have q4:=Ext.cell hSw s1;(try dsimp only at hSw);go_simp;try with_reducible rfl)
      (try simp only [Act.put,sA,sB,sC])
      refine' tk 6 hS ?_ ?_;rotate_left;· (intro w hSw;have q0:=Ext.cell hSw cK;have q1:=Ext.cell hSw d0;have q2:=Ext.cell hSw d1;have q3:=Ext.cell hSw s0;have q4:=Ext.cell hSw s1;(try dsimp only at hSw);go_simp;try with_reducible rfl)
      (try simp only [Act.put,sA,sB,sC])
      refine' tk 7 hS ?_ ?_;rotate_left;· (intro w hSw;have q0:=Ext.cell hSw cK;have q1:=Ext.cell hSw d0;have q2:=Ext.cell hSw d1;have q3:=Ext.cell hSw s0;have q4:=Ext.cell hSw s1;(try dsimp only at hSw);go_simp;try with_reducible rfl)
      (try simp only [Act.put,sA,sB,sC])
      refine' tk 8 hS ?_ ?_;rotate_left;· (intro w hSw;have q0:=Ext.cell hSw cK;have q1:=Ext.cell hSw d0;have q2:=Ext.cell hSw d1;have q3:=Ext.cell hSw s0;have q4:=Ext.cell hSw s1;(try dsimp only at hSw);go_simp;try with_reducible rfl)
      (try simp only [Act.put,sA,sB,sC])
      refine' tk 9 hS ?_ ?_;rotate_left;· (intro w hSw;have q0:=Ext.cell hSw cK;have q1:=Ext.cell hSw d0;have q2:=Ext.cell hSw d1;have q3:=Ext.cell hSw s0;have q4:=Ext.cell hSw s1;(try dsimp only at hSw);go_simp;try with_reducible rfl)
      (try simp only [Act.put,sA,sB,sC])
      refine' tk 10 hS ?_ ?_;rotate_left;· (intro w hSw;have q0:=Ext.cell hSw cK;have q1:=Ext.cell hSw d0;have q2:=Ext.cell hSw d1;have q3:=Ext.cell hSw s0;have q4:=Ext.cell hSw s1;(try dsimp only at hSw);go_simp;try with_reducible rfl)
      (try simp only [Act.put,sA,sB,sC])
      refine' tk 11 hS ?_ ?_;rotate_left;· (intro w hSw;have q0:=Ext.cell hSw cK;have q1:=Ext.cell hSw d0;have q2:=Ext.cell hSw d1;have q3:=Ext.cell hSw s0;have q4:=Ext.cell hSw s1;(try dsimp only at hSw);go_simp;try with_reducible rfl)
      (try simp only [Act.put,sA,sB,sC])
      refine' tk 12 hS ?_ ?_;rotate_left;· (intro w hSw;have q0:=Ext.cell hSw cK;have q1:=Ext.cell hSw d0;have q2:=Ext.cell hSw d1;have q3:=Ext.cell hSw s0;have q4:=Ext.cell hSw s1;(try dsimp only at hSw);go_simp;try with_reducible rfl)
      (try simp only [Act.put,sA,sB,sC])
      refine' tk 13 hS ?_ ?_;rotate_left;· (intro w hSw;have q0:=Ext.cell hSw cK;have q1:=Ext.cell hSw d0;have q2:=Ext.cell hSw d1;have q3:=Ext.cell hSw s0;have q4:=Ext.cell hSw s1;(try dsimp only at hSw);go_simp;try with_reducible rfl)
      (try simp only [Act.put,sA,sB,sC])
      refine' tk 14 hS ?_ ?_;rotate_left;· (intro w hSw;have q0:=Ext.cell hSw cK;have q1:=Ext.cell hSw d0;have q2:=Ext.cell hSw d1;have q3:=Ext.cell hSw s0;have q4:=Ext.cell hSw s1;(try dsimp only at hSw);go_simp;try with_reducible rfl)
      (try simp only [Act.put,sA,sB,sC])
      refine' tk 15 hS ?_ ?_;rotate_left;· (intro w hSw;have q0:=Ext.cell hSw cK;have q1:=Ext.cell hSw d0;have q2:=Ext.cell hSw d1;have q3:=Ext.cell hSw s0;have q4:=Ext.cell hSw s1;(try dsimp only at hSw);go_simp;try with_reducible rfl)
      (try simp only [Act.put,sA,sB,sC])
      refine' tk 16 hS ?_ ?_;rotate_left;· (intro w hSw;have q0:=Ext.cell hSw cK;have q1:=Ext.cell hSw d0;have q2:=Ext.cell hSw d1;have q3:=Ext.cell hSw s0;have q4:=Ext.cell hSw s1;(try dsimp only at hSw);go_simp;try with_reducible rfl)
      (try simp only [Act.put,sA,sB,sC])
      refine' tk 17 hS ?_ ?_;rotate_left;· (intro w hSw;have q0:=Ext.cell hSw cK;have q1:=Ext.cell hSw d0;have q2:=Ext.cell hSw d1;have q3:=Ext.cell hSw s0;have q4:=Ext.cell hSw s1;(try dsimp only at hSw);go_simp;try with_reducible rfl)
      (try simp only [Act.put,sA,sB,sC])
      refine' tk 18 hS ?_ ?_;rotate_left;· (intro w hSw;have q0:=Ext.cell hSw cK;have q1:=Ext.cell hSw d0;have q2:=Ext.cell hSw d1;have q3:=Ext.cell hSw s0;have q4:=Ext.cell hSw s1;(try dsimp only at hSw);go_simp;try with_reducible rfl)
      (try simp only [Act.put,sA,sB,sC])
      refine' tk 19 hS ?_ ?_;rotate_left;· (intro w hSw;have q0:=Ext.cell hSw cK;have q1:=Ext.cell hSw d0;have q2:=Ext.cell hSw d1;have q3:=Ext.cell hSw s0;have q4:=Ext.cell hSw s1;(try dsimp only at hSw);go_simp;try with_reducible rfl)
      (try simp only [Act.put,sA,sB,sC])
      refine' tk 20 hS ?_ ?_;rotate_left;· (intro w hSw;have q0:=Ext.cell hSw cK;have q1:=Ext.cell hSw d0;have q2:=Ext.cell hSw d1;have q3:=Ext.cell hSw s0;have q4:=Ext.cell hSw s1;(try dsimp only at hSw);go_simp;try with_reducible rfl)
      (try simp only [Act.put,sA,sB,sC])
      generalize wr.drew=w4 at hS ⊢
      refine rl 21 fun K hK=>?_
      go_simp
      refine ((hlapc.out w4 (XX.out.trans hS))).mono ?_
      rintro e w5 ⟨rfl,x5⟩
      have hS0:=hS
      have hS:=Ext.trans hS x5
      refine hK.out _ _ ?_
      (try simp only [Act.put,sA,sB,sC])
      clear hK K
      refine' tw 22 ?_ ?_;rotate_left;· (intro w;go_simp;try with_reducible rfl)
      (try simp only [Act.put,sA,sB,sC])
      refine wpAnyM_done (by kernel_rfl) ?_ _
      refine hK1.out _ _ ?_
      go_wp2_with fail
      go_ret
      exact ⟨by rw [hgood.out];rfl,XX.out.trans hS⟩
     | true =>
      have hst:∀ j z,j<q+1→lb[j]?=some z→lapI L n z=true:=fun j z hj hz=>by
       by_cases e:j=q
       ·subst e;rw [HY.out.1] at hz;cases hz;exact HY.out.2
       ·exact hin2.out.2 j z (by omega) hz
      have HST:=Lib.hid hst
      clear hst
      go_upto_region 9 with (fail)
      rename_i K1 hK1
      have hK1:=Lib.hid hK1
      refine wp_region_M (fun w'=>Ext wr w') 21 (by kernel_rfl) (Ext.drew _) (fun hS=>?_)
      refine' tk 0 hS ?_ ?_;rotate_left;· (intro w hSw;have q0:=Ext.cell hSw cK;have q1:=Ext.cell hSw d0;have q2:=Ext.cell hSw d1;have q3:=Ext.cell hSw s0;have q4:=Ext.cell hSw s1;(try dsimp only at hSw);go_simp;try with_reducible rfl)
      (try simp only [Act.put,sA,sB,sC])
      refine' tk 1 hS ?_ ?_;rotate_left;· (intro w hSw;have q0:=Ext.cell hSw cK;have q1:=Ext.cell hSw d0;have q2:=Ext.cell hSw d1;have q3:=Ext.cell hSw s0;have q4:=Ext.cell hSw s1;(try dsimp only at hSw);go_simp;try with_reducible rfl)
      (try simp only [Act.put,sA,sB,sC])
      refine' tk 2 hS ?_ ?_;rotate_left;· (intro w hSw;have q0:=Ext.cell hSw cK;have q1:=Ext.cell hSw d0;have q2:=Ext.cell hSw d1;have q3:=Ext.cell hSw s0;have q4:=Ext.cell hSw s1;(try dsimp only at hSw);go_simp;try with_reducible rfl)
      (try simp only [Act.put,sA,sB,sC])
      refine' tk 3 hS ?_ ?_;rotate_left;· (intro w hSw;have q0:=Ext.cell hSw cK;have q1:=Ext.cell hSw d0;have q2:=Ext.cell hSw d1;have q3:=Ext.cell hSw s0;have q4:=Ext.cell hSw s1;(try dsimp only at hSw);go_simp;try with_reducible rfl)
      (try simp only [Act.put,sA,sB,sC])
      refine' tk 4 hS ?_ ?_;rotate_left;· (intro w hSw;have q0:=Ext.cell hSw cK;have q1:=Ext.cell hSw d0;have q2:=Ext.cell hSw d1;have q3:=Ext.cell hSw s0;have q4:=Ext.cell hSw s1;(try dsimp only at hSw);go_simp;try with_reducible rfl)
      (try simp only [Act.put,sA,sB,sC])
      refine' tk 5 hS ?_ ?_;rotate_left;· (intro w hSw;have q0:=Ext.cell hSw cK;have q1:=Ext.cell hSw d0;have q2:=Ext.cell hSw d1;have q3:=Ext.cell hSw s0;have q4:=Ext.cell hSw s1;(try dsimp only at hSw);go_simp;try with_reducible rfl)
      (try simp only [Act.put,sA,sB,sC])
      refine' tk 6 hS ?_ ?_;rotate_left;· (intro w hSw;have q0:=Ext.cell hSw cK;have q1:=Ext.cell hSw d0;have q2:=Ext.cell hSw d1;have q3:=Ext.cell hSw s0;have q4:=Ext.cell hSw s1;(try dsimp only at hSw);go_simp;try with_reducible rfl)
      (try simp only [Act.put,sA,sB,sC])
      refine' tk 7 hS ?_ ?_;rotate_left;· (intro w hSw;have q0:=Ext.cell hSw cK;have q1:=Ext.cell hSw d0;have q2:=Ext.cell hSw d1;have q3:=Ext.cell hSw s0;have q4:=Ext.cell hSw s1;(try dsimp only at hSw);go_simp;try with_reducible rfl)
      (try simp only [Act.put,sA,sB,sC])
      refine' tk 8 hS ?_ ?_;rotate_left;· (intro w hSw;have q0:=Ext.cell hSw cK;have q1:=Ext.cell hSw d0;have q2:=Ext.cell hSw d1;have q3:=Ext.cell hSw s0;have q4:=Ext.cell hSw s1;(try dsimp only at hSw);go_simp;try with_reducible rfl)
      (try simp only [Act.put,sA,sB,sC])
      refine' tk 9 hS ?_ ?_;rotate_left;· (intro w hSw;have q0:=Ext.cell hSw cK;have q1:=Ext.cell hSw d0;have q2:=Ext.cell hSw d1;have q3:=Ext.cell hSw s0;have q4:=Ext.cell hSw s1;(try dsimp only at hSw);go_simp;try with_reducible rfl)
      (try simp only [Act.put,sA,sB,sC])
      refine' tk 10 hS ?_ ?_;rotate_left;· (intro w hSw;have q0:=Ext.cell hSw cK;have q1:=Ext.cell hSw d0;have q2:=Ext.cell hSw d1;have q3:=Ext.cell hSw s0;have q4:=Ext.cell hSw s1;(try dsimp only at hSw);go_simp;try with_reducible rfl)
      (try simp only [Act.put,sA,sB,sC])
      refine' tk 11 hS ?_ ?_;rotate_left;· (intro w hSw;have q0:=Ext.cell hSw cK;have q1:=Ext.cell hSw d0;have q2:=Ext.cell hSw d1;have q3:=Ext.cell hSw s0;have q4:=Ext.cell hSw s1;(try dsimp only at hSw);go_simp;try with_reducible rfl)
      (try simp only [Act.put,sA,sB,sC])
      refine' tk 12 hS ?_ ?_;rotate_left;· (intro w hSw;have q0:=Ext.cell hSw cK;have q1:=Ext.cell hSw d0;have q2:=Ext.cell hSw d1;have q3:=Ext.cell hSw s0;have q4:=Ext.cell hSw s1;(try dsimp only at hSw);go_simp;try with_reducible rfl)
      (try simp only [Act.put,sA,sB,sC])
      refine' tk 13 hS ?_ ?_;rotate_left;· (intro w hSw;have q0:=Ext.cell hSw cK;have q1:=Ext.cell hSw d0;have q2:=Ext.cell hSw d1;have q3:=Ext.cell hSw s0;have q4:=Ext.cell hSw s1;(try dsimp only at hSw);go_simp;try with_reducible rfl)
      (try simp only [Act.put,sA,sB,sC])
      refine' tk 14 hS ?_ ?_;rotate_left;· (intro w hSw;have q0:=Ext.cell hSw cK;have q1:=Ext.cell hSw d0;have q2:=Ext.cell hSw d1;have q3:=Ext.cell hSw s0;have q4:=Ext.cell hSw s1;(try dsimp only at hSw);go_simp;try with_reducible rfl)
      (try simp only [Act.put,sA,sB,sC])
      refine' tk 15 hS ?_ ?_;rotate_left;· (intro w hSw;have q0:=Ext.cell hSw cK;have q1:=Ext.cell hSw d0;have q2:=Ext.cell hSw d1;have q3:=Ext.cell hSw s0;have q4:=Ext.cell hSw s1;(try dsimp only at hSw);go_simp;try with_reducible rfl)
      (try simp only [Act.put,sA,sB,sC])
      refine' tk 16 hS ?_ ?_;rotate_left;· (intro w hSw;have q0:=Ext.cell hSw cK;have q1:=Ext.cell hSw d0;have q2:=Ext.cell hSw d1;have q3:=Ext.cell hSw s0;have q4:=Ext.cell hSw s1;(try dsimp only at hSw);go_simp;try with_reducible rfl)
      (try simp only [Act.put,sA,sB,sC])
      refine' tk 17 hS ?_ ?_;rotate_left;· (intro w hSw;have q0:=Ext.cell hSw cK;have q1:=Ext.cell hSw d0;have q2:=Ext.cell hSw d1;have q3:=Ext.cell hSw s0;have q4:=Ext.cell hSw s1;(try dsimp only at hSw);go_simp;try with_reducible rfl)
      (try simp only [Act.put,sA,sB,sC])
      refine' tk 18 hS ?_ ?_;rotate_left;· (intro w hSw;have q0:=Ext.cell hSw cK;have q1:=Ext.cell hSw d0;have q2:=Ext.cell hSw d1;have q3:=Ext.cell hSw s0;have q4:=Ext.cell hSw s1;(try dsimp only at hSw);go_simp;try with_reducible rfl)
      (try simp only [Act.put,sA,sB,sC])
      refine' tk 19 hS ?_ ?_;rotate_left;· (intro w hSw;have q0:=Ext.cell hSw cK;have q1:=Ext.cell hSw d0;have q2:=Ext.cell hSw d1;have q3:=Ext.cell hSw s0;have q4:=Ext.cell hSw s1;(try dsimp only at hSw);go_simp;try with_reducible rfl)
      (try simp only [Act.put,sA,sB,sC])
      refine' tk 20 hS ?_ ?_;rotate_left;· (intro w hSw;have q0:=Ext.cell hSw cK;have q1:=Ext.cell hSw d0;have q2:=Ext.cell hSw d1;have q3:=Ext.cell hSw s0;have q4:=Ext.cell hSw s1;(try dsimp only at hSw);go_simp;try with_reducible rfl)
      (try simp only [Act.put,sA,sB,sC])
      generalize wr.drew=w4 at hS ⊢
      refine rl 21 fun K hK=>?_
      go_simp
      refine ((hlapc.out w4 (XX.out.trans hS))).mono ?_
      rintro e w5 ⟨rfl,x5⟩
      have hS0:=hS
      have hS:=Ext.trans hS x5
      refine hK.out _ _ ?_
      (try simp only [Act.put,sA,sB,sC])
      clear hK K
      refine' tw 22 ?_ ?_;rotate_left;· (intro w;go_simp;try with_reducible rfl)
      (try simp only [Act.put,sA,sB,sC])
      refine wpAnyM_done (by kernel_rfl) ?_ _
      refine hK1.out _ _ ?_
      have XF:=Lib.hid (hin2.out.1.trans hS)
      go_wp2_with fail
      go_roundw
      case rel=>exact ⟨q+1,by omega,by go_num,Lib.hid ⟨XF.out,HST.out⟩⟩
      case measure=>simp [intOf];omega
    ·have hno:(lb.any fun z=>!lapI L n z)=false:=by
      rw [List.any_eq_false]
      intro z hz
      obtain ⟨j,hj⟩:=List.getElem?_of_mem hz
      rw [hin2.out.2 j z (by have:=(List.getElem?_eq_some_iff.1 hj).1;omega) hj]
      simp
     have hst:∀ j y,j<m+1→la[j]?=some y→(lb.any fun q=>!lapI L y q)=false:=fun j y hj hy=>by
      by_cases e:j=m
      ·subst e;rw [HNN.out] at hy;cases hy;exact hno
      ·exact hin.out.2 j y (by omega) hy
     have HST:=Lib.hid hst
     have hqz:¬ (q:Int)<(lb.length:Int):=by omega
     clear hst hno
     go_wp2_with fail
     go_roundw
     case rel=>exact ⟨m+1,by omega,by go_num,Lib.hid ⟨hin.out.1.trans hin2.out.1,HST.out⟩⟩
     case measure=>simp [intOf];omega
  ·have hbad:Hid (res=false):=Lib.hid (by
    rw [← RES.out,List.any_eq_false]
    intro z hz
    obtain ⟨j,hj⟩:=List.getElem?_of_mem hz
    rw [hin.out.2 j z (by have:=(List.getElem?_eq_some_iff.1 hj).1;omega) hj]
    simp)
   have hmz:¬ (m:Int)<(la.length:Int):=by omega
   go_wp2_with fail
   go_ret
   exact ⟨by rw [hbad.out];rfl,hin.out.1⟩
end Go.Proofs.YtligiddaampneaaGreat
