/- A part of the proof, joined of several texts: mdcheck: operations in a row, convention, head, what is asked. No condition. -/
import Derived.Test.YtligiddaampneaaGreatMgC
import Derived.OwnWalk
import Derived.Deep.AppendLies
import Derived.Recover
set_option maxRecDepth 100000
set_option maxHeartbeats 4000000
section
namespace Go.Proofs.YtligiddaampneaaGreat
open Go.RowKit
attribute [local go_sem] Oper.semAt_some
variable {W : World} {n1 bc : Nat} {V : MV} {M : Mach} {N : List ByteArray} {L : List Pl}
def opsS (M:Mach) (N:List ByteArray) (L:List Pl):Except Int Unit:=if M.ops.length≤64 then goS (opS M N L) 0 M.ops else .error 2
theorem opsM_any (h:CkIn W n1 bc V M N L) (hcl:∀ c∈M.classes,c.regs≠[]) :
  Calls Tryz.prog 102 #[.pointer (some ⟨bc,0,none⟩)] W fun e W'=>e=endOf unitV (opsS M N L)∧Ext W W':=by
 generalize hres:opsS M N L=res
 have c3:=h.cells 3 _ rfl
 have H:=qh h
 have HCL:=qh hcl
 obtain ⟨a,cap,ev,hl1,hl2⟩:=h.m.ops.form
 obtain ⟨vR,vC,vO,vA,vS,vN,vP⟩:=V
 dsimp only at c3 ev
 subst ev
 unfold maxLen at hl2
 clear h hcl
 unfold opsS at hres
 by_cases hlen:M.ops.length≤64
 case neg =>
  rw [if_neg hlen] at hres
  have hd:decide ((M.ops.length:Int)≤64)=false:=by simp;omega
  have RES:=qh hres
  clear hres hlen
  go_enter Tryz.func102,Tryz.ntmps102
  go_wp2_with (go_at_call 123;with_reducible refine (needM_no _ _).mono ?_;rintro e w' ⟨he,rfl⟩;unfold stopM at he;subst he)
  exact ⟨rfl,by rw [← RES.out];rfl,Ext.refl W⟩
 rw [if_pos hlen] at hres
 have hlz:(M.ops.length:Int)≤64:=by omega
 have start:Hid (Ext W W∧goS (opS M N L) 0 (M.ops.drop 0)=res):=qh ⟨Ext.refl W,hres⟩
 clear hres hlen
 go_enter Tryz.func102,Tryz.ntmps102
 go_wp2_with (go_at_call 123;with_reducible refine (needM_ok _ _).mono ?_;rintro e w' ⟨rfl,rfl⟩)
 go_loopw [17] (fun i wr=>∃ j:Nat,j≤M.ops.length∧i=.int .i64 j∧Hid (Ext W wr∧goS (opS M N L) j (M.ops.drop j)=res)) (fun i _=>M.ops.length - (intOf i).toNat)
 case atStart=>exact ⟨0,by omega,rfl,start⟩
 case round =>
  clear start
  obtain ⟨j,hj,rfl,hin⟩:=hrel
  by_cases hlt:j<M.ops.length
  ·obtain ⟨o,ho⟩:∃ c,M.ops[j]?=some c:=⟨_,lE hlt⟩
   have hltz:(j:Int)<(M.ops.length:Int):=by omega
   have hop:=qh (opM_any (H.out.ext hin.out.1) HCL.out ho)
   have RES:=qh (hin.out.2.symm.trans (goS_at ho))
   have XI:=qh hin.out.1
   clear hin ho
   cases hoo:opS M N L j o
   case error x =>
    rw [hoo] at RES hop
    clear hoo
    go_wp2_with (go_at_call 130;refine hop.out.mono ?_;rintro e w' ⟨he,x2⟩;unfold endOf stopM at he;subst he)
    exact ⟨rfl,by rw [RES.out];rfl,XI.out.trans x2⟩
   rw [hoo] at RES hop
   dsimp only at RES
   clear hoo
   go_wp2_with (go_at_call 130;refine hop.out.mono ?_;rintro e w' ⟨he,x2⟩;unfold endOf unitV at he;subst he)
   go_roundw
   case rel=>exact ⟨j+1,by omega,by go_num,qh ⟨XI.out.trans x2,RES.out.symm⟩⟩
   case measure=>simp [intOf];omega
  ·have hltz:¬ (j:Int)<(M.ops.length:Int):=by omega
   obtain rfl:j=M.ops.length:=by omega
   go_wp2
   go_end0
   exact ⟨by rw [← hin.out.2,goS_end];rfl,hin.out.1⟩
end Go.Proofs.YtligiddaampneaaGreat
end
section
namespace Go.Proofs.YtligiddaampneaaGreat
open Go.RowKit
attribute [local go_sem] Oper.semAt_some
variable {W : World} {n1 bc : Nat} {V : MV} {M : Mach} {N : List ByteArray} {L : List Pl}
def apS (N:List ByteArray) (L:List Pl):List ByteArray→List Pl→Except Int (List Pl)
 | [],acc=>.ok acc
 | r :: l,acc=>match regS N r 10 with
  | .error e=>.error e
  | .ok n=>if acc.any (lapS (plAt L n)) then .error 10 else apS N L l (acc ++ [plAt L n])
def apartS (N:List ByteArray) (L:List Pl) (l:List ByteArray) (most:Int):Except Int (List Pl):=if (l.length:Int)≤most then apS N L l [] else .error 10
def ApartPost (W:World) (r:Except Int (List Pl)) (e:Ending) (W':World):Prop :=
 Ext W W'∧match r with
  | .error x=>e=stopM x
  | .ok ps=>∃ v,e=.returned v∧W'.ownsRow W.heap.size 88 3 v ps.length (plCells ps)∧∀ p∈ps,p.fit
theorem ApartPost.err {W W':World} {x:Int} {e:Ending} (h:e=stopM x) (hx:Ext W W'):ApartPost W (.error x) e W':=⟨hx,h⟩
theorem apS_at {l:List ByteArray} {n:Nat} {r:ByteArray} {acc:List Pl} (h:l[n]?=some r):apS N L (l.drop n) acc=match regS N r 10 with
  | .error e=>.error e
  | .ok k=>if acc.any (lapS (plAt L k)) then .error 10 else apS N L (l.drop (n+1)) (acc ++ [plAt L k]):=by
 obtain ⟨hlt,e⟩:=List.getElem?_eq_some_iff.1 h
 rw [List.drop_eq_getElem_cons hlt,e];rfl
theorem apartM_any (h:CkIn W n1 bc V M N L) {vl:Value} {l:List ByteArray} (hl:StrsIn W n1 vl l) (most:Int) (hm:most≤64) :
  Calls Tryz.prog 131 #[.pointer (some ⟨bc,0,none⟩),vl,.int .i64 most] W (ApartPost W (apartS N L l most)):=by
 generalize hres:apartS N L l most=res
 have H:=qh h
 have HL:=qh hl
 obtain ⟨a,cap,ev,hl1,hl2⟩:=hl.form
 subst ev
 unfold maxLen at hl2
 clear h hl
 unfold apartS at hres
 by_cases hlen:(l.length:Int)≤most
 case neg =>
  rw [if_neg hlen] at hres
  have hd:decide ((l.length:Int)≤most)=false:=by simpa using hlen
  have RES:=qh hres
  clear hres hlen
  go_enter Tryz.func131,Tryz.ntmps131
  go_wp2_with (go_at_call 123;with_reducible refine (needM_no _ _).mono ?_;rintro e w' ⟨he,rfl⟩;unfold stopM at he;subst he)
  exact ⟨rfl,by rw [← RES.out];exact ApartPost.err rfl (Ext.refl W)⟩
 rw [if_pos hlen] at hres
 have start:Hid (Ext W W∧W.ownsRow W.heap.size 88 3 (.slice none 0 0) 0 (plCells [])∧(∀ p∈([]:List Pl),p.fit)∧([]:List Pl).length=0∧apS N L (l.drop 0) []=res):=qh ⟨Ext.refl W,World.ownsRow_nil _ _ _ _,(fun p h=>by cases h),rfl,hres⟩
 obtain ⟨iP,hiP,zP0,zP1,zP2⟩:=info_parts infoPl
 clear hres
 go_enter Tryz.func131,Tryz.ntmps131
 go_wp2_with (go_at_call 123;with_reducible refine (needM_ok _ _).mono ?_;rintro e w' ⟨rfl,rfl⟩)
 go_loopw [7,20] (fun v i wr=>∃ (n:Nat) (acc:List Pl),n≤l.length∧i=.int .i64 n∧Hid (Ext W wr∧wr.ownsRow W.heap.size 88 3 v n (plCells acc)∧(∀ p∈acc,p.fit)∧acc.length=n∧apS N L (l.drop n) acc=res)) (fun _ i _=>l.length - (intOf i).toNat)
 case atStart=>exact ⟨0,[],by omega,rfl,start⟩
 case round =>
  clear start
  obtain ⟨n,acc,hn,rfl,hin⟩:=hrel
  obtain ⟨va,vc,ev⟩:∃ a c,u7=.slice a n c:=by
   obtain ⟨a,c,e,_,_⟩:=(Row.of_owns hin.out.2.1).shape;exact ⟨a,c,e⟩
  subst ev
  obtain hacc:=hin.out.2.2.2.1
  subst hacc
  by_cases hnl:acc.length<l.length
  ·have hnz:(acc.length:Int)<(l.length:Int):=by omega
   obtain ⟨r,hr⟩:∃ r,l[acc.length]?=some r:=⟨_,lE hnl⟩
   have CK:=qh (H.out.ext hin.out.1)
   have HLr:StrsIn wr n1 _ l:=Tab.same HL.out (fun k hk=>Below.block hin.out.1 k (Nat.lt_of_lt_of_le hk H.out.le))
   obtain ⟨ub,uoff,ucap,eu,_,_,_,g0⟩:=StrsIn.at HLr hr
   cases eu
   have RES:=qh ((apS_at hr).symm.trans hin.out.2.2.2.2)
   have e9:=CK.out.cells 9 _ rfl
   obtain ⟨vR,vC,vO,vA,vS,vN,vP⟩:=V
   dsimp only at e9
   obtain ⟨pa,pc,ep,hp1,hp2⟩:=CK.out.pl.form
   dsimp only at ep
   unfold maxLen at hp2
   clear hr HLr
   go_wp2_with fail
   rename_i K1 hK1
   have hK1:=qh hK1
   rw [ep] at e9
   refine wp_region_M (fun w'=>Ext wr w') 10 (by kernel_rfl) (Ext.drew _) (fun hS=>?_)
   refine' tk 0 hS ?_ ?_;rotate_left;·intros;go_simp;try rfl
   refine' tk 1 hS ?_ ?_;rotate_left;·intros;go_simp;try rfl
   refine' tk 2 hS ?_ ?_;rotate_left;·intros;go_simp;try rfl
   try simp only [tD]
   refine' tk 3 hS ?_ ?_;rotate_left;·intro w hSw;have p9:=xc hSw e9;go_simp;try rfl
   refine' tk 4 hS ?_ ?_;rotate_left;·intros;go_simp;try rfl
   refine' tk 5 hS ?_ ?_;rotate_left;·intros;go_simp;try rfl
   try simp only [tD]
   generalize wr.drew=W2 at hS ⊢
   have hreg:=qh (fun (W':World) (x:Ext wr W')=>regM_any (CK.out.ext x) r 10)
   cases hrg:regS N r 10
   case error x =>
    rw [hrg] at RES hreg
    clear hrg
    refine wpAnyM_ready [6,9] (by kernel_rfl) rfl ?_
    refine AllM.cons rfl rfl (fun K hK=>?_) (AllM.cons rfl rfl (fun K hK=>?_) AllM.nil)
    ·go_simp
     refine (hreg.out W2 hS).mono ?_
     rintro e w' ⟨he,rfl⟩
     unfold endOf stopM at he
     subst he
     exact ⟨rfl,by rw [← RES.out];exact ApartPost.err rfl (hin.out.1.trans hS)⟩
    ·go_simp
     have x3:Ext wr (W2.alloc (.cells #[.int .i64 0,.int .i64 0,.int .i64 0] 88)):=hS.trans (Ext.alloc _ _)
     refine hK.out _ _ x3 ?_
     try simp only [tD]
     clear hK K
     refine rc 6 fun K hK=>?_
     go_simp
     refine (hreg.out _ x3).mono ?_
     rintro e w' ⟨he,rfl⟩
     unfold endOf stopM at he
     subst he
     exact ⟨rfl,by rw [← RES.out];exact ApartPost.err rfl (hin.out.1.trans x3)⟩
   rename_i pn
   obtain ⟨pj,pp,rfl,hpj,hpp,hpf⟩:=plAt_ok CK.out hrg
   have hpz:(pj:Int)<(L.length:Int):=by have:=(List.getElem?_eq_some_iff.1 hpj).1;omega
   obtain ⟨pb,poff,pcap,ep',_,_,_,d0,d1,d2⟩:=PlsIn.at CK.out.pl hpj
   dsimp only at ep'
   rw [ep] at ep'
   cases ep'
   rw [hrg] at RES hreg
   dsimp only at RES
   rw [hpp] at RES
   clear hrg hpj hpp
   refine wpAnyM_ready [6,9] (by kernel_rfl) rfl ?_
   refine AllM.cons rfl rfl (fun K hK=>?_) (AllM.cons rfl rfl (fun K hK=>?_) AllM.nil)
   ·go_simp
    refine (hreg.out W2 hS).mono ?_
    rintro e w' ⟨he,rfl⟩
    unfold endOf at he
    subst he
    refine hK.out _ _ hS ?_
    clear hK K
    refine' tk 7 hS ?_ ?_;rotate_left;·intros;go_simp;try rfl
    refine' tk 8 hS ?_ ?_;rotate_left;·intro w hSw;have q0:=xc hSw d0;have q1:=xc hSw d1;have q2:=xc hSw d2;go_simp;try rfl
    try simp only [tD]
    refine rc 9 fun K hK=>?_
    go_simp
    have x3:Ext wr (W2.alloc (.cells #[.int .i64 0,.int .i64 0,.int .i64 0] 88)):=hS.trans (Ext.alloc _ _)
    refine hK.out _ _ x3 ?_
    try simp only [tD]
    clear hK K
    refine rl 10 fun K hK=>?_
    go_simp
    refine hK.out _ _ ?_
    try simp only [tD]
    refine wpAnyM_done (by kernel_rfl) ?_ _
    refine hK1.out _ _ ?_
    have x4:Ext wr (W2.alloc (.cells #[.int .i64 pp.root,.int .i64 pp.beg,.int .i64 pp.width] 88)):=hS.trans (Ext.alloc _ _)
    have b0:(W2.alloc (.cells #[.int .i64 pp.root,.int .i64 pp.beg,.int .i64 pp.width] 88)).cell? ⟨W2.heap.size,0,none⟩=some (.int .i64 pp.root):=cell_new W2 _ _ 0
    have b1:(W2.alloc (.cells #[.int .i64 pp.root,.int .i64 pp.beg,.int .i64 pp.width] 88)).cell? ⟨W2.heap.size,1,none⟩=some (.int .i64 pp.beg):=cell_new W2 _ _ 1
    have b2:(W2.alloc (.cells #[.int .i64 pp.root,.int .i64 pp.beg,.int .i64 pp.width] 88)).cell? ⟨W2.heap.size,2,none⟩=some (.int .i64 pp.width):=cell_new W2 _ _ 2
    have OWN:=qh (owns_same hin.out.2.1 (fun k e=>Below.block x4 k (hin.out.2.1.lt k e).2))
    have X4:=qh (hin.out.1.trans x4)
    have FIT:=qh hin.out.2.2.1
    obtain ⟨bp,hbp⟩:∃ b,b=W2.heap.size:=⟨_,rfl⟩
    rw [← hbp] at b0 b1 b2 ⊢
    generalize W2.alloc (.cells #[.int .i64 pp.root,.int .i64 pp.beg,.int .i64 pp.width] 88)=W3 at x4 b0 b1 b2 OWN X4 ⊢
    clear hbp hK K hK1 hS hreg hin CK d0 d1 d2 e9
    have start:Hid (Ext W3 W3∧∀ (t:Nat) (x:Pl),t<0→acc[t]?=some x→lapS pp x=false):=qh ⟨Ext.refl _,fun t x h=>by omega⟩
    have PL:Hid (PlsIn W3 W3.heap.size (.slice va acc.length vc) acc):=qh ⟨by
     have:=Row.of_owns OWN.out
     simp only [List.length_map]
     exact this,fun r hr=>by
     obtain ⟨q,_,rfl⟩:=List.mem_map.1 hr
     rfl,fun k e _=>(OWN.out.lt k e).2⟩
    have hvl:acc.length≤vc:=by obtain ⟨_,_,e,h1,_⟩:=PL.out.form;cases e;exact h1
    have hvm:vc≤9223372036854775807:=by obtain ⟨_,_,e,_,h2⟩:=PL.out.form;cases e;unfold maxLen at h2;omega
    go_wp2
    go_loopw [35] (fun i wr2=>∃ q:Nat,q≤acc.length∧i=.int .i64 q∧Hid (Ext W3 wr2∧∀ (t:Nat) (x:Pl),t<q→acc[t]?=some x→lapS pp x=false)) (fun i _=>acc.length - (intOf i).toNat)
    case atStart=>exact ⟨0,by omega,rfl,start⟩
    case round =>
     clear start
     obtain ⟨q,hq,rfl,hin2⟩:=hrel
     have b0:=xc hin2.out.1 b0
     have b1:=xc hin2.out.1 b1
     have b2:=xc hin2.out.1 b2
     have lbp:=World.block_lt_of_cell? _ _ b0
     by_cases hql:q<acc.length
     ·have hqz:(q:Int)<(acc.length:Int):=by omega
      obtain ⟨x,hx⟩:∃ x,acc[q]?=some x:=⟨_,lE hql⟩
      have PLr:PlsIn _ W3.heap.size _ acc:=Tab.same PL.out (fun k hk=>Below.block hin2.out.1 k hk)
      obtain ⟨xb,xoff,xcap,ex,_,_,_,f0,f1,f2⟩:=PLr.at hx
      cases ex
      have hxf:=FIT.out x (List.mem_of_getElem? hx)
      have HX:=qh hx
      clear hx PLr
      cases hlp:lapS pp x with
      | true =>
       have hlap:=qh (fun (W':World)=>lap_any pp x W' hpf hxf)
       rw [hlp] at hlap
       have LP:=qh hlp
       clear hlp hxf
       go_wp2_with (first
        | (go_at_call 109;refine (hlap.out _).mono ?_;rintro e W5 ⟨rfl,x5⟩)
        | (go_at_call 123;with_reducible refine (needM_no _ _).mono ?_;rintro e w' ⟨he,rfl⟩;unfold stopM at he;subst he))
       refine ⟨rfl,?_⟩
       rw [if_pos (List.any_eq_true.2 ⟨x,List.mem_of_getElem? HX.out,LP.out⟩)] at RES
       rw [← RES.out]
       exact ApartPost.err rfl (((X4.out.trans hin2.out.1).trans (Ext.alloc _ _)).trans x5)
      | false =>
       have hlap:=qh (fun (W':World)=>lap_any pp x W' hpf hxf)
       rw [hlp] at hlap
       have LP:=qh hlp
       clear hlp hxf
       go_wp2_with (first
        | (go_at_call 109;refine (hlap.out _).mono ?_;rintro e W5 ⟨rfl,x5⟩)
        | (go_at_call 123;with_reducible refine (needM_ok _ _).mono ?_;rintro e w' ⟨rfl,rfl⟩))
       go_roundw
       case rel=>exact ⟨q+1,by omega,by go_num,qh ⟨(hin2.out.1.trans (Ext.alloc _ _)).trans x5,fun t y ht hy=>by
        by_cases et:t=q
        ·subst et;rw [HX.out] at hy;cases hy;exact LP.out
        ·exact hin2.out.2 t y (by omega) hy⟩⟩
       case measure=>simp [intOf];omega
     ·have hqz:¬ (q:Int)<(acc.length:Int):=by omega
      obtain rfl:q=acc.length:=by omega
      rw [if_neg (by rw [any_no (fun t y hy=>hin2.out.2 t y (List.getElem?_eq_some_iff.1 hy).1 hy)];simp)] at RES
      have X5:=qh (X4.out.trans hin2.out.1)
      have OWN:=qh (owns_same OWN.out (fun k e=>Below.block hin2.out.1 k (OWN.out.lt k e).2))
      clear hin2
      have lb:=World.block_lt_of_cell? _ _ b0
      have hbase:=X5.out.size
      have nv:∀ (w:World) (j:Nat) (u:Value),pp.cells[j]?=some u→(w.alloc (.cells #[.int .i64 pp.root,.int .i64 pp.beg,.int .i64 pp.width] 88)).cell? (Addr.add ⟨w.heap.size,0,none⟩ j)=some u:=fun w=>World.news_of_block (cs:=#[.int .i64 pp.root,.int .i64 pp.beg,.int .i64 pp.width]) (t:=88) (fr:=(0,0)) (heap_alloc_new w _)
      go_wp2_with (at_builtin;refine wpList_append_own _ rfl _ _ 45 rfl W.heap.size 88 iP _ 3 24 Tryz.underlying45 hiP zP0 zP1 zP2 rfl (by omega) _ _ _ rfl (OWN.out.alloc _) ⟨_,0,none⟩ 1 1 pp.cells rfl rfl (nv _) (by simp [Pl.cells,Value.oneCell']) (by unfold maxLen;omega) (by omega) (by simp;omega) ?_;intro v' w6 hown hgrow _)
      refine ⟨⟨acc.length+1,acc ++ [pp],by omega,by go_num,qh ⟨X5.out.keep (Keep.ofGrown (S:=fun q=>(Value.slice va acc.length vc).ownBlock=some q) (Ext.alloc _ _) hgrow (fun q e=>e)) (fun q e=>(OWN.out.lt q e).1),?_,?_,by simp,RES.out⟩⟩,by simp [intOf];omega⟩
      ·rw [show plCells (acc ++ [pp])=plCells acc ++ pp.cells by simp [plCells]];exact hown
      ·intro p hp
       rcases List.mem_append.1 hp with h | h
       ·exact FIT.out p h
       ·obtain rfl:=List.mem_singleton.1 h
        exact hpf
   ·go_simp
    have x3:Ext wr (W2.alloc (.cells #[.int .i64 0,.int .i64 0,.int .i64 0] 88)):=hS.trans (Ext.alloc _ _)
    refine hK.out _ _ x3 ?_
    try simp only [tD]
    clear hK K
    refine rc 6 fun K hK=>?_
    go_simp
    refine (hreg.out _ x3).mono ?_
    rintro e w' ⟨he,rfl⟩
    unfold endOf at he
    subst he
    have hS0:=hS
    have hS:=x3
    refine hK.out _ _ hS ?_
    clear hK K
    refine' tk 7 hS ?_ ?_;rotate_left;·intros;go_simp;try rfl
    refine' tk 8 hS ?_ ?_;rotate_left;·intro w hSw;have q0:=xc hSw d0;have q1:=xc hSw d1;have q2:=xc hSw d2;go_simp;try rfl
    try simp only [tD]
    refine rl 10 fun K hK=>?_
    go_simp
    have hS:=hS0
    clear hS0
    refine hK.out _ _ ?_
    try simp only [tD]
    refine wpAnyM_done (by kernel_rfl) ?_ _
    refine hK1.out _ _ ?_
    have x4:Ext wr (W2.alloc (.cells #[.int .i64 pp.root,.int .i64 pp.beg,.int .i64 pp.width] 88)):=hS.trans (Ext.alloc _ _)
    have b0:(W2.alloc (.cells #[.int .i64 pp.root,.int .i64 pp.beg,.int .i64 pp.width] 88)).cell? ⟨W2.heap.size,0,none⟩=some (.int .i64 pp.root):=cell_new W2 _ _ 0
    have b1:(W2.alloc (.cells #[.int .i64 pp.root,.int .i64 pp.beg,.int .i64 pp.width] 88)).cell? ⟨W2.heap.size,1,none⟩=some (.int .i64 pp.beg):=cell_new W2 _ _ 1
    have b2:(W2.alloc (.cells #[.int .i64 pp.root,.int .i64 pp.beg,.int .i64 pp.width] 88)).cell? ⟨W2.heap.size,2,none⟩=some (.int .i64 pp.width):=cell_new W2 _ _ 2
    have OWN:=qh (owns_same hin.out.2.1 (fun k e=>Below.block x4 k (hin.out.2.1.lt k e).2))
    have X4:=qh (hin.out.1.trans x4)
    have FIT:=qh hin.out.2.2.1
    obtain ⟨bp,hbp⟩:∃ b,b=W2.heap.size:=⟨_,rfl⟩
    rw [← hbp] at b0 b1 b2 ⊢
    generalize W2.alloc (.cells #[.int .i64 pp.root,.int .i64 pp.beg,.int .i64 pp.width] 88)=W3 at x4 b0 b1 b2 OWN X4 ⊢
    clear hbp hK K hK1 hS hreg hin CK d0 d1 d2 e9
    have start:Hid (Ext W3 W3∧∀ (t:Nat) (x:Pl),t<0→acc[t]?=some x→lapS pp x=false):=qh ⟨Ext.refl _,fun t x h=>by omega⟩
    have PL:Hid (PlsIn W3 W3.heap.size (.slice va acc.length vc) acc):=qh ⟨by
     have:=Row.of_owns OWN.out
     simp only [List.length_map]
     exact this,fun r hr=>by
     obtain ⟨q,_,rfl⟩:=List.mem_map.1 hr
     rfl,fun k e _=>(OWN.out.lt k e).2⟩
    have hvl:acc.length≤vc:=by obtain ⟨_,_,e,h1,_⟩:=PL.out.form;cases e;exact h1
    have hvm:vc≤9223372036854775807:=by obtain ⟨_,_,e,_,h2⟩:=PL.out.form;cases e;unfold maxLen at h2;omega
    go_wp2
    go_loopw [35] (fun i wr2=>∃ q:Nat,q≤acc.length∧i=.int .i64 q∧Hid (Ext W3 wr2∧∀ (t:Nat) (x:Pl),t<q→acc[t]?=some x→lapS pp x=false)) (fun i _=>acc.length - (intOf i).toNat)
    case atStart=>exact ⟨0,by omega,rfl,start⟩
    case round =>
     clear start
     obtain ⟨q,hq,rfl,hin2⟩:=hrel
     have b0:=xc hin2.out.1 b0
     have b1:=xc hin2.out.1 b1
     have b2:=xc hin2.out.1 b2
     have lbp:=World.block_lt_of_cell? _ _ b0
     by_cases hql:q<acc.length
     ·have hqz:(q:Int)<(acc.length:Int):=by omega
      obtain ⟨x,hx⟩:∃ x,acc[q]?=some x:=⟨_,lE hql⟩
      have PLr:PlsIn _ W3.heap.size _ acc:=Tab.same PL.out (fun k hk=>Below.block hin2.out.1 k hk)
      obtain ⟨xb,xoff,xcap,ex,_,_,_,f0,f1,f2⟩:=PLr.at hx
      cases ex
      have hxf:=FIT.out x (List.mem_of_getElem? hx)
      have HX:=qh hx
      clear hx PLr
      cases hlp:lapS pp x with
      | true =>
       have hlap:=qh (fun (W':World)=>lap_any pp x W' hpf hxf)
       rw [hlp] at hlap
       have LP:=qh hlp
       clear hlp hxf
       go_wp2_with (first
        | (go_at_call 109;refine (hlap.out _).mono ?_;rintro e W5 ⟨rfl,x5⟩)
        | (go_at_call 123;with_reducible refine (needM_no _ _).mono ?_;rintro e w' ⟨he,rfl⟩;unfold stopM at he;subst he))
       refine ⟨rfl,?_⟩
       rw [if_pos (List.any_eq_true.2 ⟨x,List.mem_of_getElem? HX.out,LP.out⟩)] at RES
       rw [← RES.out]
       exact ApartPost.err rfl (((X4.out.trans hin2.out.1).trans (Ext.alloc _ _)).trans x5)
      | false =>
       have hlap:=qh (fun (W':World)=>lap_any pp x W' hpf hxf)
       rw [hlp] at hlap
       have LP:=qh hlp
       clear hlp hxf
       go_wp2_with (first
        | (go_at_call 109;refine (hlap.out _).mono ?_;rintro e W5 ⟨rfl,x5⟩)
        | (go_at_call 123;with_reducible refine (needM_ok _ _).mono ?_;rintro e w' ⟨rfl,rfl⟩))
       go_roundw
       case rel=>exact ⟨q+1,by omega,by go_num,qh ⟨(hin2.out.1.trans (Ext.alloc _ _)).trans x5,fun t y ht hy=>by
        by_cases et:t=q
        ·subst et;rw [HX.out] at hy;cases hy;exact LP.out
        ·exact hin2.out.2 t y (by omega) hy⟩⟩
       case measure=>simp [intOf];omega
     ·have hqz:¬ (q:Int)<(acc.length:Int):=by omega
      obtain rfl:q=acc.length:=by omega
      rw [if_neg (by rw [any_no (fun t y hy=>hin2.out.2 t y (List.getElem?_eq_some_iff.1 hy).1 hy)];simp)] at RES
      have X5:=qh (X4.out.trans hin2.out.1)
      have OWN:=qh (owns_same OWN.out (fun k e=>Below.block hin2.out.1 k (OWN.out.lt k e).2))
      clear hin2
      have lb:=World.block_lt_of_cell? _ _ b0
      have hbase:=X5.out.size
      have nv:∀ (w:World) (j:Nat) (u:Value),pp.cells[j]?=some u→(w.alloc (.cells #[.int .i64 pp.root,.int .i64 pp.beg,.int .i64 pp.width] 88)).cell? (Addr.add ⟨w.heap.size,0,none⟩ j)=some u:=fun w=>World.news_of_block (cs:=#[.int .i64 pp.root,.int .i64 pp.beg,.int .i64 pp.width]) (t:=88) (fr:=(0,0)) (heap_alloc_new w _)
      go_wp2_with (at_builtin;refine wpList_append_own _ rfl _ _ 45 rfl W.heap.size 88 iP _ 3 24 Tryz.underlying45 hiP zP0 zP1 zP2 rfl (by omega) _ _ _ rfl (OWN.out.alloc _) ⟨_,0,none⟩ 1 1 pp.cells rfl rfl (nv _) (by simp [Pl.cells,Value.oneCell']) (by unfold maxLen;omega) (by omega) (by simp;omega) ?_;intro v' w6 hown hgrow _)
      refine ⟨⟨acc.length+1,acc ++ [pp],by omega,by go_num,qh ⟨X5.out.keep (Keep.ofGrown (S:=fun q=>(Value.slice va acc.length vc).ownBlock=some q) (Ext.alloc _ _) hgrow (fun q e=>e)) (fun q e=>(OWN.out.lt q e).1),?_,?_,by simp,RES.out⟩⟩,by simp [intOf];omega⟩
      ·rw [show plCells (acc ++ [pp])=plCells acc ++ pp.cells by simp [plCells]];exact hown
      ·intro p hp
       rcases List.mem_append.1 hp with h | h
       ·exact FIT.out p h
       ·obtain rfl:=List.mem_singleton.1 h
        exact hpf
  ·have hnz:¬ (acc.length:Int)<(l.length:Int):=by omega
   have hle:acc.length=l.length:=by omega
   obtain ⟨i1,i2,i3,i4,i5⟩:=hin.out
   rw [hle,List.drop_length] at i5
   have POST:Hid (ApartPost W res (.returned (.slice va acc.length vc)) wr):=qh (by rw [← i5];exact ⟨i1,_,rfl,i2,i3⟩)
   clear i1 i2 i3 i4 i5 hin hle
   go_wp2
   go_ret
   exact POST.out
end Go.Proofs.YtligiddaampneaaGreat
end
section
namespace Go.Proofs.YtligiddaampneaaGreat
open Go.RowKit
attribute [local go_sem] Oper.semAt_some
variable {W : World} {n1 bc : Nat} {V : MV} {M : Mach} {N : List ByteArray} {L : List Pl}
theorem clone_any {v:Value} {l:List ByteArray} (hv:StrsIn W n1 v l) (hb:l.length≤1000) :
  Calls Tryz.prog 89 #[v] W fun e W'=>∃ v',e=.returned v'∧W'.ownsRow W.heap.size 9 1 v' l.length (l.map Value.string)∧Ext W W':=by
 have hr:=hv.slice
 obtain ⟨iS,hiS,zS0,zS1,zS2⟩:=info_parts infoStr
 rcases hr.2 with ⟨rfl,hn⟩ | ⟨ad,cap,rfl,h1,h2,hc⟩
 ·have hl:l=[]:=List.eq_nil_of_length_eq_zero hn
  subst hl
  have q:∀ (w:World) (a:Option Addr) (n c n' c':Nat),(binOp .eql 25 (.slice a n c) (.slice none n' c')).run Tryz.prog w=.ok (.bool a.isNone) w:=fun w a n c n' c'=>Lib.run_eql_slice_nil w _ _ a n c n' c' Tryz.underlying25
  go_enter Tryz.func89,Tryz.ntmps89
  go_wp2
  go_ret
  exact ⟨_,rfl,World.ownsRow_nil _ _ _ _,Ext.refl _⟩
 ·have q:∀ (w:World) (a:Option Addr) (n c n' c':Nat),(binOp .eql 25 (.slice a n c) (.slice none n' c')).run Tryz.prog w=.ok (.bool a.isNone) w:=fun w a n c n' c'=>Lib.run_eql_slice_nil w _ _ a n c n' c' Tryz.underlying25
  have HC:=qh hc
  clear hc hr hv
  go_enter Tryz.func89,Tryz.ntmps89
  go_wp2_with (at_builtin;refine wpList_append_own _ rfl _ _ 25 rfl W.heap.size 9 iS _ 1 16 Tryz.underlying25 hiS zS0 zS1 zS2 rfl (by omega) _ _ _ rfl (World.ownsRow_made W #[] 0 (Nat.le_refl _) (Nat.zero_le _) (by simp)) ad l.length cap (l.map Value.string) rfl (by simp) (fun j u hj=>(Ext.alloc W _).cell (HC.out j u hj)) (fun u hu=>by obtain ⟨s,_,rfl⟩:=List.mem_map.1 hu;rfl) (by unfold maxLen;omega) (by omega) (by simp) ?_;intro v' w6 hown hgrow _)
  go_ret
  exact ⟨v',rfl,by simpa using hown,(Ext.alloc _ _).keep (Keep.ofGrown (S:=fun q=>(Value.slice (some ⟨W.heap.size,0,none⟩) 0 0).ownBlock=some q) (Ext.refl _) hgrow (fun q e=>e)) (fun q e=>by cases e;exact Nat.le_refl _)⟩
theorem inC (W:World) {n0:Nat} {c:Cls} {u:Value} (hu:StrsIn W n0 u c.regs) (r:ByteArray) (br:Nat) (hr:W.cell? ⟨br,0,none⟩=some (.string r)) :
  Calls Tryz.prog 132 #[.agg #[.string c.name,u],.pointer (some ⟨br,0,none⟩)] W fun e W'=>e=.returned (.bool (decide (0≤idx c.regs r)))∧Ext W W':=by
 obtain ⟨a,cap,eu,_,_⟩:=hu.form
 have hb:br<W.heap.size:=World.block_lt_of_cell? W _ hr
 have hcon:=qh (fun (W':World) (x:Ext W W')=>contains_any u c.regs r W' ((hu.slice).below x))
 subst eu
 clear hu
 go_enter Tryz.func132,Tryz.ntmps132
 go_wp2_with (go_at_call 126;refine (hcon.out _ (Ext.alloc _ _)).mono ?_;rintro e w' ⟨rfl,rfl⟩)
 go_ret
 exact ⟨rfl,Ext.alloc _ _⟩
theorem fidx_any {α:Type} (p:α→Bool) (l:List α):decide (0≤fidx p l)=l.any p:=by
 unfold fidx
 cases hf:l.findIdx? p with
 | none =>
  rw [List.findIdx?_eq_none_iff] at hf
  have:l.any p=false:=by
   rw [List.any_eq_false];intro x hx h
   rw [hf x hx] at h;cases h
  rw [this];rfl
 | some i =>
  rw [List.findIdx?_eq_some_iff_getElem] at hf
  obtain ⟨h1,h2,_⟩:=hf
  have:l.any p=true:=List.any_eq_true.2 ⟨_,List.getElem_mem h1,h2⟩
  rw [this];simp
theorem containsC {w:World} {n0:Nat} {v:Value} {l:List Cls} (hv:ClsIn w n0 v l) (hn:n0≤w.heap.size) (r:ByteArray) (br:Nat) (hr:w.cell? ⟨br,0,none⟩=some (.string r)) :
  Calls Tryz.prog 133 #[v,.func (.func 132) #[] #[.pointer (some ⟨br,0,none⟩)]] w
   fun e w'=>e=.returned (.bool (l.any fun c=>decide (0≤idx c.regs r)))∧Ext w w':=by
 obtain ⟨a,cap,rfl,_,_⟩:=hv.form
 have HC:=qh (indexFuncC hv hn 132 #[.pointer (some ⟨br,0,none⟩)] (fun c=>decide (0≤idx c.regs r)) (fun args w=>by kernel_rfl)
  (fun W' c u hx hs=>inC W' hs r br (hx.cell hr)))
 clear hv hr
 have e:=qh (fidx_any (fun c:Cls=>decide (0≤idx c.regs r)) l)
 go_enter Tryz.func133,Tryz.ntmps133
 go_wp2_with (go_at_call 153;refine HC.out.mono ?_;rintro e w' ⟨rfl,hx⟩)
 go_ret
 exact ⟨ret_bool e.out,hx⟩
end Go.Proofs.YtligiddaampneaaGreat
end
section
namespace Go.Proofs.YtligiddaampneaaGreat
open Go.RowKit
structure Once (T:Prop):Prop where
 out:T
theorem once {T G:Prop} (h:Once T→G) (t:T):G:=h ⟨t⟩
theorem owns_ext {w w':World} {base size:Nat} {e:TypeId} {v:Value} {n:Nat} {xs:List Value} (h:w.ownsRow base e size v n xs) (x:Ext w w'):w'.ownsRow base e size v n xs :=
 owns_same h (fun k ek=>Below.block x k (h.lt k ek).2)
theorem Ext.grown {a w w':World} {row:Option Nat} (h:Ext a w) (hg:w.grownBy w' row) (hr:∀ k,row=some k→a.heap.size≤k):Ext a w':=Below.grown h hg h.size hr
theorem PlsIn.of_owns {w:World} {base:Nat} {e:TypeId} {v:Value} {n:Nat} {ps:List Pl} (h:w.ownsRow base e 3 v n (plCells ps)) (hn:ps.length=n):PlsIn w w.heap.size v ps:=by
 subst hn
 refine ⟨?_,fun r hr=>?_,fun k e _=>(h.lt k e).2⟩
 ·have:=Row.of_owns h
  simp only [List.length_map]
  exact this
 ·obtain ⟨q,_,rfl⟩:=List.mem_map.1 hr
  rfl
theorem strs_flat (l:List ByteArray):((l.map fun s=>[Value.string s]).flatten)=l.map Value.string:=by
 induction l with
 | nil=>rfl
 | cons a l ih=>simp only [List.map_cons,List.flatten_cons,ih,List.cons_append,List.nil_append]
theorem StrsIn.of_owns {w:World} {base:Nat} {e:TypeId} {v:Value} {n:Nat} {l:List ByteArray} (h:w.ownsRow base e 1 v n (l.map Value.string)) (hn:l.length=n):StrsIn w w.heap.size v l:=by
 subst hn
 refine ⟨?_,fun r hr=>?_,fun k e _=>(h.lt k e).2⟩
 ·have:=Row.of_owns h
  rw [strs_flat]
  simpa using this
 ·obtain ⟨q,_,rfl⟩:=List.mem_map.1 hr
  rfl
theorem StrsIn.ext {W W':World} {n0:Nat} {v:Value} {l:List ByteArray} (h:StrsIn W n0 v l) (hn:n0≤W.heap.size) (x:Ext W W'):StrsIn W' n0 v l :=
 Tab.same h (fun k hk=>Below.block x k (Nat.lt_of_lt_of_le hk hn))
theorem PlsIn.ext {W W':World} {n0:Nat} {v:Value} {l:List Pl} (h:PlsIn W n0 v l) (hn:n0≤W.heap.size) (x:Ext W W'):PlsIn W' n0 v l :=
 Tab.same h (fun k hk=>Below.block x k (Nat.lt_of_lt_of_le hk hn))
theorem anyF {α:Type} {p:α→Bool} {l:List α} (h:∀ (t:Nat) (y:α),l[t]?=some y→p y=false):l.any p=false:=by
 rw [List.any_eq_false]
 intro x hx e
 obtain ⟨t,ht⟩:=List.getElem?_of_mem hx
 rw [h t x ht] at e
 cases e
theorem World.ownsRow_mono {w:World} {base base' size:Nat} {e:TypeId} {v:Value} {n:Nat} {xs:List Value} (h:w.ownsRow base e size v n xs) (hb:base'≤base):w.ownsRow base' e size v n xs:=by
 refine ⟨h.1,?_⟩
 rcases h.2 with h2 | ⟨g,cap,cur,rfl,h3,r⟩
 ·exact Or.inl h2
 ·exact Or.inr ⟨g,cap,cur,rfl,Nat.le_trans hb h3,r⟩
end Go.Proofs.YtligiddaampneaaGreat
end
section
namespace Go.Proofs.YtligiddaampneaaGreat
open Go.RowKit
attribute [local go_sem] Oper.semAt_some
variable {W : World} {n1 bc : Nat} {V : MV} {M : Mach} {N : List ByteArray} {L : List Pl}
def inS (M:Mach) (_:Nat) (r:ByteArray):Except Int Unit:=if M.classes.any (fun c=>decide (0≤idx c.regs r)) then .ok () else .error 10
theorem apS_len {l:List ByteArray} {acc ps:List Pl} (h:apS N L l acc=.ok ps):ps.length=acc.length+l.length:=by
 induction l generalizing acc with
 | nil=>simp only [apS] at h;cases h;simp
 | cons r l ih =>
  simp only [apS] at h
  split at h
  ·cases h
  ·split at h
   ·cases h
   ·rw [ih h];simp;omega
theorem apartS_len {l:List ByteArray} {most:Int} {ps:List Pl} (h:apartS N L l most=.ok ps):(l.length:Int)≤most∧ps.length=l.length:=by
 unfold apartS at h
 split at h
 ·rename_i hle;exact ⟨hle,by have:=apS_len h;simpa using this⟩
 ·cases h
def convIn (M:Mach):Except Int Unit:=goS (inS M) 0 (M.args ++ [M.result])
def convSlots (M:Mach):Except Int Unit:=if 0≤M.slots∧M.slots≤1000 then convIn M else .error 10
def convRest (M:Mach) (N:List ByteArray) (L:List Pl) (pp:Pl):Except Int Unit:=match apartS N L M.saved 64 with
 | .error x=>.error x
 | .ok ps=>if ps.any (fun p=>lapS p pp) then .error 10 else convSlots M
def convS (M:Mach) (N:List ByteArray) (L:List Pl):Except Int Unit:=match apartS N L M.args 16 with
 | .error x=>.error x
 | .ok _=>match regS N M.result 10 with
  | .error x=>.error x
  | .ok n=>convRest M N L (plAt L n)
theorem conventionM_any (h:CkIn W n1 bc V M N L) :
  Calls Tryz.prog 103 #[.pointer (some ⟨bc,0,none⟩)] W fun e W'=>e=endOf unitV (convS M N L)∧Ext W W':=by
 generalize hres:convS M N L=res
 unfold convS at hres
 have c4:=h.cells 4 _ rfl
 have c5:=h.cells 5 _ rfl
 have c9:=h.cells 9 _ rfl
 have hap:=qh (apartM_any h h.m.args 16 (by decide))
 have hreg:=qh (fun (W':World) (x:Ext W W')=>regM_any (h.ext x) M.result 10)
 have hap2:=qh (fun (W':World) (x:Ext W W')=>apartM_any (h.ext x) (h.ext x).m.saved 64 (by decide))
 obtain ⟨aA,cA,eA,hA1,hA2⟩:=h.m.args.form
 obtain ⟨aS,cS,eS,hS1,hS2⟩:=h.m.saved.form
 obtain ⟨aC,cC,eC,hC1,hC2⟩:=h.m.cls.form
 obtain ⟨aP,cP,eP,hP1,hP2⟩:=h.pl.form
 have H:=qh h
 obtain ⟨vR,vC,vO,vA,vS,vN,vP⟩:=V
 dsimp only at c4 c5 c9 eA eS eC eP hap hreg hap2
 subst eA eS eC eP
 unfold maxLen at hA2 hS2 hC2 hP2
 clear h
 cases ha:apartS N L M.args 16
 case error x =>
  rw [ha] at hres hap
  dsimp only at hres
  have RES:=qh hres
  clear hres ha
  go_enter Tryz.func103,Tryz.ntmps103
  go_wp2_with (go_at_call 131;refine hap.out.mono ?_;rintro e w' ⟨x2,he⟩;dsimp only at he;unfold stopM at he;subst he)
  exact ⟨rfl,by rw [← RES.out];rfl,x2⟩
 rename_i aps
 rw [ha] at hres hap
 dsimp only at hres
 have hal:=(apartS_len ha).1
 clear ha
 go_enter Tryz.func103,Tryz.ntmps103
 go_wp2_with (go_at_call 131;refine hap.out.mono ?_;rintro e W1 ⟨x1,v1,rfl,hown1,_⟩;have X1:=qh x1;clear x1 hown1;clear hap)
 have q5:=X1.out.cell c5
 have q9:=X1.out.cell c9
 rename_i K1 hK1
 have hK1:=qh hK1
 refine wp_region_M (fun w'=>Ext W1 w') 14 (by kernel_rfl) (Ext.drew _) (fun hS=>?_)
 refine' tk 0 hS ?_ ?_;rotate_left;·intros;go_simp;try rfl
 refine' tk 1 hS ?_ ?_;rotate_left;·intros;go_simp;try rfl
 refine' tk 2 hS ?_ ?_;rotate_left;·intros;go_simp;try rfl
 try simp only [tD]
 refine' tk 3 hS ?_ ?_;rotate_left;·intro w hSw;have p9:=xc hSw q9;go_simp;try rfl
 refine' tk 4 hS ?_ ?_;rotate_left;·intros;go_simp;try rfl
 refine' tk 5 hS ?_ ?_;rotate_left;·intros;go_simp;try rfl
 try simp only [tD]
 refine' tk 6 hS ?_ ?_;rotate_left;·intros;go_simp;try rfl
 refine' tk 7 hS ?_ ?_;rotate_left;·intros;go_simp;try rfl
 refine' tk 8 hS ?_ ?_;rotate_left;·intros;go_simp;try rfl
 try simp only [tD]
 refine' tk 9 hS ?_ ?_;rotate_left;·intro w hSw;have p5:=xc hSw q5;go_simp;try rfl
 try simp only [tD]
 generalize W1.drew=W2 at hS ⊢
 have X2:=qh (X1.out.trans hS)
 cases hrg:regS N M.result 10
 case error x =>
  rw [hrg] at hres hreg
  dsimp only at hres
  have RES:=qh hres
  clear hres hrg
  refine wpAnyM_ready [10,13] (by kernel_rfl) rfl ?_
  refine (AllM.cons rfl rfl (fun K hK=>?_) (AllM.cons rfl rfl (fun K hK=>?_) AllM.nil))
  ·skip
   go_simp
   refine ((hreg.out W2 X2.out)).mono ?_
   rintro e w' ⟨he,rfl⟩
   unfold endOf stopM at he
   subst he
   exact ⟨rfl,by rw [← RES.out];rfl,X2.out⟩
  ·skip
   go_simp
   have x3:Ext W1 (W2.alloc (.cells #[.int .i64 0,.int .i64 0,.int .i64 0] 88)):=hS.trans (Ext.alloc _ _)
   refine hK.out _ _ x3 ?_
   try simp only [tD]
   clear hK K
   refine rc 10 fun K hK=>?_
   go_simp
   refine ((hreg.out _ (X1.out.trans x3))).mono ?_
   rintro e w' ⟨he,rfl⟩
   unfold endOf stopM at he
   subst he
   exact ⟨rfl,by rw [← RES.out];rfl,X1.out.trans x3⟩
 rename_i pn
 obtain ⟨pj,pp,rfl,hpj,hpp,hpf⟩:=plAt_ok H.out hrg
 have hpz:(pj:Int)<(L.length:Int):=by have:=(List.getElem?_eq_some_iff.1 hpj).1;omega
 obtain ⟨pb,poff,pcap,ep',_,_,_,d0,d1,d2⟩:=PlsIn.at H.out.pl hpj
 dsimp only at ep'
 cases ep'
 have d0:=X1.out.cell d0
 have d1:=X1.out.cell d1
 have d2:=X1.out.cell d2
 rw [hrg] at hres hreg
 dsimp only at hres
 rw [hpp] at hres
 have RES:=qh hres
 clear hres hrg hpj hpp
 apply once
 ·intro REST
  refine wpAnyM_ready [10,13] (by kernel_rfl) rfl ?_
  refine (AllM.cons rfl rfl (fun K hK=>?_) (AllM.cons rfl rfl (fun K hK=>?_) AllM.nil))
  ·skip
   go_simp
   refine ((hreg.out W2 X2.out)).mono ?_
   rintro e w' ⟨he,rfl⟩
   unfold endOf at he
   subst he
   refine hK.out _ _ hS ?_
   clear hK K
   refine' tk 11 hS ?_ ?_;rotate_left;·intros;go_simp;try rfl
   refine' tk 12 hS ?_ ?_;rotate_left;·intro w hSw;have q0:=xc hSw d0;have q1:=xc hSw d1;have q2:=xc hSw d2;go_simp;try rfl
   try simp only [tD]
   refine rc 13 fun K hK=>?_
   go_simp
   have x3:Ext W1 (W2.alloc (.cells #[.int .i64 0,.int .i64 0,.int .i64 0] 88)):=hS.trans (Ext.alloc _ _)
   refine hK.out _ _ x3 ?_
   try simp only [tD]
   clear hK K
   refine rl 14 fun K hK=>?_
   go_simp
   refine hK.out _ _ ?_
   try simp only [tD]
   clear hK K
   refine wpAnyM_done (by kernel_rfl) ?_ _
   refine hK1.out _ _ ?_
   exact REST.out
  ·skip
   go_simp
   have x3:Ext W1 (W2.alloc (.cells #[.int .i64 0,.int .i64 0,.int .i64 0] 88)):=hS.trans (Ext.alloc _ _)
   refine hK.out _ _ x3 ?_
   try simp only [tD]
   clear hK K
   refine rc 10 fun K hK=>?_
   go_simp
   refine ((hreg.out _ (X1.out.trans x3))).mono ?_
   rintro e w' ⟨he,rfl⟩
   unfold endOf at he
   subst he
   have hS0:=hS
   have hS:=x3
   refine hK.out _ _ hS ?_
   clear hK K
   refine' tk 11 hS ?_ ?_;rotate_left;·intros;go_simp;try rfl
   refine' tk 12 hS ?_ ?_;rotate_left;·intro w hSw;have q0:=xc hSw d0;have q1:=xc hSw d1;have q2:=xc hSw d2;go_simp;try rfl
   try simp only [tD]
   refine rl 14 fun K hK=>?_
   go_simp
   have hS:=hS0
   refine hK.out _ _ ?_
   try simp only [tD]
   clear hK K
   refine wpAnyM_done (by kernel_rfl) ?_ _
   refine hK1.out _ _ ?_
   exact REST.out
 have x3:Ext W (W2.alloc (.cells #[.int .i64 pp.root,.int .i64 pp.beg,.int .i64 pp.width] 88)):=X2.out.trans (Ext.alloc _ _)
 have b0:(W2.alloc (.cells #[.int .i64 pp.root,.int .i64 pp.beg,.int .i64 pp.width] 88)).cell? ⟨W2.heap.size,0,none⟩=some (.int .i64 pp.root):=cell_new W2 _ _ 0
 have b1:(W2.alloc (.cells #[.int .i64 pp.root,.int .i64 pp.beg,.int .i64 pp.width] 88)).cell? ⟨W2.heap.size,1,none⟩=some (.int .i64 pp.beg):=cell_new W2 _ _ 1
 have b2:(W2.alloc (.cells #[.int .i64 pp.root,.int .i64 pp.beg,.int .i64 pp.width] 88)).cell? ⟨W2.heap.size,2,none⟩=some (.int .i64 pp.width):=cell_new W2 _ _ 2
 obtain ⟨bp,hbp⟩:∃ b,b=W2.heap.size:=⟨_,rfl⟩
 rw [← hbp] at b0 b1 b2 ⊢
 generalize W2.alloc (.cells #[.int .i64 pp.root,.int .i64 pp.beg,.int .i64 pp.width] 88)=W3 at x3 b0 b1 b2 ⊢
 clear hbp hK1 hS hreg d0 d1 d2 q5 q9 hpz
 have X3:=qh x3
 have CK:=qh (H.out.ext x3)
 clear x3 X2 X1
 have hap3:=qh (hap2.out W3 X3.out)
 clear hap2
 have c6:=CK.out.cells 6 _ rfl
 dsimp only at c6
 unfold convRest at RES
 cases ha2:apartS N L M.saved 64
 case error x =>
  rw [ha2] at RES hap3
  clear ha2
  go_wp2_with (go_at_call 131;refine hap3.out.mono ?_;rintro e w' ⟨x2,he⟩;dsimp only at he;unfold stopM at he;subst he)
  exact ⟨rfl,by rw [← RES.out];rfl,X3.out.trans x2⟩
 rename_i ps
 rw [ha2] at RES hap3
 dsimp only at RES
 have hal2:=apartS_len ha2
 clear ha2
 go_wp2_with (go_at_call 131;refine hap3.out.mono ?_;rintro e W4 ⟨x4,v2,rfl,hown2,hfit2⟩;obtain ⟨sa,sc,rfl,hs1,hs2⟩:=(Row.of_owns hown2).shape;have X34:=qh x4;have OWN:=qh hown2;have FIT:=qh hfit2;clear x4 hown2 hfit2;unfold maxLen at hs2;clear hap3)
 have start:Hid (Ext W4 W4∧∀ (t:Nat) (x:Pl),t<0→ps[t]?=some x→lapS x pp=false):=qh ⟨Ext.refl _,fun t x h=>by omega⟩
 have PL:=qh (PlsIn.of_owns OWN.out rfl)
 have X4:=qh (X3.out.trans X34.out)
 have CK:=qh (CK.out.ext X34.out)
 have b0:=X34.out.cell b0
 have b1:=X34.out.cell b1
 have b2:=X34.out.cell b2
 clear X34 c6 OWN X3
 go_loopw [36] (fun i wr=>∃ q:Nat,q≤ps.length∧i=.int .i64 q∧Hid (Ext W4 wr∧∀ (t:Nat) (x:Pl),t<q→ps[t]?=some x→lapS x pp=false)) (fun i _=>ps.length - (intOf i).toNat)
 case atStart=>exact ⟨0,by omega,rfl,start⟩
 case round =>
  clear start
  obtain ⟨q,hq,rfl,hin⟩:=hrel
  have b0:=xc hin.out.1 b0
  have b1:=xc hin.out.1 b1
  have b2:=xc hin.out.1 b2
  have lbp:=World.block_lt_of_cell? _ _ b0
  by_cases hql:q<ps.length
  ·have hqz:(q:Int)<(ps.length:Int):=by omega
   obtain ⟨x,hx⟩:∃ x,ps[q]?=some x:=⟨_,lE hql⟩
   have PLr:PlsIn _ W4.heap.size _ ps:=PlsIn.ext PL.out (Nat.le_refl _) hin.out.1
   obtain ⟨xb,xoff,xcap,ex,_,_,_,f0,f1,f2⟩:=PLr.at hx
   cases ex
   have hxf:=FIT.out x (List.mem_of_getElem? hx)
   have HX:=qh hx
   clear hx PLr
   have hlap:=qh (fun (W':World)=>lap_any x pp W' hxf hpf)
   cases hlp:lapS x pp with
   | true =>
    rw [hlp] at hlap
    have LP:=qh hlp
    clear hlp hxf
    go_wp2_with (first
     | (go_at_call 109;refine (hlap.out _).mono ?_;rintro e W5 ⟨rfl,x5⟩)
     | (go_at_call 123;with_reducible refine (needM_no _ _).mono ?_;rintro e w' ⟨he,rfl⟩;unfold stopM at he;subst he))
    refine ⟨rfl,?_,((X4.out.trans hin.out.1).trans (Ext.alloc _ _)).trans x5⟩
    rw [if_pos (List.any_eq_true.2 ⟨x,List.mem_of_getElem? HX.out,LP.out⟩)] at RES
    rw [← RES.out];rfl
   | false =>
    rw [hlp] at hlap
    have LP:=qh hlp
    clear hlp hxf
    go_wp2_with (first
     | (go_at_call 109;refine (hlap.out _).mono ?_;rintro e W5 ⟨rfl,x5⟩)
     | (go_at_call 123;with_reducible refine (needM_ok _ _).mono ?_;rintro e w' ⟨rfl,rfl⟩))
    go_roundw
    case rel=>exact ⟨q+1,by omega,by go_num,qh ⟨(hin.out.1.trans (Ext.alloc _ _)).trans x5,fun t y ht hy=>by
     by_cases et:t=q
     ·subst et;rw [HX.out] at hy;cases hy;exact LP.out
     ·exact hin.out.2 t y (by omega) hy⟩⟩
    case measure=>simp [intOf];omega
  ·have hqz:¬ (q:Int)<(ps.length:Int):=by omega
   obtain rfl:q=ps.length:=by omega
   rw [if_neg (by rw [anyF (fun t y hy=>hin.out.2 t y (List.getElem?_eq_some_iff.1 hy).1 hy)];simp)] at RES
   have X5:=qh (X4.out.trans hin.out.1)
   have CK:=qh (CK.out.ext hin.out.1)
   clear hin b0 b1 b2 lbp
   have c7:=CK.out.cells 7 _ rfl
   have c2:=CK.out.cells 2 _ rfl
   have c4:=CK.out.cells 4 _ rfl
   have c5:=CK.out.cells 5 _ rfl
   dsimp only at c7 c2 c4 c5
   unfold convSlots at RES
   by_cases hsl:0≤M.slots∧M.slots≤1000
   case neg =>
    rw [if_neg hsl] at RES
    have fin:∀ w:World,Calls Tryz.prog 123 #[.bool false,.int .i64 10] w fun r w'=>r=stopM 10∧w=w':=fun w=>needM_no 10 w
    by_cases h0:0≤M.slots
    ·have h1:decide (M.slots≤1000)=false:=by simp;omega
     clear hsl
     go_wp2_with (go_at_call 123;with_reducible refine (needM_no _ _).mono ?_;rintro e w' ⟨he,rfl⟩;unfold stopM at he;subst he)
     exact ⟨rfl,by rw [← RES.out];rfl,X5.out⟩
    ·have h1:decide (0≤M.slots)=false:=by simp;omega
     clear hsl h0
     go_wp2_with (go_at_call 123;with_reducible refine (needM_no _ _).mono ?_;rintro e w' ⟨he,rfl⟩;unfold stopM at he;subst he)
     exact ⟨rfl,by rw [← RES.out];rfl,X5.out⟩
   rw [if_pos hsl] at RES
   obtain ⟨hs0,hs1000⟩:=hsl
   go_wp2_with (go_at_call 123;with_reducible refine (needM_ok _ _).mono ?_;rintro e w' ⟨rfl,rfl⟩)
   have hcl:=qh (fun (W':World) (x:Ext wr W')=>clone_any (StrsIn.ext CK.out.m.args CK.out.le x) (by omega:M.args.length≤1000))
   obtain ⟨iS,hiS,zS0,zS1,zS2⟩:=info_parts infoStr
   rename_i K1 hK1
   have hK1:=qh hK1
   refine wp_region_M (fun w'=>Ext wr w') 12 (by kernel_rfl) (Ext.drew _) (fun hS=>?_)
   refine' tk 0 hS ?_ ?_;rotate_left;·intros;go_simp;try rfl
   refine' tk 1 hS ?_ ?_;rotate_left;·intros;go_simp;try rfl
   refine' tk 2 hS ?_ ?_;rotate_left;·intros;go_simp;try rfl
   try simp only [tD]
   refine' tk 3 hS ?_ ?_;rotate_left;·intros;go_simp;try rfl
   refine' tk 4 hS ?_ ?_;rotate_left;·intro w hSw;have p4:=xc hSw c4;go_simp;try rfl
   refine' tk 6 hS ?_ ?_;rotate_left;·intros;go_simp;try rfl
   try simp only [tD]
   refine' tk 7 hS ?_ ?_;rotate_left;·intros;go_simp;try rfl
   refine' tk 8 hS ?_ ?_;rotate_left;·intros;go_simp;try rfl
   refine' tk 9 hS ?_ ?_;rotate_left;·intros;go_simp;try rfl
   try simp only [tD]
   refine' tk 10 hS ?_ ?_;rotate_left;·intro w hSw;have p5:=xc hSw c5;go_simp;try rfl
   try simp only [tD]
   refine' tw 14 ?_ ?_;rotate_left;·intros;go_simp;try rfl
   try simp only [tD]
   generalize wr.drew=W2 at hS ⊢
   apply once
   ·intro REST
    refine wpAnyM_ready [5,11] (by kernel_rfl) rfl ?_
    refine (AllM.cons rfl rfl (fun K hK=>?_) (AllM.cons rfl rfl (fun K hK=>?_) AllM.nil))
    ·skip
     go_simp
     refine ((hcl.out W2 hS)).mono ?_
     rintro e W6 ⟨v',rfl,hown,hx⟩
     have hS0:=hS
     have hS:=Ext.trans hS hx
     refine hK.out _ _ hS ?_
     try simp only [tD]
     clear hK K
     refine rc 11 fun K hK=>?_
     go_simp
     have hb:=Ext.size hS
     refine hK.out _ _ (Ext.trans hS (Ext.alloc _ _)) ?_
     try simp only [tD]
     clear hK K
     refine rl 12 fun K hK=>?_
     refine wp_append_lies _ _ _ _ rfl wr.heap.size 9 iS _ 1 16 Tryz.underlying25 hiS zS0 zS1 zS2 rfl (by omega) v' M.args.length (M.args.map Value.string) rfl ((World.ownsRow_mono hown (Ext.size hS0)).alloc _) ⟨W6.heap.size,0,none⟩ 1 1 [.string M.result] rfl rfl (by have hw:=World.news_of_block (cs:=#[Value.string M.result]) (t:=9) (fr:=(0,0)) (heap_alloc_new W6 _);exact hw) (by simp [Value.oneCell']) (by omega) (by unfold maxLen;omega) (by omega) (by simp;omega) _ rfl ?_
     intro g cap w' hown2 hgrow e1 e2
     refine hK.out _ _ ?_
     try simp only [tD]
     clear hK K
     have xx:Ext wr w':=Ext.grown (Ext.trans hS (Ext.alloc _ _)) hgrow (fun k e=>Nat.le_trans (Ext.size hS0) (hown.lt k e).1)
     refine' tw 13 ?_ ?_;rotate_left;·intros;go_simp;try rfl
     try simp only [tD]
     refine wpAnyM_done (by kernel_rfl) ?_ _
     refine hK1.out _ _ ?_
     generalize Value.slice (some ⟨W6.heap.size,0,none⟩) 1 1=d72
     clear hgrow e1 e2 hown
     revert v' g cap w' d72
     exact REST.out
    ·skip
     go_simp
     have x3:Ext wr (W2.alloc (.cells #[.string M.result] 9)):=hS.trans (Ext.alloc _ _)
     have nv:=World.news_of_block (cs:=#[Value.string M.result]) (t:=9) (fr:=(0,0)) (heap_alloc_new W2 _)
     refine hK.out _ _ x3 ?_
     try simp only [tD]
     clear hK K
     refine rc 5 fun K hK=>?_
     go_simp
     refine ((hcl.out _ x3)).mono ?_
     rintro e W6 ⟨v',rfl,hown,hx⟩
     have hS0:=hS
     have hS:=Ext.trans x3 hx
     refine hK.out _ _ hS ?_
     try simp only [tD]
     clear hK K
     have hb:=Ext.size hS
     refine rl 12 fun K hK=>?_
     refine wp_append_lies _ _ _ _ rfl wr.heap.size 9 iS _ 1 16 Tryz.underlying25 hiS zS0 zS1 zS2 rfl (by omega) v' M.args.length (M.args.map Value.string) rfl (World.ownsRow_mono hown (Ext.size x3)) ⟨W2.heap.size,0,none⟩ 1 1 [.string M.result] rfl rfl (fun j u hj=>xc hx (nv j u hj)) (by simp [Value.oneCell']) (by omega) (by unfold maxLen;omega) (by omega) (by omega) _ rfl ?_
     intro g cap w' hown2 hgrow e1 e2
     refine hK.out _ _ ?_
     try simp only [tD]
     clear hK K
     have xx:Ext wr w':=Ext.grown hS hgrow (fun k e=>Nat.le_trans (Ext.size x3) (hown.lt k e).1)
     refine' tw 13 ?_ ?_;rotate_left;·intros;go_simp;try rfl
     try simp only [tD]
     refine wpAnyM_done (by kernel_rfl) ?_ _
     refine hK1.out _ _ ?_
     generalize Value.slice (some ⟨W2.heap.size,0,none⟩) 1 1=d72
     clear hgrow e1 e2 hown
     revert v' g cap w' d72
     exact REST.out
   intro v' g cap w' hown xx d72
   have X6:=qh (X5.out.trans xx)
   have CK:=qh (CK.out.ext xx)
   have ST:=qh (StrsIn.of_owns (l:=M.args ++ [M.result]) (by simpa using hown) (by simp))
   have hcg:M.args.length+1≤cap:=by
    obtain ⟨_,_,e,h1,_⟩:=ST.out.form;simp at e h1;omega
   have hcg2:cap≤9223372036854775807:=by
    obtain ⟨_,_,e,_,h2⟩:=ST.out.form;simp at e;unfold maxLen at h2;omega
   have start:Hid (Ext w' w'∧goS (inS M) 0 ((M.args ++ [M.result]).drop 0)=res):=qh ⟨Ext.refl _,RES.out⟩
   clear hown xx X5 RES hK1 hS hcl zS0 zS1 zS2 hiS iS c2 c4 c5 c7 hs0 hs1000 hqz hql hq X4
   go_wp2
   go_loopw [75] (fun i wr2=>∃ q:Nat,q≤M.args.length+1∧i=.int .i64 q∧Hid (Ext w' wr2∧goS (inS M) q ((M.args ++ [M.result]).drop q)=res)) (fun i _=>M.args.length+1 - (intOf i).toNat)
   case atStart=>exact ⟨0,by omega,rfl,start⟩
   case round =>
    clear start
    obtain ⟨q,hq,rfl,hin⟩:=hrel
    have CK:=qh (CK.out.ext hin.out.1)
    have X6:=qh (X6.out.trans hin.out.1)
    have XI:=qh hin.out.1
    have RES:=qh hin.out.2
    have STr:=qh (StrsIn.ext ST.out (Nat.le_refl _) hin.out.1)
    clear hin
    by_cases hql:q<M.args.length+1
    ·have hqz:(q:Int)<(M.args.length:Int)+1:=by omega
     obtain ⟨r,hr⟩:∃ r,(M.args ++ [M.result])[q]?=some r:=⟨_,lE (by simp;omega)⟩
     obtain ⟨ub,uoff,ucap,eu,_,_,_,g0⟩:=StrsIn.at STr.out hr
     simp at eu
     obtain ⟨⟨rfl,rfl⟩,rfl⟩:=eu
     rw [Nat.zero_add] at g0
     have c2:=CK.out.cells 2 _ rfl
     dsimp only at c2
     have hbc:=World.block_lt_of_cell? _ _ c2
     have RES:=qh ((goS_at hr).symm.trans RES.out)
     have hcon:=qh (fun (br:Nat) (W':World) (x:Ext wr W') (hb:W'.cell? ⟨br,0,none⟩=some (.string r))=>containsC (CK.out.ext x).m.cls (CK.out.ext x).le r br hb)
     dsimp only at hcon
     clear hr STr
     have cn:=cell_new wr #[.string r] 9 0
     cases hany:M.classes.any (fun c=>decide (0≤idx c.regs r)) with
     | true =>
      rw [hany] at hcon
      unfold inS at RES
      rw [if_pos hany] at RES
      clear hany
      go_wp2_with (first
       | (go_at_call 133;refine (hcon.out _ _ (Ext.alloc _ _) cn).mono ?_;rintro e W5 ⟨rfl,x5⟩)
       | (go_at_call 123;with_reducible refine (needM_ok _ _).mono ?_;rintro e w' ⟨rfl,rfl⟩))
      go_roundw
      case rel=>exact ⟨q+1,by omega,by go_num,qh ⟨(XI.out.trans (Ext.alloc _ _)).trans x5,RES.out⟩⟩
      case measure=>simp [intOf];omega
     | false =>
      rw [hany] at hcon
      unfold inS at RES
      rw [if_neg (by rw [hany];simp)] at RES
      clear hany
      go_wp2_with (first
       | (go_at_call 133;refine (hcon.out _ _ (Ext.alloc _ _) cn).mono ?_;rintro e W5 ⟨rfl,x5⟩)
       | (go_at_call 123;with_reducible refine (needM_no _ _).mono ?_;rintro e w' ⟨he,rfl⟩;unfold stopM at he;subst he))
      exact ⟨rfl,by rw [← RES.out];rfl,(X6.out.trans (Ext.alloc _ _)).trans x5⟩
    ·have hqz:¬ (q:Int)<(M.args.length:Int)+1:=by omega
     obtain rfl:q=M.args.length+1:=by omega
     have RES:=qh (RES.out.symm.trans (by rw [List.drop_of_length_le (by simp)]))
     go_wp2
     go_end0
     exact ⟨by rw [RES.out];rfl,X6.out⟩
end Go.Proofs.YtligiddaampneaaGreat
end
section
namespace Go.Proofs.YtligiddaampneaaGreat
open Go.RowKit
attribute [local go_sem] Oper.semAt_some
variable {W : World} {n1 bc : Nat} {V : MV} {M : Mach} {N : List ByteArray} {L : List Pl}
theorem stepsS_inv {I:Wk→Prop} {g:Wk→RegT→Except Int Wk} {l:List RegT} (hg:∀ r∈l,∀ σ σ',I σ→g σ r=.ok σ'→I σ') {σ σ':Wk} (h0:I σ) (h:stepsS g l σ=.ok σ'):I σ':=by
 induction l generalizing σ with
 | nil=>simp only [stepsS] at h;cases h;exact h0
 | cons r l ih =>
  simp only [stepsS] at h
  split at h
  ·rename_i τ hτ
   exact ih (fun r hr=>hg r (by simp [hr])) (hg r (by simp) _ _ h0 hτ) h
  ·cases h
theorem stepsS_err {I:Wk→Prop} {E:Int→Prop} {g:Wk→RegT→Except Int Wk} {l:List RegT} (hg:∀ r∈l,∀ σ σ',I σ→g σ r=.ok σ'→I σ') (he:∀ r∈l,∀ σ x,I σ→g σ r=.error x→E x) {σ:Wk} {x:Int} (h0:I σ) (h:stepsS g l σ=.error x):E x:=by
 induction l generalizing σ with
 | nil=>simp only [stepsS] at h;cases h
 | cons r l ih =>
  simp only [stepsS] at h
  split at h
  ·rename_i τ hτ
   exact ih (fun r hr=>hg r (by simp [hr])) (fun r hr=>he r (by simp [hr])) (hg r (by simp) _ _ h0 hτ) h
  ·rename_i y hy
   cases h
   exact he r (by simp) _ _ h0 hy
theorem downS_inv {I:Wk→Prop} (hI:∀ σ name width beg d σ',I σ→1≤d→d≤σ.ways.length→oneS σ name width beg d=.ok σ'→I σ'∧σ'.ways.length=d+1) :
  ∀ (k d:Nat) (l:List RegT) (σ σ':Wk),1≤d→I σ→d≤σ.ways.length→downS k d l σ=.ok σ'→I σ'∧d≤σ'.ways.length:=by
 intro k
 induction k with
 | zero=>intro d l σ σ' _ h0 hd h;simp only [downS] at h;cases h;exact ⟨h0,hd⟩
 | succ k ih =>
  intro d l σ σ' h1 h0 hd h
  simp only [downS] at h
  refine stepsS_inv (I:=fun σ=>I σ∧d≤σ.ways.length) (fun r _ τ τ' hτ hg=>?_) ⟨h0,hd⟩ h
  (try dsimp only at hg)
  split at hg
  ·rename_i τ1 h1'
   obtain ⟨hi,hw⟩:=hI _ _ _ _ _ _ hτ.1 h1 hτ.2 h1'
   obtain ⟨hi2,hw2⟩:=ih (d+1) _ _ _ (by omega) hi (by omega) hg
   exact ⟨hi2,by omega⟩
  ·cases hg
theorem placeS_err {σ:Wk} {d:Nat} {width beg x:Int} (h:placeS σ d width beg=.error x):x=6:=by
 unfold placeS at h
 split at h
 ·split at h
  ·cases h
  ·cases h;rfl
 ·split at h
  ·split at h
   ·cases h
   ·cases h;rfl
  ·cases h;rfl
theorem oneS_err {σ:Wk} {name:ByteArray} {width beg:Int} {d:Nat} {x:Int} (h:oneS σ name width beg d=.error x):2≤x∧x≤7:=by
 unfold oneS at h
 split at h
 ·cases h;decide
 split at h
 ·cases h;decide
 split at h
 ·cases h;decide
 split at h
 ·cases h;decide
 split at h
 ·rename_i e he
  cases h
  have:=placeS_err he
  omega
 ·split at h
  ·cases h;decide
  ·cases h
theorem downS_err:∀ (k d:Nat) (l:List RegT) (σ:Wk) (x:Int),downS k d l σ=.error x→2≤x∧x≤7:=by
 intro k
 induction k with
 | zero=>intro d l σ x h;simp only [downS] at h;cases h
 | succ k ih =>
  intro d l σ x h
  simp only [downS] at h
  refine stepsS_err (I:=fun _=>True) (E:=fun x=>2≤x∧x≤7) (fun _ _ _ _ _ _=>trivial) (fun r _ τ y _ hg=>?_) trivial h
  (try dsimp only at hg)
  split at hg
  ·exact ih _ _ _ _ hg
  ·rename_i e he
   cases hg
   exact oneS_err he
theorem placesS_err {l:List RegT} {x:Int} (h:placesS l=.error x):2≤x∧x≤7:=downS_err _ _ _ _ _ h
def Pl.tight (p:Pl):Prop:=(0≤p.root∧p.root≤200)∧0≤p.beg∧1≤p.width∧p.beg+p.width≤64
theorem Pl.tight.fit {p:Pl} (h:p.tight):p.fit:=by
 obtain ⟨⟨_,_⟩,_,_,_⟩:=h
 refine ⟨⟨?_,?_⟩,⟨?_,?_⟩,⟨?_,?_⟩⟩ <;> omega
theorem oneS_tight {σ σ':Wk} {name:ByteArray} {width beg:Int} {d:Nat} (hG:σ.Good) (hT:∀ p∈σ.places,p.tight) (hd:1≤d) (hdw:d≤σ.ways.length) (h:oneS σ name width beg d=.ok σ'):∀ p∈σ'.places,p.tight:=by
 unfold oneS at h
 split at h
 ·cases h
 split at h
 ·cases h
 rename_i hn
 split at h
 ·cases h
 split at h
 ·cases h
 rename_i hw
 simp only [Classical.not_not] at hw
 obtain ⟨q,hq⟩:∃ q,σ.ways[d - 1]?=some q:=⟨σ.ways[d - 1]'(by omega),lE _⟩
 obtain ⟨hr,hb⟩:=hG.wy _ _ hq
 have hro:=hG.ro
 have hrn:=hG.rn
 split at h
 ·cases h
 ·rename_i p roots hp
  split at h
  ·cases h
  ·cases h
   have key:p.tight:=by
    unfold placeS at hp
    split at hp
    ·split at hp
     ·cases hp;refine ⟨⟨?_,?_⟩,?_,?_,?_⟩ <;> (try simp only []) <;> omega
     ·cases hp
    ·rw [hq] at hp
     simp only [] at hp
     split at hp
     ·cases hp;refine ⟨⟨?_,?_⟩,?_,?_,?_⟩ <;> (try simp only []) <;> omega
     ·cases hp
   intro x hx
   simp only [tookS] at hx
   rcases List.mem_append.1 hx with hx | hx
   ·exact hT x hx
   ·obtain rfl:=List.mem_singleton.1 hx;exact key
theorem placesS_tight {l:List RegT} {σ:Wk} (h:placesS l=.ok σ):σ.Good∧∀ p∈σ.places,p.tight:=by
 have:=downS_inv (I:=fun σ=>σ.Good∧∀ p∈σ.places,p.tight) (fun σ name width beg d σ' hI hd hdw h=>⟨⟨(good_one hI.1 hd hdw h).1,oneS_tight hI.1 hI.2 hd hdw h⟩,(good_one hI.1 hd hdw h).2⟩) 7 1 l wk0 σ (by omega) ⟨start_good,by simp [wk0]⟩ (by simp [wk0]) h
 exact this.1
theorem RegsIn.up' {W:World} {n0 n1:Nat} {v:Value} {l:List RegT} (h:RegsIn W n0 v l) (hn:n0≤n1):RegsIn W n1 v l:=by
 induction h with
 | mk vs hl hrow hb hw _ ih=>exact .mk vs hl hrow (fun k e hl=>Nat.lt_of_lt_of_le (hb k e hl) hn) hw ih
theorem ClsIn.up {W:World} {n0 n1:Nat} {v:Value} {l:List Cls} (h:ClsIn W n0 v l) (hn:n0≤n1):ClsIn W n1 v l:=by
 obtain ⟨us,h1,h2,h3⟩:=h
 exact ⟨us,h1,h2.up hn,fun i c u hc hu=>Tab.up (h3 i c u hc hu) hn⟩
theorem OpsIn.up {W:World} {n0 n1:Nat} {v:Value} {l:List Opn} (h:OpsIn W n0 v l) (hn:n0≤n1):OpsIn W n1 v l:=by
 obtain ⟨us,h1,h2,h3⟩:=h
 exact ⟨us,h1,h2.up hn,fun i o u ho hu=>⟨Tab.up (h3 i o u ho hu).1 hn,Tab.up (h3 i o u ho hu).2.1 hn,(h3 i o u ho hu).2.2⟩⟩
theorem MachIn.up {W:World} {n0 n1:Nat} {vR vC vO vA vS:Value} {M:Mach} (h:MachIn W n0 vR vC vO vA vS M) (hn:n0≤n1):MachIn W n1 vR vC vO vA vS M :=
 ⟨h.regs.up' hn,h.cls.up hn,h.ops.up hn,Tab.up h.args hn,Tab.up h.saved hn,h.slots⟩
structure Ck0 (W:World) (n0 bc:Nat) (V:MV) (M:Mach):Prop where
 blk:W.heap[bc]?=some (.cells (machCells M V.vR V.vC V.vO V.vA V.vS ++ [V.vN,V.vP]).toArray 121 (0,0))
 le:n0≤bc
 m:MachIn W n0 V.vR V.vC V.vO V.vA V.vS M
theorem Ck0.ext {W W':World} {n0 bc:Nat} {V:MV} {M:Mach} (h:Ck0 W n0 bc V M) (x:Ext W W'):Ck0 W' n0 bc V M:=by
 have hlt:=(Array.getElem?_eq_some_iff.1 h.blk).1
 exact ⟨x.block h.blk,h.le,h.m.same fun k hk=>Below.block x k (Nat.lt_trans (Nat.lt_of_lt_of_le hk h.le) hlt)⟩
theorem Ck0.cells {W:World} {n0 bc:Nat} {V:MV} {M:Mach} (h:Ck0 W n0 bc V M):∀ j v,(machCells M V.vR V.vC V.vO V.vA V.vS ++ [V.vN,V.vP])[j]?=some v→W.cell? ⟨bc,j,none⟩=some v:=by
 intro j v hj
 simp only [World.cell?,h.blk]
 simpa using hj
theorem Ck0.free {W:World} {n0 bc:Nat} {V:MV} {M:Mach} (h:Ck0 W n0 bc V M) (j:Nat):W.frozen? ⟨bc,j,none⟩=false:=by
 simp [World.frozen?,h.blk]
theorem owns_ne {w:World} {base size:Nat} {e t:TypeId} {v:Value} {n b:Nat} {xs:List Value} {cs:Array Value} {fz:Nat × Nat} (h:w.ownsRow base e size v n xs) (hb:w.heap[b]?=some (.cells cs t fz)) (hne:e≠t):v.ownBlock≠some b:=by
 intro ev
 rcases h.2 with ⟨rfl,_⟩ | ⟨g,cap,cur,rfl,_,hg,_⟩
 ·cases ev
 ·have eg:g=b:=by simpa [Value.ownBlock] using ev
  subst eg
  rw [hb] at hg
  cases hg
  exact hne rfl
theorem Ck0.stored {n0:Nat} (h:Ck0 W n0 bc V M) {vN vP:Value} {N:List ByteArray} {L:List Pl} (hN:W.ownsRow 0 9 1 vN N.length (N.map Value.string)) (hP:W.ownsRow 0 88 3 vP L.length (plCells L)) (hl:L.length=N.length) (hT:∀ p∈L,p.tight) :
  CkIn ((W.setCell ⟨bc,8,none⟩ vN).setCell ⟨bc,9,none⟩ vP) ((W.setCell ⟨bc,8,none⟩ vN).setCell ⟨bc,9,none⟩ vP).heap.size bc { V with vN:=vN,vP:=vP } M N L:=by
 have hlt:=(Array.getElem?_eq_some_iff.1 h.blk).1
 have k1:=Keep.setCell (fun k=>k=bc) W ⟨bc,8,none⟩ vN rfl
 have k2:=Keep.setCell (fun k=>k=bc) (W.setCell ⟨bc,8,none⟩ vN) ⟨bc,9,none⟩ vP rfl
 have b1:=heap_set_cells h.blk 8 vN
 have b2:=heap_set_cells b1 9 vP
 have kk:=k1.trans k2 (fun _ _ h=>h)
 have nN:=owns_ne hN h.blk (by decide)
 have nP:=owns_ne hP h.blk (by decide)
 have oN:=owns_same (w':=(W.setCell ⟨bc,8,none⟩ vN).setCell ⟨bc,9,none⟩ vP) hN (fun k e=>kk.block k (hN.lt k e).2 (fun ek=>nN (by rw [e,ek])))
 have oP:=owns_same (w':=(W.setCell ⟨bc,8,none⟩ vN).setCell ⟨bc,9,none⟩ vP) hP (fun k e=>kk.block k (hP.lt k e).2 (fun ek=>nP (by rw [e,ek])))
 have hm:=h.m.same (W':=(W.setCell ⟨bc,8,none⟩ vN).setCell ⟨bc,9,none⟩ vP) (fun k hk=>kk.block k (Nat.lt_trans (Nat.lt_of_lt_of_le hk h.le) hlt) (fun e=>by have:=h.le;omega))
 have hs:=kk.size
 refine ⟨?_,by omega,Nat.le_refl _,hm.up (by have:=h.le;omega),StrsIn.of_owns oN rfl,PlsIn.of_owns oP rfl,fun p hp=>(hT p hp).fit,hl⟩
 intro j v hj
 simp only [World.cell?,b2]
 simpa [machCells] using hj
def headS (M:Mach):Except Int (List ByteArray × List Pl) :=
 if namedS M.name=true then (match placesS M.regs with
  | .error x=>.error x
  | .ok σ=>if 0<σ.names.length then .ok (σ.names,σ.places) else .error 1) else .error 5
def HeadPost (W:World) (bc:Nat) (V:MV) (M:Mach) (r:Except Int (List ByteArray × List Pl)) (e:Ending) (W':World):Prop :=
 Keep (fun k=>k=bc) W W'∧match r with
  | .error x=>e=stopM x
  | .ok (N,L)=>e=.returned (.tuple #[])∧∃ vN vP,CkIn W' W'.heap.size bc { V with vN:=vN,vP:=vP } M N L
theorem HeadPost.err {W:World} {x:Int} {e:Ending} {W':World} (h:e=stopM x) (k:Keep (fun k=>k=bc) W W'):HeadPost W bc V M (.error x) e W':=⟨k,h⟩
theorem headM_any {n0:Nat} (h:Ck0 W n0 bc V M) :
  Calls Tryz.prog 100 #[.pointer (some ⟨bc,0,none⟩)] W (HeadPost W bc V M (headS M)):=by
 generalize hres:headS M=res
 unfold headS at hres
 have c0:=h.cells 0 _ rfl
 have H:=qh h
 have hnm:=qh (named_any M.name W)
 cases hn:namedS M.name with
 | false =>
  rw [if_neg (by rw [hn];simp)] at hres
  rw [hn] at hnm
  have RES:=qh hres
  clear hres hn h
  go_enter Tryz.func100,Tryz.ntmps100
  go_wp2_with (first
   | (go_at_call 124;refine hnm.out.mono ?_;rintro e w' ⟨rfl,hx⟩)
   | (go_at_call 123;with_reducible refine (needM_no _ _).mono ?_;rintro e w' ⟨he,rfl⟩;unfold stopM at he;subst he))
  exact ⟨rfl,by rw [← RES.out];exact HeadPost.err rfl (Keep.of_ext hx)⟩
 | true =>
  rw [if_pos hn] at hres
  rw [hn] at hnm
  clear hn h
  go_enter Tryz.func100,Tryz.ntmps100
  go_wp2_with (first
   | (go_at_call 124;refine hnm.out.mono ?_;rintro e W1 ⟨rfl,hx⟩;have c1:=xc hx (H.out.cells 1 _ rfl);have X1:=qh hx;clear hx)
   | (go_at_call 123;with_reducible refine (needM_ok _ _).mono ?_;rintro e w' ⟨rfl,rfl⟩)
   | fail)
  have H1:=qh (H.out.ext X1.out)
  obtain ⟨aR,nR,cR,eR⟩:∃ a n c,V.vR=.slice a n c:=by
   have hm:=H.out.m.regs
   cases hm with
   | mk vs hl hrow hb hw hs=>obtain ⟨a,c,e,_,_⟩:=hrow.shape;exact ⟨a,_,c,e⟩
  have hpl:=qh (places_any M.regs aR nR cR W1 (by have:=H1.out.m.regs;rw [eR] at this;exact this.up' (by have:=(Array.getElem?_eq_some_iff.1 H1.out.blk).1;have:=H1.out.le;omega)))
  rw [eR]
  refine hpl.out.mono ?_
  have hsz:∀ (W2:World),Ext W1 W2→bc<W2.heap.size:=fun W2 x=>(Array.getElem?_eq_some_iff.1 (H1.out.ext x).blk).1
  cases hp:placesS M.regs with
  | error x =>
   rintro e W2 ⟨x2,he⟩
   dsimp only at he
   subst he
   rw [hp] at hres
   dsimp only at hres
   have hx27:=placesS_err hp
   have hx0:(x == 0)=false:=by simp;omega
   have H2:=qh (H1.out.ext x2)
   have c8:=H2.out.cells 8 _ rfl
   have c9:=H2.out.cells 9 _ rfl
   have f8:=H2.out.free 8
   have f9:=H2.out.free 9
   have K2:=qh ((Keep.of_ext (Ext.trans X1.out x2):Keep (fun k=>k=bc) W W2))
   have RES:=qh hres
   clear hres hp hpl hsz H1
   go_wp2_with (go_at_call 123;with_reducible refine (needM_no _ _).mono ?_;rintro e w' ⟨he,rfl⟩;unfold stopM at he;subst he)
   exact ⟨rfl,by rw [← RES.out];exact HeadPost.err rfl (((K2.out).trans (Keep.setCell (fun k=>k=bc) _ _ _ rfl) (fun _ _ h=>h)).trans (Keep.setCell (fun k=>k=bc) _ _ _ rfl) (fun _ _ h=>h))⟩
  | ok σ =>
   rintro e W2 ⟨x2,vN,vP,rfl,hownN,hownP,hG⟩
   rw [hp] at hres
   dsimp only at hres
   obtain ⟨aN,cN,rfl,hN1,hN2⟩:=(Row.of_owns hownN).shape
   obtain ⟨aP,cP,rfl,hP1,hP2⟩:=(Row.of_owns hownP).shape
   have H2:=qh (H1.out.ext x2)
   have c8:=H2.out.cells 8 _ rfl
   have c9:=H2.out.cells 9 _ rfl
   have f8:=H2.out.free 8
   have f9:=H2.out.free 9
   have K2:=qh ((Keep.of_ext (Ext.trans X1.out x2):Keep (fun k=>k=bc) W W2))
   have T:=qh (placesS_tight hp).2
   have RES:=qh hres
   have hb2:=hsz W2 x2
   clear hres hp hpl hsz H1
   unfold maxLen at hN2 hP2
   have hln:=hG.lp
   have hl200:=hG.ln
   have K4:=qh ((K2.out.trans (Keep.setCell (fun k=>k=bc) W2 ⟨bc,8,none⟩ (.slice aN σ.names.length cN) rfl) (fun _ _ h=>h)).trans (Keep.setCell (fun k=>k=bc) _ ⟨bc,9,none⟩ (.slice aP σ.places.length cP) rfl) (fun _ _ h=>h))
   have C4:=qh (H2.out.stored hownN hownP hln T.out)
   clear hownN hownP hG hln K2 T H2 H x2
   by_cases hpos:0<σ.names.length
   ·rw [if_pos hpos] at RES
    have hpz:(0:Int)<(σ.names.length:Int):=by omega
    go_wp2_with (go_at_call 123;with_reducible refine (needM_ok _ _).mono ?_;rintro e w' ⟨rfl,rfl⟩)
    go_end0
    rw [← RES.out]
    exact ⟨K4.out,rfl,_,_,C4.out⟩
   ·rw [if_neg hpos] at RES
    have hpz:decide ((0:Int)<(σ.names.length:Int))=false:=by rw [decide_eq_false_iff_not];omega
    have hpz2:decide (0<σ.names.length)=false:=by rw [decide_eq_false_iff_not];omega
    clear hpos
    go_wp2_with (go_at_call 123;first
     | (with_reducible refine (needM_no 1 _).mono ?_;rintro e w' ⟨he,rfl⟩;unfold stopM at he;subst he)
     | (with_reducible refine (needM_ok _ _).mono ?_;rintro e w' ⟨rfl,rfl⟩))
    exact ⟨rfl,by rw [← RES.out];exact HeadPost.err rfl K4.out⟩
end Go.Proofs.YtligiddaampneaaGreat
end
section
namespace Go.Proofs.YtligiddaampneaaGreat
open Go.RowKit
attribute [local go_sem] Oper.semAt_some
theorem asked1_ret (b:Nat) (w:World) :
  CallsD Tryz.prog 122 #[.pointer (some ⟨b,0,none⟩)] .returning w fun e u' w'=>e=.returned (.tuple #[])∧u'=.returning∧w'=w:=by
 refine callsD_of_wpS Tryz.func122 rfl fun c₀ cs hu=>?_
 simp only [Tryz.ntmps122,List.size_toArray,List.length_cons,List.length_nil,Nat.reduceAdd,Nat.reduceSub,Array.replicate_succ,Array.replicate_zero,List.push_toArray,List.append_toArray,List.nil_append,List.cons_append]
 refine wpS_seq ?_
 refine wpS_region ?_
 simp [wpOpsS,go_sem,recoverD,hu,Exit.thenS]
 refine wpS_of_wp ?_
 go_wp2
 refine ⟨rfl,.returning,?_,_,results_none rfl _ _ _,rfl,rfl,rfl⟩
 cases c₀
 simp only [] at hu
 subst hu
 rfl
theorem asked1_rec (b:Nat) (x:Int) (W:World) (v2:Value) (c2:W.heap[b]?=some (.cells #[v2] 65 (0,0))) :
  CallsD Tryz.prog 122 #[.pointer (some ⟨b,0,none⟩)] (.panicking [{ v:=.iface 151 (.agg #[.int .i64 x]),recovered:=false }]) W
   fun e u' w'=>e=.returned (.tuple #[])∧u'=.panicking [{ v:=.iface 151 (.agg #[.int .i64 x]),recovered:=true }]∧Keep (fun k=>k=b) W w'∧w'.heap[b]?=some (.cells #[.int .i64 x] 65 (0,0)):=by
 refine callsD_of_wpS Tryz.func122 rfl fun c₀ cs hu=>?_
 simp only [Tryz.ntmps122,List.size_toArray,List.length_cons,List.length_nil,Nat.reduceAdd,Nat.reduceSub,Array.replicate_succ,Array.replicate_zero,List.push_toArray,List.append_toArray,List.nil_append,List.cons_append]
 refine wpS_seq ?_
 refine wpS_region ?_
 simp [wpOpsS,go_sem,recoverD,hu,Exit.thenS]
 refine wpS_of_wp ?_
 have ta:∀ w:World,(Instr.typeAssert (.iface 151 (.agg #[.int .i64 x])) 20 151 true).run Tryz.prog w=.ok (.tuple #[.agg #[.int .i64 x],.bool true]) w:=fun w=>by kernel_rfl
 have xa:Ext W (W.alloc (.cells #[.int .i64 x] 151)):=Ext.alloc W _
 have l2:b<W.heap.size:=(Array.getElem?_eq_some_iff.1 c2).1
 have e2:=cell_of_one c2
 have f2:=free_of_one c2
 go_wp2
 have k2:=Keep.setCell (fun k=>k=b) W ⟨b,0,none⟩ (.int .i64 x) rfl
 have s2:(W.setCell ⟨b,0,none⟩ (.int .i64 x)).heap[b]?=some (.cells #[.int .i64 x] 65 (0,0)):=heap_set_cells c2 0 _
 exact ⟨rfl,.panicking [{ v:=.iface 151 (.agg #[.int .i64 x]),recovered:=true }],rfl,_,results_none rfl _ _ _,rfl,rfl,k2.trans (Keep.of_ext (Ext.alloc _ _)) (fun _ _ h=>h),(Ext.alloc _ _).block s2⟩
def codeOf {α:Type}:Except Int α→Int
 | .ok _=>0
 | .error x=>x
def AskedPost {α:Type} (W:World) (D:World→Except Int α→World→Prop) (e:Ending) (w2:World):Prop :=
 ∃ r W' w1,e=.returned (.int .i64 (codeOf r))∧Ext W W'∧D W' r w1∧Keep (fun k=>W.heap.size≤k) w1 w2
theorem askedM {g:Nat} {lb:Array Value} {W:World} {α:Type} (val:α→Value) (D:World→Except Int α→World→Prop) (eg:∀ args w,(callFunc g args).run Tryz.prog w=.ok (.enter g args) w)
  (hD:∀ W' r w1,D W' r w1→Keep (fun k=>k<W.heap.size) W' w1)
  (hdo:∀ W',Ext W W'→Calls Tryz.prog g lb W' fun e w1=>∃ r,e=endOf val r∧D W' r w1) :
  Calls Tryz.prog 98 #[.func (.func g) #[] lb] W (AskedPost W D):=by
 have hmf:∀ (fn:Fn) (first cap:Array Value) (w:World),(Instr.makeFunc fn first cap).run Tryz.prog w=.ok (.func fn first cap) w:=fun _ _ _ _=>rfl
 go_enter_defers Tryz.func98,Tryz.ntmps98
 have HDO:=qh (hdo _ (Ext.alloc W (.cells #[.int .i64 0] 65)))
 have HD:=qh hD
 clear hdo hD
 go_wp2_with fail
 refine HDO.out.mono ?_
 rintro e w1 ⟨r,rfl,hd1⟩
 have hk:=HD.out _ _ _ hd1
 have hb:w1.heap[W.heap.size]?=some (.cells #[.int .i64 0] 65 (0,0)):=by
  rw [hk.block W.heap.size (by simp) (by show ¬ _<_;omega)]
  exact heap_alloc_new W _
 have D1:=qh hd1
 have XW:Ext W (W.alloc (.cells #[.int .i64 0] 65)):=Ext.alloc _ _
 clear hd1 HDO HD hk
 cases r with
 | error x =>
  unfold endOf stopM
  go_wp2_with fail
  refine leaves_cons (f:=122) (args:=#[.pointer (some ⟨W.heap.size,0,none⟩)]) (by simp) (by simp [go_sem]) ?_
  refine (asked1_rec W.heap.size x _ _ hb).mono ?_
  rintro e u' w'' ⟨rfl,rfl,k2,b2⟩
  have c2:=cell_of_one b2
  simp [Leaves,settle,results,Tryz.results98,go_sem,c2]
  exact ⟨.error x,_,_,rfl,XW,D1.out,Keep.mono k2 (fun k h=>by omega)⟩
 | ok u =>
  unfold endOf
  have c1:=cell_of_one hb
  have f1:=free_of_one hb
  go_wp2_with fail
  refine leaves_cons (f:=122) (args:=#[.pointer (some ⟨W.heap.size,0,none⟩)]) (by simp) (by simp [go_sem]) ?_
  refine (asked1_ret W.heap.size _).mono ?_
  rintro e u' w'' ⟨rfl,rfl,rfl⟩
  have b2:(w1.setCell ⟨W.heap.size,0,none⟩ (.int .i64 0)).heap[W.heap.size]?=some (.cells #[.int .i64 0] 65 (0,0)):=heap_set_cells hb 0 _
  have c2:=cell_of_one b2
  have k2:=Keep.setCell (fun k=>W.heap.size≤k) w1 ⟨W.heap.size,0,none⟩ (.int .i64 0) (Nat.le_refl _)
  generalize w1.setCell ⟨W.heap.size,0,none⟩ (.int .i64 0)=w2 at c2 k2 ⊢
  simp [Leaves,settle,results,Tryz.results98,go_sem,c2]
  exact ⟨.ok u,_,_,rfl,XW,D1.out,k2⟩
end Go.Proofs.YtligiddaampneaaGreat
end
