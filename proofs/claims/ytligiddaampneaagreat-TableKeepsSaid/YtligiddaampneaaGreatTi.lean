/- Package table: what laps, laid. -/
import Derived.Test.YtligiddaampneaaGreatTh
set_option maxRecDepth 100000
set_option maxHeartbeats 8000000
namespace Go.Proofs.YtligiddaampneaaGreat
open Go.RowKit
attribute [local go_sem] Oper.semAt_some
def LapInv (W:World) (bt:Nat) (cs:List Value) (L:List Pl) (i:Nat) (vL:Value) (us:List Value) (wr:World):Prop :=
 Keep (fun k=>k=bt) W wr∧wr.heap[bt]?=some (.cells (cs.set 13 vL).toArray 84 (0,0))∧us.length=i∧SetsG wr W.heap.size vL (fun a=>inL (lapRow L (L.getD a ⟨0,0,0⟩) L.length)) us
theorem lapping_any {W:World} {bt:Nat} {cs:List Value} {vP:Value} {L:List Pl} (hb:W.heap[bt]?=some (.cells cs.toArray 84 (0,0))) (h9:cs[9]?=some vP) (h13:cs[13]?=some (.slice none 0 0)) (hO:W.ownsRow 0 88 3 vP L.length (plCells L)) (hL:L.length≤200) (hfit:∀ p∈L,p.fit) :
  Calls Tryz.prog 81 #[.pointer (some ⟨bt,0,none⟩)] W fun e w'=>e=.returned (.tuple #[])∧∃ vL us,LapInv W bt cs L L.length vL us w':=by
 obtain ⟨aP,cP,rfl,hp1,hp2⟩:=(Row.of_owns hO).shape
 obtain ⟨iZ,hiZ,zZ0,zZ1,zZ2⟩:=info_parts infoSet
 unfold maxLen at hp2
 have c9:=blk_cell hb 9 _ h9
 have hlt:=(Array.getElem?_eq_some_iff.1 hb).1
 have HPB:=qh (And.intro hO hb)
 have HFIT:=qh hfit
 have H9:=qh h9
 obtain ⟨iI,hiI,zI0,zI1,zI2⟩:=info_parts infoI
 have h13lt:=(List.getElem?_eq_some_iff.1 h13).1
 have start:Hid (LapInv W bt cs L 0 (.slice none 0 0) [] W):=qh ⟨Keep.refl _ _,by
  rw [show cs.set 13 (.slice none 0 0)=cs from List.ext_getElem? fun j=>by
   rw [List.getElem?_set]
   split
   ·rename_i e;subst e;first | exact h13.symm | (rw [if_pos h13lt];exact h13.symm)
   ·rfl]
  exact hb,rfl,SetsG.nil _ _ _⟩
 clear hO hfit hb h9 h13
 go_enter Tryz.func81,Tryz.ntmps81
 go_wp2_with fail
 go_loopw [12] (fun iv wr=>∃ i:Nat,i≤L.length∧iv=.int .i64 i∧∃ vL us,Hid (LapInv W bt cs L i vL us wr)) (fun iv _=>L.length - (intOf iv).toNat)
 case atStart=>exact ⟨0,by omega,rfl,_,_,start⟩
 case round =>
  clear start
  obtain ⟨i,hi,rfl,vL,us,hin⟩:=hrel
  rename World=>w2
  obtain ⟨k2,b2,hus,hset⟩:=hin.out
  have hPk:=qh (PlsIn.of_owns (owns_same (w':=w2) HPB.out.1 fun k e=>k2.block k (HPB.out.1.lt k e).2 (fun e2=>owns_ne HPB.out.1 HPB.out.2 (by decide) (by rw [e,e2]))) rfl)
  by_cases hli:i<L.length
  ·have hiz:(i:Int)<(L.length:Int):=by omega
   obtain ⟨p,hp⟩:∃ x,L[i]?=some x:=⟨_,lE hli⟩
   obtain ⟨b,off,cap2,e,_,_,_,p0,p1,p2⟩:=PlsIn.at hPk.out hp
   cases e
   have hpf:=HFIT.out p (List.mem_of_getElem? hp)
   have x3:Ext w2 (w2.alloc (.cells #[.int .i64 p.root,.int .i64 p.beg,.int .i64 p.width] 88)):=Ext.alloc _ _
   have hcc:=cells_one w2 [.int .i64 p.root,.int .i64 p.beg,.int .i64 p.width] 88
   have q0:=hcc 0 _ rfl
   have q1:=hcc 1 _ rfl
   have q2:=hcc 2 _ rfl
   have c9':w2.cell? ⟨bt,9,none⟩=some (.slice (some ⟨b,off,none⟩) L.length cP):=by
    refine blk_cell b2 9 _ ?_
    rw [List.getElem?_set_ne (by decide)]
    exact H9.out
   have B2:=qh b2
   have HGP:=qh (show L.getD i ⟨0,0,0⟩=p by rw [List.getD_eq_getElem?_getD,hp];rfl)
   clear hcc hp b2 c9
   go_upto_region 4 with (fail)
   generalize w2.alloc (.cells #[.int .i64 p.root,.int .i64 p.beg,.int .i64 p.width] 88)=w3 at x3 q0 q1 q2 ⊢
   generalize w2.heap.size=bp at q0 q1 q2 ⊢
   have X3:=qh x3
   have c9':=xc x3 c9'
   clear x3
   go_wp2_with fail
   go_loopw [4,21] (fun ov iv wr=>∃ j:Nat,j≤L.length∧iv=.int .i64 j∧∃ a4 c4,ov=.slice a4 (lapRow L p j).length c4∧Hid (Ext w3 wr∧wr.ownsRow w3.heap.size 3 1 (.slice a4 (lapRow L p j).length c4) (lapRow L p j).length ((lapRow L p j).map (Value.int .i64)))) (fun _ iv _=>L.length - (intOf iv).toNat)
   case atStart=>exact ⟨0,by omega,rfl,none,0,rfl,qh ⟨Ext.refl _,World.ownsRow_nil _ _ _ _⟩⟩
   case round =>
    obtain ⟨j,hj,rfl,a4,c4,rfl,hin4⟩:=hrel
    rename World=>w4
    have X4:=qh hin4.out.1
    have O4:=qh hin4.out.2
    have q0:=xc X4.out q0
    have q1:=xc X4.out q1
    have q2:=xc X4.out q2
    have hrl:=lapRow_len (L:=L) p j
    by_cases hlj:j<L.length
    ·have hjz:(j:Int)<(L.length:Int):=by omega
     obtain ⟨r,hr⟩:∃ x,L[j]?=some x:=⟨_,lE hlj⟩
     obtain ⟨b5,off5,cap5,e,_,_,_,r0,r1,r2⟩:=PlsIn.at (Tab.same (W':=w4) hPk.out fun k hk=>Below.block (X3.out.trans X4.out) k (by have:=k2.size;omega)) hr
     cases e
     have hlap:=qh (fun (w:World)=>lap_any p r w hpf (HFIT.out r (List.mem_of_getElem? hr)))
     have x5:Ext w4 (w4.alloc (.cells #[.int .i64 r.root,.int .i64 r.beg,.int .i64 r.width] 88)):=Ext.alloc _ _
     have hcc:=cells_one w4 [.int .i64 r.root,.int .i64 r.beg,.int .i64 r.width] 88
     have s0:=hcc 0 _ rfl
     have s1:=hcc 1 _ rfl
     have s2:=hcc 2 _ rfl
     have HSU:=lapRow_succ (L:=L) p j
     rw [show L.getD j ⟨0,0,0⟩=r by rw [List.getD_eq_getElem?_getD,hr];rfl] at HSU
     obtain ⟨lb,hlb⟩:∃ x,lapS p r=x:=⟨_,rfl⟩
     rw [hlb] at hlap HSU
     have HS:=qh HSU
     clear hcc hr hin4 HSU hlb
     go_upto_region 7 with (fail)
     generalize w4.alloc (.cells #[.int .i64 r.root,.int .i64 r.beg,.int .i64 r.width] 88)=w5 at x5 s0 s1 s2 ⊢
     generalize w4.heap.size=b6 at s0 s1 s2 ⊢
     have q0:=xc x5 q0
     have q1:=xc x5 q1
     have q2:=xc x5 q2
     have X5:=qh x5
     clear x5
     cases lb with
     | true =>
      rw [if_pos rfl] at HS
      go_wp2_with (first
       | (go_at_call 109;refine (hlap.out _).mono ?_;rintro e w6 ⟨rfl,hx6⟩;have Y6:Hid (Ext w4 w6):=qh (X5.out.trans hx6);clear hx6)
       | (at_builtin;go_loud (refine wpList_append_lies _ rfl _ _ 36 rfl w3.heap.size 3 iI _ 1 8 Tryz.underlying36 hiI zI0 zI1 zI2 rfl (by omega) (.slice a4 (lapRow L p j).length c4) (lapRow L p j).length ((lapRow L p j).map (Value.int .i64)) rfl ((owns_ext O4.out Y6.out).alloc _) ⟨w6.heap.size,0,none⟩ 1 1 [.int .i64 (j:Int)] rfl rfl (World.news_of_block (cs:=#[.int .i64 (j:Int)]) (t:=3) (fr:=(0,0)) (heap_alloc_new w6 _)) (by simp [Value.oneCell']) (by omega) (by unfold maxLen;omega) (by omega) (by have:=X4.out.size;have:=Y6.out.size;simp;omega) _ rfl ?_;intro g7 c7 w7 hown7 hgrow7 hat7 hlt7)))
      have X7:Hid (Ext w3 w7):=qh (Ext.grown ((X4.out.trans Y6.out).trans (Ext.alloc w6 _)) hgrow7 (fun q e=>(O4.out.lt q e).1))
      have O7:=qh hown7
      have HLN:Hid ((lapRow L p (j+1)).length=(lapRow L p j).length+1):=qh (by rw [HS.out,List.length_append];rfl)
      clear hown7 hgrow7 hat7
      go_roundw
      case rel=>exact ⟨j+1,by omega,by go_num,some ⟨g7,0,none⟩,c7,by rw [HLN.out],qh ⟨X7.out,by rw [HLN.out,HS.out,List.map_append];exact O7.out⟩⟩
      case measure=>simp [intOf];omega
     | false =>
      rw [if_neg (by decide),List.append_nil] at HS
      go_wp2_with (go_at_call 109;refine (hlap.out _).mono ?_;rintro e w6 ⟨rfl,hx6⟩;have Y6:Hid (Ext w4 w6):=qh (X5.out.trans hx6);clear hx6)
      go_roundw
      case rel=>exact ⟨j+1,by omega,by go_num,a4,c4,by rw [HS.out],qh ⟨X4.out.trans Y6.out,by rw [HS.out];exact owns_ext O4.out Y6.out⟩⟩
      case measure=>simp [intOf];omega
    ·have hjz:¬ (j:Int)<(L.length:Int):=by omega
     have hje:j=L.length:=by omega
     have HJ:=qh hje
     have hs4:=X3.out.trans X4.out
     have b4:=hs4.block B2.out
     have c13:=blk_cell b4 13 vL (List.getElem?_set_self h13lt)
     obtain ⟨aV,cV,eV,hV1,hV2⟩:=(Row.of_owns hset.own).shape
     subst eV
     unfold maxLen at hV2
     have HOF:=qh (fun (w:World) (x:Ext w4 w)=>of_set (v:=.slice a4 (lapRow L p j).length c4) (l:=lapRow L p j) (by
      have:=Row.of_owns (owns_ext O4.out x)
      exact this) (fun n hn=>by
      unfold lapRow at hn
      obtain ⟨q,hq,rfl⟩:=List.mem_map.1 hn
      have:=List.mem_range.1 (List.mem_filter.1 hq).1
      unfold fits64
      omega))
     have S4:=qh (hset.ext hs4)
     have OV:=qh S4.out.own
     have B4:=qh b4
     have X24:=qh hs4
     have hul:us.length≤199:=by omega
     have hsz4:=hs4.size
     have hsz2:=k2.size
     have HUS:=qh hus
     clear hje hs4 b4 hin4 hus hset
     go_upto_region 10 with (fail)
     refine wp_region_M (fun w'=>Ext w4 w') 8 (by kernel_rfl) (Ext.drew _) (fun hS=>?_)
     refine' tw 0 ?_ ?_;rotate_left;·intros;go_simp;try rfl
     refine' tk 1 hS ?_ ?_;rotate_left;·intros;go_simp;try rfl
     refine' tk 2 hS ?_ ?_;rotate_left;·intros;go_simp;try rfl
     try simp only [tD]
     refine' tk 3 hS ?_ ?_;rotate_left;·intros;go_simp;try rfl
     refine' tk 4 hS ?_ ?_;rotate_left;·intro w hSw;have z0:=xc hSw c13;go_simp;try rfl
     refine' tk 5 hS ?_ ?_;rotate_left;·intros;go_simp;try rfl
     try simp only [tD]
     generalize w4.drew=w5 at hS ⊢
     refine rc 6 fun K hK=>?_
     go_simp
     refine ((HOF.out w5 hS)).mono ?_
     rintro e w6 ⟨v6,rfl,hset6,hx6⟩
     obtain ⟨a6,n6,c6,e6⟩:=hset6.form
     subst e6
     have hS:=Ext.trans hS hx6
     refine hK.out _ _ hS ?_
     try simp only [tD]
     clear hK K
     refine rc 7 fun K hK=>?_
     go_simp
     have x7:Ext w4 (w6.alloc (.cells #[.slice a6 n6 c6] 78)):=hS.trans (Ext.alloc _ _)
     have hsz6:=hS.size
     refine hK.out _ _ x7 ?_
     try simp only [tD]
     clear hK K
     refine rl 8 fun K hK=>?_
     refine wp_append_lies _ _ _ _ rfl W.heap.size 78 iZ _ 1 24 Tryz.underlying81 hiZ zZ0 zZ1 zZ2 rfl (by omega) (.slice aV us.length cV) us.length us rfl (owns_ext OV.out x7) ⟨w6.heap.size,0,none⟩ 1 1 [.slice a6 n6 c6] rfl rfl (World.news_of_block (cs:=#[.slice a6 n6 c6]) (t:=78) (fr:=(0,0)) (heap_alloc_new w6 _)) (by simp [Value.oneCell']) (by omega) (by unfold maxLen;omega) (by omega) (by simp;omega) _ rfl ?_
     intro g8 c8 w8 hown8 hgrow8 hat8 hlt8
     have k8:Keep (fun k=>(Value.slice aV us.length cV).ownBlock=some k) w4 w8:=(Keep.of_ext x7:Keep (fun k=>(Value.slice aV us.length cV).ownBlock=some k) w4 _).trans (Keep.grown hgrow8 (fun _ e=>e)) (fun _ _ h=>h)
     have b8:=(k8.block bt (Array.getElem?_eq_some_iff.1 B4.out).1 (owns_ne OV.out B4.out (by decide))).trans B4.out
     have g13:=blk_cell b8 13 _ (List.getElem?_set_self h13lt)
     have gf13:=blk_free b8 13
     have hlt8':=(Array.getElem?_eq_some_iff.1 b8).1
     have SN:=qh (S4.out.snoc x7 hgrow8 hown8 (by
      have:=hset6.ext (Ext.alloc w6 (.cells #[.slice a6 n6 c6] 78))
      rw [HUS.out,HGP.out]
      rw [HJ.out] at this
      exact this))
     have K8:=qh k8
     have B8:=qh b8
     clear hown8 hgrow8 hat8 k8 b8 hset6
     refine hK.out _ _ ?_
     try simp only [tD]
     clear hK K
     refine' tw 9 ?_ ?_;rotate_left;·intros;go_simp;try rfl
     try simp only [tD]
     refine' tw 10 ?_ ?_;rotate_left;·intros;go_simp;try rfl
     try simp only [tD]
     refine rl 11 fun K hK=>?_
     go_simp
     refine hK.out _ _ ?_
     try simp only [tD]
     clear hK K
     refine wpAnyM_done (by kernel_rfl) ?_ _
     have KF:Hid (Keep (fun k=>k=bt) W (w8.setCell ⟨bt,13,none⟩ (.slice (some ⟨g8,0,none⟩) (us.length+1) c8))):=qh (((k2.trans (Keep.of_ext X24.out:Keep (fun k=>k=bt) w2 w4) (fun _ _ h=>h)).trans K8.out (fun q hq e=>by have:=(OV.out.lt q e).1;omega)).trans (Keep.setCell (fun k=>k=bt) w8 ⟨bt,13,none⟩ _ rfl) (fun _ _ h=>h))
     have BF:Hid ((w8.setCell ⟨bt,13,none⟩ (.slice (some ⟨g8,0,none⟩) (us.length+1) c8)).heap[bt]?=some (.cells (cs.set 13 (.slice (some ⟨g8,0,none⟩) (us.length+1) c8)).toArray 84 (0,0))):=qh (by
      have:=heap_set_cells B8.out 13 (.slice (some ⟨g8,0,none⟩) (us.length+1) c8)
      rw [this,List.setIfInBounds_toArray,List.set_set])
     have SF:=qh (SN.out.keep (KeepN.set (i:=13) B8.out (.slice (some ⟨g8,0,none⟩) (us.length+1) c8) (ts:=[84]) (by decide)) (by decide) (by decide))
     clear hS
     go_wp2_with fail
     go_roundw
     case rel=>exact ⟨i+1,by omega,by go_num,_,us ++ [.slice a6 n6 c6],qh ⟨KF.out,BF.out,by rw [List.length_append,HUS.out];rfl,SF.out⟩⟩
     case measure=>simp [intOf];omega
  ·have hiz:¬ (i:Int)<(L.length:Int):=by omega
   have hie:i=L.length:=by omega
   have HI:=qh hie
   clear hie
   go_wp2_with fail
   go_end0
   exact ⟨rfl,vL,us,by have:=hin.out;rw [HI.out] at this;exact this⟩
end Go.Proofs.YtligiddaampneaaGreat
