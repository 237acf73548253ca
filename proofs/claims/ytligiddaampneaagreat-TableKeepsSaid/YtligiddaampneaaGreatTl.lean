/- Several texts joined. No condition. -/
import Derived.Test.YtligiddaampneaaGreatMgA
import Derived.Test.YtligiddaampneaaGreatTh
set_option maxHeartbeats 1000000
namespace Go.Proofs.YtligiddaampneaaGreat
open Go.RowKit
def withinS (a b:Pl):Bool:=decide (a.root=b.root) && (decide (a.width<1) || (decide (1≤b.width) && (decide (b.beg≤a.beg) && (decide (a.beg - b.beg≤b.width) && decide (a.width≤b.width - (a.beg - b.beg))))))
theorem withinS_eq (ar aa aw br ba bw:Int):withinS ⟨ar,aa,aw⟩ ⟨br,ba,bw⟩=(decide (ar=br) && (decide (aw<1) || (decide (1≤bw) && (decide (ba≤aa) && (decide (aa - ba≤bw) && decide (aw≤bw - (aa - ba))))))):=rfl
theorem u64_sub2 (x y:Int) (h:y≤x) (h0:0≤y) (hx:x≤9223372036854775807):IntKind.u64.wrap (x - y)=x - y:=by
 rw [IntKind.wrap_u64];omega
theorem within_any (a b:Pl) (w:World) (ha:a.fit) (hb:b.fit) :
  Calls Tryz.prog 112 #[.agg a.cells.toArray,.agg b.cells.toArray] w fun e w'=>e=.returned (.bool (withinS a b))∧Below w.heap.size w w':=by
 obtain ⟨ar,aa,aw⟩:=a
 obtain ⟨br,ba,bw⟩:=b
 obtain ⟨⟨_,_⟩,⟨a1,a2⟩,⟨a3,a4⟩⟩:=ha
 obtain ⟨⟨_,_⟩,⟨b1,b2⟩,⟨b3,b4⟩⟩:=hb
 rw [withinS_eq]
 simp only [Pl.cells] at *
 by_cases h1:ar=br
 ·have t1:(ar != br)=false:=by simp [h1]
  rw [show decide (ar=br)=true by simp [h1],Bool.true_and]
  clear h1
  by_cases h2:aw<1
  ·rw [show decide (aw<1)=true by simp;omega,Bool.true_or]
   go_enter Tryz.func112,Tryz.ntmps112
   go_wp2
   go_ret
   exact ⟨rfl,below2 _ _ _⟩
  ·rw [show decide (aw<1)=false by simp;omega,Bool.false_or]
   by_cases h3:bw<1
   ·rw [show decide (1≤bw)=false by simp;omega,Bool.false_and]
    go_enter Tryz.func112,Tryz.ntmps112
    go_wp2
    go_ret
    exact ⟨rfl,below2 _ _ _⟩
   ·rw [show decide (1≤bw)=true by simp;omega,Bool.true_and]
    by_cases h4:aa<ba
    ·rw [show decide (ba≤aa)=false by simp;omega,Bool.false_and]
     go_enter Tryz.func112,Tryz.ntmps112
     go_wp2
     go_ret
     exact ⟨rfl,below2 _ _ _⟩
    ·rw [show decide (ba≤aa)=true by simp;omega,Bool.true_and]
     have e1:=u64_sub aa ba (by omega) (by omega)
     have e2:=u64_pos bw (by omega) (by omega)
     have e3:=u64_pos aw (by omega) (by omega)
     by_cases h5:aa - ba≤bw
     ·rw [show decide (aa - ba≤bw)=true by simp;omega,Bool.true_and]
      have e4:=u64_sub2 bw (aa - ba) (by omega) (by omega) (by omega)
      cases h6:decide (aw≤bw - (aa - ba))
      all_goals
       go_enter Tryz.func112,Tryz.ntmps112
       go_wp2
       go_ret
       exact ⟨rfl,below2 _ _ _⟩
     ·have h5':decide (aa - ba≤bw)=false:=by simp;omega
      rw [h5',Bool.false_and]
      go_enter Tryz.func112,Tryz.ntmps112
      go_wp2
      go_ret
      exact ⟨rfl,below2 _ _ _⟩
 ·have t1:(ar != br)=true:=by simp [h1]
  rw [show decide (ar=br)=false by simp [h1],Bool.false_and]
  clear h1
  go_enter Tryz.func112,Tryz.ntmps112
  go_wp2
  go_ret
  exact ⟨rfl,below2 _ _ _⟩
end Go.Proofs.YtligiddaampneaaGreat
set_option maxRecDepth 100000
set_option maxHeartbeats 8000000
namespace Go.Proofs.YtligiddaampneaaGreat
open Go.RowKit
attribute [local go_sem] Oper.semAt_some
def rowOf (f:Nat→Bool) (k:Nat):List Int:=((List.range k).filter f).map (fun j:Nat=>(j:Int))
theorem rowOf_succ (f:Nat→Bool) (k:Nat):rowOf f (k+1)=rowOf f k ++ (if f k=true then [(k:Int)] else []):=by
 unfold rowOf
 rw [List.range_succ,List.filter_append,List.map_append]
 congr 1
 cases h:f k with
 | true=>rw [if_pos rfl,List.filter_cons_of_pos h];rfl
 | false=>rw [if_neg (by decide),List.filter_cons_of_neg (by rw [h];decide)];rfl
theorem rowOf_len (f:Nat→Bool) (k:Nat):(rowOf f k).length≤k:=by
 unfold rowOf
 rw [List.length_map]
 exact Nat.le_trans (List.length_filter_le _ _) (by rw [List.length_range];exact Nat.le_refl _)
theorem rowOf_mem {f:Nat→Bool} {k n:Nat}:(n:Int)∈rowOf f k↔n<k∧f n=true:=by
 unfold rowOf
 rw [List.mem_map]
 constructor
 ·rintro ⟨j,hj,e⟩
  have:j=n:=by omega
  subst this
  have:=List.mem_filter.1 hj
  exact ⟨List.mem_range.1 this.1,this.2⟩
 ·rintro ⟨h1,h2⟩
  exact ⟨n,List.mem_filter.2 ⟨List.mem_range.2 h1,h2⟩,rfl⟩
theorem rowOf_fit {f:Nat→Bool} {k:Nat} (hk:k≤65535):∀ n∈rowOf f k,fits64 n:=by
 intro n hn
 unfold rowOf at hn
 obtain ⟨q,hq,rfl⟩:=List.mem_map.1 hn
 have:=List.mem_range.1 (List.mem_filter.1 hq).1
 unfold fits64
 omega
theorem indexFuncI {w:World} {v:Value} {l:List Int} (hv:SliceInts w v l) (g:Nat) (lb:Array Value) (p:Int→Bool) (eg:∀ args w,(callFunc g args).run Tryz.prog w=.ok (.enter g args) w)
  (hp:∀ (W':World) (c:Int),Ext w W'→c∈l→Calls Tryz.prog g (#[.int .i64 c] ++ lb) W' fun e W''=>e=.returned (.bool (p c))∧Ext W' W'') :
  Calls Tryz.prog 141 #[v,.func (.func g) #[] lb] w fun e w'=>e=.returned (.int .i64 (fidx p l))∧Ext w w':=by
 obtain ⟨a,cap,rfl,hl1,hl2⟩:=hv.shape
 have hbig:l.length≤9223372036854775807:=by unfold maxLen at *;omega
 have HV:=qh hv
 have HP:=qh hp
 clear hv hp hl1 hl2
 go_enter Tryz.func141,Tryz.ntmps141
 go_wp2
 go_loopw [8] (fun i wr=>∃ j:Nat,j≤l.length∧i=.int .i64 j∧Hid (Ext w wr)∧Hid (∀ q c,q<j→l[q]?=some c→p c=false)) (fun i _=>l.length - (intOf i).toNat)
 case atStart=>exact ⟨0,by omega,rfl,qh (Ext.refl w),qh (fun q c h=>by omega)⟩
 case round =>
  obtain ⟨j,hj,rfl,hx,hA⟩:=hrel
  by_cases hlt:j<l.length
  ·obtain ⟨c,hc⟩:∃ c,l[j]?=some c:=⟨l[j],lE hlt⟩
   obtain ⟨b,off,cap',e,_,_,hb,hcell⟩:=Row.at (HV.out.below hx.out) (fun e=>by rw [List.map_eq_nil_iff] at e;rw [e] at hlt;simp at hlt)
   cases e
   have c0:=hcell j (.int .i64 c) (by simp [hc])
   have hcall:=HP.out _ c hx.out (List.mem_of_getElem? hc)
   have hltz:(j:Int)<(l.length:Int):=by omega
   have C:=qh hc
   clear hcell hc HP
   cases hq:p c with
   | true =>
    rw [hq] at hcall
    have Q:=qh hq
    clear hq
    go_wp2_with (go_at_fn g;refine hcall.mono ?_;rintro e w' ⟨rfl,hx'⟩)
    go_ret
    exact ⟨by rw [fidx_hit C.out Q.out hA.out];rfl,hx.out.trans hx'⟩
   | false =>
    rw [hq] at hcall
    have Q:=qh hq
    clear hq
    go_wp2_with (go_at_fn g;refine hcall.mono ?_;rintro e w' ⟨rfl,hx'⟩)
    go_roundw
    case rel =>
     refine ⟨j+1,by omega,by go_num,qh (hx.out.trans hx'),qh (fun q d hq hd=>?_)⟩
     by_cases e:q=j
     ·subst e;rw [C.out] at hd;cases hd;exact Q.out
     ·exact hA.out q d (by omega) hd
    case measure=>simp [intOf];omega
  ·have hltz:¬ (j:Int)<(l.length:Int):=by omega
   obtain rfl:j=l.length:=by omega
   go_wp2
   go_ret
   exact ⟨by rw [fidx_miss hA.out];rfl,hx.out⟩
theorem containsI {w:World} {v:Value} {l:List Int} (hv:SliceInts w v l) (g:Nat) (lb:Array Value) (p:Int→Bool) (eg:∀ args w,(callFunc g args).run Tryz.prog w=.ok (.enter g args) w)
  (hp:∀ (W':World) (c:Int),Ext w W'→c∈l→Calls Tryz.prog g (#[.int .i64 c] ++ lb) W' fun e W''=>e=.returned (.bool (p c))∧Ext W' W'') :
  Calls Tryz.prog 113 #[v,.func (.func g) #[] lb] w fun e w'=>e=.returned (.bool (l.any p))∧Ext w w':=by
 obtain ⟨a,cap,rfl,_,_⟩:=hv.shape
 have HC:=qh (indexFuncI hv g lb p eg hp)
 clear hv hp
 have e:=qh (fidx_any p l)
 go_enter Tryz.func113,Tryz.ntmps113
 go_wp2_with (go_at_call 141;refine HC.out.mono ?_;rintro e w' ⟨rfl,hx⟩)
 go_ret
 exact ⟨ret_bool e.out,hx⟩
theorem surv1_any {W:World} {n0 bt bp bx:Nat} {vP:Value} {L:List Pl} {p:Pl} {s:Nat} (hx:W.cell? ⟨bx,0,none⟩=some (.pointer (some ⟨bt,0,none⟩))) (h9:W.cell? ⟨bt,9,none⟩=some vP) (hP:PlsIn W n0 vP L)
  (h0:W.cell? ⟨bp,0,none⟩=some (.int .i64 p.root)) (h1:W.cell? ⟨bp,1,none⟩=some (.int .i64 p.beg)) (h2:W.cell? ⟨bp,2,none⟩=some (.int .i64 p.width)) (hp:p.fit) (hfit:∀ p∈L,p.fit) (hs:s<L.length) :
  Calls Tryz.prog 111 #[.int .i64 (s:Int),.pointer (some ⟨bp,0,none⟩),.pointer (some ⟨bx,0,none⟩)] W fun e w'=>e=.returned (.bool (withinS p (plAt L (s:Int))))∧Ext W w':=by
 obtain ⟨q,hq⟩:∃ x,L[s]?=some x:=⟨_,lE hs⟩
 have hpl:plAt L (s:Int)=q:=by rw [plAt_some hs];rw [lE hs] at hq;exact Option.some.inj hq
 rw [hpl]
 obtain ⟨b,off,cap,rfl,hc1,hc2,_,r0,r1,r2⟩:=hP.at hq
 have hw:=qh (fun (w:World)=>within_any p q w hp (hfit q (List.mem_of_getElem? hq)))
 have hsz:(s:Int)<(L.length:Int):=by omega
 unfold maxLen at hc2
 clear hP hfit hq hpl
 go_enter Tryz.func111,Tryz.ntmps111
 go_upto_region 1 with (fail)
 rename_i K1 hK1
 have hK1:=qh hK1
 refine wp_region_M (fun w'=>Ext W w') 8 (by kernel_rfl) (Ext.drew _) (fun hS=>?_)
 refine' tk 0 hS ?_ ?_;rotate_left;·intro w hSw;have a2:=xc hSw h0;have a3:=xc hSw h1;have a4:=xc hSw h2;go_simp;try rfl
 refine' tk 1 hS ?_ ?_;rotate_left;·intro w hSw;have a0:=xc hSw hx;go_simp;try rfl
 refine' tk 2 hS ?_ ?_;rotate_left;·intros;go_simp;try rfl
 try simp only [tD]
 refine' tk 3 hS ?_ ?_;rotate_left;·intros;go_simp;try rfl
 refine' tk 4 hS ?_ ?_;rotate_left;·intro w hSw;have a1:=xc hSw h9;go_simp;try rfl
 refine' tk 5 hS ?_ ?_;rotate_left;·intros;go_simp;try rfl
 try simp only [tD]
 refine' tk 6 hS ?_ ?_;rotate_left;·intros;go_simp;try rfl
 refine' tk 7 hS ?_ ?_;rotate_left;·intro w hSw;have a5:=xc hSw r0;have a6:=xc hSw r1;have a7:=xc hSw r2;go_simp;try rfl
 try simp only [tD]
 generalize W.drew=w3 at hS ⊢
 refine rl 8 fun K hK=>?_
 go_simp
 refine ((hw.out w3)).mono ?_
 rintro e w4 ⟨rfl,hx4⟩
 have hS:=Ext.trans hS hx4
 refine hK.out _ _ ?_
 try simp only [tD]
 clear hK K
 refine' tw 9 ?_ ?_;rotate_left;·intros;go_simp;try rfl
 try simp only [tD]
 refine wpAnyM_done (by kernel_rfl) ?_ _
 refine hK1.out _ _ ?_
 have XQ:=qh hS
 clear hS
 go_wp2_with fail
 go_ret
 exact ⟨rfl,XQ.out⟩
def survB (L:List Pl) (S:List Int) (j:Nat):Bool:=S.any fun s=>withinS (L.getD j ⟨0,0,0⟩) (plAt L s)
theorem surviving_any {W:World} {n0 bt:Nat} {cs:List Value} {vP vS:Value} {L:List Pl} {S:List Int} (hb:W.heap[bt]?=some (.cells cs.toArray 84 (0,0))) (h9:cs[9]?=some vP) (h18:cs[18]?=some vS) (h20:cs.length=21) (hP:PlsIn W n0 vP L) (hn:n0≤W.heap.size)
  (hS:SliceInts W vS S) (hL:L.length≤200) (hfit:∀ p∈L,p.fit) (hSr:∀ s∈S,0≤s∧s<(L.length:Int)) :
  Calls Tryz.prog 83 #[.pointer (some ⟨bt,0,none⟩)] W fun e w'=>e=.returned (.tuple #[])∧∃ vK,Keep (fun k=>k=bt) W w'∧w'.heap[bt]?=some (.cells (cs.set 20 vK).toArray 84 (0,0))∧SetIn w' vK (inL (rowOf (survB L S) L.length)):=by
 obtain ⟨aP,cP,rfl,hp1,hp2⟩:=hP.form
 obtain ⟨aS,cS,rfl,hs1,hs2⟩:=hS.shape
 unfold maxLen at hp2 hs2
 have hlt:=(Array.getElem?_eq_some_iff.1 hb).1
 have x1:Ext W (W.alloc (.cells #[.pointer (some ⟨bt,0,none⟩)] 30)):=Ext.alloc _ _
 have bx:=cells_one W [.pointer (some ⟨bt,0,none⟩)] 30 0 _ rfl
 have b1:=x1.block hb
 have HP:=qh (hP.ext hn x1)
 have HSS:=qh (hS.below x1)
 have hn1:=Nat.le_trans hn x1.size
 have HFIT:=qh hfit
 have HR:=qh hSr
 have X1:=qh x1
 have H20:=qh h20
 have H9:=qh (And.intro h9 h18)
 obtain ⟨iI,hiI,zI0,zI1,zI2⟩:=info_parts infoI
 have c9:=blk_cell b1 9 _ h9
 clear hP hS hfit hSr hb hn x1 h9 h18 h20
 go_enter Tryz.func83,Tryz.ntmps83
 go_upto_region 1 with (fail)
 generalize W.alloc (.cells #[.pointer (some ⟨bt,0,none⟩)] 30)=w1 at bx b1 HP HSS hn1 X1 c9 ⊢
 generalize hbxe:W.heap.size=bxn at bx hlt ⊢
 have HBX:=qh hbxe
 have B1:=qh b1
 clear hbxe b1
 go_wp2_with fail
 go_loopw [2,11] (fun ov iv wr=>∃ j:Nat,j≤L.length∧iv=.int .i64 j∧∃ a4 c4,ov=.slice a4 (rowOf (survB L S) j).length c4∧Hid (Ext w1 wr∧wr.ownsRow w1.heap.size 3 1 (.slice a4 (rowOf (survB L S) j).length c4) (rowOf (survB L S) j).length ((rowOf (survB L S) j).map (Value.int .i64)))) (fun _ iv _=>L.length - (intOf iv).toNat)
 case atStart=>exact ⟨0,by omega,rfl,none,0,rfl,qh ⟨Ext.refl _,World.ownsRow_nil _ _ _ _⟩⟩
 case round =>
  obtain ⟨j,hj,rfl,a4,c4,rfl,hin4⟩:=hrel
  rename World=>w4
  have X4:=qh hin4.out.1
  have O4:=qh hin4.out.2
  have bx:=xc X4.out bx
  have c9:=xc X4.out c9
  have c18:=blk_cell (X4.out.block B1.out) 18 _ H9.out.2
  have hrl:=rowOf_len (survB L S) j
  by_cases hlj:j<L.length
  ·have hjz:(j:Int)<(L.length:Int):=by omega
   obtain ⟨r,hr⟩:∃ x,L[j]?=some x:=⟨_,lE hlj⟩
   obtain ⟨b5,off5,cap5,e,_,_,_,r0,r1,r2⟩:=PlsIn.at (HP.out.ext hn1 X4.out) hr
   cases e
   have x5:Ext w4 (w4.alloc (.cells #[.int .i64 r.root,.int .i64 r.beg,.int .i64 r.width] 88)):=Ext.alloc _ _
   have hcc:=cells_one w4 [.int .i64 r.root,.int .i64 r.beg,.int .i64 r.width] 88
   have s0:=hcc 0 _ rfl
   have s1:=hcc 1 _ rfl
   have s2:=hcc 2 _ rfl
   have HSU:=rowOf_succ (survB L S) j
   have hgd:L.getD j ⟨0,0,0⟩=r:=by rw [List.getD_eq_getElem?_getD,hr];rfl
   have hsv:survB L S j=S.any fun s=>withinS r (plAt L s):=by unfold survB;rw [hgd]
   obtain ⟨lb,hlb⟩:∃ x,survB L S j=x:=⟨_,rfl⟩
   rw [hlb] at HSU
   have HLB:=qh (hsv.symm.trans hlb)
   have HS:=qh HSU
   have HRF:=qh (HFIT.out r (List.mem_of_getElem? hr))
   clear hcc hr hin4 HSU hlb hgd hsv
   go_upto_region 5 with (fail)
   generalize w4.alloc (.cells #[.int .i64 r.root,.int .i64 r.beg,.int .i64 r.width] 88)=w5 at x5 s0 s1 s2 ⊢
   generalize w4.heap.size=b6 at s0 s1 s2 ⊢
   have bx:=xc x5 bx
   have c9:=xc x5 c9
   have c18:=xc x5 c18
   have X5:=qh x5
   have X15:=qh (X4.out.trans x5)
   clear x5
   have hcon:=qh (containsI (HSS.out.below X15.out) 111 #[.pointer (some ⟨b6,0,none⟩),.pointer (some ⟨bxn,0,none⟩)] (fun s=>withinS r (plAt L s)) (fun args w=>by kernel_rfl) (fun W' c hxW hc=>by
    obtain ⟨k,rfl⟩:∃ k:Nat,c=k:=⟨c.toNat,by have:=HR.out c hc;omega⟩
    exact surv1_any (hxW.cell bx) (hxW.cell c9) (HP.out.ext hn1 (X15.out.trans hxW)) (hxW.cell s0) (hxW.cell s1) (hxW.cell s2) HRF.out HFIT.out (by have:=HR.out _ hc;omega)))
   rw [HLB.out] at hcon
   cases lb with
   | true =>
    rw [if_pos rfl] at HS
    go_wp2_with (first
     | (go_at_call 113;refine (hcon.out).mono ?_;rintro e w6 ⟨rfl,hx6⟩;have Y6:Hid (Ext w4 w6):=qh (X5.out.trans hx6);clear hx6)
     | (at_builtin;go_loud (refine wpList_append_lies _ rfl _ _ 36 rfl w1.heap.size 3 iI _ 1 8 Tryz.underlying36 hiI zI0 zI1 zI2 rfl (by omega) (.slice a4 (rowOf (survB L S) j).length c4) (rowOf (survB L S) j).length ((rowOf (survB L S) j).map (Value.int .i64)) rfl ((owns_ext O4.out Y6.out).alloc _) ⟨w6.heap.size,0,none⟩ 1 1 [.int .i64 (j:Int)] rfl rfl (World.news_of_block (cs:=#[.int .i64 (j:Int)]) (t:=3) (fr:=(0,0)) (heap_alloc_new w6 _)) (by simp [Value.oneCell']) (by omega) (by unfold maxLen;omega) (by omega) (by have:=X4.out.size;have:=Y6.out.size;simp;omega) _ rfl ?_;intro g7 c7 w7 hown7 hgrow7 hat7 hlt7)))
    have X7:Hid (Ext w1 w7):=qh (Ext.grown ((X4.out.trans Y6.out).trans (Ext.alloc w6 _)) hgrow7 (fun q e=>(O4.out.lt q e).1))
    have O7:=qh hown7
    have HLN:Hid ((rowOf (survB L S) (j+1)).length=(rowOf (survB L S) j).length+1):=qh (by rw [HS.out,List.length_append];rfl)
    clear hown7 hgrow7 hat7
    go_roundw
    case rel=>exact ⟨j+1,by omega,by go_num,some ⟨g7,0,none⟩,c7,by rw [HLN.out],qh ⟨X7.out,by rw [HLN.out,HS.out,List.map_append];exact O7.out⟩⟩
    case measure=>simp [intOf];omega
   | false =>
    rw [if_neg (by decide),List.append_nil] at HS
    go_wp2_with (go_at_call 113;refine (hcon.out).mono ?_;rintro e w6 ⟨rfl,hx6⟩;have Y6:Hid (Ext w4 w6):=qh (X5.out.trans hx6);clear hx6)
    go_roundw
    case rel=>exact ⟨j+1,by omega,by go_num,a4,c4,by rw [HS.out],qh ⟨X4.out.trans Y6.out,by rw [HS.out];exact owns_ext O4.out Y6.out⟩⟩
    case measure=>simp [intOf];omega
  ·have hjz:¬ (j:Int)<(L.length:Int):=by omega
   have hje:j=L.length:=by omega
   have HJ:=qh hje
   have B4:=qh (X4.out.block B1.out)
   have HOF:=qh (fun (w:World) (x:Ext w4 w)=>of_set (v:=.slice a4 (rowOf (survB L S) j).length c4) (l:=rowOf (survB L S) j) (by
    have:=Row.of_owns (owns_ext O4.out x)
    exact this) (rowOf_fit (by omega)))
   clear hje hin4
   go_upto_region 9 with (fail)
   refine wp_region_M (fun w'=>Ext w4 w') 5 (by kernel_rfl) (Ext.drew _) (fun hS=>?_)
   refine' tk 0 hS ?_ ?_;rotate_left;·intro w hSw;have z0:=xc hSw bx;go_simp;try rfl
   refine' tk 1 hS ?_ ?_;rotate_left;·intros;go_simp;try rfl
   try simp only [tD]
   generalize w4.drew=w5 at hS ⊢
   refine rc 2 fun K hK=>?_
   go_simp
   refine ((HOF.out w5 hS)).mono ?_
   rintro e w6 ⟨v6,rfl,hset6,hx6⟩
   obtain ⟨a6,n6,c6,e6⟩:=hset6.form
   subst e6
   have hS:=Ext.trans hS hx6
   have b6:=hS.block B4.out
   have l6:=(Array.getElem?_eq_some_iff.1 b6).1
   have g20:=blk_cell b6 20 (cs[20]'(by have:=H20.out;omega)) (lE _)
   have gf20:=blk_free b6 20
   have B6:=qh b6
   have S6:=qh hset6
   clear b6 hset6
   refine hK.out _ _ hS ?_
   clear hK K
   refine' tk 3 hS ?_ ?_;rotate_left;·intros;go_simp;try rfl
   refine' tk 4 hS ?_ ?_;rotate_left;·intros;go_simp;try rfl
   try simp only [tD]
   refine rl 5 fun K hK=>?_
   go_simp
   refine hK.out _ _ ?_
   try simp only [tD]
   clear hK K
   refine wpAnyM_done (by kernel_rfl) ?_ _
   have XQ:=qh hS
   clear hS
   go_wp2_with fail
   go_end0
   refine ⟨rfl,((Keep.of_ext (X1.out.trans (X4.out.trans XQ.out)):Keep (fun k=>k=bt) W w6)).trans (Keep.setCell (fun k=>k=bt) w6 ⟨bt,20,none⟩ _ rfl) (fun _ _ h=>h),.slice a6 n6 c6,?_,?_⟩
   ·have:=heap_set_cells B6.out 20 (.slice a6 n6 c6)
    rw [this,List.setIfInBounds_toArray]
   ·have:=S6.out.keep (KeepN.set (i:=20) B6.out (.slice a6 n6 c6) (ts:=[84]) (by decide)) (by decide)
    rw [HJ.out] at this
    exact this
end Go.Proofs.YtligiddaampneaaGreat
