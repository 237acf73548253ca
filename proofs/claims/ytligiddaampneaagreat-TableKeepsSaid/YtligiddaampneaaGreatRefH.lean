/- The reference's table: Lap, list, Result, Args. For every table that lies in memory. -/
import Derived.Test.YtligiddaampneaaGreatRefG
set_option maxRecDepth 100000
set_option maxHeartbeats 4000000
-- shrunk
namespace Go.Proofs.YtligiddaampneaaGreat
open Go.RowKit
attribute [local go_sem] Oper.semAt_some
variable {W : World} {n1 bt : Nat} {V : MV} {vK : Value} {M : Mach} {N : List ByteArray} {L : List Pl} {C : List (List Int)}
def lapI (L:List Pl) (a b:Int):Bool:=if 0≤a∧0≤b then (match L[a.toNat]?,L[b.toNat]? with
 | some p,some q=>lapS p q
 | _,_=>false) else false
theorem lapT_any (h:TabIn W n1 bt V vK M N L C) (a b:Int) (ha:fits64 a) (hb:fits64 b) :
  Calls Tryz.prog 13 #[.pointer (some ⟨bt,0,none⟩),.int .i64 a,.int .i64 b] W fun e w'=>e=.returned (.bool (lapI L a b))∧Ext W w':=by
 have c9:=h.cells.2
 have HT:=qh h
 obtain ⟨aP,cP,ev,hl1,hl2⟩:=h.ck.pl.form
 rw [ev] at c9
 unfold maxLen at hl2
 clear h
 obtain ⟨res,hres⟩:∃ x,lapI L a b=x:=⟨_,rfl⟩
 rw [hres]
 unfold lapI at hres
 go_enter Tryz.func13,Tryz.ntmps13
 by_cases h1:a<0
 ·rw [if_neg (by omega)] at hres
  subst hres
  have hd:decide (0≤a)=false:=decide_eq_false (by omega)
  go_upto_region 1 with (fail)
  go_quiet (fail)
  have xq:=Ext.drewN W nq
  go_wp2_with fail
  go_ret
  exact ⟨rfl,xq⟩
 by_cases h2:b<0
 ·rw [if_neg (by omega)] at hres
  subst hres
  have hd0:(0:Int)≤a:=by omega
  have hd:decide (0≤b)=false:=decide_eq_false (by omega)
  go_upto_region 1 with (fail)
  go_quiet (fail)
  have xq:=Ext.drewN W nq
  go_wp2_with fail
  go_ret
  exact ⟨rfl,xq⟩
 rw [if_pos (by omega)] at hres
 obtain ⟨ka,rfl⟩:∃ k:Nat,a=k:=⟨a.toNat,by omega⟩
 obtain ⟨kb,rfl⟩:∃ k:Nat,b=k:=⟨b.toNat,by omega⟩
 rw [Int.toNat_natCast,Int.toNat_natCast] at hres
 by_cases h3:L.length≤ka
 ·rw [List.getElem?_eq_none h3] at hres
  dsimp only at hres
  subst hres
  have hd:decide (ka<L.length)=false:=decide_eq_false (by omega)
  have hd2:decide ((ka:Int)<(L.length:Int))=false:=decide_eq_false (by omega)
  go_upto_region 1 with (fail)
  go_quiet (fail)
  have xq:=Ext.drewN W nq
  go_wp2_with fail
  go_ret
  exact ⟨rfl,xq⟩
 have h3z:(ka:Int)<(L.length:Int):=by omega
 obtain ⟨p,hp⟩:∃ x,L[ka]?=some x:=⟨_,lE (by omega)⟩
 by_cases h4:L.length≤kb
 ·rw [hp,List.getElem?_eq_none h4] at hres
  dsimp only at hres
  subst hres
  have hd:decide (kb<L.length)=false:=decide_eq_false (by omega)
  have hd2:decide ((kb:Int)<(L.length:Int))=false:=decide_eq_false (by omega)
  clear hp
  go_upto_region 1 with (fail)
  go_quiet (fail)
  have xq:=Ext.drewN W nq
  go_wp2_with fail
  go_ret
  exact ⟨rfl,xq⟩
 have h4z:(kb:Int)<(L.length:Int):=by omega
 obtain ⟨q,hq⟩:∃ x,L[kb]?=some x:=⟨_,lE (by omega)⟩
 rw [hp,hq] at hres
 dsimp only at hres
 have hcall:=qh (fun (w:World)=>lapR_any p q w (HT.out.tight p (List.mem_of_getElem? hp)) (HT.out.tight q (List.mem_of_getElem? hq)))
 rw [hres] at hcall
 obtain ⟨b1,o1,k1,e1,_,_,_,s0,s1,s2⟩:=HT.out.ck.pl.at hp
 obtain ⟨_,_,_,e2,_,_,_,u0,u1,u2⟩:=HT.out.ck.pl.at hq
 rw [ev] at e1 e2
 cases e1
 cases e2
 clear hp hq hres
 go_upto_region 1 with (fail)
 rename_i K1 hK1
 have hK1:=qh hK1
 refine wp_region_M (fun w'=>Ext W w') 39 (by kernel_rfl) (Ext.drew _) (fun hS=>?_)
 refine' tk 0 hS ?_ ?_;rotate_left;·intros;go_simp;try rfl
 refine' tk 1 hS ?_ ?_;rotate_left;·intros;go_simp;try rfl
 refine' tk 2 hS ?_ ?_;rotate_left;·intros;go_simp;try rfl
 try simp only [tD]
 refine' tk 3 hS ?_ ?_;rotate_left;·intros;go_simp;try rfl
 refine' tk 4 hS ?_ ?_;rotate_left;·intros;go_simp;try rfl
 refine' tk 5 hS ?_ ?_;rotate_left;·intros;go_simp;try rfl
 try simp only [tD]
 refine' tk 6 hS ?_ ?_;rotate_left;·intros;go_simp;try rfl
 refine' tk 7 hS ?_ ?_;rotate_left;·intros;go_simp;try rfl
 refine' tk 8 hS ?_ ?_;rotate_left;·intros;go_simp;try rfl
 try simp only [tD]
 refine' tk 9 hS ?_ ?_;rotate_left;·intros;go_simp;try rfl
 refine' tk 10 hS ?_ ?_;rotate_left;·intros;go_simp;try rfl
 refine' tk 11 hS ?_ ?_;rotate_left;·intro w hSw;have a9:=xc hSw c9;go_simp;try rfl
 try simp only [tD]
 refine' tk 12 hS ?_ ?_;rotate_left;·intros;go_simp;try rfl
 refine' tk 13 hS ?_ ?_;rotate_left;·intros;go_simp;try rfl
 refine' tk 14 hS ?_ ?_;rotate_left;·intros;go_simp;try rfl
 try simp only [tD]
 refine' tk 15 hS ?_ ?_;rotate_left;·intros;go_simp;try rfl
 refine' tk 16 hS ?_ ?_;rotate_left;·intros;go_simp;try rfl
 refine' tk 17 hS ?_ ?_;rotate_left;·intros;go_simp;try rfl
 try simp only [tD]
 refine' tk 18 hS ?_ ?_;rotate_left;·intros;go_simp;try rfl
 refine' tk 19 hS ?_ ?_;rotate_left;·intros;go_simp;try rfl
 refine' tk 20 hS ?_ ?_;rotate_left;·intro w hSw;have a9:=xc hSw c9;go_simp;try rfl
 try simp only [tD]
 refine' tk 21 hS ?_ ?_;rotate_left;·intros;go_simp;try rfl
 refine' tk 22 hS ?_ ?_;rotate_left;·intros;go_simp;try rfl
 refine' tk 23 hS ?_ ?_;rotate_left;·intros;go_simp;try rfl
 try simp only [tD]
 refine' tk 24 hS ?_ ?_;rotate_left;·intros;go_simp;try rfl
 refine' tk 25 hS ?_ ?_;rotate_left;·intros;go_simp;try rfl
 refine' tk 26 hS ?_ ?_;rotate_left;·intros;go_simp;try rfl
 try simp only [tD]
 refine' tk 27 hS ?_ ?_;rotate_left;·intros;go_simp;try rfl
 refine' tk 28 hS ?_ ?_;rotate_left;·intro w hSw;have a9:=xc hSw c9;go_simp;try rfl
 refine' tk 29 hS ?_ ?_;rotate_left;·intros;go_simp;try rfl
 try simp only [tD]
 refine' tk 30 hS ?_ ?_;rotate_left;·intros;go_simp;try rfl
 refine' tk 31 hS ?_ ?_;rotate_left;·intro w hSw;have t0:=xc hSw s0;have t1:=xc hSw s1;have t2:=xc hSw s2;go_simp;try rfl
 refine' tk 32 hS ?_ ?_;rotate_left;·intros;go_simp;try rfl
 try simp only [tD]
 refine' tk 33 hS ?_ ?_;rotate_left;·intros;go_simp;try rfl
 refine' tk 34 hS ?_ ?_;rotate_left;·intros;go_simp;try rfl
 refine' tk 35 hS ?_ ?_;rotate_left;·intro w hSw;have a9:=xc hSw c9;go_simp;try rfl
 try simp only [tD]
 refine' tk 36 hS ?_ ?_;rotate_left;·intros;go_simp;try rfl
 refine' tk 37 hS ?_ ?_;rotate_left;·intros;go_simp;try rfl
 refine' tk 38 hS ?_ ?_;rotate_left;·intro w hSw;have t3:=xc hSw u0;have t4:=xc hSw u1;have t5:=xc hSw u2;go_simp;try rfl
 try simp only [tD]
 generalize W.drew=w2 at hS ⊢
 refine rl 39 fun K hK=>?_
 go_simp
 refine ((hcall.out w2)).mono ?_
 rintro e w3 ⟨rfl,x3⟩
 have hS0:=hS
 have hS:=Ext.trans hS x3
 refine hK.out _ _ ?_
 try simp only [tD]
 clear hK K
 refine' tw 40 ?_ ?_;rotate_left;·intros;go_simp;try rfl
 try simp only [tD]
 refine' tw 41 ?_ ?_;rotate_left;·intros;go_simp;try rfl
 try simp only [tD]
 refine wpAnyM_done (by kernel_rfl) ?_ _
 refine hK1.out _ _ ?_
 go_wp2_with fail
 go_ret
 exact ⟨rfl,hS⟩
theorem infoI:(Tryz.prog.info? 3).map (fun i=>(i.zero,i.size,i.bytes))=some (some (.int .i64 0),1,8):=by kernel_rfl
def listS (N l:List ByteArray):List Int:=(l.map (idx N)).filter (fun n=>decide (0≤n))
theorem idx_fits {l:List ByteArray} {s:ByteArray} (h:l.length≤9223372036854775807):fits64 (idx l s):=by
 unfold idx fits64
 cases hf:l.findIdx? (fun x=>x == s) with
 | none=>dsimp only;omega
 | some i =>
  rw [List.findIdx?_eq_some_iff_getElem] at hf
  obtain ⟨hlt,_⟩:=hf
  dsimp only;omega
theorem listT_any (h:TabIn W n1 bt V vK M N L C) {v:Value} {l:List ByteArray} (hv:StrsIn W n1 v l) (hl:l.length≤1000) :
  Calls Tryz.prog 53 #[.pointer (some ⟨bt,0,none⟩),v] W fun e w'=>∃ u,e=.returned u∧w'.ownsRow W.heap.size 3 1 u (listS N l).length ((listS N l).map (Value.int .i64))∧Ext W w':=by
 obtain ⟨a,cap,rfl,hl1,hl2⟩:=hv.form
 unfold maxLen at hl2
 have HT:=qh h
 have HV:=qh hv
 have hle:=h.ck.le
 obtain ⟨iI,hiI,zI0,zI1,zI2⟩:=info_parts infoI
 clear h hv
 go_enter Tryz.func53,Tryz.ntmps53
 go_wp2
 go_loopw [5,6] (fun o i wr=>∃ k:Nat,k≤l.length∧i=.int .i64 k∧∃ aO cO,o=.slice aO (listS N (l.take k)).length cO∧Hid (Ext W wr∧wr.ownsRow W.heap.size 3 1 (.slice aO (listS N (l.take k)).length cO) (listS N (l.take k)).length ((listS N (l.take k)).map (Value.int .i64)))) (fun _ i _=>l.length - (intOf i).toNat)
 case atStart=>exact ⟨0,by omega,rfl,none,0,rfl,qh ⟨Ext.refl _,World.ownsRow_nil _ _ _ _⟩⟩
 case round =>
  obtain ⟨k,hk,rfl,aO,cO,rfl,hin⟩:=hrel
  by_cases hlt:k<l.length
  ·have hkz:(k:Int)<(l.length:Int):=by omega
   obtain ⟨s,hs⟩:∃ x,l[k]?=some x:=⟨_,lE hlt⟩
   obtain ⟨b,off,cap2,e,_,_,hb,c0⟩:=StrsIn.at (StrsIn.ext HV.out hle hin.out.1) hs
   cases e
   have hreg:=qh (regT_any (HT.out.ext hin.out.1) s)
   have htk:l.take (k+1)=l.take k ++ [s]:=by rw [List.take_add_one,hs];rfl
   have hlen:(listS N (l.take k)).length≤1000:=by
    unfold listS
    refine Nat.le_trans (List.length_filter_le _ _) ?_
    rw [List.length_map,List.length_take];omega
   have HTK:=qh htk
   obtain ⟨n,hn⟩:∃ x,idx N s=x:=⟨_,rfl⟩
   rw [hn] at hreg
   have HNN:=qh hn
   clear hs htk hn
   by_cases h0:0≤n
   ·have hls:listS N (l.take (k+1))=listS N (l.take k) ++ [n]:=by
     rw [HTK.out];unfold listS
     rw [List.map_append,List.filter_append]
     simp [HNN.out,h0]
    have HLS:=qh hls
    have hOW:=qh hin.out.2
    clear hls
    go_wp2_with (first
     | (go_at_call 54;refine hreg.out.mono ?_;rintro e w' ⟨rfl,rfl⟩)
     | (at_builtin;go_loud (refine wpList_append_lies _ rfl _ _ 36 rfl W.heap.size 3 iI _ 1 8 Tryz.underlying36 hiI zI0 zI1 zI2 rfl (by omega) (.slice aO (listS N (l.take k)).length cO) (listS N (l.take k)).length ((listS N (l.take k)).map (Value.int .i64)) rfl (hOW.out.alloc _) ⟨wr.heap.size,0,none⟩ 1 1 [.int .i64 n] rfl rfl (World.news_of_block (cs:=#[.int .i64 n]) (t:=3) (fr:=(0,0)) (heap_alloc_new wr _)) (by simp [Value.oneCell']) (by omega) (by unfold maxLen;omega) (by omega) (by have:=hin.out.1.size;simp;omega) _ rfl ?_;intro gO cpO w6 hownO hgrowO hatO hltO)))
    have xx:Hid (Ext W w6):=qh (Ext.grown (hin.out.1.trans (Ext.alloc wr _)) hgrowO (fun q e=>(hOW.out.lt q e).1))
    have e9:(listS N (l.take k)).length+1=(listS N (l.take (k+1))).length:=by rw [HLS.out];simp
    have hO2:=qh hownO
    clear hownO hgrowO hatO
    go_roundw
    case rel=>exact ⟨k+1,by omega,by go_num,some ⟨gO,0,none⟩,cpO,by rw [e9],qh ⟨xx.out,by rw [← e9,HLS.out,List.map_append];exact hO2.out⟩⟩
    case measure=>simp [intOf];omega
   ·have hls:listS N (l.take (k+1))=listS N (l.take k):=by
     rw [HTK.out];unfold listS
     rw [List.map_append,List.filter_append]
     simp [HNN.out,h0]
    have HLS:=qh hls
    have hOW:=qh hin.out
    clear hls
    go_wp2_with (go_at_call 54;refine hreg.out.mono ?_;rintro e w' ⟨rfl,rfl⟩)
    go_roundw
    case rel=>exact ⟨k+1,by omega,by go_num,aO,cO,by rw [HLS.out],qh (by rw [HLS.out];exact hOW.out)⟩
    case measure=>simp [intOf];omega
  ·have htk:l.take k=l:=List.take_of_length_le (by omega)
   rw [htk] at hin
   rw [htk]
   have hkz:¬ (k:Int)<(l.length:Int):=by omega
   go_wp2
   go_ret
   exact ⟨_,rfl,hin.out.2,hin.out.1⟩
end Go.Proofs.YtligiddaampneaaGreat
