/- Sets of small numbers (package bitset): Of. -/
import Derived.Test.YtligiddaampneaaGreatTa
import Derived.Test.YtligiddaampneaaGreatMgG
set_option maxRecDepth 100000
set_option maxHeartbeats 8000000
namespace Go.Proofs.YtligiddaampneaaGreat
open Go.RowKit
attribute [local go_sem] Oper.semAt_some
variable {W : World} {n0 : Nat} {v : Value} {ws : List Nat}
theorem infoU:(Tryz.prog.info? 108).map (fun i=>(i.zero,i.size,i.bytes))=some (some (.int .u64 0),1,8):=by kernel_rfl
def lenV:Value→Nat
 | .slice _ n _=>n
 | _=>0
theorem WordsIn.of_owns {base:Nat} (h:W.ownsRow base 108 1 v ws.length (ws.map wordV)) (hl:∀ w∈ws,w<18446744073709551616):WordsIn W W.heap.size v ws :=
 ⟨Tab.of_owns (base:=base) (e:=108) (n:=ws.length) (by rw [words_flat];exact h) (fun r hr=>by obtain ⟨_,_,rfl⟩:=List.mem_map.1 hr;rfl) (by rw [List.length_map]),hl⟩
theorem hasW_zero (n:Nat):hasW (ws ++ [0]) n=hasW ws n:=by
 unfold hasW
 rw [List.getD_eq_getElem?_getD,List.getD_eq_getElem?_getD]
 by_cases h:n / 64<ws.length
 ·rw [List.getElem?_append_left h]
 ·rw [List.getElem?_append_right (by omega),List.getElem?_eq_none (l:=ws) (by omega)]
  cases hz:n / 64 - ws.length with
  | zero=>rfl
  | succ k=>rfl
theorem hasW_set {m w:Nat} (hw:ws[m / 64]?=some w) (n:Nat):hasW (ws.set (m / 64) (w ||| 2 ^ (m % 64))) n=(hasW ws n || decide (n=m)):=by
 unfold hasW
 rw [List.getD_eq_getElem?_getD,List.getD_eq_getElem?_getD,List.getElem?_set]
 have hlt:=(List.getElem?_eq_some_iff.1 hw).1
 by_cases h:m / 64=n / 64
 ·rw [if_pos h,if_pos hlt,← h,hw]
  simp only [Option.getD_some,Nat.testBit_or,Nat.testBit_two_pow]
  congr 1
  rw [Bool.eq_iff_iff,decide_eq_true_eq,decide_eq_true_eq]
  omega
 ·rw [if_neg h,decide_eq_false (show ¬ n=m from fun e=>h (by rw [e])),Bool.or_false]
theorem or_lt {w k:Nat} (hw:w<18446744073709551616) (hk:k<64):w ||| 2 ^ k<18446744073709551616:=by
 have h:(18446744073709551616:Nat)=2 ^ 64:=by decide
 rw [h] at hw ⊢
 exact Nat.or_lt_two_pow hw (Nat.pow_lt_pow_right (by decide) hk)
def OfInv (w1:World) (l:List Int) (a:Option Addr) (c:Nat) (ws:List Nat) (wr:World):Prop :=
 Ext w1 wr∧wr.ownsRow w1.heap.size 108 1 (.slice a ws.length c) ws.length (ws.map wordV)∧(∀ w∈ws,w<18446744073709551616)∧ws.length≤1024∧∀ n,hasW ws n=decide (n≤65535∧(n:Int)∈l)
theorem of_any {l:List Int} (hv:SliceInts W v l) (hfit:∀ n∈l,fits64 n) :
  Calls Tryz.prog 80 #[v] W fun e w'=>∃ v' ws,e=.returned (.agg #[v'])∧WordsIn w' w'.heap.size v' ws∧(∀ n,hasW ws n=decide (n≤65535∧(n:Int)∈l))∧(∀ k,v'.ownBlock=some k→W.heap.size≤k)∧ws.length≤1024∧OnU w' v'∧Ext W w':=by
 obtain ⟨a,cap,rfl,hl1,hl2⟩:=hv.shape
 unfold maxLen at hl2
 have x0:Ext W (W.alloc (.cells #[.slice none 0 0] 78)):=Ext.alloc _ _
 have hb:=heap_alloc_new W (.cells #[.slice none 0 0] 78)
 have hlt:W.heap.size<(W.alloc (.cells #[.slice none 0 0] 78)).heap.size:=(Array.getElem?_eq_some_iff.1 hb).1
 have H:=qh (hv.below x0)
 have X0:=qh x0
 obtain ⟨iU,hiU,zU0,zU1,zU2⟩:=info_parts infoU
 have HF:=qh hfit
 clear hv x0 hfit
 go_enter Tryz.func80,Tryz.ntmps80
 go_upto_region 1 with (fail)
 generalize W.alloc (.cells #[.slice none 0 0] 78)=w1 at hb hlt H X0 ⊢
 have HB:=qh hb
 clear hb
 go_wp2_with fail
 go_loopw [3,8] (fun wv iv wr=>∃ i:Nat,i≤l.length∧iv=.int .i64 i∧∃ a3 c3,∃ ws:List Nat,wv=.slice a3 ws.length c3∧Hid (OfInv w1 (l.take i) a3 c3 ws wr)) (fun _ iv _=>l.length - (intOf iv).toNat)
 case atStart=>exact ⟨0,by omega,rfl,none,0,[],rfl,qh ⟨Ext.refl _,World.ownsRow_nil _ _ _ _,by simp,by simp,fun n=>by simp [hasW]⟩⟩
 case round =>
  obtain ⟨i,hi,rfl,a3,c3,ws,rfl,hin⟩:=hrel
  rename World=>w2
  by_cases hli:i<l.length
  case pos =>
   have hiz:(i:Int)<(l.length:Int):=by omega
   obtain ⟨x,hx⟩:∃ x,l[i]?=some x:=⟨_,lE hli⟩
   obtain ⟨b,off,cap2,e,_,_,_,hcell⟩:=Row.at (H.out.below hin.out.1) (fun e=>by rw [List.map_eq_nil_iff] at e;rw [e] at hli;simp at hli)
   cases e
   have cx:=hcell i (.int .i64 x) (by simp [hx])
   have hfx:=HF.out x (List.mem_of_getElem? hx)
   unfold fits64 at hfx
   have HX:Hid (l.take (i+1)=l.take i ++ [x]):=qh (by rw [List.take_add_one,hx];rfl)
   clear hcell hx
   by_cases hbad:x<0∨65535<x
   ·have hsame:Hid (OfInv w1 (l.take (i+1)) a3 c3 ws w2):=qh (by
     obtain ⟨h1,h2,h3,h4,h5⟩:=hin.out
     refine ⟨h1,h2,h3,h4,fun n=>?_⟩
     rw [h5 n,HX.out,Bool.eq_iff_iff,decide_eq_true_eq,decide_eq_true_eq,List.mem_append,List.mem_singleton]
     constructor
     ·rintro ⟨ha,hb⟩;exact ⟨ha,Or.inl hb⟩
     ·rintro ⟨ha,hb | hb⟩
      ·exact ⟨ha,hb⟩
      ·omega)
    by_cases hneg:x<0
    ·go_wp2_with fail
     go_roundw
     case rel=>exact ⟨i+1,by omega,by go_num,a3,c3,ws,rfl,hsame⟩
     case measure=>simp [intOf];omega
    ·have hbig:(65535:Int)<x:=by omega
     go_wp2_with fail
     go_roundw
     case rel=>exact ⟨i+1,by omega,by go_num,a3,c3,ws,rfl,hsame⟩
     case measure=>simp [intOf];omega
   ·have hneg:¬ x<0:=fun e=>hbad (Or.inl e)
    have hbig:¬ (65535:Int)<x:=fun e=>hbad (Or.inr e)
    obtain ⟨m,rfl⟩:∃ m:Nat,x=m:=⟨x.toNat,by omega⟩
    have hm1:m≤65535:=by omega
    have HIN:=qh hin.out
    clear hin hbad
    go_wp2_with fail
    go_loopw [3] (fun wv wr=>∃ a4 c4,∃ ws4:List Nat,wv=.slice a4 ws4.length c4∧Hid (OfInv w1 (l.take i) a4 c4 ws4 wr)) (fun wv _=>m / 64+1 - lenV wv)
    case atStart=>exact ⟨a3,c3,ws,rfl,HIN⟩
    case round =>
     obtain ⟨a4,c4,ws4,rfl,hin4⟩:=hrel
     rename World=>w3
     obtain ⟨x3,hown,hlt4,hmany,hhas⟩:=hin4.out
     have HX3:=qh x3
     have HOW:=qh hown
     have HHA:=qh (And.intro hlt4 hhas)
     obtain ⟨_,_,esh,hcap1,hcap2⟩:=(Row.of_owns hown).shape
     cases esh
     unfold maxLen at hcap2
     clear hin4 hhas hlt4
     by_cases hlen:ws4.length≤m / 64
     case pos =>
      have hz:(ws4.length:Int)≤(m:Int) / 64:=by omega
      clear hown x3
      go_wp2_with (at_builtin;go_loud (refine wpList_append_lies _ rfl _ _ 76 rfl w1.heap.size 108 iU _ 1 8 Tryz.underlying76 hiU zU0 zU1 zU2 rfl (by omega) (.slice a4 ws4.length c4) ws4.length (ws4.map wordV) rfl (HOW.out.alloc _) ⟨w3.heap.size,0,none⟩ 1 1 [.int .u64 0] rfl rfl (World.news_of_block (cs:=#[.int .u64 0]) (t:=108) (fr:=(0,0)) (heap_alloc_new w3 _)) (by simp [Value.oneCell']) (by omega) (by unfold maxLen;omega) (by omega) (by have:=HX3.out.size;simp;omega) _ rfl ?_;intro g5 c5 w5 hown5 hgrow5 hat5 hlt5))
      have HINV:Hid (OfInv w1 (l.take i) (some ⟨g5,0,none⟩) c5 (ws4 ++ [0]) w5):=qh ⟨Ext.grown (HX3.out.trans (Ext.alloc w3 _)) hgrow5 (fun q e=>(HOW.out.lt q e).1),by
       rw [List.length_append,List.map_append];exact hown5,fun w hw=>by
       rcases List.mem_append.1 hw with h | h
       ·exact HHA.out.1 w h
       ·rw [List.mem_singleton.1 h];decide,by rw [List.length_append,List.length_singleton];omega,fun n=>by rw [hasW_zero];exact HHA.out.2 n⟩
      clear hown5 hgrow5 hat5
      go_roundw
      case rel=>exact ⟨some ⟨g5,0,none⟩,c5,ws4 ++ [0],by rw [List.length_append];rfl,HINV⟩
      case measure=>simp [lenV];omega
     case neg =>
     have hz:¬ (ws4.length:Int)≤(m:Int) / 64:=by omega
     obtain ⟨w,hw⟩:∃ w,ws4[m / 64]?=some w:=⟨_,lE (by omega)⟩
     obtain ⟨g,rfl⟩:∃ g,a4=some ⟨g,0,none⟩:=by
      rcases hown.2 with ⟨e,e2⟩ | ⟨g,cp,cu,e,_⟩
      ·omega
      ·simp only [Value.slice.injEq] at e
       exact ⟨g,e.1⟩
     have hgl:=(hown.lt g rfl).2
     have cw:w3.cell? ⟨g,m / 64,none⟩=some (.int .u64 (w:Int)):=by
      obtain ⟨b,off,cap3,e,_,_,_,hcell⟩:=Row.at (Row.of_owns hown) (fun e=>by rw [List.map_eq_nil_iff] at e;rw [e] at hw;simp at hw)
      cases e
      have:=hcell (m / 64) (wordV w) (by simp [hw])
      rw [Nat.zero_add] at this
      exact this
     have fw:=World.ownsRow.frozenAt hown (m / 64)
     have HW:=qh hw
     have hq0:(0:Int)≤(m:Int) / 64:=by omega
     have hq1:IntKind.i64.wrap ((m:Int) / 64)=(m:Int) / 64:=by rw [IntWalk.i64_left];unfold wrap64;omega
     have hql:(m:Int) / 64<(ws4.length:Int):=by omega
     have hq2:(m:Int).tmod 64=(m:Int) % 64:=Int.tmod_eq_emod_of_nonneg (by omega)
     have hq3:(0:Int)≤(m:Int) % 64:=by omega
     have hq4:((m:Int) % 64).toNat=m % 64:=by omega
     have hq5:((m:Int) / 64).toNat=m / 64:=by omega
     have hmin:min (m % 64) IntKind.u64.bits=m % 64:=Nat.min_eq_left (by show m % 64≤64;omega)
     have hpw:(2:Nat) ^ (m % 64)<18446744073709551616:=by
      have h:(18446744073709551616:Nat)=2 ^ 64:=by decide
      rw [h]
      exact Nat.pow_lt_pow_right (by decide) (by omega)
     have hsh:IntKind.u64.wrap ((2:Int) ^ (m % 64))=((2 ^ (m % 64):Nat):Int):=by
      have e:((2:Int) ^ (m % 64))=((2 ^ (m % 64):Nat):Int):=by push_cast;rfl
      rw [e]
      generalize (2:Nat) ^ (m % 64)=p at hpw
      show ((p:Int)) % 18446744073709551616=p
      omega
     have hor:=u64_or_nat w (2 ^ (m % 64)) (HHA.out.1 w (List.mem_of_getElem? hw)) hpw
     obtain ⟨pw,hpe⟩:∃ p:Nat,2 ^ (m % 64)=p:=⟨_,rfl⟩
     rw [hpe] at hsh hor
     have HPE:=qh hpe
     clear hown x3 hw hpw hpe
     go_upto_region 8 with (fail)
     refine wp_region_M (fun w'=>Ext w3 w') 10 (by kernel_rfl) (Ext.drew _) (fun hS=>?_)
     refine' tk 0 hS ?_ ?_;rotate_left;·intros;go_simp;try rfl
     refine' tk 1 hS ?_ ?_;rotate_left;·intros;go_simp;try rfl
     refine' tk 2 hS ?_ ?_;rotate_left;·intros;go_simp;try rfl
     try simp only [tD]
     refine' tk 3 hS ?_ ?_;rotate_left;·intros;go_simp;try rfl
     refine' tk 4 hS ?_ ?_;rotate_left;·intro w hSw;have q0:=xc hSw cw;go_simp;try rfl
     refine' tk 5 hS ?_ ?_;rotate_left;·intros;go_simp;try rfl
     try simp only [tD]
     refine' tk 6 hS ?_ ?_;rotate_left;·intros;go_simp;try rfl
     refine' tk 7 hS ?_ ?_;rotate_left;·intros;go_simp;try rfl
     refine' tk 8 hS ?_ ?_;rotate_left;·intros;go_simp;try rfl
     try simp only [tD]
     refine' tk 9 hS ?_ ?_;rotate_left;·intros;go_simp;try rfl
     try simp only [tD]
     generalize w3.drew=w4 at hS ⊢
     have c4':=xc hS cw
     have f4:w4.frozen? ⟨g,m / 64,none⟩=false:=World.ownsRow.frozenAt (owns_ext HOW.out hS) (m / 64)
     have l4:g<w4.heap.size:=Nat.lt_of_lt_of_le hgl hS.size
     refine rl 10 fun K hK=>?_
     go_simp
     refine hK.out _ _ ?_
     try simp only [tD]
     clear hK K
     refine wpAnyM_done (by kernel_rfl) ?_ _
     have hst:=World.ownsRow.stored (owns_ext HOW.out hS) (m / 64) (.int .u64 ((w ||| pw:Nat):Int))
     have HINV:Hid (OfInv w1 (l.take (i+1)) (some ⟨g,0,none⟩) c4 (ws4.set (m / 64) (w ||| pw)) (w4.setCell ⟨g,m / 64,none⟩ (.int .u64 ((w ||| pw:Nat):Int)))):=qh ⟨Ext.grown (HX3.out.trans hS) hst.2 (fun q e=>by cases e;exact (HOW.out.lt g rfl).1),by
      rw [List.length_set,List.map_set];exact hst.1,fun u hu=>by
      rcases List.mem_or_eq_of_mem_set hu with h | h
      ·exact HHA.out.1 u h
      ·rw [h,← HPE.out];exact or_lt (HHA.out.1 w (List.mem_of_getElem? HW.out)) (Nat.mod_lt _ (by decide)),by rw [List.length_set];omega,fun n=>by
      rw [← HPE.out,hasW_set HW.out,HHA.out.2 n,HX.out,Bool.eq_iff_iff,Bool.or_eq_true,decide_eq_true_eq,decide_eq_true_eq,decide_eq_true_eq,List.mem_append,List.mem_singleton]
      constructor
      ·rintro (⟨h1,h2⟩ | h)
       ·exact ⟨h1,Or.inl h2⟩
       ·subst h;exact ⟨hm1,Or.inr rfl⟩
      ·rintro ⟨h1,h2 | h2⟩
       ·exact Or.inl ⟨h1,h2⟩
       ·exact Or.inr (by omega)⟩
     clear hst hS
     go_wp2_with fail
     go_roundw
     case rel=>exact ⟨i+1,by omega,by go_num,some ⟨g,0,none⟩,c4,ws4.set (m / 64) (w ||| pw),by rw [List.length_set],HINV⟩
     case measure=>simp [intOf];omega
  case neg =>
   have hiz:¬ (i:Int)<(l.length:Int):=by omega
   have htk:l.take i=l:=List.take_of_length_le (by omega)
   obtain ⟨x2,hown,hlt2,hmany,hhas⟩:=hin.out
   rw [htk] at hhas
   have HHA:=qh hhas
   have HOW:=qh hown
   have htr:=qh (trimmed_any (WordsIn.of_owns hown hlt2) (Nat.le_refl _))
   have B2:=qh (x2.block HB.out)
   have X2:=qh x2
   clear hin x2 hown hlt2 hhas htk
   go_upto_region 10 with (fail)
   go_wp2_with (go_at_call 108;refine htr.out.mono ?_;rintro e w5 ⟨v5,ws5,rfl,hw5,hh5,hl5,ho5,hx5⟩;obtain ⟨a5,k5,e5,_,_⟩:=hw5.form;subst e5;have b5:=hx5.block B2.out;have c5:=cell_of_one b5;have f5:=free_of_one b5;have l5:=(Array.getElem?_eq_some_iff.1 b5).1;have HW5:=qh hw5;have HH5:=qh (And.intro hh5 ho5);have X5:=qh hx5;clear hw5 hh5 ho5 hx5)
   have hne:(Value.slice a5 ws5.length k5).ownBlock≠some W.heap.size:=fun e=>by
    have:=(HOW.out.lt _ (HH5.out.2 _ e)).1
    omega
   have hs5:w2.heap.size≤(w5.setCell ⟨W.heap.size,0,none⟩ (.slice a5 ws5.length k5)).heap.size:=by
    rw [set_size];exact X5.out.size
   have xf:=keepExt ((Keep.of_ext (X0.out.trans (X2.out.trans X5.out)):Keep (fun q=>q=W.heap.size) W w5).trans (Keep.setCell (fun q=>q=W.heap.size) w5 ⟨W.heap.size,0,none⟩ (.slice a5 ws5.length k5) rfl) (fun _ _ h=>h)) (fun q e=>by omega)
   refine bodyPost_ret (results_cell_row rfl _ _ W.heap.size 78 #[.slice a5 ws5.length k5] (0,0) _ rfl (heap_set_cells b5 0 _) Tryz.underlying78 rfl (by kernel_rfl)) rfl ?_
   refine ⟨_,ws5,rfl,⟨(Tab.other HW5.out.tab hne _).up hs5,HW5.out.lt⟩,fun n=>by rw [HH5.out.1,HHA.out],fun q e=>?_,by omega,fun q e=>?_,xf⟩
   ·have:=(HOW.out.lt _ (HH5.out.2 _ e)).1
    omega
   ·obtain ⟨cs,fz,hg⟩:=((OnU.of_owns HOW.out).ext X5.out) q (HH5.out.2 _ e)
    exact ⟨cs,fz,(Below.heap_setCell _ _ _ q (fun e2=>hne (by rw [e2] at e;exact e))).trans hg⟩
end Go.Proofs.YtligiddaampneaaGreat
