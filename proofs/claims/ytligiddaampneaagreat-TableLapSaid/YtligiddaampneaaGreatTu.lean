/- Package table: what a table tells of registers that lap; lists of numbers compared. -/
import Derived.Test.YtligiddaampneaaGreatTo
import Derived.Test.YtligiddaampneaaGreatTs
namespace Go.Proofs.YtligiddaampneaaGreat
open Go.RowKit
attribute [local go_sem] Oper.semAt_some
theorem atSet_any (W:World) (a:Option Addr) (n c:Nat) (m:Int):Calls Tryz.prog 49 #[.slice a n c,.int .i64 m] W fun e w'=>e=.returned (.bool (decide (0≤m∧m<(n:Int))))∧W=w':=by
 go_enter Tryz.func49,Tryz.ntmps49
 by_cases h0:0≤m
 ·by_cases h1:m<(n:Int)
  ·rw [decide_eq_true ⟨h0,h1⟩]
   go_wp2_with fail
   go_ret
   exact ⟨rfl,rfl⟩
  ·rw [decide_eq_false (fun h=>h1 h.2)]
   go_wp2_with fail
   go_ret
   exact ⟨rfl,rfl⟩
 ·rw [decide_eq_false (fun h=>h0 h.1)]
  go_wp2_with fail
  go_ret
  exact ⟨rfl,rfl⟩
theorem atInts_any (W:World) (a:Option Addr) (n c:Nat) (m:Int):Calls Tryz.prog 58 #[.slice a n c,.int .i64 m] W fun e w'=>e=.returned (.bool (decide (0≤m∧m<(n:Int))))∧W=w':=by
 go_enter Tryz.func58,Tryz.ntmps58
 by_cases h0:0≤m
 ·by_cases h1:m<(n:Int)
  ·rw [decide_eq_true ⟨h0,h1⟩]
   go_wp2_with fail
   go_ret
   exact ⟨rfl,rfl⟩
  ·rw [decide_eq_false (fun h=>h1 h.2)]
   go_wp2_with fail
   go_ret
   exact ⟨rfl,rfl⟩
 ·rw [decide_eq_false (fun h=>h0 h.1)]
  go_wp2_with fail
  go_ret
  exact ⟨rfl,rfl⟩
theorem atSets_any (W:World) (a:Option Addr) (n c:Nat) (m:Int):Calls Tryz.prog 67 #[.slice a n c,.int .i64 m] W fun e w'=>e=.returned (.bool (decide (0≤m∧m<(n:Int))))∧W=w':=by
 go_enter Tryz.func67,Tryz.ntmps67
 by_cases h0:0≤m
 ·by_cases h1:m<(n:Int)
  ·rw [decide_eq_true ⟨h0,h1⟩]
   go_wp2_with fail
   go_ret
   exact ⟨rfl,rfl⟩
  ·rw [decide_eq_false (fun h=>h1 h.2)]
   go_wp2_with fail
   go_ret
   exact ⟨rfl,rfl⟩
 ·rw [decide_eq_false (fun h=>h0 h.1)]
  go_wp2_with fail
  go_ret
  exact ⟨rfl,rfl⟩
theorem atOp_any (W:World) (a:Option Addr) (n c:Nat) (m:Int):Calls Tryz.prog 70 #[.slice a n c,.int .i64 m] W fun e w'=>e=.returned (.bool (decide (0≤m∧m<(n:Int))))∧W=w':=by
 go_enter Tryz.func70,Tryz.ntmps70
 by_cases h0:0≤m
 ·by_cases h1:m<(n:Int)
  ·rw [decide_eq_true ⟨h0,h1⟩]
   go_wp2_with fail
   go_ret
   exact ⟨rfl,rfl⟩
  ·rw [decide_eq_false (fun h=>h1 h.2)]
   go_wp2_with fail
   go_ret
   exact ⟨rfl,rfl⟩
 ·rw [decide_eq_false (fun h=>h0 h.1)]
  go_wp2_with fail
  go_ret
  exact ⟨rfl,rfl⟩
theorem atStr_any (W:World) (a:Option Addr) (n c:Nat) (m:Int):Calls Tryz.prog 91 #[.slice a n c,.int .i64 m] W fun e w'=>e=.returned (.bool (decide (0≤m∧m<(n:Int))))∧W=w':=by
 go_enter Tryz.func91,Tryz.ntmps91
 by_cases h0:0≤m
 ·by_cases h1:m<(n:Int)
  ·rw [decide_eq_true ⟨h0,h1⟩]
   go_wp2_with fail
   go_ret
   exact ⟨rfl,rfl⟩
  ·rw [decide_eq_false (fun h=>h1 h.2)]
   go_wp2_with fail
   go_ret
   exact ⟨rfl,rfl⟩
 ·rw [decide_eq_false (fun h=>h0 h.1)]
  go_wp2_with fail
  go_ret
  exact ⟨rfl,rfl⟩
theorem atPl_any (W:World) (a:Option Addr) (n c:Nat) (m:Int):Calls Tryz.prog 92 #[.slice a n c,.int .i64 m] W fun e w'=>e=.returned (.bool (decide (0≤m∧m<(n:Int))))∧W=w':=by
 go_enter Tryz.func92,Tryz.ntmps92
 by_cases h0:0≤m
 ·by_cases h1:m<(n:Int)
  ·rw [decide_eq_true ⟨h0,h1⟩]
   go_wp2_with fail
   go_ret
   exact ⟨rfl,rfl⟩
  ·rw [decide_eq_false (fun h=>h1 h.2)]
   go_wp2_with fail
   go_ret
   exact ⟨rfl,rfl⟩
 ·rw [decide_eq_false (fun h=>h0 h.1)]
  go_wp2_with fail
  go_ret
  exact ⟨rfl,rfl⟩
theorem num7_any (e:Int) (w:World):Calls Tryz.prog 42 #[.int .i64 e] w fun r w'=>r=.returned (.int .i64 e)∧w=w':=by
 go_enter Tryz.func42,Tryz.ntmps42
 go_wp2
 go_ret
 exact ⟨rfl,rfl⟩
section
variable {W : World} {bt : Nat} {V : TV} {M : Mach} {N : List ByteArray} {L : List Pl}
theorem nregs_any (h:TblIn W bt V M N L):Calls Tryz.prog 45 #[.pointer (some ⟨bt,0,none⟩)] W fun e w'=>e=.returned (.int .i64 (N.length:Int))∧W=w':=by
 obtain ⟨a,c,e,_,_⟩:=(Row.of_owns h.nm).shape
 have c8:=blk_cell h.blk 8 _ rfl
 rw [e] at c8
 clear h
 go_enter Tryz.func45,Tryz.ntmps45
 go_wp2_with fail
 go_ret
 exact ⟨rfl,rfl⟩
theorem lapI_inL {a:Nat} (hl:L.length≤65535) (ha:a<L.length) (b:Int):(decide (0≤b) && inL (lapRow L (L.getD a ⟨0,0,0⟩) L.length) b.toNat)=lapI L (a:Int) b:=by
 unfold lapI inL
 by_cases hb:0≤b
 ·obtain ⟨k,rfl⟩:∃ k:Nat,b=k:=⟨b.toNat,by omega⟩
  rw [if_pos ⟨by omega,hb⟩,decide_eq_true hb,Bool.true_and,Int.toNat_natCast,Int.toNat_natCast,List.getElem?_eq_getElem ha]
  have ga:L.getD a ⟨0,0,0⟩=L[a]:=by rw [List.getD_eq_getElem?_getD,List.getElem?_eq_getElem ha];rfl
  rw [ga]
  by_cases hk:k<L.length
  ·have gk:L.getD k ⟨0,0,0⟩=L[k]:=by rw [List.getD_eq_getElem?_getD,List.getElem?_eq_getElem hk];rfl
   rw [List.getElem?_eq_getElem hk]
   dsimp only
   rw [Bool.eq_iff_iff,decide_eq_true_eq,lapRow_mem,gk]
   constructor
   ·exact fun h=>h.2.2
   ·exact fun h=>⟨by omega,hk,h⟩
  ·rw [List.getElem?_eq_none (by omega)]
   dsimp only
   rw [decide_eq_false]
   intro h
   exact hk (lapRow_mem.1 h.2).1
 ·rw [if_neg (fun h=>hb h.2),decide_eq_false hb,Bool.false_and]
theorem lapI_out {a b:Int} (h:¬ (0≤a∧a<(L.length:Int))):lapI L a b=false:=by
 unfold lapI
 split
 ·rename_i h2
  rw [List.getElem?_eq_none (l:=L) (i:=a.toNat) (by omega)]
 ·rfl
theorem lap2_any (h:TblIn W bt V M N L) (hl:L.length≤200) (a b:Int) (hb:fits64 b):Calls Tryz.prog 12 #[.pointer (some ⟨bt,0,none⟩),.int .i64 a,.int .i64 b] W fun e w'=>e=.returned (.bool (lapI L a b))∧Ext W w':=by
 obtain ⟨us,hu,hs⟩:=h.laps
 obtain ⟨aL,cL,eL,_,_⟩:=(Row.of_owns hs.own).shape
 have c13:=blk_cell h.blk 13 _ rfl
 rw [eL,hu] at c13
 have hat:=Lib.hid (atSet_any W aL L.length cL a)
 by_cases ha:0≤a∧a<(L.length:Int)
 ·rw [decide_eq_true ha] at hat
  obtain ⟨k,rfl⟩:∃ k:Nat,a=k:=⟨a.toNat,by omega⟩
  have hk:k<us.length:=by omega
  obtain ⟨u,huk⟩:∃ u,us[k]?=some u:=⟨_,List.getElem?_eq_getElem hk⟩
  have hset:=hs.sets k u huk
  obtain ⟨g,c,e2,_,_⟩:=hs.own.form (by omega)
  rw [eL] at e2
  cases e2
  have cu:W.cell? ⟨g,k,none⟩=some u:=by
   have:=hs.own
   rw [eL] at this
   rw [this.cellAt k (by omega)];exact huk
  obtain ⟨a2,n2,c2,rfl⟩:=hset.form
  have hhas:=Lib.hid (has_set hset b hb)
  rw [lapI_inL (by omega) (by omega)] at hhas
  have hkz:(k:Int)<(L.length:Int):=ha.2
  clear hset hs huk h eL
  go_enter Tryz.func12,Tryz.ntmps12
  go_wp2_with (first
   | (go_at_call 49;refine hat.out.mono ?_;rintro e w' ⟨rfl,rfl⟩)
   | (go_at_call 50;refine hhas.out.mono ?_;rintro e w2 ⟨rfl,hx2⟩))
  go_ret
  exact ⟨rfl,hx2⟩
 ·rw [decide_eq_false ha] at hat
  rw [lapI_out ha]
  clear hs h
  go_enter Tryz.func12,Tryz.ntmps12
  go_wp2_with (go_at_call 49;refine hat.out.mono ?_;rintro e w' ⟨rfl,rfl⟩)
  go_ret
  exact ⟨rfl,Ext.refl _⟩
def lapsL (L:List Pl) (a:Int):List Int:=if 0≤a∧a<(L.length:Int) then lapRow L (L.getD a.toNat ⟨0,0,0⟩) L.length else []
theorem upto_cut {f g:Nat→Bool} {A B:Nat} (hA:∀ n,f n=true→n<A) (hB:∀ n,f n=true→n<B) (hfg:∀ n,n<B→f n=g n):upto f A=upto g B:=by
 have mono:∀ (C d:Nat),(∀ n,f n=true→n<C)→upto f (C+d)=upto f C:=fun C d h=>by
  induction d with
  | zero=>rfl
  | succ d ih =>
   rw [← Nat.add_assoc,upto_succ,ih,if_neg (fun e=>by have:=h _ e;omega),List.append_nil]
 have e1:upto f A=upto f B:=by
  rcases Nat.le_total A B with h | h
  ·obtain ⟨d,rfl⟩:=Nat.exists_eq_add_of_le h
   exact (mono A d hA).symm
  ·obtain ⟨d,rfl⟩:=Nat.exists_eq_add_of_le h
   exact mono B d hB
 rw [e1]
 unfold upto
 exact List.filter_congr fun n hn=>hfg n (List.mem_range.1 hn)
theorem laps_any (h:TblIn W bt V M N L) (hl:L.length≤200) (a:Int):Calls Tryz.prog 46 #[.pointer (some ⟨bt,0,none⟩),.int .i64 a] W fun e w'=>∃ v,e=.returned v∧w'.ownsRow W.heap.size 3 1 v (lapsL L a).length ((lapsL L a).map (Value.int .i64))∧Ext W w':=by
 obtain ⟨us,hu,hs⟩:=h.laps
 obtain ⟨aL,cL,eL,_,_⟩:=(Row.of_owns hs.own).shape
 have c13:=blk_cell h.blk 13 _ rfl
 rw [eL,hu] at c13
 have hat:=Lib.hid (atSet_any W aL L.length cL a)
 by_cases ha:0≤a∧a<(L.length:Int)
 ·rw [decide_eq_true ha] at hat
  obtain ⟨k,rfl⟩:∃ k:Nat,a=k:=⟨a.toNat,by omega⟩
  have hk:k<us.length:=by omega
  obtain ⟨u,huk⟩:∃ u,us[k]?=some u:=⟨_,List.getElem?_eq_getElem hk⟩
  have hset:=hs.sets k u huk
  obtain ⟨g,c,e2,_,_⟩:=hs.own.form (by omega)
  rw [eL] at e2
  cases e2
  have cu:W.cell? ⟨g,k,none⟩=some u:=by
   have:=hs.own
   rw [eL] at this
   rw [this.cellAt k (by omega)];exact huk
  obtain ⟨a2,n2,c2,rfl⟩:=hset.form
  have hlist:=Lib.hid (list_set hset)
  have HL:Hid (lapsL L (k:Int)=lapRow L (L.getD k ⟨0,0,0⟩) L.length):=Lib.hid (by unfold lapsL;rw [if_pos ha,Int.toNat_natCast])
  have hkz:(k:Int)<(L.length:Int):=ha.2
  clear hset hs huk h eL
  go_enter Tryz.func46,Tryz.ntmps46
  go_wp2_with (first
   | (go_at_call 49;refine hat.out.mono ?_;rintro e w' ⟨rfl,rfl⟩)
   | (go_at_call 84;refine hlist.out.mono ?_;rintro e w2 ⟨v,T,rfl,hT,hown,hx2⟩))
  go_ret
  refine ⟨v,rfl,?_,hx2⟩
  have e:upto (inL (lapRow L (L.getD k ⟨0,0,0⟩) L.length)) T=upto (fun j=>lapS (L.getD k ⟨0,0,0⟩) (L.getD j ⟨0,0,0⟩)) L.length:=upto_cut hT (fun n hn=>by
   unfold inL at hn
   exact (lapRow_mem.1 (of_decide_eq_true hn).2).1) (fun n hn=>by
   unfold inL
   rw [Bool.eq_iff_iff,decide_eq_true_eq,lapRow_mem]
   exact ⟨fun h=>h.2.2,fun h=>⟨by omega,hn,h⟩⟩)
  rw [HL.out]
  rw [e] at hown
  unfold upto at hown
  unfold lapRow
  rw [List.length_map,List.map_map]
  exact hown
 ·rw [decide_eq_false ha] at hat
  have HL:Hid (lapsL L a=[]):=Lib.hid (by unfold lapsL;rw [if_neg ha])
  clear hs h
  go_enter Tryz.func46,Tryz.ntmps46
  go_wp2_with (go_at_call 49;refine hat.out.mono ?_;rintro e w' ⟨rfl,rfl⟩)
  go_ret
  exact ⟨_,rfl,by rw [HL.out];exact World.ownsRow_nil _ _ _ _,Ext.refl _⟩
end
set_option maxRecDepth 100000 in
set_option maxHeartbeats 4000000 in
theorem same_any {W:World} {u v:Value} {a b:List Int} (hu:SliceInts W u a) (hv:SliceInts W v b):Calls Tryz.prog 16 #[u,v] W fun e w'=>e=.returned (.bool (decide (a=b)))∧Ext W w':=by
 obtain ⟨aU,cU,rfl,_,hu2⟩:=hu.shape
 obtain ⟨aV,cV,rfl,_,hv2⟩:=hv.shape
 unfold maxLen at hu2 hv2
 have HU:=Lib.hid hu
 have HV:=Lib.hid hv
 clear hu hv
 go_enter Tryz.func16,Tryz.ntmps16
 by_cases hl:a.length=b.length
 case neg =>
  have hlz:((a.length:Int) != (b.length:Int))=true:=by simp;omega
  rw [decide_eq_false (fun e=>hl (by rw [e]))]
  go_wp2_with fail
  go_ret
  exact ⟨rfl,Ext.refl _⟩
 case pos =>
 have hlz:((a.length:Int) != (b.length:Int))=false:=by simp [hl]
 obtain ⟨res,hres⟩:∃ x,decide (a=b)=x:=⟨_,rfl⟩
 rw [hres]
 have HRES:=Lib.hid hres
 have HL:=Lib.hid hl
 clear hres
 go_wp2_with fail
 go_loopw [5] (fun iv wr=>∃ i:Nat,i≤a.length∧iv=.int .i64 i∧Hid (Ext W wr∧∀ j,j<i→a[j]?=b[j]?)) (fun iv _=>a.length - (intOf iv).toNat)
 case atStart=>exact ⟨0,by omega,rfl,Lib.hid ⟨Ext.refl _,fun j h=>by omega⟩⟩
 case round =>
  obtain ⟨i,hi,rfl,hin⟩:=hrel
  rename World=>w2
  by_cases hli:i<a.length
  ·have hiz:(i:Int)<(a.length:Int):=by omega
   have hiz2:(i:Int)<(b.length:Int):=by omega
   obtain ⟨x,hx⟩:∃ x,a[i]?=some x:=⟨_,List.getElem?_eq_getElem hli⟩
   obtain ⟨y,hy⟩:∃ y,b[i]?=some y:=⟨_,List.getElem?_eq_getElem (by omega)⟩
   obtain ⟨b1,o1,k1,e1,_,_,_,x0⟩:=Row.at (Row.below HU.out hin.out.1) (fun e=>by rw [List.map_eq_nil_iff] at e;rw [e] at hx;simp at hx)
   obtain ⟨b2,o2,k2,e2,_,_,_,y0⟩:=Row.at (Row.below HV.out hin.out.1) (fun e=>by rw [List.map_eq_nil_iff] at e;rw [e] at hy;simp at hy)
   have x1:=x0 i (.int .i64 x) (by rw [List.getElem?_map,hx];rfl)
   have y1:=y0 i (.int .i64 y) (by rw [List.getElem?_map,hy];rfl)
   clear x0 y0
   cases e1
   cases e2
   have HXY:=Lib.hid (And.intro hx hy)
   clear hx hy
   go_upto_region 6 with (fail)
   go_quiet (fail)
   have xq:=Ext.drewN w2 nq
   by_cases hxy:x=y
   ·have hxz:(x != y)=false:=by simp [hxy]
    go_wp2_with fail
    go_roundw
    case rel=>exact ⟨i+1,by omega,by go_num,Lib.hid ⟨hin.out.1.trans xq,fun j hj=>by
     by_cases e:j=i
     ·subst e;rw [HXY.out.1,HXY.out.2,hxy]
     ·exact hin.out.2 j (by omega)⟩⟩
    case measure=>simp [intOf];omega
   ·have hxz:(x != y)=true:=by simp [hxy]
    go_wp2_with fail
    go_ret
    refine ⟨ret_bool ?_,hin.out.1.trans xq⟩
    rw [← HRES.out]
    symm
    refine decide_eq_false (fun e=>hxy ?_)
    have h1:=HXY.out.1
    rw [e,HXY.out.2] at h1
    cases h1
    rfl
  ·have hiz:¬ (i:Int)<(a.length:Int):=by omega
   have hie:i=a.length:=by omega
   have HI:=Lib.hid hie
   clear hie
   go_wp2_with fail
   go_ret
   refine ⟨ret_bool ?_,hin.out.1⟩
   rw [← HRES.out]
   symm
   refine decide_eq_true (List.ext_getElem? fun j=>?_)
   rcases Nat.lt_or_ge j a.length with h | h
   ·exact hin.out.2 j (by rw [HI.out];exact h)
   ·rw [List.getElem?_eq_none h,List.getElem?_eq_none (by have:=HL.out;omega)]
end Go.Proofs.YtligiddaampneaaGreat
