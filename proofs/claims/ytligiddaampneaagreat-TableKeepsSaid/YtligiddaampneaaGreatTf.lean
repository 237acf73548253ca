/- Sets of small numbers (package bitset): Sub. -/
import Derived.Test.YtligiddaampneaaGreatTb
set_option maxRecDepth 100000
set_option maxHeartbeats 8000000
namespace Go.Proofs.YtligiddaampneaaGreat
open Go.RowKit
attribute [local go_sem] Oper.semAt_some
variable {W : World} {n0 : Nat} {v : Value} {ws : List Nat}
theorem atW_any (h:WordsIn W n0 v ws) (i:Nat) :
  Calls Tryz.prog 157 #[v,.int .i64 (i:Int)] W fun e w'=>e=.returned (.int .u64 ((ws.getD i 0:Nat):Int))∧W=w':=by
 obtain ⟨a,cap,rfl,hl1,hl2⟩:=h.form
 unfold maxLen at hl2
 have H:=qh h
 clear h
 go_enter Tryz.func157,Tryz.ntmps157
 by_cases h1:i<ws.length
 ·have h1z:(i:Int)<(ws.length:Int):=by omega
  obtain ⟨w,hw⟩:∃ w,ws[i]?=some w:=⟨_,lE h1⟩
  obtain ⟨b,off,cap2,e,_,_,hc⟩:=H.out.at hw
  cases e
  have hg:ws.getD i 0=w:=by rw [List.getD_eq_getElem?_getD,hw];rfl
  rw [hg]
  clear hw hg
  go_wp2_with fail
  go_ret
  exact ⟨rfl,rfl⟩
 ·have h1z:¬ (i:Int)<(ws.length:Int):=by omega
  have hg:ws.getD i 0=0:=by rw [List.getD_eq_getElem?_getD,List.getElem?_eq_none (by omega)];rfl
  rw [hg]
  clear hg
  go_wp2_with fail
  go_ret
  exact ⟨rfl,rfl⟩
def subW (a b:Nat):Nat:=a &&& (18446744073709551615 - b)
theorem subW_lt (a b:Nat):subW a b<18446744073709551616:=by
 have:=@Nat.and_le_right a (18446744073709551615 - b)
 unfold subW
 omega
theorem subW_bit {a b k:Nat} (hk:k<64) (hb:b<18446744073709551616):(subW a b).testBit k=(a.testBit k && !b.testBit k):=by
 unfold subW
 have e:18446744073709551615 - b=2 ^ 64 - (b+1):=by
  have h:(2:Nat) ^ 64=18446744073709551616:=by decide
  rw [h];omega
 have hb2:b<2 ^ 64:=by
  have h:(2:Nat) ^ 64=18446744073709551616:=by decide
  rw [h];exact hb
 rw [Nat.testBit_and,e,Nat.testBit_two_pow_sub_succ hb2]
 simp [hk]
theorem sub1_any (a b:Nat) (ha:a<18446744073709551616) (hb:b<18446744073709551616) (w:World) :
  Calls Tryz.prog 140 #[.int .u64 (a:Int),.int .u64 (b:Int)] w fun e w'=>e=.returned (.int .u64 ((subW a b:Nat):Int))∧w=w':=by
 have h:=u64_andNot_nat a b ha hb
 unfold subW
 go_enter Tryz.func140,Tryz.ntmps140
 go_wp2_with fail
 go_ret
 exact ⟨by rw [← h];rfl,rfl⟩
def subs (xs ys:List Nat) (n:Nat):List Nat:=(List.range n).map fun i=>subW (xs.getD i 0) (ys.getD i 0)
theorem getD_lt {xs:List Nat} (h:∀ w∈xs,w<18446744073709551616) (i:Nat):xs.getD i 0<18446744073709551616:=by
 rw [List.getD_eq_getElem?_getD]
 cases hx:xs[i]? with
 | none=>decide
 | some w=>exact h w (List.mem_of_getElem? hx)
theorem subs_snoc (xs ys:List Nat) (n:Nat):subs xs ys (n+1)=subs xs ys n ++ [subW (xs.getD n 0) (ys.getD n 0)]:=by
 unfold subs;rw [List.range_succ,List.map_append];rfl
theorem zip_any1 {va vb:Value} {xs ys:List Nat} {na nb:Nat} (hx:WordsIn W na va xs) (hy:WordsIn W nb vb ys) (ha:na≤W.heap.size) (hb:nb≤W.heap.size) (_hxl:xs.length≤1024) (_hyl:ys.length≤1024) (hlt:xs.length<ys.length) :
  Calls Tryz.prog 139 #[va,vb,.func (.func 140) #[] #[]] W fun e w'=>∃ u,e=.returned u∧w'.ownsRow W.heap.size 108 1 u (ys.length) ((subs xs ys (ys.length)).map wordV)∧Ext W w':=by
 obtain ⟨a1,c1,rfl,_,_⟩:=hx.form
 obtain ⟨a2,c2,rfl,_,_⟩:=hy.form
 have HX:=qh hx
 have HY:=qh hy
 obtain ⟨iU,hiU,zU0,zU1,zU2⟩:=info_parts infoU
 have hgt:(xs.length:Int)<(ys.length:Int):=by omega
 clear hx hy
 go_enter Tryz.func139,Tryz.ntmps139
 go_wp2_with fail
 have hm1:ys.length≤1024:=by omega
 go_loopw [8,15] (fun ov iv wr=>∃ i:Nat,i≤ys.length∧iv=.int .i64 i∧∃ a5 c5,ov=.slice a5 i c5∧Hid (Ext W wr∧wr.ownsRow W.heap.size 108 1 (.slice a5 i c5) i ((subs xs ys i).map wordV))) (fun _ iv _=>ys.length - (intOf iv).toNat)
 case atStart=>exact ⟨0,by omega,rfl,none,0,rfl,qh ⟨Ext.refl _,World.ownsRow_nil _ _ _ _⟩⟩
 case round =>
  obtain ⟨i,hi,rfl,a5,c5,rfl,hin⟩:=hrel
  rename World=>w2
  by_cases hli:i<ys.length
  ·have hiz:(i:Int)<(ys.length:Int):=by omega
   have hax:=qh (atW_any (HX.out.ext ha hin.out.1) i)
   have hay:=qh (atW_any (HY.out.ext hb hin.out.1) i)
   have hsb:=qh (sub1_any (xs.getD i 0) (ys.getD i 0) (getD_lt HX.out.lt i) (getD_lt HY.out.lt i) w2)
   have HSN:=qh (subs_snoc xs ys i)
   generalize xs.getD i 0=x at hax hsb HSN
   generalize ys.getD i 0=y at hay hsb HSN
   generalize subW x y=z at hsb HSN
   have HOW:=qh hin.out.2
   have HXT:=qh hin.out.1
   clear hin
   go_wp2_with (first
    | (go_at_call 140;refine hsb.out.mono ?_;rintro e w' ⟨rfl,rfl⟩)
    | (go_at_call 157;with_reducible refine hax.out.mono ?_;rintro e w' ⟨rfl,rfl⟩)
    | (go_at_call 157;with_reducible refine hay.out.mono ?_;rintro e w' ⟨rfl,rfl⟩)
    | (at_builtin;go_loud (refine wpList_append_lies _ rfl _ _ 76 rfl W.heap.size 108 iU _ 1 8 Tryz.underlying76 hiU zU0 zU1 zU2 rfl (by omega) (.slice a5 i c5) i ((subs xs ys i).map wordV) rfl (HOW.out.alloc _) ⟨w2.heap.size,0,none⟩ 1 1 [.int .u64 (z:Int)] rfl rfl (World.news_of_block (cs:=#[.int .u64 (z:Int)]) (t:=108) (fr:=(0,0)) (heap_alloc_new w2 _)) (by simp [Value.oneCell']) (by omega) (by unfold maxLen;omega) (by omega) (by have:=HXT.out.size;simp;omega) _ rfl ?_;intro g3 c3 w3 hown3 hgrow3 hat3 hlt3)))
   have X3:Hid (Ext W w3):=qh (Ext.grown (HXT.out.trans (Ext.alloc w2 _)) hgrow3 (fun q e=>(HOW.out.lt q e).1))
   have HO3:=qh hown3
   clear hown3 hgrow3 hat3
   go_roundw
   case rel=>exact ⟨i+1,by omega,by go_num,some ⟨g3,0,none⟩,c3,rfl,qh ⟨X3.out,by rw [HSN.out,List.map_append];exact HO3.out⟩⟩
   case measure=>simp [intOf];omega
  ·have hiz:¬ (i:Int)<(ys.length:Int):=by omega
   have hie:i=ys.length:=by omega
   have HI:=qh hie
   clear hie
   go_wp2_with fail
   go_ret
   have ho:=hin.out.2
   exact ⟨.slice a5 i c5,rfl,HI.out ▸ ho,hin.out.1⟩
theorem zip_any2 {va vb:Value} {xs ys:List Nat} {na nb:Nat} (hx:WordsIn W na va xs) (hy:WordsIn W nb vb ys) (ha:na≤W.heap.size) (hb:nb≤W.heap.size) (_hxl:xs.length≤1024) (_hyl:ys.length≤1024) (hlt:¬ xs.length<ys.length) :
  Calls Tryz.prog 139 #[va,vb,.func (.func 140) #[] #[]] W fun e w'=>∃ u,e=.returned u∧w'.ownsRow W.heap.size 108 1 u (xs.length) ((subs xs ys (xs.length)).map wordV)∧Ext W w':=by
 obtain ⟨a1,c1,rfl,_,_⟩:=hx.form
 obtain ⟨a2,c2,rfl,_,_⟩:=hy.form
 have HX:=qh hx
 have HY:=qh hy
 obtain ⟨iU,hiU,zU0,zU1,zU2⟩:=info_parts infoU
 have hgt:¬ (xs.length:Int)<(ys.length:Int):=by omega
 clear hx hy
 go_enter Tryz.func139,Tryz.ntmps139
 go_wp2_with fail
 have hm1:xs.length≤1024:=by omega
 go_loopw [8,15] (fun ov iv wr=>∃ i:Nat,i≤xs.length∧iv=.int .i64 i∧∃ a5 c5,ov=.slice a5 i c5∧Hid (Ext W wr∧wr.ownsRow W.heap.size 108 1 (.slice a5 i c5) i ((subs xs ys i).map wordV))) (fun _ iv _=>xs.length - (intOf iv).toNat)
 case atStart=>exact ⟨0,by omega,rfl,none,0,rfl,qh ⟨Ext.refl _,World.ownsRow_nil _ _ _ _⟩⟩
 case round =>
  obtain ⟨i,hi,rfl,a5,c5,rfl,hin⟩:=hrel
  rename World=>w2
  by_cases hli:i<xs.length
  ·have hiz:(i:Int)<(xs.length:Int):=by omega
   have hax:=qh (atW_any (HX.out.ext ha hin.out.1) i)
   have hay:=qh (atW_any (HY.out.ext hb hin.out.1) i)
   have hsb:=qh (sub1_any (xs.getD i 0) (ys.getD i 0) (getD_lt HX.out.lt i) (getD_lt HY.out.lt i) w2)
   have HSN:=qh (subs_snoc xs ys i)
   generalize xs.getD i 0=x at hax hsb HSN
   generalize ys.getD i 0=y at hay hsb HSN
   generalize subW x y=z at hsb HSN
   have HOW:=qh hin.out.2
   have HXT:=qh hin.out.1
   clear hin
   go_wp2_with (first
    | (go_at_call 140;refine hsb.out.mono ?_;rintro e w' ⟨rfl,rfl⟩)
    | (go_at_call 157;with_reducible refine hax.out.mono ?_;rintro e w' ⟨rfl,rfl⟩)
    | (go_at_call 157;with_reducible refine hay.out.mono ?_;rintro e w' ⟨rfl,rfl⟩)
    | (at_builtin;go_loud (refine wpList_append_lies _ rfl _ _ 76 rfl W.heap.size 108 iU _ 1 8 Tryz.underlying76 hiU zU0 zU1 zU2 rfl (by omega) (.slice a5 i c5) i ((subs xs ys i).map wordV) rfl (HOW.out.alloc _) ⟨w2.heap.size,0,none⟩ 1 1 [.int .u64 (z:Int)] rfl rfl (World.news_of_block (cs:=#[.int .u64 (z:Int)]) (t:=108) (fr:=(0,0)) (heap_alloc_new w2 _)) (by simp [Value.oneCell']) (by omega) (by unfold maxLen;omega) (by omega) (by have:=HXT.out.size;simp;omega) _ rfl ?_;intro g3 c3 w3 hown3 hgrow3 hat3 hlt3)))
   have X3:Hid (Ext W w3):=qh (Ext.grown (HXT.out.trans (Ext.alloc w2 _)) hgrow3 (fun q e=>(HOW.out.lt q e).1))
   have HO3:=qh hown3
   clear hown3 hgrow3 hat3
   go_roundw
   case rel=>exact ⟨i+1,by omega,by go_num,some ⟨g3,0,none⟩,c3,rfl,qh ⟨X3.out,by rw [HSN.out,List.map_append];exact HO3.out⟩⟩
   case measure=>simp [intOf];omega
  ·have hiz:¬ (i:Int)<(xs.length:Int):=by omega
   have hie:i=xs.length:=by omega
   have HI:=qh hie
   clear hie
   go_wp2_with fail
   go_ret
   have ho:=hin.out.2
   exact ⟨.slice a5 i c5,rfl,HI.out ▸ ho,hin.out.1⟩
theorem zip_any {va vb:Value} {xs ys:List Nat} {na nb:Nat} (hx:WordsIn W na va xs) (hy:WordsIn W nb vb ys) (ha:na≤W.heap.size) (hb:nb≤W.heap.size) (hxl:xs.length≤1024) (hyl:ys.length≤1024) :
  Calls Tryz.prog 139 #[va,vb,.func (.func 140) #[] #[]] W fun e w'=>∃ u,e=.returned u∧w'.ownsRow W.heap.size 108 1 u (max xs.length ys.length) ((subs xs ys (max xs.length ys.length)).map wordV)∧Ext W w':=by
 by_cases h:xs.length<ys.length
 ·rw [Nat.max_eq_right (by omega)]
  exact zip_any1 hx hy ha hb hxl hyl h
 ·rw [Nat.max_eq_left (by omega)]
  exact zip_any2 hx hy ha hb hxl hyl h
theorem hasW_subs {xs ys:List Nat} (hy:∀ w∈ys,w<18446744073709551616) (n:Nat):hasW (subs xs ys (max xs.length ys.length)) n=(hasW xs n && !hasW ys n):=by
 have e:(subs xs ys (max xs.length ys.length)).getD (n / 64) 0=if n / 64<max xs.length ys.length then subW (xs.getD (n / 64) 0) (ys.getD (n / 64) 0) else 0:=by
  unfold subs
  rw [List.getD_eq_getElem?_getD,List.getElem?_map]
  by_cases h:n / 64<max xs.length ys.length
  ·rw [if_pos h,List.getElem?_range h];rfl
  ·rw [if_neg h,List.getElem?_eq_none (by simpa using h)];rfl
 unfold hasW
 rw [e]
 by_cases h:n / 64<max xs.length ys.length
 ·rw [if_pos h,subW_bit (Nat.mod_lt _ (by decide)) (getD_lt hy _)]
 ·rw [if_neg h]
  have h1:xs.getD (n / 64) 0=0:=by rw [List.getD_eq_getElem?_getD,List.getElem?_eq_none (by omega)];rfl
  rw [h1]
  simp
theorem subs_in {w:World} {base:Nat} {u:Value} {xs ys:List Nat} {m:Nat} (h:w.ownsRow base 108 1 u m ((subs xs ys m).map wordV)):WordsIn w w.heap.size u (subs xs ys m):=by
 have hl:(subs xs ys m).length=m:=by unfold subs;simp
 refine WordsIn.of_owns (base:=base) (by rw [hl];exact h) fun q hq=>?_
 unfold subs at hq
 obtain ⟨i,_,rfl⟩:=List.mem_map.1 hq
 exact subW_lt _ _
theorem sub_any {va vb:Value} {xs ys:List Nat} {na nb:Nat} (hx:WordsIn W na va xs) (hy:WordsIn W nb vb ys) (ha:na≤W.heap.size) (hb:nb≤W.heap.size) (hxl:xs.length≤1024) (hyl:ys.length≤1024) :
  Calls Tryz.prog 110 #[.agg #[va],.agg #[vb]] W fun e w'=>∃ v' ws,e=.returned (.agg #[v'])∧WordsIn w' w'.heap.size v' ws∧(∀ n,hasW ws n=(hasW xs n && !hasW ys n))∧(∀ k,v'.ownBlock=some k→W.heap.size≤k)∧ws.length≤1024∧OnU w' v'∧Ext W w':=by
 obtain ⟨a1,c1,rfl,_,_⟩:=hx.form
 obtain ⟨a2,c2,rfl,_,_⟩:=hy.form
 obtain ⟨d1,d2,hb3⟩:=cells_three W [.slice a1 xs.length c1] [.slice a2 ys.length c2] [.slice none 0 0] 78 78 78
 have e1:=d1 0 _ rfl
 have e2:=d2 0 _ rfl
 have x3:Ext W (((W.alloc (.cells #[.slice a1 xs.length c1] 78)).alloc (.cells #[.slice a2 ys.length c2] 78)).alloc (.cells #[.slice none 0 0] 78)):=((Ext.alloc _ _).trans (Ext.alloc _ _)).trans (Ext.alloc _ _)
 have hs3:=(Array.getElem?_eq_some_iff.1 hb3).1
 have HX:=qh hx
 have HY:=qh hy
 clear d1 d2 hx hy
 go_enter Tryz.func110,Tryz.ntmps110
 go_upto_region 1 with (fail)
 simp only [Nat.add_assoc,Nat.reduceAdd]
 generalize ((W.alloc (.cells #[.slice a1 xs.length c1] 78)).alloc (.cells #[.slice a2 ys.length c2] 78)).alloc (.cells #[.slice none 0 0] 78)=w1 at e1 e2 hb3 x3 hs3 ⊢
 have HB3:=qh hb3
 have X3:=qh x3
 have hz:=qh (zip_any (HX.out.ext ha x3) (HY.out.ext hb x3) (Nat.le_trans ha x3.size) (Nat.le_trans hb x3.size) hxl hyl)
 clear hb3 x3
 go_wp2_with (first
  | (go_at_call 139;refine hz.out.mono ?_;rintro e w4 ⟨u,rfl,ho4,hx4⟩;obtain ⟨a4,c4,e4,_,_⟩:=(Row.of_owns ho4).shape;subst e4;have O4:=qh ho4;have X4:=qh hx4;clear ho4 hx4)
  | (go_at_call 108;refine (trimmed_any (subs_in O4.out) (Nat.le_refl _)).mono ?_;rintro e w5 ⟨v5,ws5,rfl,hw5,hh5,hl5,ho5,hx5⟩;obtain ⟨a5,k5,e5,_,_⟩:=hw5.form;subst e5;have b5:=hx5.block (X4.out.block HB3.out);have c5:=cell_of_one b5;have f5:=free_of_one b5;have l5:=(Array.getElem?_eq_some_iff.1 b5).1;have HW5:=qh hw5;have HH5:=qh (And.intro hh5 (And.intro ho5 hl5));have X5:=qh hx5;clear hw5 hh5 ho5 hx5))
 have hsl:(subs xs ys (max xs.length ys.length)).length=max xs.length ys.length:=by unfold subs;simp
 have hne:(Value.slice a5 ws5.length k5).ownBlock≠some (W.heap.size+2):=fun e=>by
  have:=(O4.out.lt _ (HH5.out.2.1 _ e)).1
  omega
 have hs5:w4.heap.size≤(w5.setCell ⟨W.heap.size+2,0,none⟩ (.slice a5 ws5.length k5)).heap.size:=by
  rw [set_size];exact X5.out.size
 have xf:=keepExt ((Keep.of_ext (X3.out.trans (X4.out.trans X5.out)):Keep (fun q=>q=W.heap.size+2) W w5).trans (Keep.setCell (fun q=>q=W.heap.size+2) w5 ⟨W.heap.size+2,0,none⟩ (.slice a5 ws5.length k5) rfl) (fun _ _ h=>h)) (fun q e=>by omega)
 refine bodyPost_ret (results_cell_row rfl _ _ (W.heap.size+2) 78 #[.slice a5 ws5.length k5] (0,0) _ rfl (heap_set_cells b5 0 _) Tryz.underlying78 rfl (by kernel_rfl)) rfl ?_
 refine ⟨_,ws5,rfl,⟨(Tab.other HW5.out.tab hne _).up hs5,HW5.out.lt⟩,fun n=>by rw [HH5.out.1,hasW_subs HY.out.lt],fun q e=>?_,by omega,fun q e=>?_,xf⟩
 ·have:=(O4.out.lt _ (HH5.out.2.1 _ e)).1
  have:=X3.out.size
  omega
 ·obtain ⟨cs,fz,hg⟩:=((OnU.of_owns O4.out).ext X5.out) q (HH5.out.2.1 _ e)
  exact ⟨cs,fz,(Below.heap_setCell _ _ _ q (fun e2=>hne (by rw [e2] at e;exact e))).trans hg⟩
end Go.Proofs.YtligiddaampneaaGreat
