/- The reference's table: operand, Width, choices. For every table that lies in memory. -/
import Derived.Test.YtligiddaampneaaGreatRefJ
set_option maxRecDepth 100000
set_option maxHeartbeats 4000000
-- shrunk
namespace Go.Proofs.YtligiddaampneaaGreat
open Go.RowKit
attribute [local go_sem] Oper.semAt_some
variable {W : World} {n1 bt : Nat} {V : MV} {vK : Value} {M : Mach} {N : List ByteArray} {L : List Pl} {C : List (List Int)}
theorem empty_beq (s:ByteArray):s.toList.isEmpty=(s == ⟨#[]⟩):=by
 rw [ByteArray.toList_eq,Bool.eq_iff_iff,ba_beq,List.isEmpty_iff]
 cases s with | mk d =>
 simp
def operB (M:Mach) (N:List ByteArray) (C:List (List Int)) (o:Opr):Bool:=decide (0≤clsIx M o.cls) && ((o.fix == ⟨#[]⟩) || inI C (clsIx M o.cls) (idx N o.fix))
theorem operandT_any (h:TabIn W n1 bt V vK M N L C) (o:Opr) :
  Calls Tryz.prog 120 #[.pointer (some ⟨bt,0,none⟩),.agg #[.string o.cls,.string o.fix]] W fun e w'=>e=.returned (.bool (operB M N C o))∧Ext W w':=by
 have x0:Ext W (W.alloc (.cells #[.string o.cls,.string o.fix] 57)):=Ext.alloc _ _
 have d0:(W.alloc (.cells #[.string o.cls,.string o.fix] 57)).cell? ⟨W.heap.size,0,none⟩=some (.string o.cls):=cell_new W _ _ 0
 have d1:(W.alloc (.cells #[.string o.cls,.string o.fix] 57)).cell? ⟨W.heap.size,1,none⟩=some (.string o.fix):=cell_new W _ _ 1
 have hcls:=qh (classOfT_any (h.ext x0) o.cls)
 have hreg:=qh (regT_any (h.ext x0) o.fix)
 have hin:=qh (fun c r=>inT_any (h.ext x0) c r)
 have X0:=qh x0
 obtain ⟨res,hres⟩:∃ x,operB M N C o=x:=⟨_,rfl⟩
 rw [hres]
 unfold operB at hres
 obtain ⟨c,hc⟩:∃ x,clsIx M o.cls=x:=⟨_,rfl⟩
 obtain ⟨r,hr⟩:∃ x,idx N o.fix=x:=⟨_,rfl⟩
 rw [hc] at hcls hres
 rw [hr] at hreg hres
 clear h hc hr x0
 have hem:=empty_beq o.fix
 go_enter Tryz.func120,Tryz.ntmps120
 by_cases h0:c<0
 ·rw [decide_eq_false (by omega),Bool.false_and] at hres
  subst hres
  go_wp2_with (go_at_call 25;refine hcls.out.mono ?_;rintro e w' ⟨rfl,rfl⟩)
  go_ret
  exact ⟨rfl,X0.out⟩
 rw [decide_eq_true (by omega),Bool.true_and] at hres
 cases hf:(o.fix == ⟨#[]⟩) with
 | true =>
  rw [hf,Bool.true_or] at hres
  subst hres
  rw [hf] at hem
  clear hf
  go_wp2_with (go_at_call 25;refine hcls.out.mono ?_;rintro e w' ⟨rfl,rfl⟩)
  go_ret
  exact ⟨rfl,X0.out⟩
 | false =>
  rw [hf,Bool.false_or] at hres
  rw [hf] at hem
  have hin2:=qh (hin.out c r)
  rw [hres] at hin2
  clear hf hres hin
  go_wp2_with (first
   | (go_at_call 25;refine hcls.out.mono ?_;rintro e w' ⟨rfl,rfl⟩)
   | (go_at_call 54;refine hreg.out.mono ?_;rintro e w' ⟨rfl,rfl⟩)
   | (go_at_call 30;refine hin2.out.mono ?_;rintro e w' ⟨rfl,rfl⟩))
  go_ret
  exact ⟨rfl,X0.out⟩
def widI (L:List Pl) (C:List (List Int)) (c:Int):Int:=if 0≤c then (match C[c.toNat]? with
 | some (n :: _)=>(match L[n.toNat]? with | some p=>p.width | none=>0)
 | _=>0) else 0
theorem widthT_any (h:TabIn W n1 bt V vK M N L C) (hok:∀ c∈C,∀ n∈c,0≤n∧n<(L.length:Int)) (c:Int) :
  Calls Tryz.prog 28 #[.pointer (some ⟨bt,0,none⟩),.int .i64 c] W fun e w'=>e=.returned (.int .i64 (widI L C c))∧Ext W w':=by
 have cK:=h.cl
 have c9:=h.cells.2
 have HT:=qh h
 obtain ⟨aK,capK,ev,hl1,hl2⟩:=h.k.form
 obtain ⟨aP,cP,ep,hp1,hp2⟩:=h.ck.pl.form
 rw [ev] at cK
 rw [ep] at c9
 unfold maxLen at hl2 hp2
 have HOK:=qh hok
 clear h hok
 obtain ⟨res,hres⟩:∃ x,widI L C c=x:=⟨_,rfl⟩
 rw [hres]
 unfold widI at hres
 go_enter Tryz.func28,Tryz.ntmps28
 by_cases h1:c<0
 ·rw [if_neg (by omega)] at hres
  subst hres
  go_wp2
  go_ret
  exact ⟨rfl,Ext.refl _⟩
 rw [if_pos (by omega)] at hres
 obtain ⟨k,rfl⟩:∃ k:Nat,c=k:=⟨c.toNat,by omega⟩
 rw [Int.toNat_natCast] at hres
 by_cases h2:C.length≤k
 ·rw [List.getElem?_eq_none h2] at hres
  dsimp only at hres
  subst hres
  have hd2:(C.length:Int)≤(k:Int):=by omega
  go_wp2
  go_ret
  exact ⟨rfl,Ext.refl _⟩
 have h2z:(k:Int)<(C.length:Int):=by omega
 have h2y:¬ (C.length:Int)≤(k:Int):=by omega
 have h2x:decide (C.length≤k)=false:=decide_eq_false h2
 obtain ⟨l,hl⟩:∃ x,C[k]?=some x:=⟨_,lE (by omega)⟩
 rw [hl] at hres
 obtain ⟨b,off,cap,ua,uc,e,_,_,c0,hi⟩:=HT.out.k.at hl
 rw [ev] at e
 cases e
 cases l with
 | nil =>
  dsimp only at hres
  subst hres
  clear hl hi
  go_wp2
  go_ret
  exact ⟨rfl,Ext.refl _⟩
 | cons n l =>
  dsimp only at hres
  have hn:=HOK.out _ (List.mem_of_getElem? hl) n (by simp)
  obtain ⟨kn,rfl⟩:∃ k:Nat,n=k:=⟨n.toNat,by omega⟩
  rw [Int.toNat_natCast] at hres
  obtain ⟨p,hp⟩:∃ x,L[kn]?=some x:=⟨_,lE (by omega)⟩
  rw [hp] at hres
  dsimp only at hres
  obtain ⟨b2,off2,cap2,e2,_,_,c1⟩:=hi.at (i:=0) (n:=(kn:Int)) rfl
  cases e2
  rw [Nat.add_zero] at c1
  obtain ⟨b3,off3,cap3,e3,_,_,_,s0,s1,s2⟩:=HT.out.ck.pl.at hp
  rw [ep] at e3
  cases e3
  rw [hres] at s2
  have hnz:(kn:Int)<(L.length:Int):=hn.2
  have hln:((l.length:Int)+1 == 0)=false:=by simp;omega
  have hln2:(0:Int)<(l.length:Int)+1:=by omega
  clear hl hi hres hp hn
  go_upto_region 3 with (fail)
  go_quiet (fail)
  have xq:=Ext.drewN W nq
  go_wp2_with fail
  go_ret
  exact ⟨rfl,xq⟩
def choI (M:Mach) (N:List ByteArray) (C:List (List Int)) (o:Opr):List Int:=if 0≤clsIx M o.cls then (if (o.fix == ⟨#[]⟩)=true then (match C[(clsIx M o.cls).toNat]? with | some l=>l | none=>[]) else listS N [o.fix]) else []
theorem KIn.up {v:Value} (h:KIn W n1 v C) {n2:Nat} (hn:n1≤n2):KIn W n2 v C:=by
 obtain ⟨us,h1,h2,h3⟩:=h
 exact ⟨us,h1,h2.up hn,fun i c u hc hu=>Tab.up (h3 i c u hc hu) hn⟩
theorem TabIn.up (h:TabIn W n1 bt V vK M N L C) {n2:Nat} (hn:n1≤n2) (h2:n2≤W.heap.size):TabIn W n2 bt V vK M N L C:=⟨h.ck.up hn h2,h.cl,h.k.up hn,h.tight⟩
theorem choicesT_any (h:TabIn W n1 bt V vK M N L C) (o:Opr) (hlen:clsIx M o.cls<C.length) :
  Calls Tryz.prog 68 #[.pointer (some ⟨bt,0,none⟩),.agg #[.string o.cls,.string o.fix]] W fun e w'=>∃ u,e=.returned u∧SliceInts w' u (choI M N C o)∧Ext W w':=by
 have x0:Ext W (W.alloc (.cells #[.string o.cls,.string o.fix] 57)):=Ext.alloc _ _
 have d0:(W.alloc (.cells #[.string o.cls,.string o.fix] 57)).cell? ⟨W.heap.size,0,none⟩=some (.string o.cls):=cell_new W _ _ 0
 have d1:(W.alloc (.cells #[.string o.cls,.string o.fix] 57)).cell? ⟨W.heap.size,1,none⟩=some (.string o.fix):=cell_new W _ _ 1
 have hcls:=qh (classOfT_any (h.ext x0) o.cls)
 have HT:=qh (h.ext x0)
 have X0:=qh x0
 have cK:=x0.cell h.cl
 obtain ⟨aK,capK,ev,hl1,hl2⟩:=h.k.form
 rw [ev] at cK
 unfold maxLen at hl2
 obtain ⟨res,hres⟩:∃ x,choI M N C o=x:=⟨_,rfl⟩
 rw [hres]
 unfold choI at hres
 obtain ⟨c,hc⟩:∃ x,clsIx M o.cls=x:=⟨_,rfl⟩
 rw [hc] at hcls hres hlen
 clear h hc
 have hem:=empty_beq o.fix
 have nil:∀ w,SliceInts w (.slice none 0 0) []:=fun w=>⟨rfl,Or.inl ⟨rfl,rfl⟩⟩
 go_enter Tryz.func68,Tryz.ntmps68
 by_cases h0:c<0
 ·rw [if_neg (by omega)] at hres
  subst hres
  clear x0
  go_wp2_with (go_at_call 25;refine hcls.out.mono ?_;rintro e w' ⟨rfl,rfl⟩)
  go_ret
  exact ⟨_,rfl,nil _,X0.out⟩
 rw [if_pos (by omega)] at hres
 obtain ⟨k,rfl⟩:∃ k:Nat,c=k:=⟨c.toNat,by omega⟩
 rw [Int.toNat_natCast] at hres
 cases hf:(o.fix == ⟨#[]⟩) with
 | true =>
  rw [hf,if_pos rfl] at hres
  rw [hf] at hem
  obtain ⟨l,hl⟩:∃ x,C[k]?=some x:=⟨_,lE (by omega)⟩
  rw [hl] at hres
  dsimp only at hres
  obtain ⟨b,off,cap,ua,uc,e,_,_,c0,hi⟩:=HT.out.k.at hl
  rw [ev] at e
  cases e
  have HI:=qh hi
  clear hf hl hi x0 ev
  go_wp2_with (go_at_call 25;refine hcls.out.mono ?_;rintro e w' ⟨rfl,rfl⟩)
  go_ret
  exact ⟨_,rfl,by rw [← hres];exact HI.out.slice,X0.out⟩
 | false =>
  rw [hf,if_neg (by simp)] at hres
  rw [hf] at hem
  have x1:Ext (W.alloc (.cells #[.string o.cls,.string o.fix] 57)) ((W.alloc (.cells #[.string o.cls,.string o.fix] 57)).alloc (.cells #[.string o.fix] 9)):=Ext.alloc _ _
  have hnb:=heap_alloc_new (W.alloc (.cells #[.string o.cls,.string o.fix] 57)) (.cells #[.string o.fix] 9)
  have zA:(W.alloc (.cells #[.string o.cls,.string o.fix] 57)).heap.size=W.heap.size+1:=by simp
  rw [zA] at hnb
  have hst:StrsIn ((W.alloc (.cells #[.string o.cls,.string o.fix] 57)).alloc (.cells #[.string o.fix] 9)) (W.heap.size+1+1) (.slice (some ⟨W.heap.size+1,0,none⟩) 1 1) [o.fix]:=Tab.of_new (rows:=[[.string o.fix]]) hnb (by simp) le_max1
  clear zA
  have hlist:=qh (listT_any ((HT.out.ext x1).up (n2:=((W.alloc (.cells #[.string o.cls,.string o.fix] 57)).alloc (.cells #[.string o.fix] 9)).heap.size) (Nat.le_trans HT.out.ck.le x1.size) (Nat.le_refl _)) (l:=[o.fix]) (Tab.up hst (by simp)) (by simp))
  have X1:=qh x1
  rw [hres] at hlist
  clear hf hres x0 x1 hnb hst nil
  go_wp2_with (first
   | (go_at_call 25;refine hcls.out.mono ?_;rintro e w' ⟨rfl,rfl⟩)
   | (go_at_call 53;refine hlist.out.mono ?_;rintro e w' ⟨u,rfl,ho,hx⟩;have HO:=qh ho;have HX:=qh hx;clear ho hx))
  go_ret
  exact ⟨u,rfl,Row.of_owns HO.out,X0.out.trans (X1.out.trans HX.out)⟩
end Go.Proofs.YtligiddaampneaaGreat
