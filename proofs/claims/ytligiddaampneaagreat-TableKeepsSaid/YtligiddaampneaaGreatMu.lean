/- Several texts joined. No condition. -/
import Derived.Test.YtligiddaampneaaGreatTo
import Derived.Test.YtligiddaampneaaGreatTs
import Derived.Test.YtligiddaampneaaGreatMgG
set_option maxRecDepth 100000
set_option maxHeartbeats 8000000
namespace Go.Proofs.YtligiddaampneaaGreat
open Go.RowKit
attribute [local go_sem] Oper.semAt_some
theorem atSet_any (W:World) (a:Option Addr) (n c:Nat) (m:Int):Calls Tryz.prog 49 #[.slice a n c,.int .i64 m] W fun e w'=>e=.returned (.bool (decide (0≤m∧m<(n:Int))))∧W=w':=by
 go_enter Tryz.func49,Tryz.ntmps49
 by_cases h0:0≤m
 ·by_cases h1:m<(n:Int)
  ·rw [decide_eq_true ⟨h0,h1⟩]
   go_wp2_with fail
   go_ret
   exact ⟨rfl,rfl⟩
  ·rw [decide_eq_false (fun h=>h1 h.2)]
   go_wp2_with fail
   go_ret
   exact ⟨rfl,rfl⟩
 ·rw [decide_eq_false (fun h=>h0 h.1)]
  go_wp2_with fail
  go_ret
  exact ⟨rfl,rfl⟩
theorem atStr_any (W:World) (a:Option Addr) (n c:Nat) (m:Int):Calls Tryz.prog 91 #[.slice a n c,.int .i64 m] W fun e w'=>e=.returned (.bool (decide (0≤m∧m<(n:Int))))∧W=w':=by
 go_enter Tryz.func91,Tryz.ntmps91
 by_cases h0:0≤m
 ·by_cases h1:m<(n:Int)
  ·rw [decide_eq_true ⟨h0,h1⟩]
   go_wp2_with fail
   go_ret
   exact ⟨rfl,rfl⟩
  ·rw [decide_eq_false (fun h=>h1 h.2)]
   go_wp2_with fail
   go_ret
   exact ⟨rfl,rfl⟩
 ·rw [decide_eq_false (fun h=>h0 h.1)]
  go_wp2_with fail
  go_ret
  exact ⟨rfl,rfl⟩
theorem atPl_any (W:World) (a:Option Addr) (n c:Nat) (m:Int):Calls Tryz.prog 92 #[.slice a n c,.int .i64 m] W fun e w'=>e=.returned (.bool (decide (0≤m∧m<(n:Int))))∧W=w':=by
 go_enter Tryz.func92,Tryz.ntmps92
 by_cases h0:0≤m
 ·by_cases h1:m<(n:Int)
  ·rw [decide_eq_true ⟨h0,h1⟩]
   go_wp2_with fail
   go_ret
   exact ⟨rfl,rfl⟩
  ·rw [decide_eq_false (fun h=>h1 h.2)]
   go_wp2_with fail
   go_ret
   exact ⟨rfl,rfl⟩
 ·rw [decide_eq_false (fun h=>h0 h.1)]
  go_wp2_with fail
  go_ret
  exact ⟨rfl,rfl⟩
theorem num7_any (e:Int) (w:World):Calls Tryz.prog 42 #[.int .i64 e] w fun r w'=>r=.returned (.int .i64 e)∧w=w':=by
 go_enter Tryz.func42,Tryz.ntmps42
 go_wp2
 go_ret
 exact ⟨rfl,rfl⟩
section
variable {W : World} {bt : Nat} {V : TV} {M : Mach} {N : List ByteArray} {L : List Pl}
theorem nregs_any (h:TblIn W bt V M N L):Calls Tryz.prog 45 #[.pointer (some ⟨bt,0,none⟩)] W fun e w'=>e=.returned (.int .i64 (N.length:Int))∧W=w':=by
 obtain ⟨a,c,e,_,_⟩:=(Row.of_owns h.nm).shape
 have c8:=blk_cell h.blk 8 _ rfl
 rw [e] at c8
 clear h
 go_enter Tryz.func45,Tryz.ntmps45
 go_wp2_with fail
 go_ret
 exact ⟨rfl,rfl⟩
theorem lapI_out {a b:Int} (h:¬ (0≤a∧a<(L.length:Int))):lapI L a b=false:=by
 unfold lapI
 split
 ·rename_i h2
  rw [List.getElem?_eq_none (l:=L) (i:=a.toNat) (by omega)]
 ·rfl
def lapsL (L:List Pl) (a:Int):List Int:=if 0≤a∧a<(L.length:Int) then lapRow L (L.getD a.toNat ⟨0,0,0⟩) L.length else []
theorem upto_cut {f g:Nat→Bool} {A B:Nat} (hA:∀ n,f n=true→n<A) (hB:∀ n,f n=true→n<B) (hfg:∀ n,n<B→f n=g n):upto f A=upto g B:=by
 have mono:∀ (C d:Nat),(∀ n,f n=true→n<C)→upto f (C+d)=upto f C:=fun C d h=>by
  induction d with
  | zero=>rfl
  | succ d ih =>
   rw [← Nat.add_assoc,upto_succ,ih,if_neg (fun e=>by have:=h _ e;omega),List.append_nil]
 have e1:upto f A=upto f B:=by
  rcases Nat.le_total A B with h | h
  ·obtain ⟨d,rfl⟩:=Nat.exists_eq_add_of_le h
   exact (mono A d hA).symm
  ·obtain ⟨d,rfl⟩:=Nat.exists_eq_add_of_le h
   exact mono B d hB
 rw [e1]
 unfold upto
 exact List.filter_congr fun n hn=>hfg n (List.mem_range.1 hn)
theorem laps_any (h:TblIn W bt V M N L) (hl:L.length≤200) (a:Int):Calls Tryz.prog 46 #[.pointer (some ⟨bt,0,none⟩),.int .i64 a] W fun e w'=>∃ v,e=.returned v∧w'.ownsRow W.heap.size 3 1 v (lapsL L a).length ((lapsL L a).map (Value.int .i64))∧Ext W w':=by
 obtain ⟨us,hu,hs⟩:=h.laps
 obtain ⟨aL,cL,eL,_,_⟩:=(Row.of_owns hs.own).shape
 have c13:=blk_cell h.blk 13 _ rfl
 rw [eL,hu] at c13
 have hat:=qh (atSet_any W aL L.length cL a)
 by_cases ha:0≤a∧a<(L.length:Int)
 ·rw [decide_eq_true ha] at hat
  obtain ⟨k,rfl⟩:∃ k:Nat,a=k:=⟨a.toNat,by omega⟩
  have hk:k<us.length:=by omega
  obtain ⟨u,huk⟩:∃ u,us[k]?=some u:=⟨_,lE hk⟩
  have hset:=hs.sets k u huk
  obtain ⟨g,c,e2,_,_⟩:=hs.own.form (by omega)
  rw [eL] at e2
  cases e2
  have cu:W.cell? ⟨g,k,none⟩=some u:=by
   have:=hs.own
   rw [eL] at this
   rw [this.cellAt k (by omega)];exact huk
  obtain ⟨a2,n2,c2,rfl⟩:=hset.form
  have hlist:=qh (list_set hset)
  have HL:Hid (lapsL L (k:Int)=lapRow L (L.getD k ⟨0,0,0⟩) L.length):=qh (by unfold lapsL;rw [if_pos ha,Int.toNat_natCast])
  have hkz:(k:Int)<(L.length:Int):=ha.2
  clear hset hs huk h eL
  go_enter Tryz.func46,Tryz.ntmps46
  go_wp2_with (first
   | (go_at_call 49;refine hat.out.mono ?_;rintro e w' ⟨rfl,rfl⟩)
   | (go_at_call 84;refine hlist.out.mono ?_;rintro e w2 ⟨v,T,rfl,hT,hown,hx2⟩))
  go_ret
  refine ⟨v,rfl,?_,hx2⟩
  have e:upto (inL (lapRow L (L.getD k ⟨0,0,0⟩) L.length)) T=upto (fun j=>lapS (L.getD k ⟨0,0,0⟩) (L.getD j ⟨0,0,0⟩)) L.length:=upto_cut hT (fun n hn=>by
   unfold inL at hn
   exact (lapRow_mem.1 (of_decide_eq_true hn).2).1) (fun n hn=>by
   unfold inL
   rw [Bool.eq_iff_iff,decide_eq_true_eq,lapRow_mem]
   exact ⟨fun h=>h.2.2,fun h=>⟨by omega,hn,h⟩⟩)
  rw [HL.out]
  rw [e] at hown
  unfold upto at hown
  unfold lapRow
  rw [List.length_map,List.map_map]
  exact hown
 ·rw [decide_eq_false ha] at hat
  have HL:Hid (lapsL L a=[]):=qh (by unfold lapsL;rw [if_neg ha])
  clear hs h
  go_enter Tryz.func46,Tryz.ntmps46
  go_wp2_with (go_at_call 49;refine hat.out.mono ?_;rintro e w' ⟨rfl,rfl⟩)
  go_ret
  exact ⟨_,rfl,by rw [HL.out];exact World.ownsRow_nil _ _ _ _,Ext.refl _⟩
end
theorem same_any {W:World} {u v:Value} {a b:List Int} (hu:SliceInts W u a) (hv:SliceInts W v b):Calls Tryz.prog 16 #[u,v] W fun e w'=>e=.returned (.bool (decide (a=b)))∧Ext W w':=by
 obtain ⟨aU,cU,rfl,_,hu2⟩:=hu.shape
 obtain ⟨aV,cV,rfl,_,hv2⟩:=hv.shape
 unfold maxLen at hu2 hv2
 have HU:=qh hu
 have HV:=qh hv
 clear hu hv
 go_enter Tryz.func16,Tryz.ntmps16
 by_cases hl:a.length=b.length
 case neg =>
  have hlz:((a.length:Int) != (b.length:Int))=true:=by simp;omega
  rw [decide_eq_false (fun e=>hl (by rw [e]))]
  go_wp2_with fail
  go_ret
  exact ⟨rfl,Ext.refl _⟩
 case pos =>
 have hlz:((a.length:Int) != (b.length:Int))=false:=by simp [hl]
 obtain ⟨res,hres⟩:∃ x,decide (a=b)=x:=⟨_,rfl⟩
 rw [hres]
 have HRES:=qh hres
 have HL:=qh hl
 clear hres
 go_wp2_with fail
 go_loopw [5] (fun iv wr=>∃ i:Nat,i≤a.length∧iv=.int .i64 i∧Hid (Ext W wr∧∀ j,j<i→a[j]?=b[j]?)) (fun iv _=>a.length - (intOf iv).toNat)
 case atStart=>exact ⟨0,by omega,rfl,qh ⟨Ext.refl _,fun j h=>by omega⟩⟩
 case round =>
  obtain ⟨i,hi,rfl,hin⟩:=hrel
  rename World=>w2
  by_cases hli:i<a.length
  ·have hiz:(i:Int)<(a.length:Int):=by omega
   have hiz2:(i:Int)<(b.length:Int):=by omega
   obtain ⟨x,hx⟩:∃ x,a[i]?=some x:=⟨_,lE hli⟩
   obtain ⟨y,hy⟩:∃ y,b[i]?=some y:=⟨_,lE (by omega)⟩
   obtain ⟨b1,o1,k1,e1,_,_,_,x0⟩:=Row.at (Row.below HU.out hin.out.1) (fun e=>by rw [List.map_eq_nil_iff] at e;rw [e] at hx;simp at hx)
   obtain ⟨b2,o2,k2,e2,_,_,_,y0⟩:=Row.at (Row.below HV.out hin.out.1) (fun e=>by rw [List.map_eq_nil_iff] at e;rw [e] at hy;simp at hy)
   have x1:=x0 i (.int .i64 x) (by rw [List.getElem?_map,hx];rfl)
   have y1:=y0 i (.int .i64 y) (by rw [List.getElem?_map,hy];rfl)
   clear x0 y0
   cases e1
   cases e2
   have HXY:=qh (And.intro hx hy)
   clear hx hy
   go_upto_region 6 with (fail)
   go_quiet (fail)
   have xq:=Ext.drewN w2 nq
   by_cases hxy:x=y
   ·have hxz:(x != y)=false:=by simp [hxy]
    go_wp2_with fail
    go_roundw
    case rel=>exact ⟨i+1,by omega,by go_num,qh ⟨hin.out.1.trans xq,fun j hj=>by
     by_cases e:j=i
     ·subst e;rw [HXY.out.1,HXY.out.2,hxy]
     ·exact hin.out.2 j (by omega)⟩⟩
    case measure=>simp [intOf];omega
   ·have hxz:(x != y)=true:=by simp [hxy]
    go_wp2_with fail
    go_ret
    refine ⟨ret_bool ?_,hin.out.1.trans xq⟩
    rw [← HRES.out]
    symm
    refine decide_eq_false (fun e=>hxy ?_)
    have h1:=HXY.out.1
    rw [e,HXY.out.2] at h1
    cases h1
    rfl
  ·have hiz:¬ (i:Int)<(a.length:Int):=by omega
   have hie:i=a.length:=by omega
   have HI:=qh hie
   clear hie
   go_wp2_with fail
   go_ret
   refine ⟨ret_bool ?_,hin.out.1⟩
   rw [← HRES.out]
   symm
   refine decide_eq_true (List.ext_getElem? fun j=>?_)
   rcases Nat.lt_or_ge j a.length with h | h
   ·exact hin.out.2 j (by rw [HI.out];exact h)
   ·rw [List.getElem?_eq_none h,List.getElem?_eq_none (by have:=HL.out;omega)]
end Go.Proofs.YtligiddaampneaaGreat
namespace Go.Proofs.YtligiddaampneaaGreat
open Go.RowKit
attribute [local go_sem] Oper.semAt_some
section
theorem SmLay.ext {W W':World} {n B bR cR bG cG s:Nat} (h:SmLay W n B bR cR bG cG s) (x:Ext W W'):SmLay W' n B bR cR bG cG s :=
 ⟨owns_ext h.regs x,owns_ext h.rg x,x.block h.cls,x.block h.u0,x.block h.u1,x.block h.u2,x.block h.ops,x.block h.args,h.bs,h.br,h.bg,h.ne⟩
theorem Tab.low {W:World} {n0 n1 size:Nat} {v:Value} {rows:List (List Value)} (h:Tab W n0 size v rows) (hb:∀ q,v.ownBlock=some q→q<n1):Tab W n1 size v rows:=⟨h.row,h.len,fun q e _=>hb q e⟩
variable {W : World} {n B bR cR bG cG s : Nat}
variable {W : World} {n B bR cR bG cG s : Nat}
theorem SmLay.rgB (h:SmLay W n B bR cR bG cG s):StrsIn W s (vG bG n cG) (namesS n):=Tab.low h.rgT fun q e=>by cases e;exact h.bg.2
abbrev vC (s:Nat):Value:=.slice (some ⟨s,0,none⟩) 1 1
abbrev vO (s:Nat):Value:=.slice (some ⟨s+5,0,none⟩) 3 3
abbrev vA (s:Nat):Value:=.slice (some ⟨s+6,0,none⟩) 1 1
theorem Tab.same1 {W W':World} {n0 size:Nat} {v:Value} {rows:List (List Value)} (h:Tab W n0 size v rows) (hk:∀ k,v.ownBlock=some k→W'.heap[k]?=W.heap[k]?):Tab W' n0 size v rows:=⟨h.row.same hk,h.len,h.blk⟩
variable {W' : World}
theorem SmLay.rg' (h:SmLay W n B bR cR bG cG s) (hk:W'.heap[bG]?=W.heap[bG]?):StrsIn W' s (vG bG n cG) (namesS n):=Tab.same1 h.rgB fun k e=>by cases e;exact hk
theorem SmLay.cls' (h:SmLay W n B bR cR bG cG s) (hk:W'.heap[s]?=W.heap[s]?):Tab W' (s+7) 2 (vC s) [[.string gN,vG bG n cG]]:=(h.clsT.same1 fun k e=>by cases e;exact hk).up (by omega)
theorem SmLay.ops' (h:SmLay W n B bR cR bG cG s) (hk:W'.heap[s+5]?=W.heap[s+5]?):Tab W' (s+7) 6 (vO s) ((opsV s).map opRow):=(h.opsT.same1 fun k e=>by cases e;exact hk).up (by omega)
theorem SmLay.args' (h:SmLay W n B bR cR bG cG s) (hk:W'.heap[s+6]?=W.heap[s+6]?):StrsIn W' (s+7) (vA s) [nmS 0]:=Tab.same1 h.argsT fun k e=>by cases e;exact hk
theorem SmLay.us' (h:SmLay W n B bR cR bG cG s) (h2:W'.heap[s+2]?=W.heap[s+2]?) (h3:W'.heap[s+3]?=W.heap[s+3]?) (h4:W'.heap[s+4]?=W.heap[s+4]?):∀ p∈opsV s,OprsIn W' (s+7) p.2.1 p.1.uses∧StrsIn W' (s+7) p.2.2 p.1.clob∧fits64 p.1.tie:=fun p hp=>by
 simp only [opsV,List.mem_cons,List.not_mem_nil,or_false] at hp
 rcases hp with rfl | rfl | rfl
 ·exact ⟨(Tab.same1 h.u0T fun k e=>by cases e;exact h2).up (by omega),StrsIn.nil,fits_m1⟩
 ·exact ⟨(Tab.same1 h.u1T fun k e=>by cases e;exact h3).up (by omega),StrsIn.nil,fits_m1⟩
 ·exact ⟨(Tab.same1 h.u2T fun k e=>by cases e;exact h4).up (by omega),StrsIn.nil,fits_m1⟩
theorem SmLay.machR (h:SmLay W n B bR cR bG cG s) (ho:∀ q,q<s+7→q≠bR→W'.heap[q]?=W.heap[q]?) {M:Mach} {v:Value} (ec:M.classes=[⟨gN,namesS n⟩]) (eo:M.ops=(smallM n).ops) (ea:M.args=[nmS 0]) (es:M.saved=[]) {n0:Nat} (hn:s+7≤n0) (hr:RegsIn W' n0 v M.regs) (hsl:fits64 M.slots) :
  MachIn W' n0 v (vC s) (vO s) (vA s) (.slice none 0 0) M:=by
 have hbr:=h.br
 have hbg:=h.bg
 have hne:=h.ne
 refine ⟨hr,?_,?_,by rw [ea];exact Tab.up (h.args' (ho _ (by omega) (by omega))) hn,by rw [es];exact StrsIn.nil,hsl⟩
 ·rw [ec]
  refine ClsIn.of [(⟨gN,namesS n⟩,vG bG n cG)] ((h.cls' (ho _ (by omega) (by omega))).up hn) (fun q hq=>?_)
  rw [List.mem_singleton] at hq;subst hq
  exact Tab.up (h.rg' (ho _ (by omega) (by omega))) (by omega)
 ·rw [eo,show (smallM n).ops=(opsV s).map Prod.fst from rfl]
  refine OpsIn.of (opsV s) ((h.ops' (ho _ (by omega) (by omega))).up hn) (fun q hq=>?_)
  have:=h.us' (ho _ (by omega) (by omega)) (ho _ (by omega) (by omega)) (ho _ (by omega) (by omega)) q hq
  exact ⟨Tab.up this.1 hn,Tab.up this.2.1 hn,this.2.2⟩
end
section
theorem row_of_block {W:World} {b size n:Nat} {cs:Array Value} {t:TypeId} {fz:Nat × Nat} (h:W.heap[b]?=some (.cells cs t fz)) (hl:cs.toList.length=n * size) (hn:n≤maxLen):Row W size (.slice (some ⟨b,0,none⟩) n n) n cs.toList:=by
 refine ⟨hl,Or.inr ⟨_,_,rfl,Nat.le_refl _,hn,fun j u hj=>?_⟩⟩
 exact World.news_of_block h j u hj
theorem RegsIn.lit {W:World} {b n0:Nat} {cs:Array Value} {t:TypeId} {fz:Nat × Nat} (l:List RegT) (vs:List Value) (h:W.heap[b]?=some (.cells cs t fz)) (hb:b<n0) (hc:cs.toList=regCells l vs) (hl:vs.length=l.length) (hn:l.length≤maxLen)
  (hw:∀ r∈l,fits64 r.width∧fits64 r.beg) (hs:∀ (i:Nat) (r:RegT) (u:Value),l[i]?=some r→vs[i]?=some u→RegsIn W n0 u r.subs):RegsIn W n0 (.slice (some ⟨b,0,none⟩) l.length l.length) l:=by
 refine .mk vs hl ?_ (fun k e _=>by cases e;exact hb) hw hs
 rw [← hc]
 refine row_of_block h ?_ hn
 rw [hc];unfold regCells
 have:∀ (l:List RegT) (vs:List Value),vs.length=l.length→((l.zip vs).flatMap fun x=>[Value.string x.1.name,.int .i64 x.1.width,.int .i64 x.1.beg,x.2]).length=l.length * 4:=by
  intro l
  induction l with
  | nil=>intro vs _;simp
  | cons a l ih =>
   intro vs h
   cases vs with
   | nil=>simp at h
   | cons v vs=>simp at h;simp [ih vs h];omega
 exact this l vs hl
theorem one_sub {W:World} {n0:Nat} {r0:RegT} {v:Value} (h:RegsIn W n0 v r0.subs):∀ (i:Nat) (r:RegT) (u:Value),[r0][i]?=some r→[v][i]?=some u→RegsIn W n0 u r.subs:=by
 intro i r u hr hu
 match i,hr,hu with
 | 0,hr,hu=>simp at hr hu;subst hr;subst hu;exact h
 | i+1,hr,_=>simp at hr
def nAl:ByteArray:=⟨#[97,108]⟩
def nAh:ByteArray:=⟨#[97,104]⟩
def nAx:ByteArray:=⟨#[97,120]⟩
def nEax:ByteArray:=⟨#[101,97,120]⟩
def nRax:ByteArray:=⟨#[114,97,120]⟩
def rAl:RegT:=.mk nAl 8 0 []
def rAh:RegT:=.mk nAh 8 8 []
def rAx:RegT:=.mk nAx 16 0 [rAl,rAh]
def rEax:RegT:=.mk nEax 32 0 [rAx]
def rRax:RegT:=.mk nRax 64 0 [rEax]
end
theorem rax_any (w:World):Calls Tryz.prog 44 #[] w fun e w'=>∃ b c,e=.returned (.slice (some ⟨b,0,none⟩) 1 1)∧Ext w w'∧b<w'.heap.size∧w'.heap[b]?=some (.cells #[.string nRax,.int .i64 64,.int .i64 0,.slice (some ⟨c,0,none⟩) 1 1] 70 (0,0)) ∧
  ∀ W2:World,(∀ k,w.heap.size≤k→k<w'.heap.size→W2.heap[k]?=w'.heap[k]?)→RegsIn W2 w'.heap.size (.slice (some ⟨c,0,none⟩) 1 1) [rEax]:=by
 go_enter Tryz.func44,Tryz.ntmps44
 go_wp2
 go_ret
 obtain ⟨x,hs,e0,e1,e2,e3⟩:=al4 w w.heap.size rfl (.cells #[.string nAl,.int .i64 8,.int .i64 0,.slice none 0 0,.string nAh,.int .i64 8,.int .i64 8,.slice none 0 0] 70) (.cells #[.string nAx,.int .i64 16,.int .i64 0,.slice (some ⟨w.heap.size,0,none⟩) 2 2] 70) (.cells #[.string nEax,.int .i64 32,.int .i64 0,.slice (some ⟨w.heap.size+1,0,none⟩) 1 1] 70) (.cells #[.string nRax,.int .i64 64,.int .i64 0,.slice (some ⟨w.heap.size+2,0,none⟩) 1 1] 70)
 have f64:∀ n:Int,0≤n→n≤64→fits64 n:=fun n h h'=>⟨by omega,by omega⟩
 refine ⟨w.heap.size+3,w.heap.size+2,rfl,x,Nat.lt_of_lt_of_eq (by omega) hs.symm,e3,fun W2 hk=>?_⟩
 have hz:w.heap.size+4≤((((w.alloc (.cells #[.string nAl,.int .i64 8,.int .i64 0,.slice none 0 0,.string nAh,.int .i64 8,.int .i64 8,.slice none 0 0] 70)).alloc (.cells #[.string nAx,.int .i64 16,.int .i64 0,.slice (some ⟨w.heap.size,0,none⟩) 2 2] 70)).alloc (.cells #[.string nEax,.int .i64 32,.int .i64 0,.slice (some ⟨w.heap.size+1,0,none⟩) 1 1] 70)).alloc (.cells #[.string nRax,.int .i64 64,.int .i64 0,.slice (some ⟨w.heap.size+2,0,none⟩) 1 1] 70)).heap.size:=Nat.le_of_eq hs.symm
 refine RegsIn.lit [rEax] [.slice (some ⟨w.heap.size+1,0,none⟩) 1 1] ((hk _ (by omega) (Nat.lt_of_lt_of_le (by omega) hz)).trans e2) (Nat.lt_of_lt_of_le (by omega) hz) rfl rfl (by decide) (fun r hr=>?_) (one_sub ?_)
 ·simp at hr;subst hr;exact ⟨f64 _ (by decide) (by decide),f64 _ (by decide) (by decide)⟩
 refine RegsIn.lit [rAx] [.slice (some ⟨w.heap.size,0,none⟩) 2 2] ((hk _ (by omega) (Nat.lt_of_lt_of_le (by omega) hz)).trans e1) (Nat.lt_of_lt_of_le (by omega) hz) rfl rfl (by decide) (fun r hr=>?_) (one_sub ?_)
 ·simp at hr;subst hr;exact ⟨f64 _ (by decide) (by decide),f64 _ (by decide) (by decide)⟩
 refine RegsIn.lit [rAl,rAh] [.slice none 0 0,.slice none 0 0] ((hk _ (by omega) (Nat.lt_of_lt_of_le (by omega) hz)).trans e0) (Nat.lt_of_lt_of_le (by omega) hz) rfl rfl (by decide) (fun r hr=>?_) ?_
 ·simp at hr;rcases hr with rfl | rfl <;> exact ⟨f64 _ (by decide) (by decide),f64 _ (by decide) (by decide)⟩
 ·intro i r u hr hu
  match i,hr,hu with
  | 0,hr,hu=>simp at hr hu;subst hr;subst hu;exact RegsIn.nil
  | 1,hr,hu=>simp at hr hu;subst hr;subst hu;exact RegsIn.nil
  | i+2,hr,_=>simp at hr
def exM:Mach := { smallM 3 with regs:=regsS 3 ++ [rRax] }
def exN:List ByteArray:=[nmS 0,nmS 1,nmS 2,nRax,nEax,nAx,nAl,nAh]
def exL:List Pl:=[⟨0,0,8⟩,⟨1,0,8⟩,⟨2,0,8⟩,⟨3,0,64⟩,⟨3,0,32⟩,⟨3,0,16⟩,⟨3,0,8⟩,⟨3,8,8⟩]
theorem ex_head:headS exM=.ok (exN,exL):=by kernel_rfl
theorem ex_ok:checkS exM=.ok ():=by kernel_rfl
theorem ex_lap5:lapsL exL 5=[3,4,5,6,7]:=by kernel_rfl
theorem ex_lap6:lapsL exL 6=[3,4,5,6]:=by kernel_rfl
theorem alive7_any (W:World):Calls Tryz.prog 9 #[] W fun e w'=>e=.returned (.bool true)∧Ext W w':=by
 obtain ⟨iR,hiR,zR0,zR1,zR2⟩:=info_parts infoReg
 go_enter Tryz.func9,Tryz.ntmps9
 go_upto_region 2 with (go_at_call 43;refine (small_any 3 (by decide) (by decide) W).mono ?_;rintro e w1 ⟨hx1,bR,cR,bG,cG,s,rfl,hlay⟩;have X1:=qh hx1;have LAY:=qh hlay;clear hx1 hlay)
 have bm:=heap_alloc_new w1 (.cells #[.string mN,.slice (some ⟨bR,0,none⟩) 3 cR,.slice (some ⟨s,0,none⟩) 1 1,.slice (some ⟨s+5,0,none⟩) 3 3,.slice (some ⟨s+6,0,none⟩) 1 1,.string (nmS 0),.slice none 0 0,.int .i64 100] 27)
 have x2:Ext w1 (w1.alloc (.cells #[.string mN,.slice (some ⟨bR,0,none⟩) 3 cR,.slice (some ⟨s,0,none⟩) 1 1,.slice (some ⟨s+5,0,none⟩) 3 3,.slice (some ⟨s+6,0,none⟩) 1 1,.string (nmS 0),.slice none 0 0,.int .i64 100] 27)):=Ext.alloc _ _
 generalize w1.alloc (.cells #[.string mN,.slice (some ⟨bR,0,none⟩) 3 cR,.slice (some ⟨s,0,none⟩) 1 1,.slice (some ⟨s+5,0,none⟩) 3 3,.slice (some ⟨s+6,0,none⟩) 1 1,.string (nmS 0),.slice none 0 0,.int .i64 100] 27)=w2 at bm x2 ⊢
 have hsz:=LAY.out.size
 generalize hbme:w1.heap.size=b0 at bm hsz ⊢
 have X2:=qh x2
 have LY:=qh (LAY.out.ext x2)
 have BM:=qh bm
 have c1:=blk_cell bm 1 _ rfl
 have hlb:=(Array.getElem?_eq_some_iff.1 bm).1
 have hW1:=X1.out.size
 have hbR:=LAY.out.br
 clear x2 bm
 rename_i K1 hK1
 have hK1:=qh hK1
 refine wp_region_M (fun w'=>Ext w2 w') 3 (by kernel_rfl) (Ext.drew _) (fun hS=>?_)
 refine' tk 0 hS ?_ ?_;rotate_left;·intros;go_simp;try rfl
 refine' tk 1 hS ?_ ?_;rotate_left;·intro w hSw;have z0:=xc hSw c1;go_simp;try rfl
 try simp only [tD]
 generalize w2.drew=w3 at hS ⊢
 refine rc 2 fun K hK=>?_
 go_simp
 refine ((rax_any w3)).mono ?_
 rintro e w4 ⟨b,c,rfl,hx4,hbl,hb4,hsub⟩
 have hS2:Ext w2 w3:=hS
 have hS:=Ext.trans hS hx4
 have HSUB:=qh hsub
 have HB4:=qh hb4
 clear hsub hb4
 refine hK.out _ _ hS ?_
 try simp only [tD]
 clear hK K
 refine rl 3 fun K hK=>?_
 refine wp_append_lies _ _ _ _ rfl W.heap.size 70 iR _ 4 56 Tryz.underlying22 hiR zR0 zR1 zR2 rfl (by omega) (.slice (some ⟨bR,0,none⟩) 3 cR) 3 (cellsR 3) rfl (owns_ext LY.out.regs hS) ⟨b,0,none⟩ 1 1 [.string nRax,.int .i64 64,.int .i64 0,.slice (some ⟨c,0,none⟩) 1 1] rfl rfl (World.news_of_block HB4.out) (by simp [Value.oneCell']) (by omega) (by unfold maxLen;omega) (by omega) (by have:=hS.size;omega) _ rfl ?_
 intro g5 c5 w5 hown5 hgrow5 hat5 hlt5
 have k5:Keep (fun k=>k=bR) w4 w5:=Keep.grown hgrow5 (fun k e=>by cases e;rfl)
 have b5:=(k5.block b0 (Nat.lt_of_lt_of_le hlb hS.size) (by omega)).trans (hS.block BM.out)
 have g1:=blk_cell b5 1 _ rfl
 have gf1:=blk_free b5 1
 have gl5:=(Array.getElem?_eq_some_iff.1 b5).1
 have K5:=qh k5
 have B5:=qh b5
 have OW5:=qh hown5
 have X24:=qh hS
 have X23:=qh hS2
 have HAT:=qh hat5
 clear k5 b5 hown5 hgrow5 hat5 hS2
 refine hK.out _ _ ?_
 try simp only [tD]
 clear hK K
 refine' tw 4 ?_ ?_;rotate_left;·intros;go_simp;try rfl
 try simp only [tD]
 refine rl 5 fun K hK=>?_
 go_simp
 refine hK.out _ _ ?_
 try simp only [tD]
 clear hK K
 refine wpAnyM_done (by kernel_rfl) ?_ _
 refine hK1.out _ _ ?_
 clear hS
 have b6:=heap_set_cells B5.out 1 (.slice (some ⟨g5,0,none⟩) 4 c5)
 have ks:=Keep.setCell (fun k=>k=b0) w5 ⟨b0,1,none⟩ (.slice (some ⟨g5,0,none⟩) 4 c5) rfl
 generalize w5.setCell ⟨b0,1,none⟩ (.slice (some ⟨g5,0,none⟩) 4 c5)=w6 at b6 ks ⊢
 have hz4:=X24.out.size
 have hz3:=X23.out.size
 have hz5:=K5.out.size
 have hz6:=ks.size
 have XW6:Hid (Ext W w6):=qh ((((X1.out.trans X2.out).trans X24.out).keep K5.out (fun q e=>by omega)).keep ks (fun q e=>by omega))
 have OW6:Hid (w6.ownsRow W.heap.size 70 4 (.slice (some ⟨g5,0,none⟩) 4 c5) 4 (cellsR 3 ++ [.string nRax,.int .i64 64,.int .i64 0,.slice (some ⟨c,0,none⟩) 1 1])):=qh (owns_same OW5.out fun q e=>ks.block q (OW5.out.lt q e).2 (fun e2=>owns_ne OW5.out B5.out (by decide) (by rw [e,e2])))
 have RG6:Hid (RegsIn w6 w6.heap.size (.slice (some ⟨g5,0,none⟩) 4 c5) exM.regs):=qh (by
  refine .mk [.slice none 0 0,.slice none 0 0,.slice none 0 0,.slice (some ⟨c,0,none⟩) 1 1] rfl (Row.of_owns OW6.out) (fun k e _=>(OW6.out.lt k e).2) (fun r hr=>?_) (fun i r u hr hu=>?_)
  ·have h4:r=.mk (nmS 0) 8 0 []∨r=.mk (nmS 1) 8 0 []∨r=.mk (nmS 2) 8 0 []∨r=rRax:=by
    have:exM.regs=[.mk (nmS 0) 8 0 [],.mk (nmS 1) 8 0 [],.mk (nmS 2) 8 0 [],rRax]:=rfl
    rw [this] at hr
    simpa using hr
   rcases h4 with rfl | rfl | rfl | rfl <;> exact ⟨⟨by decide,by decide⟩,⟨by decide,by decide⟩⟩
  ·have:exM.regs=[.mk (nmS 0) 8 0 [],.mk (nmS 1) 8 0 [],.mk (nmS 2) 8 0 [],rRax]:=rfl
   rw [this] at hr
   match i,hr,hu with
   | 0,hr,hu=>simp at hr hu;subst hr;subst hu;exact RegsIn.nil
   | 1,hr,hu=>simp at hr hu;subst hr;subst hu;exact RegsIn.nil
   | 2,hr,hu=>simp at hr hu;subst hr;subst hu;exact RegsIn.nil
   | 3,hr,hu =>
    simp at hr hu;subst hr;subst hu
    exact (HSUB.out w6 (fun k h1 h2=>(ks.block k (by omega) (by omega)).trans (K5.out.block k h2 (by omega)))).up' (by omega)
   | i+4,hr,_=>simp at hr)
 have M6:Hid (MachIn w6 w6.heap.size (.slice (some ⟨g5,0,none⟩) 4 c5) (vC s) (vO s) (vA s) (.slice none 0 0) exM):=qh (LAY.out.machR (W':=w6) (M:=exM) (fun q h1 h2=>((ks.block q (by omega) (by omega)).trans (K5.out.block q (by omega) h2)).trans (Below.block (X2.out.trans X24.out) q (by omega))) rfl rfl rfl rfl (by omega) RG6.out fits_100)
 have HMK:=qh (makeTable_any M6.out (Nat.le_refl _))
 have c0:=blk_cell b6 0 (.string mN) rfl
 have c1:=blk_cell b6 1 (.slice (some ⟨g5,0,none⟩) 4 c5) rfl
 have c2:=blk_cell b6 2 (.slice (some ⟨s,0,none⟩) 1 1) rfl
 have c3:=blk_cell b6 3 (.slice (some ⟨s+5,0,none⟩) 3 3) rfl
 have c4:=blk_cell b6 4 (.slice (some ⟨s+6,0,none⟩) 1 1) rfl
 have c5':=blk_cell b6 5 (.string (nmS 0)) rfl
 have c6:=blk_cell b6 6 (.slice none 0 0) rfl
 have c7:=blk_cell b6 7 (.int .i64 100) rfl
 clear g1 gf1 gl5 b6 ks
 go_upto_region 4 with (go_at_call 41;refine HMK.out.mono ?_;intro e w7 hmk;unfold TMakePost at hmk;rw [ex_ok] at hmk;obtain ⟨hx7,bt,V,N,L,rfl,_,hT,hTb⟩:=hmk;have X7:=qh hx7;have HEAD:=qh hT.head;have TB:=qh hTb;clear hx7 hT hTb)
 have hNL:N=exN∧L=exL:=by
  have h:=HEAD.out.symm.trans ex_head
  injection h with h
  injection h with h1 h2
  exact ⟨h1,h2⟩
 obtain ⟨rfl,rfl⟩:=hNL
 have HRG:Hid (Calls Tryz.prog 45 #[.pointer (some ⟨bt,0,none⟩)] w7 fun e w'=>e=.returned (.int .i64 8)∧w7=w'):=qh (nregs_any TB.out)
 have HL5:Hid (Calls Tryz.prog 46 #[.pointer (some ⟨bt,0,none⟩),.int .i64 5] w7 fun e w'=>∃ v,e=.returned v∧w'.ownsRow w7.heap.size 3 1 v 5 (([3,4,5,6,7]:List Int).map (Value.int .i64))∧Ext w7 w'):=qh (by
  have:=laps_any TB.out (by decide) 5
  rw [ex_lap5] at this
  exact this)
 have HL6:Hid (∀ w,Ext w7 w→Calls Tryz.prog 46 #[.pointer (some ⟨bt,0,none⟩),.int .i64 6] w fun e w'=>∃ v,e=.returned v∧w'.ownsRow w.heap.size 3 1 v 4 (([3,4,5,6]:List Int).map (Value.int .i64))∧Ext w w'):=qh (fun w x=>by
  have:=laps_any (TB.out.ext x) (by decide) 6
  rw [ex_lap6] at this
  exact this)
 have HS5:Hid (∀ (w:World) (lo:Nat) (v:Value),w.ownsRow lo 3 1 v 5 (([3,4,5,6,7]:List Int).map (Value.int .i64))→Calls Tryz.prog 16 #[v,.slice (some ⟨w.heap.size,0,none⟩) 5 5] (w.alloc (.cells #[.int .i64 3,.int .i64 4,.int .i64 5,.int .i64 6,.int .i64 7] 3)) fun e w'=>e=.returned (.bool true)∧Ext w w'):=qh (fun w lo v ho=>(same_any (a:=[3,4,5,6,7]) (b:=[3,4,5,6,7]) (Row.of_owns (ho.alloc _)) (Row.of_owns (World.ownsRow_lit (base:=0) w #[.int .i64 3,.int .i64 4,.int .i64 5,.int .i64 6,.int .i64 7] 5 (Nat.zero_le _) (by unfold maxLen;omega) rfl))).mono fun _ _ h=>⟨by rw [h.1];rfl,(Ext.alloc _ _).trans h.2⟩)
 have HS6:Hid (∀ (w:World) (lo:Nat) (v:Value),w.ownsRow lo 3 1 v 4 (([3,4,5,6]:List Int).map (Value.int .i64))→Calls Tryz.prog 16 #[v,.slice (some ⟨w.heap.size,0,none⟩) 4 4] (w.alloc (.cells #[.int .i64 3,.int .i64 4,.int .i64 5,.int .i64 6] 3)) fun e w'=>e=.returned (.bool true)∧Ext w w'):=qh (fun w lo v ho=>(same_any (a:=[3,4,5,6]) (b:=[3,4,5,6]) (Row.of_owns (ho.alloc _)) (Row.of_owns (World.ownsRow_lit (base:=0) w #[.int .i64 3,.int .i64 4,.int .i64 5,.int .i64 6] 4 (Nat.zero_le _) (by unfold maxLen;omega) rfl))).mono fun _ _ h=>⟨by rw [h.1];rfl,(Ext.alloc _ _).trans h.2⟩)
 go_wp2_with (first
  | (go_at_call 42;refine (num7_any _ _).mono ?_;rintro e w' ⟨rfl,rfl⟩)
  | (go_at_call 45;refine HRG.out.mono ?_;rintro e w' ⟨rfl,rfl⟩)
  | (go_at_call 46;(with_reducible refine HL5.out.mono ?_);rintro e w8 ⟨v5,rfl,ho5,hx8⟩;have X8:=qh hx8;have O5:=qh ho5;clear hx8 ho5)
  | (go_at_call 16;(with_reducible refine (HS5.out _ _ _ O5.out).mono ?_);rintro e w9 ⟨rfl,hx9⟩;have X9:=qh (X8.out.trans hx9);clear hx9)
  | (go_at_call 46;(with_reducible refine (HL6.out w9 X9.out).mono ?_);rintro e w10 ⟨v6,rfl,ho6,hx10⟩;have X10:=qh (X9.out.trans hx10);have O6:=qh ho6;clear hx10 ho6)
  | (go_at_call 16;(with_reducible refine (HS6.out _ _ _ O6.out).mono ?_);rintro e w11 ⟨rfl,hx11⟩;have X11:=qh (X10.out.trans hx11);clear hx11))
 go_ret
 exact ⟨rfl,(XW6.out.trans X7.out).trans X11.out⟩
end Go.Proofs.YtligiddaampneaaGreat
namespace Go.Proofs.YtligiddaampneaaGreat
open Go.RowKit
attribute [local go_sem] Oper.semAt_some
theorem head_lenT {M:Mach} {N:List ByteArray} {L:List Pl} (h:headS M=.ok (N,L)):L.length=N.length∧∀ p∈L,p.tight:=by
 unfold headS at h
 split at h
 ·cases hp:placesS M.regs with
  | error x=>rw [hp] at h;cases h
  | ok σ =>
   rw [hp] at h
   dsimp only at h
   have hg:=placesS_tight hp
   split at h
   ·cases h;exact ⟨hg.1.lp,hg.2⟩
   ·cases h
 ·cases h
theorem begin_headT {four:Bool} {M:Mach} {N:List ByteArray} {L:List Pl} (h:beginS four M=.ok (N,L)):headS M=.ok (N,L):=by
 unfold beginS at h
 cases hd:headS M with
 | error x=>rw [hd] at h;cases h
 | ok r =>
  obtain ⟨N2,L2⟩:=r
  rw [hd] at h
  dsimp only at h
  split at h
  ·cases h;rfl
  ·cases h
end Go.Proofs.YtligiddaampneaaGreat
