/- Several texts joined. No condition. -/
import Derived.Test.YtligiddaampneaaGreatMgE
import Derived.Test.YtligiddaampneaaGreatTh
import Derived.Test.YtligiddaampneaaGreatRefR
import Derived.OwnWalkIn
import Derived.Deep.AppendLies
set_option maxHeartbeats 1000000
namespace Go.Proofs.YtligiddaampneaaGreat
open Go
open Go.RowKit
variable {P : Program} {f : FuncId} {ro : Option Nat}
def Hands {α:Type} (P:Program) (g:Nat) (lb:Array Value) (enc:α→Value) (xs:List α) (D:Nat→Prop) (W:World):Prop :=
 ∀ (L n:Nat) (ρ:Nat→Prop) (I:Nat→World→Prop),
  (∀ k,D k→¬ ρ k) →
  (∀ m i W1 x,xs[i]?=some x→I i W1→YieldAt Fence.wide m P L #[enc x] W1 (fun e W2=>Keep ρ W1 W2∧e=.returned (.bool true)∧I (i+1) W2)) →
  I 0 W →
  CallsIn Fence.wide n P g (#[.func (.yield L) #[] #[]] ++ lb) W (fun e W'=>e=.returned (.tuple #[])∧Keep ρ W W'∧I xs.length W')
def handPost (I:Nat→World→Prop) (ρ:Nat→Prop) (i:Nat) (w:World):Exit→Act→World→Prop
 | .normal,_,w'=>I (i+1) w'∧Keep ρ w w'
 | _,_,_=>False
theorem hand_core {α:Type} {fnc:Func} (hf:P.funcs[f]?=some fnc) {tmps:Array Value} {ps:Array Tmp} {assign body:Code} {DD gf n:Nat} {lb:Array Value} {enc:α→Value} {xs:List α} {D ρ:Nat→Prop} {w1:World} (L:Nat) {I:Nat→World→Prop}
    (hs:Hands P gf lb enc xs D w1) (hl:w1.heap[L]?=some (.loop (recOf f tmps ps assign body DD .ready none))) (hps:ps.size=1)
    (hD:∀ k,D k→¬ ρ k∧k≠L) (nL:¬ ρ L)
    (hI:∀ i W1 W2,I i W1→Keep (fun k=>k=L) W1 W2→I i W2)
    (h0:I 0 w1)
    (hb:∀ i x W1,xs[i]?=some x→I i W1→Keep (fun k=>ρ k∨k=L) w1 W1 →
      wpAt P f (some L) assign (Exit.then (fun a₁ w₂=>Ext W1 w₂∧∀ w₃,Keep (fun k=>k=L) w₂ w₃→(∃ r,w₃.heap[L]?=some (.loop r))→I i w₃→wpAt P f (some L) body (handPost I ρ i w₃) a₁ w₃) (fun _ _ _=>False))
        { tmps:=(ps.zip #[enc x]).foldl (fun tmps (t,a)=>tmps.setIfInBounds t a) tmps,defers:=[] } W1) :
    CallsIn Fence.wide n P gf (#[.func (.yield L) #[] #[]] ++ lb) w1 (fun e W'=>e=.returned (.tuple #[])∧Keep (fun k=>ρ k∨k=L) w1 W'∧I xs.length W'∧W'.heap[L]?=some (.loop (recOf f tmps ps assign body DD .ready none))):=by
  have lL:L<w1.heap.size:=(Array.getElem?_eq_some_iff.1 hl).1
  refine (hs L n (fun k=>ρ k∨k=L) (fun i W=>I i W∧Keep (fun k=>ρ k∨k=L) w1 W∧W.heap[L]?=some (.loop (recOf f tmps ps assign body DD .ready none))) ?_ ?_ ?_).mono ?_
  · rintro k hk (h | h)
    · exact (hD k hk).1 h
    · exact (hD k hk).2 h
  · rintro m i W1 x hx ⟨h1,hkk,h3⟩
    refine yieldAt_of hf h3 (by simp [hps]) ?_
    refine wpAt_mono (hb i x W1 hx h1 hkk) ?_
    intro e a w2 hq
    cases e with
    | normal =>
      obtain ⟨hx2,hbody⟩:=hq
      refine ⟨hx2.block h3,?_⟩
      have lL2:L<w2.heap.size:=Nat.lt_of_lt_of_le (Nat.lt_of_lt_of_le lL hkk.size) hx2.size
      have kb:Keep (fun k=>k=L) w2 (w2.putObj L (.loop (recOf f tmps ps assign body DD .busy none))):=Keep.putObj _ _ _ _ rfl
      have l3:(w2.putObj L (.loop (recOf f tmps ps assign body DD .busy none))).heap[L]?=some (.loop (recOf f tmps ps assign body DD .busy none)):=World.putObj_heap_same lL2
      have k13:Keep (fun k=>k=L) W1 (w2.putObj L (.loop (recOf f tmps ps assign body DD .busy none))):=(Keep.of_ext hx2:Keep (fun k=>k=L) W1 w2).trans kb (fun _ _ h=>h)
      have hi3:=hI i W1 _ h1 k13
      have kr:=k13.mono (S':=fun k=>ρ k∨k=L) (fun k e=>Or.inr e)
      refine wpAt_mono (hbody _ kb ⟨_,l3⟩ hi3) ?_
      intro e a' w' hq'
      cases e with
      | normal =>
        obtain ⟨hi',hk'⟩:=hq'
        have l4:w'.heap[L]?=some (.loop (recOf f tmps ps assign body DD .busy none)):=(hk'.block L (by simpa using lL2) nL).trans l3
        have lL4:L<w'.heap.size:=(Array.getElem?_eq_some_iff.1 l4).1
        have kc:Keep (fun k=>k=L) w' (w'.putObj L (.loop (recOf f tmps ps assign body DD .ready none))):=Keep.putObj _ _ _ _ rfl
        have kall:=(kr.trans (hk'.mono (S':=fun k=>ρ k∨k=L) (fun k h=>Or.inl h)) (fun _ _ h=>h)).trans (kc.mono (S':=fun k=>ρ k∨k=L) (fun k h=>Or.inr h)) (fun _ _ h=>h)
        exact ⟨_,_,l4,kall,rfl,hI _ w' _ hi' kc,hkk.trans kall (fun _ _ h=>h),World.putObj_heap_same lL4⟩
      | ret=>exact hq'.elim
      | exit _=>exact hq'.elim
      | goto _=>exact hq'.elim
      | panic _=>exact hq'.elim
      | outgrown=>exact hq'.elim
    | exit _=>exact hq.elim
    | goto _=>exact hq.elim
    | ret=>exact hq.elim
    | panic _=>exact hq.elim
    | outgrown=>exact hq.elim
  · exact ⟨h0,Keep.refl _ _,hl⟩
  · rintro e W' ⟨rfl,hk,hi,_,hll⟩
    exact ⟨rfl,hk,hi,hll⟩
theorem wpAt_hand {α:Type} {fnc:Func} (hf:P.funcs[f]?=some fnc) {g:Operand} {ps:Array Tmp} {assign body:Code} {Q:Exit→Act→World→Prop} {a:Act} {w:World} {gf:Nat} {lb:Array Value} (hg:a.eval g=.func (.func gf) #[] lb)
    (eg:∀ args w,(callFunc gf args).run P w=.ok (.enter gf args) w) {enc:α→Value} {xs:List α} {D:Nat→Prop} (ρ:Nat→Prop) (I:Nat→World→Prop)
    (hs:∀ w1,Ext w w1→Hands P gf lb enc xs D w1) (hps:ps.size=1)
    (hD:∀ k,D k→k<w.heap.size∧¬ ρ k) (hρ:∀ k,ρ k→k<w.heap.size∨w.heap.size+2≤k)
    (hI:∀ i W1 W2,I i W1→Keep (fun k=>k=w.heap.size∨k=w.heap.size+1) W1 W2→I i W2)
    (h0:I 0 w)
    (hb:∀ i x w1 W1,xs[i]?=some x→Ext w w1→I i W1→Keep (fun k=>ρ k∨w.heap.size≤k) w W1→w.heap.size+1<W1.heap.size →
      wpAt P f (some (w.heap.size+1)) assign (Exit.then (fun a₁ w₂=>Ext W1 w₂∧∀ w₃,Keep (fun k=>k=w.heap.size+1) w₂ w₃→(∃ r,w₃.heap[w.heap.size+1]?=some (.loop r))→I i w₃→wpAt P f (some (w.heap.size+1)) body (handPost I ρ i w₃) a₁ w₃) (fun _ _ _=>False))
        { tmps:=(ps.zip #[enc x]).foldl (fun tmps (t,a)=>tmps.setIfInBounds t a) a.tmps,defers:=[] } W1)
    (hend:∀ W',I xs.length W'→Keep (fun k=>ρ k∨w.heap.size≤k) w W'→W'.heap[w.heap.size]?=some (.deferred (some []))→Q .normal { a with defers := { target:=.collected w.heap.size,args:=#[] } :: a.defers } W') :
    wpAt P f none (.rangeFunc g ps assign body) Q a w:=by
  refine wpAt_range (n:=1) hg eg ?_
  obtain ⟨w1,hw1⟩:∃ w1,(w.alloc (.deferred (some []))).alloc (.loop (recOf f a.tmps ps assign body w.heap.size .ready none))=w1:=⟨_,rfl⟩
  have x1:Ext w w1:=by rw [← hw1];exact (Ext.alloc _ _).trans (Ext.alloc _ _)
  have hsz:w1.heap.size=w.heap.size+2:=by rw [← hw1];simp
  have hdd:w1.heap[w.heap.size]?=some (.deferred (some [])):=by rw [← hw1];exact (Ext.alloc _ _).block (World.alloc_heap_new w _)
  have hl:w1.heap[w.heap.size+1]?=some (.loop (recOf f a.tmps ps assign body w.heap.size .ready none)):=by
    rw [← hw1]
    have:=World.alloc_heap_new (w.alloc (.deferred (some []))) (.loop (recOf f a.tmps ps assign body w.heap.size .ready none))
    rw [show (w.alloc (.deferred (some []))).heap.size=w.heap.size+1 by simp] at this
    exact this
  rw [hw1]
  have k0:∀ {W':World},Keep (fun k=>ρ k∨k=w.heap.size+1) w1 W'→Keep (fun k=>ρ k∨w.heap.size≤k) w W':=fun hk =>
    (Keep.of_ext x1:Keep (fun k=>ρ k∨w.heap.size≤k) w w1).trans (hk.mono (S':=fun k=>ρ k∨w.heap.size≤k) (fun k h=>h.elim Or.inl (fun e=>Or.inr (by omega)))) (fun _ _ h=>h)
  refine (hand_core hf (w.heap.size+1) (hs w1 x1) hl hps (fun k hk=>⟨(hD k hk).2,fun e=>by have:=(hD k hk).1;omega⟩) (fun h=>by have:=hρ _ h;omega) (fun i W1 W2 h k=>hI i W1 W2 h (k.mono (fun k e=>Or.inr e))) (hI 0 w w1 h0 (Keep.of_ext x1)) (fun i x W1 hx hi hk=>hb i x w1 W1 hx x1 hi (k0 hk) (by have:=hk.size;omega))).mono ?_
  rintro e W' ⟨rfl,hk,hi,hll⟩
  have hz:=hk.size
  have kc:∀ (o:Obj),Keep (fun k=>k=w.heap.size+1) W' (W'.putObj (w.heap.size+1) o):=fun o=>Keep.putObj _ _ _ _ rfl
  refine ⟨.ready,none,hll,by simp,hend _ (hI _ _ _ hi ((kc _).mono (fun k e=>Or.inr e))) (k0 (hk.trans ((kc _).mono (S':=fun k=>ρ k∨k=w.heap.size+1) (fun k e=>Or.inr e)) (fun _ _ h=>h))) ?_⟩
  rw [World.putObj_heap_other (by omega),hk.block w.heap.size (by omega) (fun h=>h.elim (fun h=>by have:=hρ _ h;omega) (fun e=>by omega))]
  exact hdd
end Go.Proofs.YtligiddaampneaaGreat
set_option maxRecDepth 100000
set_option maxHeartbeats 4000000
namespace Go.Proofs.YtligiddaampneaaGreat
open Go.RowKit
attribute [local go_sem] Oper.semAt_some
def upto (f:Nat→Bool) (p:Nat):List Nat:=(List.range p).filter f
theorem upto_succ (f:Nat→Bool) (p:Nat):upto f (p+1)=upto f p ++ (if f p=true then [p] else []):=by
 unfold upto
 rw [List.range_succ,List.filter_append]
 congr 1
 cases h:f p with
 | true=>rw [if_pos rfl,List.filter_cons_of_pos h];rfl
 | false=>rw [if_neg (by decide),List.filter_cons_of_neg (by rw [h];decide)];rfl
theorem upto_at {f:Nat→Bool} {p T:Nat} (h:f p=true) (hp:p<T):(upto f T)[(upto f p).length]?=some p:=by
 obtain ⟨d,rfl⟩:∃ d,T=p+1+d:=⟨T - (p+1),by omega⟩
 have e:upto f (p+1+d)=upto f p ++ (p :: (((List.range d).map (p+1 + ·)).filter f)):=by
  show (List.range (p+1+d)).filter f=_
  rw [List.range_add,List.filter_append]
  show upto f (p+1) ++ _=_
  rw [upto_succ,if_pos h,List.append_assoc]
  rfl
 rw [e,List.getElem?_append_right (Nat.le_refl _),Nat.sub_self]
 rfl
theorem WordsIn.same1 {W W':World} {n0:Nat} {v:Value} {ws:List Nat} (h:WordsIn W n0 v ws) (hk:∀ k,v.ownBlock=some k→W'.heap[k]?=W.heap[k]?):WordsIn W' n0 v ws :=
 ⟨⟨h.tab.row.same0 fun q e _=>hk q e,h.tab.len,h.tab.blk⟩,h.lt⟩
theorem each1_in {W:World} {n0 bs:Nat} {u:Value} {ws:List Nat} (hc:W.cell? ⟨bs,0,none⟩=some u) (hw:WordsIn W n0 u ws) (hn:n0≤W.heap.size) (hl:ws.length≤1024) :
  Hands Tryz.prog 142 #[.pointer (some ⟨bs,0,none⟩)] (fun n:Nat=>.int .i64 (n:Int)) (upto (hasW ws) (ws.length * 64)) (fun k=>k=bs∨u.ownBlock=some k) W:=by
 intro Ll n ρ I hρ hY h0
 refine callsIn_of_wp Tryz.func142 rfl trivial ?_
 simp only [Tryz.ntmps142,List.size_toArray,List.length_cons,List.length_nil,Nat.reduceAdd,Nat.reduceSub,Array.replicate_succ,Array.replicate_zero,List.push_toArray,List.append_toArray,List.nil_append,List.cons_append]
 obtain ⟨a,cap,rfl,hl1,hl2⟩:=hw.form
 unfold maxLen at hl2
 have HW:=qh hw
 have HY:=qh hY
 have HP:=qh hρ
 have start:Hid (I (upto (hasW ws) (0 * 64)).length W∧Keep ρ W W):=qh ⟨h0,Keep.refl _ _⟩
 clear hw hY hρ h0
 gi_wp2_with fail
 gi_loopw [9] (fun iv wr=>∃ i:Nat,i≤ws.length∧iv=.int .i64 i∧Hid (I (upto (hasW ws) (i * 64)).length wr∧Keep ρ W wr)) (fun iv _=>ws.length - (intOf iv).toNat)
 case atStart=>exact ⟨0,by omega,rfl,start⟩
 case round =>
  clear start
  obtain ⟨i,hi,rfl,hin⟩:=hrel
  rename World=>w2
  by_cases hli:i<ws.length
  ·have hiz:(i:Int)<(ws.length:Int):=by omega
   obtain ⟨w,hww⟩:∃ x,ws[i]?=some x:=⟨_,lE hli⟩
   obtain ⟨b,off,cap2,e,_,_,c0⟩:=(HW.out.same1 (W':=w2) fun k e=>hin.out.2.block k (Nat.lt_of_lt_of_le (HW.out.tab.blk k e (fun e2=>by rw [List.map_eq_nil_iff] at e2;rw [e2] at hli;simp at hli)) hn) (HP.out k (Or.inr e))).at hww
   cases e
   have HWW:=qh hww
   have start2:Hid (I (upto (hasW ws) (i * 64+0)).length w2∧Keep ρ W w2):=hin
   clear hww hin
   gi_wp2_with fail
   gi_loopw [14] (fun kv wr=>∃ k:Nat,k≤64∧kv=.int .i64 k∧Hid (I (upto (hasW ws) (i * 64+k)).length wr∧Keep ρ W wr)) (fun kv _=>64 - (intOf kv).toNat)
   case atStart=>exact ⟨0,by omega,rfl,start2⟩
   case round =>
    clear start2
    obtain ⟨k,hk,rfl,hin⟩:=hrel
    rename World=>w3
    by_cases hlk:k<64
    ·have hkz:(k:Int)<64:=by omega
     have hb:=bit_one (k:=k) (HW.out.lt w (List.mem_of_getElem? HWW.out))
     have hhas:hasW ws (i * 64+k)=w.testBit k:=by
      rw [hasW_at (w:=w) (by rw [show (i * 64+k) / 64=i by omega];exact HWW.out),show (i * 64+k) % 64=k by omega]
     have hsu:=upto_succ (hasW ws) (i * 64+k)
     cases ht:w.testBit k with
     | true =>
      rw [ht] at hb hhas
      rw [if_pos hhas] at hsu
      have hy:=HY.out (n - 1) (upto (hasW ws) (i * 64+k)).length w3 (i * 64+k) (upto_at hhas (by have:(i+1) * 64≤ws.length * 64:=Nat.mul_le_mul_right 64 hli;omega)) hin.out.1
      obtain ⟨fn,tm,asg,bdy,hyr,hR⟩:=hy
      rw [show ((i * 64+k:Nat):Int)=(i:Int) * 64+(k:Int) by omega] at hyr
      have hR:=qh hR
      have KW:=qh hin.out.2
      have HSU:=qh hsu
      clear hin ht hhas hsu
      gi_wp2_with fail
      refine ⟨(fun h=>by cases h),?_⟩
      refine RoundIn.mono hR.out ?_
      clear hR
      rintro e w8 ⟨k8,rfl,hij⟩
      have J8:=qh hij
      have K8:=qh k8
      clear hij k8
      gi_wp2_with fail
      go_roundw
      case rel=>exact ⟨k+1,by omega,by go_num,qh ⟨by rw [← Nat.add_assoc,HSU.out,List.length_append];exact J8.out,KW.out.trans K8.out (fun _ _ h=>h)⟩⟩
      case measure=>simp [intOf];omega
     | false =>
      rw [ht] at hb hhas
      rw [if_neg (by rw [hhas];decide),List.append_nil] at hsu
      have HSU:=qh hsu
      clear ht hhas hsu
      gi_wp2_with fail
      refine ⟨(fun f h=>by cases h),?_⟩
      gi_wp2_with fail
      go_roundw
      case rel=>exact ⟨k+1,by omega,by go_num,qh ⟨by rw [← Nat.add_assoc,HSU.out];exact hin.out.1,hin.out.2⟩⟩
      case measure=>simp [intOf];omega
    ·have hkz:¬ (k:Int)<64:=by omega
     have hke:k=64:=by omega
     have HKE:=qh hke
     clear hke
     gi_wp2_with fail
     go_roundw
     case rel=>exact ⟨i+1,by omega,by go_num,qh ⟨by have:=hin.out.1;rw [HKE.out] at this;rw [show (i+1) * 64=i * 64+64 by omega];exact this,hin.out.2⟩⟩
     case measure=>simp [intOf];omega
  ·have hiz:¬ (i:Int)<(ws.length:Int):=by omega
   have hie:i=ws.length:=by omega
   have HI:=qh hie
   clear hie
   gi_wp2_with fail
   refine bodyPost_end (results_none rfl _ _ _) rfl ?_
   exact ⟨rfl,hin.out.2,by have:=hin.out.1;rw [HI.out] at this;exact this⟩
end Go.Proofs.YtligiddaampneaaGreat
set_option maxRecDepth 100000
set_option maxHeartbeats 4000000
namespace Go.Proofs.YtligiddaampneaaGreat
open Go.RowKit
attribute [local go_sem] Oper.semAt_some
section
variable {F : Fence} {nF : Nat} {P : Program} (w : World)
theorem wpListIn_append_lies {ops:Array Oper} {rest:List Oper} {o:Oper} {a:Act} {Q:Exit→Act→World→Prop} (hgd:o.guard=none) (s x:Operand) (t:TypeId)
  (ho:o.op=.call { callee:=.builtin .append,args:=#[s,x],argTypes:=#[t,t] })
  (base:Nat) (e:TypeId) (i:TypeInfo) (z:Value) (size bytes:Nat) (ht:P.underlying t=some (.slice e)) (hi:P.info? e=some i) (hz:i.zero=some z)
  (hsize:i.size=size) (hby:i.bytes=bytes) (hzs:z.cells.size=size) (hsz:0<size)
  (v:Value) (n:Nat) (xs:List Value) (hs:a.eval s=v) (hown:w.ownsRow base e size v n xs)
  (ad:Addr) (m c:Nat) (news:List Value) (hx:a.eval x=.slice (some ad) m c) (hl:news.length=m * size) (hnews:∀ j u,news[j]?=some u→w.cell? (ad.add j)=some u) (h1:∀ u∈news,u.oneCell'=true)
  (hm:0<m) (h63:n+m≤maxLen) (hbytes:(n+m) * bytes≤140737488355328) (hbase:base≤w.heap.size) (H:Nat) (hH:w.heap.size=H)
  (h:∀ g cap w',w'.ownsRow base e size (.slice (some ⟨g,0,none⟩) (n+m) cap) (n+m) (xs ++ news)→w.grownBy w' v.ownBlock→(v.ownBlock=some g∨g=H)→g<w'.heap.size→wpListIn F nF P ops Q rest (a.put o.dst (.slice (some ⟨g,0,none⟩) (n+m) cap)) w'):wpListIn F nF P ops Q (o :: rest) a w:=by
 refine wpListIn_plain hgd fun K hK=>?_
 obtain ⟨g,cap,w',hr,h2,h3,h4,h5⟩:=run_append_lies (P:=P) w t o.type base e i z size bytes ht hi hz hsize hby hzs hsz v n xs hown ad m c news hl hnews h1 hm h63 hbytes hbase H hH
 unfold Oper.wpIn
 refine ⟨by simp [Oper.about,ho,resolve,Target.leads,Sem.run_pure],?_⟩
 rw [Oper.semAt_plain F _ _ (by rw [ho];intro c hc';cases hc')]
 simp [execOp,ho,resolve,invoke,builtin,hs,hx,hr,Result.andThen]
 exact hK _ _ (h g cap w' h2 h3 h4 h5)
end
theorem each_any (u:Value) (W:World) (a:Option Addr) (n c:Nat) (hu:u=.slice a n c):Calls Tryz.prog 114 #[.agg #[u]] W fun e W' =>
  e=.returned (.func (.func 142) #[] #[.pointer (some ⟨W.heap.size,0,none⟩)])∧Ext W W'∧W.heap.size<W'.heap.size∧W'.cell? ⟨W.heap.size,0,none⟩=some u:=by
 subst hu
 go_enter Tryz.func114,Tryz.ntmps114
 go_wp2
 go_ret
 exact ⟨rfl,Ext.alloc _ _,by simp,cell_new W #[.slice a n c] 78 0⟩
theorem list_set {W:World} {u:Value} {f:Nat→Bool} (h:SetIn W u f) :
  Calls Tryz.prog 84 #[.agg #[u]] W fun e W'=>∃ v T,e=.returned v∧(∀ n,f n=true→n<T)∧W'.ownsRow W.heap.size 3 1 v (upto f T).length ((upto f T).map fun n:Nat=>Value.int .i64 (n:Int))∧Ext W W':=by
 obtain ⟨ws,hw,hu,hl,hf⟩:=h
 obtain rfl:hasW ws=f:=funext hf
 obtain ⟨a,cap,rfl,hl1,hl2⟩:=hw.form
 obtain ⟨iI,hiI,zI0,zI1,zI2⟩:=info_parts infoI
 have x1:Ext W ((W.alloc (.cells #[.slice a ws.length cap] 78)).alloc (.cells #[.slice none 0 0] 36)):=(Ext.alloc _ _).trans (Ext.alloc _ _)
 obtain ⟨c1,c2⟩:=cells_two W [.slice a ws.length cap] [.slice none 0 0] 78 36
 have d0:=c1 0 _ rfl
 have b2:((W.alloc (.cells #[.slice a ws.length cap] 78)).alloc (.cells #[.slice none 0 0] 36)).heap[W.heap.size+1]?=some (.cells #[.slice none 0 0] 36 (0,0)):=by
  have:=heap_alloc_new (W.alloc (.cells #[.slice a ws.length cap] 78)) (.cells #[.slice none 0 0] 36)
  rw [show (W.alloc (.cells #[.slice a ws.length cap] 78)).heap.size=W.heap.size+1 by simp] at this
  exact this
 have HW:=qh hw
 have HU:=qh hu
 clear hw hu c1 c2 hf
 refine calls_of_wpAt Tryz.func84 rfl ?_
 simp only [Tryz.ntmps84,List.size_toArray,List.length_cons,List.length_nil,Nat.reduceAdd,Nat.reduceSub,Array.replicate_succ,Array.replicate_zero,List.push_toArray,List.append_toArray,List.nil_append,List.cons_append]
 refine wpAt_seq (wpAt_of_wp (wp_hide (fun Q1 hQ1=>?_)))
 go_wp2
 refine wpAt_seq (wpAt_of_wp (wp_hide (fun Q2 hQ2=>?_)))
 go_wp2
 generalize (W.alloc (.cells #[.slice a ws.length cap] 78)).alloc (.cells #[.slice none 0 0] 36)=W1 at x1 d0 b2 ⊢
 generalize hbs:W.heap.size=bs at d0 b2 ⊢
 have X1:=qh x1
 have lb:=(Array.getElem?_eq_some_iff.1 b2).1
 clear x1
 refine wpAt_seq (wpAt_seq (wpAt_of_wp (wp_hide (fun Q3 hQ3=>?_))))
 go_wp2_with (go_at_call 114;refine (each_any _ W1 a ws.length cap rfl).mono ?_;rintro e W2 ⟨rfl,hx2,hz2,m0⟩;have X2:=qh hx2;have b2:=hx2.block b2;clear hx2)
 refine wpAt_block ?_
 have XX:=qh (X1.out.trans X2.out)
 have NE:Hid (∀ k,(Value.slice a ws.length cap).ownBlock=some k→k<W.heap.size∧k≠bs+1):=qh (fun k e=>by
  obtain ⟨cs,fz,hg⟩:=HU.out k e
  have hlt:=(Array.getElem?_eq_some_iff.1 hg).1
  exact ⟨hlt,fun e2=>by omega⟩)
 refine wpAt_hand (gf:=142) (lb:=#[.pointer (some ⟨W1.heap.size,0,none⟩)]) Tryz.func84 rfl (enters_of Tryz.func142 (by kernel_rfl) rfl)
  (fun k=>k=bs+1∨W2.heap.size+2≤k) (fun i w=>i≤(upto (hasW ws) (ws.length * 64)).length∧∃ aq cq,w.heap[bs+1]?=some (.cells #[.slice aq i cq] 36 (0,0))∧w.ownsRow (W2.heap.size+2) 3 1 (.slice aq i cq) i (((upto (hasW ws) (ws.length * 64)).take i).map fun n:Nat=>Value.int .i64 (n:Int))∧W2.heap.size≤w.heap.size)
  (fun w1 x=>each1_in (n0:=W.heap.size) (x.cell m0) (HW.out.ext (Nat.le_refl _) (XX.out.trans x)) (XX.out.trans x).size hl) rfl ?hD ?hρ ?hI ?h0 ?hb ?hend
 case hD =>
  rintro k (rfl | e)
  ·exact ⟨hz2,by rintro (h | h) <;> omega⟩
  ·have h1:=NE.out k e
   have h2:=XX.out.size
   exact ⟨by omega,by rintro (h | h) <;> omega⟩
 case hρ =>
  rintro k (h | h)
  ·left;omega
  ·right;exact h
 case hI =>
  rintro i A B ⟨h1,aq,cq,h2,h3,h4⟩ k
  exact ⟨h1,aq,cq,(k.block _ (Array.getElem?_eq_some_iff.1 h2).1 (by omega)).trans h2,owns_same h3 (fun q e=>k.block q (h3.lt q e).2 (by have:=(h3.lt q e).1;omega)),Nat.le_trans h4 k.size⟩
 case h0=>exact ⟨Nat.zero_le _,none,0,b2,World.ownsRow_nil _ _ _ _,Nat.le_refl _⟩
 case hb =>
  rintro i x w1 W4 hx x1 hi4 hk4 hz4
  refine wpAt_of_in (n:=1) ?_
  gi_hideQ
  gi_wp2
  refine ⟨Ext.refl _,?_⟩
  rintro W6 k6 ⟨rr,hr6⟩ ⟨hi6,aq,cq,b6,o6,hz6⟩
  have hxl:=(List.getElem?_eq_some_iff.1 hx).1
  have hT:(upto (hasW ws) (ws.length * 64)).length≤ws.length * 64:=by
   have:=List.length_filter_le (hasW ws) (List.range (ws.length * 64))
   rwa [List.length_range] at this
  have hz7:W2.heap.size+2≤W6.heap.size:=by have:=k6.size;omega
  have c6:=cell_of_one b6
  have f6:=free_of_one b6
  have l6:=(Array.getElem?_eq_some_iff.1 b6).1
  have O6:=qh o6
  have B6:=qh b6
  have HX:=qh hx
  clear hi4 hk4 k6 hr6 o6 b6 hx
  refine wpAt_of_in (n:=1) ?_
  gi_wp2_with (refine wpListIn_append_lies _ rfl _ _ 36 rfl (W2.heap.size+2) 3 iI _ 1 8 Tryz.underlying36 hiI zI0 zI1 zI2 rfl (by omega) (.slice aq i cq) i _ rfl (O6.out.alloc _) ⟨W6.heap.size,0,none⟩ 1 1 [.int .i64 (x:Int)] rfl rfl (World.news_of_block (cs:=#[.int .i64 (x:Int)]) (t:=3) (fr:=(0,0)) (heap_alloc_new W6 _)) (by simp [Value.oneCell']) (by omega) (by unfold maxLen;omega) (by omega) (by simp;omega) _ rfl ?_;intro g7 c7 W7 ho7 hg7 ha7 hl7;have k7:Keep (fun k=>W2.heap.size+2≤k) W6 W7:=(Keep.of_ext (Ext.alloc W6 _):Keep (fun k=>W2.heap.size+2≤k) W6 _).trans (Keep.grown hg7 (fun k e=>(O6.out.lt k e).1)) (fun _ _ h=>h);have b7:=(k7.block (bs+1) l6 (by omega)).trans B6.out;have c8:=cell_of_one b7;have f8:=free_of_one b7;have l8:=(Array.getElem?_eq_some_iff.1 b7).1;have K7:=qh k7;have B7:=qh b7;have O7:=qh ho7;clear k7 b7 ho7 hg7 ha7)
  have ks:=Keep.setCell (fun k=>k=bs+1) W7 ⟨bs+1,0,none⟩ (.slice (some ⟨g7,0,none⟩) (i+1) c7) rfl
  refine ⟨⟨by omega,some ⟨g7,0,none⟩,c7,heap_set_cells B7.out 0 _,?_,?_⟩,(K7.out.mono (S':=fun k=>k=bs+1∨W2.heap.size+2≤k) (fun k h=>Or.inr h)).trans (ks.mono (S':=fun k=>k=bs+1∨W2.heap.size+2≤k) (fun k h=>Or.inl h)) (fun _ _ h=>h)⟩
  ·rw [List.take_add_one,HX.out,List.map_append]
   exact owns_same O7.out (fun q e=>ks.block q (O7.out.lt q e).2 (by have:=(O7.out.lt q e).1;omega))
  ·have h1:=K7.out.size
   have h2:=ks.size
   omega
 case hend =>
  rintro W3 ⟨_,aq,cq,b3,o3,hz3⟩ hk hd
  have c3:=cell_of_one b3
  have O3:=qh o3
  have HD:=qh hd
  have XF:=qh (Keep.toExt ((Keep.of_ext XX.out:Keep (fun k=>W.heap.size≤k) W W2).trans hk (fun q _ h=>by have:=XX.out.size;omega)) (fun q h=>h))
  have lo:bs+1<W2.heap.size:=by have:=X2.out.size;omega
  have B3:=qh b3
  clear hk hd b3
  refine wpAt_of_wp ?_
  go_wp2
  refine leaves_mark (v:=.slice aq (upto (hasW ws) (ws.length * 64)).length cq) HD.out (fun w' k5=>by simp [results,Tryz.results84,go_sem]) (fun w' k5=>?_)
  have o3:=O3.out
  rw [List.take_of_length_le (Nat.le_refl _)] at o3
  refine ⟨_,ws.length * 64,rfl,fun n hn=>?_,?_,?_⟩
  ·rcases Nat.lt_or_ge n (ws.length * 64) with h | h
   ·exact h
   ·rw [hasW_out (by omega)] at hn;cases hn
  ·have h2:=XX.out.size
   exact owns_base (owns_same o3 (fun q e=>k5.block q (o3.lt q e).2 (by have:=(o3.lt q e).1;show ¬ q=W2.heap.size;omega))) (by omega)
  ·exact Keep.toExt ((Keep.of_ext XF.out:Keep (fun k=>W.heap.size≤k) W W3).trans k5 (fun q _ (e:q=W2.heap.size)=>by have:=XX.out.size;omega)) (fun q h=>h)
end Go.Proofs.YtligiddaampneaaGreat
