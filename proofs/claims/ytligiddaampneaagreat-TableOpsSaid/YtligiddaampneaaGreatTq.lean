/- A range over a function that is gone through in order, to its end: what is so is told by how many elements have come. For iterators that lay no blocks. -/
import Derived.Test.YtligiddaampneaaGreatMgE
namespace Go.Proofs.YtligiddaampneaaGreat
open Go
open Go.RowKit
variable {P : Program} {f : FuncId} {ro : Option Nat}
def Hands {α:Type} (P:Program) (g:Nat) (lb:Array Value) (enc:α→Value) (xs:List α) (D:Nat→Prop) (W:World):Prop :=
 ∀ (L n:Nat) (ρ:Nat→Prop) (I:Nat→World→Prop),
  (∀ k,D k→¬ ρ k) →
  (∀ m i W1 x,xs[i]?=some x→I i W1→YieldAt Fence.wide m P L #[enc x] W1 (fun e W2=>Keep ρ W1 W2∧e=.returned (.bool true)∧I (i+1) W2)) →
  I 0 W →
  CallsIn Fence.wide n P g (#[.func (.yield L) #[] #[]] ++ lb) W (fun e W'=>e=.returned (.tuple #[])∧Keep ρ W W'∧I xs.length W')
def handPost (I:Nat→World→Prop) (ρ:Nat→Prop) (i:Nat) (w:World):Exit→Act→World→Prop
 | .normal,_,w'=>I (i+1) w'∧Keep ρ w w'
 | _,_,_=>False
theorem hand_core {α:Type} {fnc:Func} (hf:P.funcs[f]?=some fnc) {tmps:Array Value} {ps:Array Tmp} {assign body:Code} {DD gf n:Nat} {lb:Array Value} {enc:α→Value} {xs:List α} {D ρ:Nat→Prop} {w1:World} (L:Nat) {I:Nat→World→Prop}
    (hs:Hands P gf lb enc xs D w1) (hl:w1.heap[L]?=some (.loop (recOf f tmps ps assign body DD .ready none))) (hps:ps.size=1)
    (hD:∀ k,D k→¬ ρ k∧k≠L) (nL:¬ ρ L)
    (hI:∀ i W1 W2,I i W1→Keep (fun k=>k=L) W1 W2→I i W2)
    (h0:I 0 w1)
    (hb:∀ i x W1,xs[i]?=some x→I i W1→Keep (fun k=>ρ k∨k=L) w1 W1 →
      wpAt P f (some L) assign (Exit.then (fun a₁ w₂=>Ext W1 w₂∧∀ w₃,Keep (fun k=>k=L) w₂ w₃→(∃ r,w₃.heap[L]?=some (.loop r))→I i w₃→wpAt P f (some L) body (handPost I ρ i w₃) a₁ w₃) (fun _ _ _=>False))
        { tmps:=(ps.zip #[enc x]).foldl (fun tmps (t,a)=>tmps.setIfInBounds t a) tmps,defers:=[] } W1) :
    CallsIn Fence.wide n P gf (#[.func (.yield L) #[] #[]] ++ lb) w1 (fun e W'=>e=.returned (.tuple #[])∧Keep (fun k=>ρ k∨k=L) w1 W'∧I xs.length W'∧W'.heap[L]?=some (.loop (recOf f tmps ps assign body DD .ready none))):=by
  have lL:L<w1.heap.size:=(Array.getElem?_eq_some_iff.1 hl).1
  refine (hs L n (fun k=>ρ k∨k=L) (fun i W=>I i W∧Keep (fun k=>ρ k∨k=L) w1 W∧W.heap[L]?=some (.loop (recOf f tmps ps assign body DD .ready none))) ?_ ?_ ?_).mono ?_
  · rintro k hk (h | h)
    · exact (hD k hk).1 h
    · exact (hD k hk).2 h
  · rintro m i W1 x hx ⟨h1,hkk,h3⟩
    refine yieldAt_of hf h3 (by simp [hps]) ?_
    refine wpAt_mono (hb i x W1 hx h1 hkk) ?_
    intro e a w2 hq
    cases e with
    | normal =>
      obtain ⟨hx2,hbody⟩:=hq
      refine ⟨hx2.block h3,?_⟩
      have lL2:L<w2.heap.size:=Nat.lt_of_lt_of_le (Nat.lt_of_lt_of_le lL hkk.size) hx2.size
      have kb:Keep (fun k=>k=L) w2 (w2.putObj L (.loop (recOf f tmps ps assign body DD .busy none))):=Keep.putObj _ _ _ _ rfl
      have l3:(w2.putObj L (.loop (recOf f tmps ps assign body DD .busy none))).heap[L]?=some (.loop (recOf f tmps ps assign body DD .busy none)):=World.putObj_heap_same lL2
      have k13:Keep (fun k=>k=L) W1 (w2.putObj L (.loop (recOf f tmps ps assign body DD .busy none))):=(Keep.of_ext hx2:Keep (fun k=>k=L) W1 w2).trans kb (fun _ _ h=>h)
      have hi3:=hI i W1 _ h1 k13
      have kr:=k13.mono (S':=fun k=>ρ k∨k=L) (fun k e=>Or.inr e)
      refine wpAt_mono (hbody _ kb ⟨_,l3⟩ hi3) ?_
      intro e a' w' hq'
      cases e with
      | normal =>
        obtain ⟨hi',hk'⟩:=hq'
        have l4:w'.heap[L]?=some (.loop (recOf f tmps ps assign body DD .busy none)):=(hk'.block L (by simpa using lL2) nL).trans l3
        have lL4:L<w'.heap.size:=(Array.getElem?_eq_some_iff.1 l4).1
        have kc:Keep (fun k=>k=L) w' (w'.putObj L (.loop (recOf f tmps ps assign body DD .ready none))):=Keep.putObj _ _ _ _ rfl
        have kall:=(kr.trans (hk'.mono (S':=fun k=>ρ k∨k=L) (fun k h=>Or.inl h)) (fun _ _ h=>h)).trans (kc.mono (S':=fun k=>ρ k∨k=L) (fun k h=>Or.inr h)) (fun _ _ h=>h)
        exact ⟨_,_,l4,kall,rfl,hI _ w' _ hi' kc,hkk.trans kall (fun _ _ h=>h),World.putObj_heap_same lL4⟩
      | ret=>exact hq'.elim
      | exit _=>exact hq'.elim
      | goto _=>exact hq'.elim
      | panic _=>exact hq'.elim
      | outgrown=>exact hq'.elim
    | exit _=>exact hq.elim
    | goto _=>exact hq.elim
    | ret=>exact hq.elim
    | panic _=>exact hq.elim
    | outgrown=>exact hq.elim
  · exact ⟨h0,Keep.refl _ _,hl⟩
  · rintro e W' ⟨rfl,hk,hi,_,hll⟩
    exact ⟨rfl,hk,hi,hll⟩
theorem wpAt_hand {α:Type} {fnc:Func} (hf:P.funcs[f]?=some fnc) {g:Operand} {ps:Array Tmp} {assign body:Code} {Q:Exit→Act→World→Prop} {a:Act} {w:World} {gf:Nat} {lb:Array Value} (hg:a.eval g=.func (.func gf) #[] lb)
    (eg:∀ args w,(callFunc gf args).run P w=.ok (.enter gf args) w) {enc:α→Value} {xs:List α} {D:Nat→Prop} (ρ:Nat→Prop) (I:Nat→World→Prop)
    (hs:∀ w1,Ext w w1→Hands P gf lb enc xs D w1) (hps:ps.size=1)
    (hD:∀ k,D k→k<w.heap.size∧¬ ρ k) (hρ:∀ k,ρ k→k<w.heap.size∨w.heap.size+2≤k)
    (hI:∀ i W1 W2,I i W1→Keep (fun k=>k=w.heap.size∨k=w.heap.size+1) W1 W2→I i W2)
    (h0:I 0 w)
    (hb:∀ i x w1 W1,xs[i]?=some x→Ext w w1→I i W1→Keep (fun k=>ρ k∨w.heap.size≤k) w W1→w.heap.size+1<W1.heap.size →
      wpAt P f (some (w.heap.size+1)) assign (Exit.then (fun a₁ w₂=>Ext W1 w₂∧∀ w₃,Keep (fun k=>k=w.heap.size+1) w₂ w₃→(∃ r,w₃.heap[w.heap.size+1]?=some (.loop r))→I i w₃→wpAt P f (some (w.heap.size+1)) body (handPost I ρ i w₃) a₁ w₃) (fun _ _ _=>False))
        { tmps:=(ps.zip #[enc x]).foldl (fun tmps (t,a)=>tmps.setIfInBounds t a) a.tmps,defers:=[] } W1)
    (hend:∀ W',I xs.length W'→Keep (fun k=>ρ k∨w.heap.size≤k) w W'→W'.heap[w.heap.size]?=some (.deferred (some []))→Q .normal { a with defers := { target:=.collected w.heap.size,args:=#[] } :: a.defers } W') :
    wpAt P f none (.rangeFunc g ps assign body) Q a w:=by
  refine wpAt_range (n:=1) hg eg ?_
  obtain ⟨w1,hw1⟩:∃ w1,(w.alloc (.deferred (some []))).alloc (.loop (recOf f a.tmps ps assign body w.heap.size .ready none))=w1:=⟨_,rfl⟩
  have x1:Ext w w1:=by rw [← hw1];exact (Ext.alloc _ _).trans (Ext.alloc _ _)
  have hsz:w1.heap.size=w.heap.size+2:=by rw [← hw1];simp
  have hdd:w1.heap[w.heap.size]?=some (.deferred (some [])):=by rw [← hw1];exact (Ext.alloc _ _).block (World.alloc_heap_new w _)
  have hl:w1.heap[w.heap.size+1]?=some (.loop (recOf f a.tmps ps assign body w.heap.size .ready none)):=by
    rw [← hw1]
    have:=World.alloc_heap_new (w.alloc (.deferred (some []))) (.loop (recOf f a.tmps ps assign body w.heap.size .ready none))
    rw [show (w.alloc (.deferred (some []))).heap.size=w.heap.size+1 by simp] at this
    exact this
  rw [hw1]
  have k0:∀ {W':World},Keep (fun k=>ρ k∨k=w.heap.size+1) w1 W'→Keep (fun k=>ρ k∨w.heap.size≤k) w W':=fun hk =>
    (Keep.of_ext x1:Keep (fun k=>ρ k∨w.heap.size≤k) w w1).trans (hk.mono (S':=fun k=>ρ k∨w.heap.size≤k) (fun k h=>h.elim Or.inl (fun e=>Or.inr (by omega)))) (fun _ _ h=>h)
  refine (hand_core hf (w.heap.size+1) (hs w1 x1) hl hps (fun k hk=>⟨(hD k hk).2,fun e=>by have:=(hD k hk).1;omega⟩) (fun h=>by have:=hρ _ h;omega) (fun i W1 W2 h k=>hI i W1 W2 h (k.mono (fun k e=>Or.inr e))) (hI 0 w w1 h0 (Keep.of_ext x1)) (fun i x W1 hx hi hk=>hb i x w1 W1 hx x1 hi (k0 hk) (by have:=hk.size;omega))).mono ?_
  rintro e W' ⟨rfl,hk,hi,hll⟩
  have hz:=hk.size
  have kc:∀ (o:Obj),Keep (fun k=>k=w.heap.size+1) W' (W'.putObj (w.heap.size+1) o):=fun o=>Keep.putObj _ _ _ _ rfl
  refine ⟨.ready,none,hll,by simp,hend _ (hI _ _ _ hi ((kc _).mono (fun k e=>Or.inr e))) (k0 (hk.trans ((kc _).mono (S':=fun k=>ρ k∨k=w.heap.size+1) (fun k e=>Or.inr e)) (fun _ _ h=>h))) ?_⟩
  rw [World.putObj_heap_other (by omega),hk.block w.heap.size (by omega) (fun h=>h.elim (fun h=>by have:=hρ _ h;omega) (fun e=>by omega))]
  exact hdd
end Go.Proofs.YtligiddaampneaaGreat
