/- A part of the proof, joined of several texts: mdcheck: ranges over functions, what an operand may be. No condition. -/
import Derived.Deep.RegionHeld
import Derived.OrdersIn
import Derived.RangeFuncIn
import Derived.Test.YtligiddaampneaaGreatMgA
import Derived.Test.YtligiddaampneaaGreatMgD
import Derived.RangeFuncNested
import Derived.LoopIn
import Derived.LoopNIn
import Derived.TacticsInMore
import Derived.Shelf.Abstract
set_option maxRecDepth 100000
set_option maxHeartbeats 4000000
section
namespace Go.Proofs.YtligiddaampneaaGreat
open Go
section
variable {F : Fence} {n : Nat} {P : Program} {ops : Array Oper} {Q : Exit → Act → World → Prop} {md : Region.Mode} {S : World → Prop} {m : Nat}
structure Open (F:Fence) (ops:Array Oper):Prop where
 fn:∀ f,F.fn f
 nd:∀ (j:Nat) (o:Oper) c,ops[j]?=some o→o.op≠.defer c
def noDeferB (ops:Array Oper):Bool:=ops.all fun o=>match o.op with | .defer _=>false | _=>true
theorem open_of (hF:∀ f,F.fn f) (h:noDeferB ops=true):Open F ops:=by
 refine ⟨hF,fun j o c ho e=>?_⟩
 have hlt:=(Array.getElem?_eq_some_iff.1 ho).1
 have:=Array.all_eq_true'.1 h o (by rw [← (Array.getElem?_eq_some_iff.1 ho).2];exact Array.getElem_mem _)
 rw [e] at this
 cases this
theorem YieldsIf.wpOpIn {i:Nat} {o:Oper} {v:Value} {a:Act} (hO:Open F ops) (hi:ops[i]?=some o) (hy:YieldsIf P ops S o v a)
  {K:Act→World→Prop} {w:World} (hS:S w) (h:K (a.put o.dst v) w):wpOpIn F n P ops Q i K a w:=by
 unfold Go.wpOpIn
 simp only [hi]
 rcases hy with ⟨hw,hv⟩ | ⟨hw,rfl⟩
 ·simp only [hw,if_true,Oper.wpIn,Oper.semAt_eq _ _ _ (fun c=>hO.nd i o c hi),hv w hS,Oper.uponIn];exact ⟨fun f _=>hO.fn f,h⟩
 ·simp only [hw,Bool.false_eq_true,if_false];exact ⟨fun f _=>hO.fn f,h⟩
theorem wpOpIn_putIf {j:Nat} {oi oj:Oper} {v:Value} (hO:Open F ops) (hj:ops[j]?=some oj) (hap:oi.apart ops oj=true)
  (hsi:∀ cs b,oi.op≠.select cs b) (hsj:∀ cs b,oj.op≠.select cs b)
  (hQ:∀ c a w,Q (.panic c) (a.put oi.dst v) w→Q (.panic c) a w) {K:Act→World→Prop} {a:Act} {w:World}
  (hy:YieldsIf P ops S oi v a) (h:wpOpIn F n P ops Q j K (a.put oi.dst v) w) :
  wpOpIn F n P ops Q j (fun a' w'=>YieldsIf P ops S oi v a'∧K (a'.put oi.dst v) w') a w:=by
 obtain ⟨h1,h2,h3⟩:=Oper.apart_spec hap
 have keep:∀ (a:Act),YieldsIf P ops S oi v a→∀ u,YieldsIf P ops S oi v (a.put oj.dst u):=fun a hy u =>
  hy.of_same (execOp_put oi hsi a oj.dst u h3) (wanted_put oi a oj.dst u h3)
 have hj':=hj
 unfold wpOpIn at h ⊢
 simp only [hj] at h ⊢
 rw [wanted_put oj a oi.dst v h1] at h
 split
 ·rename_i hw
  simp only [hw,if_true] at h
  unfold Oper.wpIn at *
  refine ⟨fun f _=>hO.fn f,?_⟩
  have h:=h.2
  rw [Oper.semAt_eq _ _ _ (fun c=>hO.nd j oj c hj'),execOp_put oj hsj a oi.dst v h1] at h
  rw [Oper.semAt_eq _ _ _ (fun c=>hO.nd j oj c hj')]
  generalize (execOp a.eval oj).run P w=r at *
  cases r with
  | ok x w' =>
   cases x <;> simp only [Oper.uponIn] at h ⊢
   case value u=>exact ⟨keep a hy u,by rw [← Act.put_comm a v u h2];exact h⟩
   case skip=>exact ⟨keep a hy _,by rw [← Act.put_comm a v undef h2];exact h⟩
   case defer d =>
    refine ⟨(hy.of_same rfl rfl:YieldsIf P ops S oi v { a with defers:=d :: a.defers }).of_same (execOp_put oi hsi _ oj.dst undef h3) (wanted_put oi _ oj.dst undef h3),?_⟩
    rw [← Act.put_comm _ v undef h2,← Act.put_defers]
    exact h
   case enter f args =>
    refine ⟨h.1,CallsIn.mono h.2 fun e w'' he=>?_⟩
    cases e with
    | returned u=>exact ⟨keep a hy u,by rw [← Act.put_comm a v u h2];exact he⟩
    | panicked c=>exact hQ _ _ _ he
    | outgrown=>exact he
   case row row args=>exact ⟨h.1,RowsIn.mono h.2 fun u w'' he=>⟨keep a hy u,by rw [← Act.put_comm a v u h2];exact he⟩⟩
   case round l f tmps assign body =>
    refine ⟨h.1,RoundIn.mono h.2 fun e w'' he=>?_⟩
    cases e with
    | returned u=>exact ⟨keep a hy u,by rw [← Act.put_comm a v u h2];exact he⟩
    | panicked c=>exact hQ _ _ _ he
    | outgrown=>exact he
  | halt x w' =>
   cases x <;> simp only [Oper.uponIn] at h ⊢
   case panic u=>exact hQ _ _ _ h
 ·rename_i hw
  simp only [hw] at h
  exact ⟨fun f _=>hO.fn f,keep a hy _,by rw [← Act.put_comm a v undef h2];exact h.2⟩
def wpAnyX (F:Fence) (n:Nat) (P:Program) (md:Region.Mode) (ops:Array Oper) (Q:Exit→Act→World→Prop) (S:World→Prop) (m:Nat):Nat→Array Bool→Act→World→Prop
 | 0,listed,a,w=>Region.ready md ops listed=[]∧Q .normal a w
 | fuel+1,listed,a,w =>
  (Region.ready md ops listed=[]→Q .normal a w) ∧
  ∀ i∈Region.ready md ops listed,wpOpIn F n P ops Q i (fun a' w'=>((listed.setIfInBounds i true).getD m true=false→S w')∧wpAnyX F n P md ops Q S m fuel (listed.setIfInBounds i true) a' w') a w
theorem wpAnyIn_of_X:∀ (fuel:Nat) (listed:Array Bool) (a:Act) (w:World),wpAnyX F n P md ops Q S m fuel listed a w→wpAnyIn F n P md ops Q fuel listed a w
 | 0,_,_,_,h=>h
 | fuel+1,_,_,_,h=>⟨h.1,fun i hi=>wpOpIn_mono (fun a' w' h'=>wpAnyIn_of_X fuel _ a' w' h'.2) (h.2 i hi)⟩
theorem wpAnyX_first (hO:Open F ops) {i:Nat} {oi:Oper} {v:Value} (hi:ops[i]?=some oi) (f:Nat) (hwait:reachB md ops f m i=true) (him:i≠m) (hsel:∀ (j:Nat) (o:Oper) cs b,ops[j]?=some o→o.op≠.select cs b)
  (hQ:∀ c a w,Q (.panic c) (a.put oi.dst v) w→Q (.panic c) a w) :
  ∀ (fuel:Nat) (listed:Array Bool) (a:Act) (w:World),Closed md ops listed →
   (∀ j oj,ops[j]?=some oj→j≠i→listed.getD j true=false→(∀ e∈oj.after,Region.binds md e=true→e.on≠i)→oi.apart ops oj=true) →
   i∈Region.ready md ops listed→listed.getD m true=false→YieldsIf P ops S oi v a→S w →
   wpAnyX F n P md ops Q S m fuel (listed.setIfInBounds i true) (a.put oi.dst v) w→wpAnyX F n P md ops Q S m (fuel+1) listed a w:=by
 intro fuel
 induction fuel with
 | zero =>
  intro listed a w _ _ hr _ hy hS H
  refine ⟨fun h=>(by rw [h] at hr;cases hr),fun j hj=>?_⟩
  by_cases hji:j=i
  ·subst hji;exact YieldsIf.wpOpIn hO hi hy hS ⟨fun _=>hS,H⟩
  ·have:=ready_mono hj hji
   rw [H.1] at this
   cases this
 | succ fuel ih =>
  intro listed a w hcl hfree hr hm hy hS H
  refine ⟨fun h=>(by rw [h] at hr;cases hr),fun j hj=>?_⟩
  by_cases hji:j=i
  ·subst hji;exact YieldsIf.wpOpIn hO hi hy hS ⟨fun _=>hS,H⟩
  ·have h1:=H.2 j (ready_mono hj hji)
   obtain ⟨hjun,oj,hoj,hall⟩:=mem_ready.1 hj
   have hun:listed.getD i false=true→False:=fun hq=>by
    have h0:=(mem_ready.1 hr).1
    rcases Nat.lt_or_ge i listed.size with h' | h'
    ·simp [h'] at h0 hq;rw [h0] at hq;cases hq
    ·simp [Array.getElem?_eq_none h'] at hq
   have hnot:∀ e∈oj.after,Region.binds md e=true→e.on≠i:=fun e he hb heq=>hun (heq ▸ hall e he hb)
   have hjm:j≠m:=fun e=>by
    subst e
    refine hun ?_
    cases f with
    | zero=>cases hwait
    | succ f =>
     unfold reachB at hwait
     rw [hoj] at hwait
     obtain ⟨e,he,hb⟩:=Array.any_eq_true'.1 hwait
     simp only [Bool.and_eq_true,Bool.or_eq_true,beq_iff_eq,decide_eq_true_eq] at hb
     have hl:=hall e he hb.1
     rcases hb.2 with e1 | e1
     ·rw [← e1];exact hl
     ·exact hcl.reach i f e.on hl e1.2
   have h2:=wpOpIn_putIf hO hoj (hfree j oj hoj hji hjun hnot) (fun cs b=>hsel i oi cs b hi) (fun cs b=>hsel j oj cs b hoj) hQ hy h1
   have hfree':∀ k ok,ops[k]?=some ok→k≠i→(listed.setIfInBounds j true).getD k true=false →
     (∀ e∈ok.after,Region.binds md e=true→e.on≠i)→oi.apart ops ok=true:=fun k ok hk hki hun hno=>by
    refine hfree k ok hk hki ?_ hno
    by_cases hjk:j=k
    ·subst hjk;exact hjun
    ·rw [getD_set_ne true hjk] at hun;exact hun
   have hmj:(listed.setIfInBounds j true).getD m true=false:=by rw [getD_set_ne true hjm];exact hm
   have hmij:((listed.setIfInBounds i true).setIfInBounds j true).getD m true=false:=by rw [getD_set_ne true hjm,getD_set_ne true him];exact hm
   refine wpOpIn_mono (fun a' w' h3=>⟨fun _=>h3.2.1 hmij,ih (listed.setIfInBounds j true) a' w' (hcl.set hj) hfree' (ready_mono hr (Ne.symm hji)) hmj h3.1 (h3.2.1 hmij) ?_⟩) h2
   rw [Array.setIfInBounds_comm _ _ hji]
   exact h3.2.2
theorem wpAnyX_take {l:List Oper} (i:Nat) {oi:Oper} {v:Value} {fuel:Nat} {listed:Array Bool} {a:Act} {w:World} (hi:l[i]?=some oi) (hs:takeB md l.toArray m listed i=true) (hF:∀ f,F.fn f) (hD:noDeferB l.toArray=true)
  (hQ:∀ c a w,Q (.panic c) (a.put oi.dst v) w→Q (.panic c) a w) (hS:S w) (hg:Region.wanted oi (yielded l.toArray a.tmps)=true) (hy:∀ w,S w→(execOp a.eval oi).run P w=.ok (.value v) w)
  (h:wpAnyX F n P md l.toArray Q S m fuel (listed.setIfInBounds i true) (a.put oi.dst v) w):wpAnyX F n P md l.toArray Q S m (fuel+1) listed a w:=by
 simp only [takeB,Bool.and_eq_true,Bool.not_eq_true',bne_iff_ne,ne_eq] at hs
 obtain ⟨h1,h2,h3,h4,h5,h6,h7⟩:=hs
 have hi':l.toArray[i]?=some oi:=by rw [List.getElem?_toArray];exact hi
 exact wpAnyX_first (open_of hF hD) hi' 20 h4 h5 (Region.noSelect_spec h1) hQ fuel listed a w (closed_of h7) (Region.free_spec hi' h2) (by simpa using h3) h6 (Or.inl ⟨hg,hy⟩) hS h
theorem wpAnyX_firstW (hO:Open F ops) {i:Nat} {oi:Oper} {v:Value} (hi:ops[i]?=some oi) (him:i≠m) (hsel:∀ (j:Nat) (o:Oper) cs b,ops[j]?=some o→o.op≠.select cs b)
  (hQ:∀ c a w,Q (.panic c) (a.put oi.dst v) w→Q (.panic c) a w) :
  ∀ (fuel:Nat) (listed:Array Bool) (a:Act) (w:World),
   (∀ j oj,ops[j]?=some oj→j≠i→listed.getD j true=false→(∀ e∈oj.after,Region.binds md e=true→e.on≠i)→oi.apart ops oj=true) →
   i∈Region.ready md ops listed→Yields P ops oi v a→(listed.getD m true=false→S w) →
   wpAnyX F n P md ops Q S m fuel (listed.setIfInBounds i true) (a.put oi.dst v) w→wpAnyX F n P md ops Q S m (fuel+1) listed a w:=by
 have hmi:∀ (listed:Array Bool),(listed.setIfInBounds i true).getD m true=listed.getD m true:=fun listed=>getD_set_ne true him
 intro fuel
 induction fuel with
 | zero =>
  intro listed a w _ hr hy hS H
  refine ⟨fun h=>(by rw [h] at hr;cases hr),fun j hj=>?_⟩
  by_cases hji:j=i
  ·subst hji;exact YieldsIf.wpOpIn hO hi (Yields.yieldsIf (S:=fun _=>True) hy) trivial ⟨fun h=>hS (by rw [hmi] at h;exact h),H⟩
  ·have:=ready_mono hj hji
   rw [H.1] at this
   cases this
 | succ fuel ih =>
  intro listed a w hfree hr hy hS H
  refine ⟨fun h=>(by rw [h] at hr;cases hr),fun j hj=>?_⟩
  by_cases hji:j=i
  ·subst hji;exact YieldsIf.wpOpIn hO hi (Yields.yieldsIf (S:=fun _=>True) hy) trivial ⟨fun h=>hS (by rw [hmi] at h;exact h),H⟩
  ·have h1:=H.2 j (ready_mono hj hji)
   obtain ⟨hjun,oj,hoj,hall⟩:=mem_ready.1 hj
   have hun:listed.getD i false=true→False:=fun hq=>by
    have h0:=(mem_ready.1 hr).1
    rcases Nat.lt_or_ge i listed.size with h' | h'
    ·simp [h'] at h0 hq;rw [h0] at hq;cases hq
    ·simp [Array.getElem?_eq_none h'] at hq
   have hnot:∀ e∈oj.after,Region.binds md e=true→e.on≠i:=fun e he hb heq=>hun (heq ▸ hall e he hb)
   have h2:=wpOpIn_putIf hO hoj (hfree j oj hoj hji hjun hnot) (fun cs b=>hsel i oi cs b hi) (fun cs b=>hsel j oj cs b hoj) hQ (Yields.yieldsIf (S:=fun _=>True) hy) h1
   have hfree':∀ k ok,ops[k]?=some ok→k≠i→(listed.setIfInBounds j true).getD k true=false →
     (∀ e∈ok.after,Region.binds md e=true→e.on≠i)→oi.apart ops ok=true:=fun k ok hk hki hun hno=>by
    refine hfree k ok hk hki ?_ hno
    by_cases hjk:j=k
    ·subst hjk;exact hjun
    ·rw [getD_set_ne true hjk] at hun;exact hun
   have hmij:((listed.setIfInBounds i true).setIfInBounds j true).getD m true=(listed.setIfInBounds j true).getD m true:=by
    rw [Array.setIfInBounds_comm _ _ (Ne.symm hji),hmi]
   rw [hmij] at h2
   refine wpOpIn_mono (fun a' w' h3=>⟨h3.2.1,ih (listed.setIfInBounds j true) a' w' hfree' (ready_mono hr (Ne.symm hji)) (h3.1.imp (fun ⟨a,b⟩=>⟨a,fun w=>b w trivial⟩) id) h3.2.1 ?_⟩) h2
   rw [Array.setIfInBounds_comm _ _ hji]
   exact h3.2.2
theorem wpAnyX_takeW {l:List Oper} (i:Nat) {oi:Oper} {v:Value} {fuel:Nat} {listed:Array Bool} {a:Act} {w:World} (hi:l[i]?=some oi) (hs:takeWB md l.toArray m listed i=true) (hF:∀ f,F.fn f) (hD:noDeferB l.toArray=true)
  (hQ:∀ c a w,Q (.panic c) (a.put oi.dst v) w→Q (.panic c) a w) (hS:listed.getD m true=false→S w) (hg:Region.wanted oi (yielded l.toArray a.tmps)=true) (hy:∀ w,(execOp a.eval oi).run P w=.ok (.value v) w)
  (h:wpAnyX F n P md l.toArray Q S m fuel (listed.setIfInBounds i true) (a.put oi.dst v) w):wpAnyX F n P md l.toArray Q S m (fuel+1) listed a w:=by
 simp only [takeWB,Bool.and_eq_true,bne_iff_ne,ne_eq] at hs
 obtain ⟨h1,h2,h3,h4⟩:=hs
 have hi':l.toArray[i]?=some oi:=by rw [List.getElem?_toArray];exact hi
 exact wpAnyX_firstW (open_of hF hD) hi' h4 (Region.noSelect_spec h1) hQ fuel listed a w (Region.free_spec hi' h2) (by simpa using h3) (Or.inl ⟨hg,hy⟩) hS h
theorem wpAnyX_skip {l:List Oper} (i:Nat) {oi:Oper} {fuel:Nat} {listed:Array Bool} {a:Act} {w:World} (hi:l[i]?=some oi) (hs:takeWB md l.toArray m listed i=true) (hF:∀ f,F.fn f) (hD:noDeferB l.toArray=true)
  (hQ:∀ c a w,Q (.panic c) (a.put oi.dst undef) w→Q (.panic c) a w) (hS:listed.getD m true=false→S w) (hg:Region.wanted oi (yielded l.toArray a.tmps)=false)
  (h:wpAnyX F n P md l.toArray Q S m fuel (listed.setIfInBounds i true) (a.put oi.dst undef) w):wpAnyX F n P md l.toArray Q S m (fuel+1) listed a w:=by
 simp only [takeWB,Bool.and_eq_true,bne_iff_ne,ne_eq] at hs
 obtain ⟨h1,h2,h3,h4⟩:=hs
 have hi':l.toArray[i]?=some oi:=by rw [List.getElem?_toArray];exact hi
 exact wpAnyX_firstW (open_of hF hD) hi' h4 (Region.noSelect_spec h1) hQ fuel listed a w (Region.free_spec hi' h2) (by simpa using h3) (Or.inr ⟨hg,rfl⟩) hS h
def AllX (F:Fence) (n:Nat) (P:Program) (md:Region.Mode) (ops:Array Oper) (Q:Exit→Act→World→Prop) (S:World→Prop) (m fuel:Nat) (listed:Array Bool) (a:Act) (w:World) (rs:List Nat):Prop :=
 ∀ i∈rs,wpOpIn F n P ops Q i (fun a' w'=>((listed.setIfInBounds i true).getD m true=false→S w')∧wpAnyX F n P md ops Q S m fuel (listed.setIfInBounds i true) a' w') a w
theorem AllX.nil {fuel:Nat} {listed:Array Bool} {a:Act} {w:World}:AllX F n P md ops Q S m fuel listed a w []:=fun _ h=>by cases h
theorem wpOpIn_plain {i:Nat} {o:Oper} {K:Act→World→Prop} {a:Act} {w:World} (ho:ops[i]?=some o) (hg:Region.wanted o (yielded ops a.tmps)=true) (h:∀ K':Act→World→Prop,(∀ a w,K a w→K' a w)→Oper.wpIn F n P o a w K' Q):wpOpIn F n P ops Q i K a w :=
 wpOpIn_step ho fun K' hK=>by rw [if_pos hg];exact h K' hK
theorem AllX.cons {l:List Oper} {fuel:Nat} {listed:Array Bool} {a:Act} {w:World} {i:Nat} {o:Oper} {rs:List Nat} (ho:l[i]?=some o) (hg:Region.wanted o (yielded l.toArray a.tmps)=true)
  (h:∀ K':Act→World→Prop,Shut (∀ a w,S w→wpAnyX F n P md l.toArray Q S m fuel (listed.setIfInBounds i true) a w→K' a w)→Oper.wpIn F n P o a w K' Q)
  (hs:AllX F n P md l.toArray Q S m fuel listed a w rs):AllX F n P md l.toArray Q S m fuel listed a w (i :: rs):=fun j hj=>by
 rcases List.mem_cons.1 hj with rfl | hj
 ·exact wpOpIn_plain (by rw [List.getElem?_toArray];exact ho) hg (fun K' hK=>h K' (fun a w hS hW=>hK a w ⟨fun _=>hS,hW⟩))
 ·exact hs j hj
theorem AllX.late {l:List Oper} {fuel:Nat} {listed:Array Bool} {a:Act} {w:World} {i:Nat} {o:Oper} {rs:List Nat} (ho:l[i]?=some o) (hg:Region.wanted o (yielded l.toArray a.tmps)=true) (hm:(listed.setIfInBounds i true).getD m true=true)
  (h:∀ K':Act→World→Prop,Shut (∀ a w,wpAnyX F n P md l.toArray Q S m fuel (listed.setIfInBounds i true) a w→K' a w)→Oper.wpIn F n P o a w K' Q)
  (hs:AllX F n P md l.toArray Q S m fuel listed a w rs):AllX F n P md l.toArray Q S m fuel listed a w (i :: rs):=fun j hj=>by
 rcases List.mem_cons.1 hj with rfl | hj
 ·exact wpOpIn_plain (by rw [List.getElem?_toArray];exact ho) hg (fun K' hK=>h K' (fun a w hW=>hK a w ⟨(fun e=>by rw [hm] at e;cases e),hW⟩))
 ·exact hs j hj
theorem wpAnyX_ready (rs:List Nat) {fuel:Nat} {listed:Array Bool} {a:Act} {w:World} (hr:Region.ready md ops listed=rs) (hne:rs.isEmpty=false)
 (h:AllX F n P md ops Q S m fuel listed a w rs):wpAnyX F n P md ops Q S m (fuel+1) listed a w:=⟨(fun h0=>by rw [hr] at h0;subst h0;cases hne),hr ▸ h⟩
theorem wpAnyX_done {listed:Array Bool} {a:Act} {w:World} (hr:Region.ready md ops listed=[]) (h:Q .normal a w) :
  ∀ fuel,wpAnyX F n P md ops Q S m fuel listed a w
 | 0=>⟨hr,h⟩
 | _+1=>⟨fun _=>h,by rw [hr];simp⟩
theorem tkx {l:List Oper} (i:Nat) {oi:Oper} {v:Value} {fuel:Nat} {listed:Array Bool} {a:Act} {w:World} (hS:S w) (hy:∀ w,S w→(execOp a.eval oi).run P w=.ok (.value v) w) (h:wpAnyX F n P md l.toArray Q S m fuel (listed.setIfInBounds i true) (a.put oi.dst v) w)
 (hi:l[i]?=some oi:=by rfl) (hs:takeB md l.toArray m listed i=true:=by kernel_rfl) (hF:∀ f,F.fn f:=by exact (fun _=>trivial)) (hD:noDeferB l.toArray=true:=by kernel_rfl) (hQ:∀ c a w,Q (.panic c) (a.put oi.dst v) w→Q (.panic c) a w:=by exact (fun _ _ _ h=>h)) (hg:Region.wanted oi (yielded l.toArray a.tmps)=true:=by rfl):wpAnyX F n P md l.toArray Q S m (fuel+1) listed a w:=wpAnyX_take i hi hs hF hD hQ hS hg hy h
theorem twx {l:List Oper} (i:Nat) {oi:Oper} {v:Value} {fuel:Nat} {listed:Array Bool} {a:Act} {w:World} (hy:∀ w,(execOp a.eval oi).run P w=.ok (.value v) w) (h:wpAnyX F n P md l.toArray Q S m fuel (listed.setIfInBounds i true) (a.put oi.dst v) w)
 (hi:l[i]?=some oi:=by rfl) (hs:takeWB md l.toArray m listed i=true:=by kernel_rfl) (hF:∀ f,F.fn f:=by exact (fun _=>trivial)) (hD:noDeferB l.toArray=true:=by kernel_rfl) (hQ:∀ c a w,Q (.panic c) (a.put oi.dst v) w→Q (.panic c) a w:=by exact (fun _ _ _ h=>h)) (hS:listed.getD m true=false→S w:=by first | (intro h;cases h;done) | (intro _;assumption)) (hg:Region.wanted oi (yielded l.toArray a.tmps)=true:=by rfl):wpAnyX F n P md l.toArray Q S m (fuel+1) listed a w:=wpAnyX_takeW i hi hs hF hD hQ hS hg hy h
theorem skx {l:List Oper} (i:Nat) {oi:Oper} {fuel:Nat} {listed:Array Bool} {a:Act} {w:World} (hS:S w) (h:wpAnyX F n P md l.toArray Q S m fuel (listed.setIfInBounds i true) (a.put oi.dst undef) w)
 (hi:l[i]?=some oi:=by rfl) (hs:takeWB md l.toArray m listed i=true:=by kernel_rfl) (hF:∀ f,F.fn f:=by exact (fun _=>trivial)) (hD:noDeferB l.toArray=true:=by kernel_rfl) (hQ:∀ c a w,Q (.panic c) (a.put oi.dst undef) w→Q (.panic c) a w:=by exact (fun _ _ _ h=>h)) (hg:Region.wanted oi (yielded l.toArray a.tmps)=false:=by rfl):wpAnyX F n P md l.toArray Q S m (fuel+1) listed a w:=wpAnyX_skip i hi hs hF hD hQ (fun _=>hS) hg h
theorem rcx {l:List Oper} (i:Nat) {o:Oper} {fuel:Nat} {listed:Array Bool} {a:Act} {w:World} (h:∀ K':Act→World→Prop,Shut (∀ a w,S w→wpAnyX F n P md l.toArray Q S m fuel (listed.setIfInBounds i true) a w→K' a w)→Oper.wpIn F n P o a w K' Q)
 (ho:l[i]?=some o:=by rfl) (hr:Region.ready md l.toArray listed=[i]:=by kernel_rfl) (hg:Region.wanted o (yielded l.toArray a.tmps)=true:=by rfl):wpAnyX F n P md l.toArray Q S m (fuel+1) listed a w:=wpAnyX_ready [i] hr rfl (AllX.cons ho hg h AllX.nil)
theorem rlx {l:List Oper} (i:Nat) {o:Oper} {fuel:Nat} {listed:Array Bool} {a:Act} {w:World} (h:∀ K':Act→World→Prop,Shut (∀ a w,wpAnyX F n P md l.toArray Q S m fuel (listed.setIfInBounds i true) a w→K' a w)→Oper.wpIn F n P o a w K' Q)
 (ho:l[i]?=some o:=by rfl) (hr:Region.ready md l.toArray listed=[i]:=by kernel_rfl) (hg:Region.wanted o (yielded l.toArray a.tmps)=true:=by rfl) (hm:(listed.setIfInBounds i true).getD m true=true:=by kernel_rfl):wpAnyX F n P md l.toArray Q S m (fuel+1) listed a w:=wpAnyX_ready [i] hr rfl (AllX.late ho hg hm h AllX.nil)
theorem wpIn_region_X {id:Nat} {a:Act} {w:World} (S:World→Prop) (m:Nat) (hm:P.follows .mixedOrders=true) (hS:S w.drew)
  (h:S w.drew→wpAnyX F n P .any ops Q S m ops.size (Array.replicate ops.size false) a w.drew):(Code.region id ops true).wpIn F n P Q a w :=
 wpIn_region_any hm (wpAnyIn_of_X _ _ _ _ (h hS))
end
end Go.Proofs.YtligiddaampneaaGreat
end
section
namespace Go.Proofs.YtligiddaampneaaGreat
open Go
open Go.RowKit
variable {P : Program} {f : FuncId} {ro : Option Nat}
theorem wpAt_rangeIn {l₀:Nat} {r₀:Loop} {g:Operand} {ps:Array Tmp} {assign body:Code} {Q:Exit→Act→World→Prop} {a:Act} {w:World} {gf n:Nat} {lb:Array Value} (hl₀:w.heap[l₀]?=some (.loop r₀)) (hg:a.eval g=.func (.func gf) #[] lb)
    (eg:∀ args w,(callFunc gf args).run P w=.ok (.enter gf args) w)
    (h:CallsIn Fence.wide n P gf (#[.func (.yield w.heap.size) #[] #[]] ++ lb)
      (w.alloc (.loop (recOf f a.tmps ps assign body r₀.defers .ready none)))
      (rangeEnd P f (some l₀) w.heap.size (recOf f a.tmps ps assign body r₀.defers) Q a)) :
    wpAt P f (some l₀) (.rangeFunc g ps assign body) Q a w:=by
  intro b k cs hro hb
  subst hb
  have he:=run_enterLoop_inner (P:=P) (w:=w) hl₀ b.fn a.tmps ps assign body
  have hres:(resolve a.eval (rangeCall g w.heap.size) 0).run P (w.alloc (.loop (recOf b.fn a.tmps ps assign body r₀.defers .ready none)))=.ok { target:=.fn (.func gf) lb,args:=#[.func (.yield w.heap.size) #[] #[]] } (w.alloc (.loop (recOf b.fn a.tmps ps assign body r₀.defers .ready none))):=by
    simp only [resolve,hg];simp [go_sem]
  have hinv:(invoke (.fn (.func gf) lb) #[.func (.yield w.heap.size) #[] #[]]).run P (w.alloc (.loop (recOf b.fn a.tmps ps assign body r₀.defers .ready none)))=.ok (.enter gf (#[.func (.yield w.heap.size) #[] #[]] ++ lb)) (w.alloc (.loop (recOf b.fn a.tmps ps assign body r₀.defers .ready none))):=by
    simp [invoke,go_sem,eg]
  rw [← hro] at he
  have henter:=stepR_rangeFunc (P:=P) (b:=b) (a:=a) (k:=k) (cs:=cs) (w:=w) he hres hinv
  obtain ⟨e,w₃,fr,hR,hsteps,hfn,hleave⟩:=h.2 (b.atR { a with defers:=[] ++ a.defers } (.inRangeFunc w.heap.size :: k) :: cs) (room_wide _)
  cases e with
  | outgrown=>exact hR.elim
  | returned v =>
    obtain ⟨st,pe,hl3,hst,hj⟩:=hR
    have hend:=run_endLoop (P:=P) hl3 hst
    have sback:StepsIn (Machine.fenced P Fence.wide) P (lone (b.atR a (.code (.rangeFunc g ps assign body) :: k)) cs w) (lone (b.atR { a with defers:=[] ++ a.defers } ((pe.map Item.code).toList ++ k)) cs (w₃.putObj w.heap.size (.loop (recOf b.fn a.tmps ps assign body r₀.defers .exhausted pe)))):=by
      refine .head (wide_all _) henter (StepsIn.trans hsteps (.head (wide_all _) ?_ (.one (wide_all _) (stepR_endRangeFunc hend))))
      rw [← finish_atR_inRangeFunc w.heap.size v];exact step_leave_returned hleave
    cases pe with
    | none=>exact ⟨.normal,_,_,hj,sback⟩
    | some c =>
      obtain ⟨e',a'',w₅,hq,harr⟩:=hj b k cs hro rfl
      exact ⟨e',a'',w₅,hq,.of_steps sback harr⟩
  | panicked chain =>
    refine ⟨.panic chain,_,w₃,hR,.inRangeFunc w.heap.size :: k,.head (wide_all _) henter (StepsIn.trans hsteps (.one (wide_all _) ?_))⟩
    rw [← Frame.raise_atR];exact step_leave_panicked hleave
def SearchEnd (ρ:Nat→Prop) (W:World) (I J:World→Prop) (b:Bool) (e:Ending) (W':World):Prop :=
 e=.returned (.tuple #[])∧Keep ρ W W'∧(if b=true then J W' else I W')
theorem SearchEnd.stopped {ρ:Nat→Prop} {W W':World} {I J:World→Prop} {b:Bool} (hb:b=true) (hk:Keep ρ W W') (hj:J W'):SearchEnd ρ W I J b (.returned (.tuple #[])) W':=⟨rfl,hk,by rw [if_pos hb];exact hj⟩
theorem SearchEnd.all {ρ:Nat→Prop} {W W':World} {I J:World→Prop} {b:Bool} (hb:b=false) (hk:Keep ρ W W') (hi:I W'):SearchEnd ρ W I J b (.returned (.tuple #[])) W':=⟨rfl,hk,by rw [if_neg (by rw [hb];simp)];exact hi⟩
def Searches {α:Type} (P:Program) (g:Nat) (lb:Array Value) (enc:α→Value→World→Prop) (xs:List α) (D:Nat→Prop) (W:World):Prop :=
 ∀ (L n:Nat) (ρ:Nat→Prop) (I J:World→Prop) (stop:α→Bool),
  (∀ k,ρ k→k<W.heap.size∧¬ D k) →
  (∀ W1 W2,I W1→W.heap.size≤W1.heap.size→Keep (fun k=>W.heap.size≤k) W1 W2→I W2) →
  (∀ W1 W2,J W1→W.heap.size≤W1.heap.size→Keep (fun k=>W.heap.size≤k) W1 W2→J W2) →
  (∀ m W1 x v,x∈xs→enc x v W1→W.heap.size≤W1.heap.size→I W1→YieldAt Fence.wide m P L #[v] W1 (fun e W2=>Keep ρ W1 W2∧e=.returned (.bool (!stop x))∧(if stop x=true then J W2 else I W2))) →
  I W →
  CallsIn Fence.wide n P g (#[.func (.yield L) #[] #[]] ++ lb) W (SearchEnd ρ W I J (xs.any stop))
theorem wpAt_ret {Q:Exit→Act→World→Prop} {a:Act} {w:World} (h:Q .ret a w):wpAt P f ro .ret Q a w:=by
 cases ro with
 | none=>exact wpAt_of_wp (wp_ret h)
 | some l=>exact wpAt_of_in (n:=0) (wpIn_ret h)
def searchPost {α:Type} (stop:α→Bool) (I J:World→Prop) (ρ:Nat→Prop) (x:α) (w:World):Exit→Act→World→Prop
 | .normal,_,w'=>stop x=false∧I w'∧Keep ρ w w'
 | .ret,_,w'=>stop x=true∧J w'∧Keep ρ w w'
 | _,_,_=>False
theorem search_core {α:Type} {fnc:Func} (hf:P.funcs[f]?=some fnc) {tmps:Array Value} {ps:Array Tmp} {assign body:Code} {DD gf n:Nat} {lb:Array Value} {enc:α→Value→World→Prop} {xs:List α} {D ρ:Nat→Prop} {w w1:World} (L:Nat) {I J:World→Prop} {stop:α→Bool}
    (hs:Searches P gf lb enc xs D w1) (hw:Ext w w1) (hL:w.heap.size≤L) (hl:w1.heap[L]?=some (.loop (recOf f tmps ps assign body DD .ready none))) (hps:ps.size=1)
    (hD:∀ k,D k→k<w.heap.size) (hρ:∀ k,ρ k→k<w.heap.size∧¬ D k)
    (hI:∀ W1 W2,I W1→w.heap.size≤W1.heap.size→Keep (fun k=>w.heap.size≤k) W1 W2→I W2)
    (hJ:∀ W1 W2,J W1→w.heap.size≤W1.heap.size→Keep (fun k=>w.heap.size≤k) W1 W2→J W2)
    (h0:I w)
    (hb:∀ x v W1,x∈xs→enc x v W1→w1.heap.size≤W1.heap.size→I W1→Keep (fun k=>ρ k∨k=L) w1 W1 →
      wpAt P f (some L) assign (Exit.then (fun a₁ w₂=>Ext W1 w₂∧∀ w₃,Keep (fun k=>k=L) w₂ w₃→(∃ r,w₃.heap[L]?=some (.loop r))→I w₃→wpAt P f (some L) body (searchPost stop I J ρ x w₃) a₁ w₃) (fun _ _ _=>False))
        { tmps:=(ps.zip #[v]).foldl (fun tmps (t,a)=>tmps.setIfInBounds t a) tmps,defers:=[] } W1) :
    CallsIn Fence.wide n P gf (#[.func (.yield L) #[] #[]] ++ lb) w1 (SearchEnd (fun k=>ρ k∨k=L) w1 (fun W=>I W∧W.heap[L]?=some (.loop (recOf f tmps ps assign body DD .ready none))) (fun W=>J W∧W.heap[L]?=some (.loop (recOf f tmps ps assign body DD .done (some .ret)))) (xs.any stop)):=by
  have lL:L<w1.heap.size:=(Array.getElem?_eq_some_iff.1 hl).1
  refine (hs L n (fun k=>ρ k∨k=L)
    (fun W=>(I W∧Keep (fun k=>ρ k∨k=L) w1 { W with os:=w1.os,tape:=w1.tape,output:=w1.output })∧W.heap[L]?=some (.loop (recOf f tmps ps assign body DD .ready none))∧(W.os=w1.os∧W.tape=w1.tape∧W.output=w1.output))
    (fun W=>J W∧W.heap[L]?=some (.loop (recOf f tmps ps assign body DD .done (some .ret)))) stop ?_ ?_ ?_ ?_ ?_).mono ?_
  · rintro k (h | rfl)
    · exact ⟨Nat.lt_of_lt_of_le (hρ k h).1 hw.size,(hρ k h).2⟩
    · exact ⟨lL,fun h=>by have:=hD _ h;omega⟩
  · rintro W1 W2 ⟨⟨h1,h2⟩,h3,h4,h5,h6⟩ hsz hk
    refine ⟨⟨hI W1 W2 h1 (Nat.le_trans hw.size hsz) (hk.mono (fun k h=>Nat.le_trans hw.size h)),rfl,rfl,rfl,Nat.le_trans hsz hk.size,fun k hk' hn=>?_⟩,(hk.block L (Nat.lt_of_lt_of_le lL hsz) (by show ¬ _≤_;omega)).trans h3,hk.os.trans h4,hk.tape.trans h5,hk.output.trans h6⟩
    exact (hk.block k (Nat.lt_of_lt_of_le hk' hsz) (by show ¬ _≤_;omega)).trans (h2.block k hk' hn)
  · rintro W1 W2 ⟨h1,h3⟩ hsz hk
    exact ⟨hJ W1 W2 h1 (Nat.le_trans hw.size hsz) (hk.mono (fun k h=>Nat.le_trans hw.size h)),(hk.block L (Nat.lt_of_lt_of_le lL hsz) (by show ¬ _≤_;omega)).trans h3⟩
  · rintro m W1 x v hx hv hsz ⟨⟨h1,h2⟩,h3,h4,h5,h6⟩
    have hkk:Keep (fun k=>ρ k∨k=L) w1 W1:=⟨h4,h5,h6,hsz,h2.block⟩
    refine yieldAt_of hf h3 (by simp [hps]) ?_
    refine wpAt_mono (hb x v W1 hx hv hsz h1 hkk) ?_
    intro e a w2 hq
    cases e with
    | normal =>
      obtain ⟨hx2,hbody⟩:=hq
      refine ⟨hx2.block h3,?_⟩
      have lL2:L<w2.heap.size:=Nat.lt_of_lt_of_le (Nat.lt_of_lt_of_le lL hsz) hx2.size
      have kb:Keep (fun k=>k=L) w2 (w2.putObj L (.loop (recOf f tmps ps assign body DD .busy none))):=Keep.putObj _ _ _ _ rfl
      have l3:(w2.putObj L (.loop (recOf f tmps ps assign body DD .busy none))).heap[L]?=some (.loop (recOf f tmps ps assign body DD .busy none)):=World.putObj_heap_same lL2
      have hi3:=hI W1 (w2.putObj L (.loop (recOf f tmps ps assign body DD .busy none))) h1 (Nat.le_trans hw.size hsz) ((Keep.of_ext hx2:Keep (fun k=>w.heap.size≤k) W1 w2).trans (kb.mono (S':=fun k=>w.heap.size≤k) (fun k e=>by subst e;exact hL)) (fun _ _ h=>h))
      have kr:=(Keep.of_ext hx2:Keep (fun k=>ρ k∨k=L) W1 w2).trans (kb.mono (S':=fun k=>ρ k∨k=L) (fun k e=>Or.inr e)) (fun _ _ h=>h)
      refine wpAt_mono (hbody _ kb ⟨_,l3⟩ hi3) ?_
      intro e a' w' hq'
      have nL:¬ ρ L:=fun h=>by have:=(hρ L h).1;omega
      cases e with
      | normal =>
        obtain ⟨hst,hi',hk'⟩:=hq'
        have l4:w'.heap[L]?=some (.loop (recOf f tmps ps assign body DD .busy none)):=(hk'.block L (by simpa using lL2) nL).trans l3
        have lL4:L<w'.heap.size:=(Array.getElem?_eq_some_iff.1 l4).1
        have kc:Keep (fun k=>k=L) w' (w'.putObj L (.loop (recOf f tmps ps assign body DD .ready none))):=Keep.putObj _ _ _ _ rfl
        have kall:=(kr.trans (hk'.mono (S':=fun k=>ρ k∨k=L) (fun k h=>Or.inl h)) (fun _ _ h=>h)).trans (kc.mono (S':=fun k=>ρ k∨k=L) (fun k h=>Or.inr h)) (fun _ _ h=>h)
        have kw1:=hkk.trans kall (fun _ _ h=>h)
        refine ⟨_,_,l4,kall,by rw [hst];rfl,?_⟩
        rw [if_neg (by rw [hst];simp)]
        refine ⟨⟨hI w' _ hi' (Nat.le_trans hL (Nat.le_of_lt lL4)) (kc.mono (fun k e=>by subst e;exact hL)),rfl,rfl,rfl,kw1.size,kw1.block⟩,World.putObj_heap_same lL4,kw1.os,kw1.tape,kw1.output⟩
      | ret =>
        obtain ⟨hst,hi',hk'⟩:=hq'
        have l4:w'.heap[L]?=some (.loop (recOf f tmps ps assign body DD .busy none)):=(hk'.block L (by simpa using lL2) nL).trans l3
        have lL4:L<w'.heap.size:=(Array.getElem?_eq_some_iff.1 l4).1
        have kc:Keep (fun k=>k=L) w' (w'.putObj L (.loop (recOf f tmps ps assign body DD .done (some .ret)))):=Keep.putObj _ _ _ _ rfl
        have kall:=(kr.trans (hk'.mono (S':=fun k=>ρ k∨k=L) (fun k h=>Or.inl h)) (fun _ _ h=>h)).trans (kc.mono (S':=fun k=>ρ k∨k=L) (fun k h=>Or.inr h)) (fun _ _ h=>h)
        refine ⟨_,_,l4,kall,by rw [hst];rfl,?_⟩
        rw [if_pos hst]
        exact ⟨hJ w' _ hi' (Nat.le_trans hL (Nat.le_of_lt lL4)) (kc.mono (fun k e=>by subst e;exact hL)),World.putObj_heap_same lL4⟩
      | exit _=>exact hq'.elim
      | goto _=>exact hq'.elim
      | panic _=>exact hq'.elim
      | outgrown=>exact hq'.elim
    | exit _=>exact hq.elim
    | goto _=>exact hq.elim
    | ret=>exact hq.elim
    | panic _=>exact hq.elim
    | outgrown=>exact hq.elim
  · exact ⟨⟨hI w w1 h0 (Nat.le_refl _) (Keep.of_ext hw),Keep.refl _ _⟩,hl,rfl,rfl,rfl⟩
  · rintro e W' ⟨rfl,hk,hij⟩
    cases hany:xs.any stop with
    | true=>rw [hany,if_pos rfl] at hij;exact SearchEnd.stopped rfl hk hij
    | false=>rw [hany,if_neg (by simp)] at hij;exact SearchEnd.all rfl hk ⟨hij.1.1,hij.2.1⟩
theorem wpAt_search {α:Type} {fnc:Func} (hf:P.funcs[f]?=some fnc) {g:Operand} {ps:Array Tmp} {assign body:Code} {Q:Exit→Act→World→Prop} {a:Act} {w:World} {gf:Nat} {lb:Array Value} (hg:a.eval g=.func (.func gf) #[] lb)
    (eg:∀ args w,(callFunc gf args).run P w=.ok (.enter gf args) w) (enc:World→α→Value→World→Prop) {xs:List α} {D:Nat→Prop} (ρ:Nat→Prop) (I J:World→Prop) (stop:α→Bool)
    (hs:∀ w1,Ext w w1→Searches P gf lb (enc w1) xs D w1) (hps:ps.size=1)
    (hD:∀ k,D k→k<w.heap.size) (hρ:∀ k,ρ k→k<w.heap.size∧¬ D k)
    (hI:∀ W1 W2,I W1→w.heap.size≤W1.heap.size→Keep (fun k=>w.heap.size≤k) W1 W2→I W2)
    (hJ:∀ W1 W2,J W1→w.heap.size≤W1.heap.size→Keep (fun k=>w.heap.size≤k) W1 W2→J W2)
    (h0:I w)
    (hb:∀ l x v w1 W1,x∈xs→Ext w w1→l<w1.heap.size→enc w1 x v W1→w1.heap.size≤W1.heap.size→l=w.heap.size+1→I W1→Keep (fun k=>ρ k∨w.heap.size≤k) w W1 →
      wpAt P f (some l) assign (Exit.then (fun a₁ w₂=>Ext W1 w₂∧∀ w₃,Keep (fun k=>k=l) w₂ w₃→(∃ r,w₃.heap[l]?=some (.loop r))→I w₃→wpAt P f (some l) body (searchPost stop I J ρ x w₃) a₁ w₃) (fun _ _ _=>False))
        { tmps:=(ps.zip #[v]).foldl (fun tmps (t,a)=>tmps.setIfInBounds t a) a.tmps,defers:=[] } W1)
    (hend:xs.any stop=false→∀ W',I W'→Keep ρ w W'→W'.heap[w.heap.size]?=some (.deferred (some []))→Q .normal { a with defers := { target:=.collected w.heap.size,args:=#[] } :: a.defers } W')
    (hret:xs.any stop=true→∀ W',J W'→Keep ρ w W'→W'.heap[w.heap.size]?=some (.deferred (some []))→Q .ret { a with defers := { target:=.collected w.heap.size,args:=#[] } :: a.defers } W') :
    wpAt P f none (.rangeFunc g ps assign body) Q a w:=by
  refine wpAt_range (n:=1) hg eg ?_
  obtain ⟨w1,hw1⟩:∃ w1,(w.alloc (.deferred (some []))).alloc (.loop (recOf f a.tmps ps assign body w.heap.size .ready none))=w1:=⟨_,rfl⟩
  have x1:Ext w w1:=by rw [← hw1];exact (Ext.alloc _ _).trans (Ext.alloc _ _)
  have hsz:w1.heap.size=w.heap.size+2:=by rw [← hw1];simp
  have hdd:w1.heap[w.heap.size]?=some (.deferred (some [])):=by rw [← hw1];exact (Ext.alloc _ _).block (World.alloc_heap_new w _)
  have hl:w1.heap[w.heap.size+1]?=some (.loop (recOf f a.tmps ps assign body w.heap.size .ready none)):=by
    rw [← hw1]
    have:=World.alloc_heap_new (w.alloc (.deferred (some []))) (.loop (recOf f a.tmps ps assign body w.heap.size .ready none))
    rw [show (w.alloc (.deferred (some []))).heap.size=w.heap.size+1 by simp] at this
    exact this
  rw [hw1]
  refine (search_core hf (w.heap.size+1) (hs w1 x1) x1 (by omega) hl hps hD hρ hI hJ h0 (fun x v W1 hx hv hz hi hk=>hb (w.heap.size+1) x v w1 W1 hx x1 (by omega) hv hz rfl hi ?_)).mono ?_
  · refine ⟨hk.os.trans (Below.os x1),hk.tape.trans (Below.tape x1),hk.output.trans (Below.output x1),Nat.le_trans x1.size hk.size,fun k h1 h2=>?_⟩
    exact (hk.block k (Nat.lt_of_lt_of_le h1 x1.size) (fun h=>h.elim (fun h=>h2 (Or.inl h)) (fun e=>by omega))).trans (Below.block x1 k h1)
  rintro e W' ⟨rfl,hk,hij⟩
  have kk:∀ (o:Obj),Keep ρ w (W'.putObj (w.heap.size+1) o):=fun o=>by
    refine ⟨hk.os.trans (Below.os x1),hk.tape.trans (Below.tape x1),hk.output.trans (Below.output x1),by simpa using Nat.le_trans x1.size hk.size,fun k h1 h2=>?_⟩
    rw [World.putObj_heap_other (by omega)]
    exact (hk.block k (Nat.lt_of_lt_of_le h1 x1.size) (fun h=>h.elim h2 (fun e=>by omega))).trans (Below.block x1 k h1)
  have kp:∀ (o:Obj),Keep (fun k=>w.heap.size≤k) W' (W'.putObj (w.heap.size+1) o):=fun o=>Keep.putObj _ _ _ _ (by show w.heap.size≤w.heap.size+1;omega)
  have hd':∀ (o:Obj),(W'.putObj (w.heap.size+1) o).heap[w.heap.size]?=some (.deferred (some [])):=fun o=>by
    rw [World.putObj_heap_other (by omega),hk.block w.heap.size (by omega) (fun h=>h.elim (fun h=>by have:=(hρ _ h).1;omega) (fun e=>by omega))]
    exact hdd
  have hz':w.heap.size≤W'.heap.size:=Nat.le_trans x1.size hk.size
  cases hany:xs.any stop with
  | true =>
    rw [hany,if_pos rfl] at hij
    refine ⟨.done,some .ret,hij.2,by simp,?_⟩
    exact wpAt_ret (hret hany _ (hJ _ _ hij.1 hz' (kp _)) (kk _) (hd' _))
  | false =>
    rw [hany,if_neg (by simp)] at hij
    exact ⟨.ready,none,hij.2,by simp,hend hany _ (hI _ _ hij.1 hz' (kp _)) (kk _) (hd' _)⟩
theorem wpAt_searchIn {α:Type} {fnc:Func} (hf:P.funcs[f]?=some fnc) {l₀:Nat} {r₀:Loop} {g:Operand} {ps:Array Tmp} {assign body:Code} {Q:Exit→Act→World→Prop} {a:Act} {w:World} {gf:Nat} {lb:Array Value} (hl₀:w.heap[l₀]?=some (.loop r₀)) (hg:a.eval g=.func (.func gf) #[] lb)
    (eg:∀ args w,(callFunc gf args).run P w=.ok (.enter gf args) w) (enc:World→α→Value→World→Prop) {xs:List α} {D:Nat→Prop} (ρ:Nat→Prop) (I J:World→Prop) (stop:α→Bool)
    (hs:∀ w1,Ext w w1→Searches P gf lb (enc w1) xs D w1) (hps:ps.size=1)
    (hD:∀ k,D k→k<w.heap.size) (hρ:∀ k,ρ k→k<w.heap.size∧¬ D k)
    (hI:∀ W1 W2,I W1→w.heap.size≤W1.heap.size→Keep (fun k=>w.heap.size≤k) W1 W2→I W2)
    (hJ:∀ W1 W2,J W1→w.heap.size≤W1.heap.size→Keep (fun k=>w.heap.size≤k) W1 W2→J W2)
    (h0:I w)
    (hb:∀ l x v w1 W1,x∈xs→Ext w w1→l<w1.heap.size→enc w1 x v W1→w1.heap.size≤W1.heap.size→l=w.heap.size→I W1→Keep (fun k=>ρ k∨w.heap.size≤k) w W1 →
      wpAt P f (some l) assign (Exit.then (fun a₁ w₂=>Ext W1 w₂∧∀ w₃,Keep (fun k=>k=l) w₂ w₃→(∃ r,w₃.heap[l]?=some (.loop r))→I w₃→wpAt P f (some l) body (searchPost stop I J ρ x w₃) a₁ w₃) (fun _ _ _=>False))
        { tmps:=(ps.zip #[v]).foldl (fun tmps (t,a)=>tmps.setIfInBounds t a) a.tmps,defers:=[] } W1)
    (hend:xs.any stop=false→∀ W',I W'→Keep ρ w W'→Q .normal a W')
    (hret:xs.any stop=true→∀ W',J W'→Keep ρ w W'→Q .ret a W') :
    wpAt P f (some l₀) (.rangeFunc g ps assign body) Q a w:=by
  refine wpAt_rangeIn (n:=1) hl₀ hg eg ?_
  obtain ⟨w1,hw1⟩:∃ w1,w.alloc (.loop (recOf f a.tmps ps assign body r₀.defers .ready none))=w1:=⟨_,rfl⟩
  have x1:Ext w w1:=by rw [← hw1];exact Ext.alloc _ _
  have hsz:w1.heap.size=w.heap.size+1:=by rw [← hw1];simp
  have hl:w1.heap[w.heap.size]?=some (.loop (recOf f a.tmps ps assign body r₀.defers .ready none)):=by rw [← hw1];exact World.alloc_heap_new w _
  rw [hw1]
  refine (search_core hf w.heap.size (hs w1 x1) x1 (by omega) hl hps hD hρ hI hJ h0 (fun x v W1 hx hv hz hi hk=>hb w.heap.size x v w1 W1 hx x1 (by omega) hv hz rfl hi ?_)).mono ?_
  · refine ⟨hk.os.trans (Below.os x1),hk.tape.trans (Below.tape x1),hk.output.trans (Below.output x1),Nat.le_trans x1.size hk.size,fun k h1 h2=>?_⟩
    exact (hk.block k (Nat.lt_of_lt_of_le h1 x1.size) (fun h=>h.elim (fun h=>h2 (Or.inl h)) (fun e=>by omega))).trans (Below.block x1 k h1)
  rintro e W' ⟨rfl,hk,hij⟩
  have kk:∀ (o:Obj),Keep ρ w (W'.putObj w.heap.size o):=fun o=>by
    refine ⟨hk.os.trans (Below.os x1),hk.tape.trans (Below.tape x1),hk.output.trans (Below.output x1),by simpa using Nat.le_trans x1.size hk.size,fun k h1 h2=>?_⟩
    rw [World.putObj_heap_other (by omega)]
    exact (hk.block k (Nat.lt_of_lt_of_le h1 x1.size) (fun h=>h.elim h2 (fun e=>by omega))).trans (Below.block x1 k h1)
  have kp:∀ (o:Obj),Keep (fun k=>w.heap.size≤k) W' (W'.putObj w.heap.size o):=fun o=>Keep.putObj _ _ _ _ (Nat.le_refl _)
  have hz':w.heap.size≤W'.heap.size:=Nat.le_trans x1.size hk.size
  cases hany:xs.any stop with
  | true =>
    rw [hany,if_pos rfl] at hij
    refine ⟨.done,some .ret,hij.2,by simp,?_⟩
    exact wpAt_ret (hret hany _ (hJ _ _ hij.1 hz' (kp _)) (kk _))
  | false =>
    rw [hany,if_neg (by simp)] at hij
    exact ⟨.ready,none,hij.2,by simp,hend hany _ (hI _ _ hij.1 hz' (kp _)) (kk _)⟩
end Go.Proofs.YtligiddaampneaaGreat
end
section
namespace Go.Proofs.YtligiddaampneaaGreat
open Go.RowKit
attribute [local go_sem] Oper.semAt_some
variable {W : World} {n1 bc : Nat} {V : MV} {M : Mach} {N : List ByteArray} {L : List Pl}
theorem CkIn.keep {W W':World} {n1 bc:Nat} {V:MV} {M:Mach} {N:List ByteArray} {L:List Pl} (h:CkIn W n1 bc V M N L) (hs:W.heap.size≤W'.heap.size) (hk:∀ k,k<n1→W'.heap[k]?=W.heap[k]?):CkIn W' n1 bc V M N L :=
 ⟨fun j v hj=>(World.cell?_of_block (w:=W) (hk bc h.lt)).trans (h.cells j v hj),h.lt,Nat.le_trans h.le hs,h.m.same hk,Tab.same h.nm hk,Tab.same h.pl hk,h.fit,h.len⟩
def Pl.val (p:Pl):Value:=.agg #[.int .i64 p.root,.int .i64 p.beg,.int .i64 p.width]
def mayS (N:List ByteArray) (L:List Pl) (fx:ByteArray) (regs:List ByteArray):List Pl:=(regs.filter fun r=>(fx == ⟨#[]⟩) || (fx == r)).map fun r=>plAt L (idx N r)
theorem mayS_snoc (fx:ByteArray) (l:List ByteArray) (r:ByteArray):mayS N L fx (l ++ [r])=mayS N L fx l ++ (if ((fx == ⟨#[]⟩) || (fx == r))=true then [plAt L (idx N r)] else []):=by
 unfold mayS
 rw [List.filter_append,List.map_append]
 congr 1
 by_cases h:((fx == ⟨#[]⟩) || (fx == r))=true <;> simp [h]
theorem may_any (o:Opr) (W:World):Calls Tryz.prog 156 #[.pointer (some ⟨bc,0,none⟩),.agg #[.string o.cls,.string o.fix]] W fun e W' =>
  e=.returned (.func (.func 165) #[] #[.pointer (some ⟨W.heap.size,0,none⟩),.pointer (some ⟨W.heap.size+1,0,none⟩)])∧Ext W W'∧W.heap.size+1<W'.heap.size ∧
   W'.cell? ⟨W.heap.size,0,none⟩=some (.pointer (some ⟨bc,0,none⟩))∧W'.cell? ⟨W.heap.size+1,0,none⟩=some (.string o.cls)∧W'.cell? ⟨W.heap.size+1,1,none⟩=some (.string o.fix):=by
 go_enter Tryz.func156,Tryz.ntmps156
 go_wp2
 go_ret
 have x1:=Ext.alloc W (.cells #[.pointer (some ⟨bc,0,none⟩)] 119)
 have x2:=Ext.alloc (W.alloc (.cells #[.pointer (some ⟨bc,0,none⟩)] 119)) (.cells #[.string o.cls,.string o.fix] 57)
 refine ⟨rfl,x1.trans x2,by simp,x2.cell (cell_new W _ _ 0),?_,?_⟩
 ·have:=cell_new (W.alloc (.cells #[.pointer (some ⟨bc,0,none⟩)] 119)) #[.string o.cls,.string o.fix] 57 0
  rw [show (W.alloc (.cells #[.pointer (some ⟨bc,0,none⟩)] 119)).heap.size=W.heap.size+1 by simp] at this
  exact this
 ·have:=cell_new (W.alloc (.cells #[.pointer (some ⟨bc,0,none⟩)] 119)) #[.string o.cls,.string o.fix] 57 1
  rw [show (W.alloc (.cells #[.pointer (some ⟨bc,0,none⟩)] 119)).heap.size=W.heap.size+1 by simp] at this
  exact this
theorem mayS_prefix {fx:ByteArray} {l:List ByteArray} {n:Nat} {stop:Pl→Bool} (h:(mayS N L fx (l.take n)).any stop=true):(mayS N L fx l).any stop=true:=by
 have e:mayS N L fx l=mayS N L fx (l.take n) ++ mayS N L fx (l.drop n):=by
  unfold mayS
  rw [← List.map_append,← List.filter_append,List.take_append_drop]
 rw [e,List.any_append,h,Bool.true_or]
theorem ne_empty {fx:ByteArray} (hf:¬ fx=⟨#[]⟩):(fx.toList == [])=false:=by
 rw [Bool.eq_false_iff];intro e
 apply hf
 have e':fx.data.toList=[]:=by rw [← ByteArray.toList_eq];simpa using e
 cases fx with | mk d=>simp at e';rw [e']
theorem ne_str {a b:ByteArray} (hf:¬ a=b):(a.toList == b.toList)=false:=by
 rw [str_beq,Bool.eq_false_iff];intro e
 exact hf ((ba_beq _ _).1 e).symm
theorem may1_in (h:CkIn W n1 bc V M N L) {bx bo:Nat} (o:Opr) (cx:W.cell? ⟨bx,0,none⟩=some (.pointer (some ⟨bc,0,none⟩))) (co0:W.cell? ⟨bo,0,none⟩=some (.string o.cls)) (co1:W.cell? ⟨bo,1,none⟩=some (.string o.fix))
  {k:Nat} {c:Cls} (hk:clsIx M o.cls=(k:Int)) (hc:M.classes[k]?=some c) (hr:∀ r∈c.regs,0≤idx N r) :
  Searches Tryz.prog 165 #[.pointer (some ⟨bx,0,none⟩),.pointer (some ⟨bo,0,none⟩)] (fun p v _=>v=Pl.val p) (mayS N L o.fix c.regs) (fun k=>k<n1∨k=bx∨k=bo) W:=by
 intro Ll n ρ I J stop hρ hI hJ hY h0
 refine callsIn_of_wp Tryz.func165 rfl trivial ?_
 simp only [Tryz.ntmps165,List.size_toArray,List.length_cons,List.length_nil,Nat.reduceAdd,Nat.reduceSub,Array.replicate_succ,Array.replicate_zero,List.push_toArray,List.append_toArray,List.nil_append,List.cons_append]
 have H:=qh h
 have HR:=qh hr
 have HC:=qh hc
 have HY:=qh hY
 have HI:=qh hI
 have HJ:=qh hJ
 have HP:=qh hρ
 have H0:=qh h0
 have c2:=h.cells 2 _ rfl
 have hcl:=qh (fun (W':World) (x:Ext W W')=>classM_any (h.ext x) o.cls)
 rw [hk] at hcl
 obtain ⟨b,off,cap,u,ev,hl1,hl2,hb,k0,k1,hu⟩:=h.m.cls.at hc
 obtain ⟨ua,uc,eu,hu1,hu2⟩:=hu.form
 have HU:=qh hu
 have hklt:(k:Int)<(M.classes.length:Int):=by have:=(List.getElem?_eq_some_iff.1 hc).1;omega
 have hkz:(0:Int)≤(k:Int):=by omega
 obtain ⟨vR,vC,vO,vA,vS,vN,vP⟩:=V
 dsimp only at c2 ev
 subst ev eu
 unfold maxLen at hl2 hu2
 obtain ⟨oc,fx⟩:=o
 dsimp only at co0 co1 hcl
 clear h hr hc hY hI hJ hρ h0 hu hk
 gi_wp2_with fail
 rename_i K1 hK1
 have hK1:=qh hK1
 refine wpIn_region_X (fun w'=>Ext W w') 12 (by kernel_rfl) (Ext.drew _) (fun hS=>?_)
 refine' tkx 0 hS ?_ ?_;rotate_left;·intro w hSw;have p0:=xc hSw cx;go_simp;try rfl
 refine' tkx 1 hS ?_ ?_;rotate_left;·intros;go_simp;try rfl
 refine' tkx 2 hS ?_ ?_;rotate_left;·intros;go_simp;try rfl
 try simp only [tD]
 refine' tkx 3 hS ?_ ?_;rotate_left;·intros;go_simp;try rfl
 refine' tkx 4 hS ?_ ?_;rotate_left;·intro w hSw;have p2:=xc hSw c2;go_simp;try rfl
 refine' tkx 5 hS ?_ ?_;rotate_left;·intro w hSw;have p0:=xc hSw cx;go_simp;try rfl
 try simp only [tD]
 refine' tkx 6 hS ?_ ?_;rotate_left;·intros;go_simp;try rfl
 refine' tkx 7 hS ?_ ?_;rotate_left;·intro w hSw;have p1:=xc hSw co0;go_simp;try rfl
 try simp only [tD]
 refine' twx 13 ?_ ?_;rotate_left;·intros;go_simp;try rfl
 try simp only [tD]
 generalize W.drew=W2 at hS ⊢
 refine rcx 8 fun K hK=>?_
 go_simp
 (try refine ⟨trivial,?_⟩);(try refine ⟨(fun h=>by cases h),?_⟩)
 refine ((callsIn_wide.2 (hcl.out W2 hS))).mono ?_
 rintro e W3 ⟨rfl,x3⟩
 have hS:=Ext.trans hS x3
 refine hK.out _ _ hS ?_
 try simp only [tD]
 clear hK K
 clear hcl x3
 refine' tkx 9 hS ?_ ?_;rotate_left;·intros;go_simp;try rfl
 refine' tkx 10 hS ?_ ?_;rotate_left;·intros;go_simp;try rfl
 refine' tkx 11 hS ?_ ?_;rotate_left;·intro w hSw;have p1:=xc hSw k1;go_simp;try rfl
 try simp only [tD]
 refine rlx 12 fun K hK=>?_
 go_simp
 refine hK.out _ _ ?_
 try simp only [tD]
 clear hK K
 refine wpAnyX_done (by kernel_rfl) ?_ _
 refine hK1.out _ _ ?_
 have start:Hid (I W3∧Keep ρ W W3∧(mayS N L fx (c.regs.take 0)).any stop=false):=qh ⟨HI.out W W3 H0.out (Nat.le_refl _) (Keep.of_ext hS),Keep.of_ext hS,rfl⟩
 clear hK1 hS H0
 gi_wp2_with fail
 gi_loopw [19] (fun i wr=>∃ j:Nat,j≤c.regs.length∧i=.int .i64 j∧Hid (I wr∧Keep ρ W wr∧(mayS N L fx (c.regs.take j)).any stop=false)) (fun i _=>c.regs.length - (intOf i).toNat)
 case atStart=>exact ⟨0,by omega,rfl,start⟩
 case round =>
  clear start
  obtain ⟨j,hj,rfl,hin⟩:=hrel
  have KW:=qh hin.out.2.1
  have ND:∀ k,k<n1∨k=bx∨k=bo→¬ ρ k:=fun k hk h=>(HP.out k h).2 hk
  by_cases hjl:j<c.regs.length
  ·have hjz:(j:Int)<(c.regs.length:Int):=by omega
   obtain ⟨r,hr⟩:∃ r,c.regs[j]?=some r:=⟨_,lE hjl⟩
   have hmem:=List.mem_of_getElem? hr
   have CK:=qh (H.out.keep KW.out.size (fun k hk=>KW.out.block k (Nat.lt_of_lt_of_le hk H.out.le) (ND k (Or.inl hk))))
   have HUr:=qh (Tab.same HU.out (fun k hk=>KW.out.block k (Nat.lt_of_lt_of_le hk H.out.le) (ND k (Or.inl hk))))
   obtain ⟨ub,uoff,ucap,eu,_,_,hubn,g0⟩:=StrsIn.at HUr.out hr
   cases eu
   have cx:=KW.out.cell cx (ND bx (Or.inr (Or.inl rfl)))
   have co1:=KW.out.cell co1 (ND bo (Or.inr (Or.inr rfl)))
   have htk:c.regs.take (j+1)=c.regs.take j ++ [r]:=by
    rw [List.take_add_one,hr];rfl
   obtain ⟨pn,hpn⟩:∃ n:Int,regS N r 9=.ok n:=⟨idx N r,by unfold regS;rw [if_pos (HR.out r hmem)]⟩
   have hpn':pn=idx N r:=by unfold regS at hpn;rw [if_pos (HR.out r hmem)] at hpn;cases hpn;rfl
   obtain ⟨pj,pp,rfl,hpj,hpp,hpf⟩:=plAt_ok CK.out hpn
   have hpz:(pj:Int)<(L.length:Int):=by have:=(List.getElem?_eq_some_iff.1 hpj).1;omega
   obtain ⟨pb,poff,pcap,ep,_,_,_,d0,d1,d2⟩:=PlsIn.at CK.out.pl hpj
   have e9:=CK.out.cells 9 _ rfl
   dsimp only at ep e9
   rw [ep] at e9
   have hreg:=qh (fun (W':World) (x:Ext wr W')=>regM_any (CK.out.ext x) r 9)
   rw [hpn] at hreg
   have hany:(mayS N L fx (c.regs.take (j+1))).any stop=if ((fx == ⟨#[]⟩) || (fx == r))=true then stop pp else false:=by
    rw [htk,mayS_snoc,List.any_append,hin.out.2.2,← hpn',hpp,Bool.false_or]
    by_cases h:((fx == ⟨#[]⟩) || (fx == r))=true
    ·rw [if_pos h,if_pos h];simp
    ·rw [if_neg h,if_neg h];rfl
   have hinm:((fx == ⟨#[]⟩) || (fx == r))=true→pp∈mayS N L fx c.regs:=fun h=>by
    unfold mayS
    exact List.mem_map.2 ⟨r,List.mem_filter.2 ⟨hmem,h⟩,by rw [← hpn',hpp]⟩
   have AN:=qh hany
   have IN:=qh hinm
   have HRr:=qh hr
   have hIw:=qh hin.out.1
   clear hany hinm hr hmem htk hpn hpn' hpj hpp HUr ep hin
   gi_wp2_with fail
   by_cases hf:fx=⟨#[]⟩
   case pos =>
    subst hf
    rename_i K1 hK1
    have hK1:=qh hK1
    refine wpIn_region_X (fun w'=>Ext wr w') 20 (by kernel_rfl) (Ext.drew _) (fun hS=>?_)
    refine' tkx 0 hS ?_ ?_;rotate_left;·intros;go_simp;try rfl
    refine' tkx 1 hS ?_ ?_;rotate_left;·intro w hSw;have p1:=xc hSw co1;go_simp;try rfl
    refine' tkx 2 hS ?_ ?_;rotate_left;·intros;go_simp;try rfl
    try simp only [tD]
    refine' tkx 3 hS ?_ ?_;rotate_left;·intros;go_simp;try rfl
    try simp only [tD]
    refine skx 4 hS ?_
    try simp only [tD]
    refine skx 5 hS ?_
    try simp only [tD]
    refine skx 6 hS ?_
    try simp only [tD]
    refine skx 7 hS ?_
    try simp only [tD]
    refine' tkx 8 hS ?_ ?_;rotate_left;·intros;go_simp;try rfl
    refine' tkx 9 hS ?_ ?_;rotate_left;·intros;go_simp;try rfl
    refine' tkx 10 hS ?_ ?_;rotate_left;·intros;go_simp;try rfl
    try simp only [tD]
    refine' tkx 11 hS ?_ ?_;rotate_left;·intro w hSw;have p0:=xc hSw cx;go_simp;try rfl
    refine' tkx 12 hS ?_ ?_;rotate_left;·intros;go_simp;try rfl
    refine' tkx 13 hS ?_ ?_;rotate_left;·intros;go_simp;try rfl
    try simp only [tD]
    refine' tkx 14 hS ?_ ?_;rotate_left;·intro w hSw;have p9:=xc hSw e9;go_simp;try rfl
    refine' tkx 15 hS ?_ ?_;rotate_left;·intro w hSw;have p0:=xc hSw cx;go_simp;try rfl
    refine' tkx 16 hS ?_ ?_;rotate_left;·intros;go_simp;try rfl
    try simp only [tD]
    generalize wr.drew=W2 at hS ⊢
    have AN:=AN.out
    have HIN:=IN.out (by show ((_ == _) || _)=true;rw [show ((⟨#[]⟩:ByteArray) == ⟨#[]⟩)=true from rfl];rfl)
    rw [if_pos (by show ((_ == _) || _)=true;rw [show ((⟨#[]⟩:ByteArray) == ⟨#[]⟩)=true from rfl];rfl)] at AN
    refine rcx 17 fun K hK=>?_
    go_simp
    (try refine ⟨trivial,?_⟩);(try refine ⟨(fun h=>by cases h),?_⟩)
    refine ((callsIn_wide.2 (hreg.out W2 hS))).mono ?_
    rintro e W3 ⟨he,rfl⟩
    unfold endOf at he
    subst he
    refine hK.out _ _ hS ?_
    clear hK K
    refine' tkx 18 hS ?_ ?_;rotate_left;·intros;go_simp;try rfl
    refine' tkx 19 hS ?_ ?_;rotate_left;·intro w hSw;have q0:=xc hSw d0;have q1:=xc hSw d1;have q2:=xc hSw d2;go_simp;try rfl
    try simp only [tD]
    have hy:=HY.out (n - 1) W2 pp _ HIN rfl (Nat.le_trans KW.out.size hS.size) (HI.out wr W2 hIw.out KW.out.size (Keep.of_ext hS))
    cases hst:stop pp with
    | true =>
     rw [hst] at hy AN
     obtain ⟨fn,tm,asg,bdy,hyr,hR⟩:=hy
     have hR:=qh hR
     have ANH:=qh AN
     have ST:=qh hst
     clear AN hst HY
     unfold Pl.val at hyr
     refine rlx 20 fun K hK=>?_
     go_simp
     (try refine ⟨trivial,?_⟩);(try refine ⟨(fun h=>by cases h),?_⟩)
     refine hR.out.mono ?_
     rintro e W5 ⟨k5,rfl,hij⟩
     rw [if_pos rfl] at hij
     have FIN:=qh (And.intro ((KW.out.trans (Keep.of_ext hS:Keep ρ wr W2) (fun _ _ h=>h)).trans k5 (fun _ _ h=>h)) hij)
     clear k5 hij hS hR
     refine hK.out _ _ ?_
     try simp only [tD]
     clear hK K
     refine' twx 21 ?_ ?_;rotate_left;·intros;go_simp;try rfl
     try simp only [tD]
     refine' twx 22 ?_ ?_;rotate_left;·intros;go_simp;try rfl
     try simp only [tD]
     refine wpAnyX_done (by kernel_rfl) ?_ _
     refine hK1.out _ _ ?_
     clear hK1
     gi_wp2_with fail
     refine bodyPost_ret (results_none rfl _ _ _) rfl ?_
     exact SearchEnd.stopped (mayS_prefix ANH.out) FIN.out.1 FIN.out.2
    | false =>
     rw [hst] at hy AN
     obtain ⟨fn,tm,asg,bdy,hyr,hR⟩:=hy
     have hR:=qh hR
     have ANH:=qh AN
     have ST:=qh hst
     clear AN hst HY
     unfold Pl.val at hyr
     refine rlx 20 fun K hK=>?_
     go_simp
     (try refine ⟨trivial,?_⟩);(try refine ⟨(fun h=>by cases h),?_⟩)
     refine hR.out.mono ?_
     rintro e W5 ⟨k5,rfl,hij⟩
     rw [if_neg (by simp)] at hij
     have FIN:=qh (And.intro ((KW.out.trans (Keep.of_ext hS:Keep ρ wr W2) (fun _ _ h=>h)).trans k5 (fun _ _ h=>h)) hij)
     clear k5 hij hS hR
     refine hK.out _ _ ?_
     try simp only [tD]
     clear hK K
     refine' twx 21 ?_ ?_;rotate_left;·intros;go_simp;try rfl
     try simp only [tD]
     refine' twx 22 ?_ ?_;rotate_left;·intros;go_simp;try rfl
     try simp only [tD]
     refine wpAnyX_done (by kernel_rfl) ?_ _
     refine hK1.out _ _ ?_
     clear hK1
     gi_wp2_with fail
     go_roundw
     case rel=>exact ⟨j+1,by omega,by go_num,qh ⟨FIN.out.2,FIN.out.1,ANH.out⟩⟩
     case measure=>simp [intOf];omega
   by_cases hfr:fx=r
   case pos =>
    subst hfr
    have q1:=ne_empty hf
    rename_i K1 hK1
    have hK1:=qh hK1
    refine wpIn_region_X (fun w'=>Ext wr w') 20 (by kernel_rfl) (Ext.drew _) (fun hS=>?_)
    refine' tkx 0 hS ?_ ?_;rotate_left;·intros;go_simp;try rfl
    refine' tkx 1 hS ?_ ?_;rotate_left;·intro w hSw;have p1:=xc hSw co1;go_simp;try rfl
    refine' tkx 2 hS ?_ ?_;rotate_left;·intros;go_simp;try rfl
    try simp only [tD]
    refine' tkx 3 hS ?_ ?_;rotate_left;·intros;go_simp;try rfl
    refine' tkx 4 hS ?_ ?_;rotate_left;·intros;go_simp;try rfl
    refine' tkx 5 hS ?_ ?_;rotate_left;·intro w hSw;have p1:=xc hSw co1;go_simp;try rfl
    try simp only [tD]
    refine' tkx 6 hS ?_ ?_;rotate_left;·intros;go_simp;try rfl
    refine' tkx 7 hS ?_ ?_;rotate_left;·intros;go_simp;try rfl
    refine' tkx 8 hS ?_ ?_;rotate_left;·intros;go_simp;try rfl
    try simp only [tD]
    refine' tkx 9 hS ?_ ?_;rotate_left;·intros;go_simp;try rfl
    refine' tkx 10 hS ?_ ?_;rotate_left;·intros;go_simp;try rfl
    refine' tkx 11 hS ?_ ?_;rotate_left;·intro w hSw;have p0:=xc hSw cx;go_simp;try rfl
    try simp only [tD]
    refine' tkx 12 hS ?_ ?_;rotate_left;·intros;go_simp;try rfl
    refine' tkx 13 hS ?_ ?_;rotate_left;·intros;go_simp;try rfl
    refine' tkx 14 hS ?_ ?_;rotate_left;·intro w hSw;have p9:=xc hSw e9;go_simp;try rfl
    try simp only [tD]
    refine' tkx 15 hS ?_ ?_;rotate_left;·intro w hSw;have p0:=xc hSw cx;go_simp;try rfl
    refine' tkx 16 hS ?_ ?_;rotate_left;·intros;go_simp;try rfl
    try simp only [tD]
    generalize wr.drew=W2 at hS ⊢
    have AN:=AN.out
    have HIN:=IN.out (by rw [show (fx == fx)=true from (ba_beq _ _).2 rfl];simp)
    rw [if_pos (by rw [show (fx == fx)=true from (ba_beq _ _).2 rfl];simp)] at AN
    refine rcx 17 fun K hK=>?_
    go_simp
    (try refine ⟨trivial,?_⟩);(try refine ⟨(fun h=>by cases h),?_⟩)
    refine ((callsIn_wide.2 (hreg.out W2 hS))).mono ?_
    rintro e W3 ⟨he,rfl⟩
    unfold endOf at he
    subst he
    refine hK.out _ _ hS ?_
    clear hK K
    refine' tkx 18 hS ?_ ?_;rotate_left;·intros;go_simp;try rfl
    refine' tkx 19 hS ?_ ?_;rotate_left;·intro w hSw;have q0:=xc hSw d0;have q1:=xc hSw d1;have q2:=xc hSw d2;go_simp;try rfl
    try simp only [tD]
    have hy:=HY.out (n - 1) W2 pp _ HIN rfl (Nat.le_trans KW.out.size hS.size) (HI.out wr W2 hIw.out KW.out.size (Keep.of_ext hS))
    cases hst:stop pp with
    | true =>
     rw [hst] at hy AN
     obtain ⟨fn,tm,asg,bdy,hyr,hR⟩:=hy
     have hR:=qh hR
     have ANH:=qh AN
     have ST:=qh hst
     clear AN hst HY
     unfold Pl.val at hyr
     refine rlx 20 fun K hK=>?_
     go_simp
     (try refine ⟨trivial,?_⟩);(try refine ⟨(fun h=>by cases h),?_⟩)
     refine hR.out.mono ?_
     rintro e W5 ⟨k5,rfl,hij⟩
     rw [if_pos rfl] at hij
     have FIN:=qh (And.intro ((KW.out.trans (Keep.of_ext hS:Keep ρ wr W2) (fun _ _ h=>h)).trans k5 (fun _ _ h=>h)) hij)
     clear k5 hij hS hR
     refine hK.out _ _ ?_
     try simp only [tD]
     clear hK K
     refine' twx 21 ?_ ?_;rotate_left;·intros;go_simp;try rfl
     try simp only [tD]
     refine' twx 22 ?_ ?_;rotate_left;·intros;go_simp;try rfl
     try simp only [tD]
     refine wpAnyX_done (by kernel_rfl) ?_ _
     refine hK1.out _ _ ?_
     clear hK1
     gi_wp2_with fail
     refine bodyPost_ret (results_none rfl _ _ _) rfl ?_
     exact SearchEnd.stopped (mayS_prefix ANH.out) FIN.out.1 FIN.out.2
    | false =>
     rw [hst] at hy AN
     obtain ⟨fn,tm,asg,bdy,hyr,hR⟩:=hy
     have hR:=qh hR
     have ANH:=qh AN
     have ST:=qh hst
     clear AN hst HY
     unfold Pl.val at hyr
     refine rlx 20 fun K hK=>?_
     go_simp
     (try refine ⟨trivial,?_⟩);(try refine ⟨(fun h=>by cases h),?_⟩)
     refine hR.out.mono ?_
     rintro e W5 ⟨k5,rfl,hij⟩
     rw [if_neg (by simp)] at hij
     have FIN:=qh (And.intro ((KW.out.trans (Keep.of_ext hS:Keep ρ wr W2) (fun _ _ h=>h)).trans k5 (fun _ _ h=>h)) hij)
     clear k5 hij hS hR
     refine hK.out _ _ ?_
     try simp only [tD]
     clear hK K
     refine' twx 21 ?_ ?_;rotate_left;·intros;go_simp;try rfl
     try simp only [tD]
     refine' twx 22 ?_ ?_;rotate_left;·intros;go_simp;try rfl
     try simp only [tD]
     refine wpAnyX_done (by kernel_rfl) ?_ _
     refine hK1.out _ _ ?_
     clear hK1
     gi_wp2_with fail
     go_roundw
     case rel=>exact ⟨j+1,by omega,by go_num,qh ⟨FIN.out.2,FIN.out.1,ANH.out⟩⟩
     case measure=>simp [intOf];omega
   case neg =>
    have q1:=ne_empty hf
    have q2:=ne_str hfr
    rename_i K1 hK1
    have hK1:=qh hK1
    refine wpIn_region_X (fun w'=>Ext wr w') 22 (by kernel_rfl) (Ext.drew _) (fun hS=>?_)
    refine' tkx 0 hS ?_ ?_;rotate_left;·intros;go_simp;try rfl
    refine' tkx 1 hS ?_ ?_;rotate_left;·intro w hSw;have p1:=xc hSw co1;go_simp;try rfl
    refine' tkx 2 hS ?_ ?_;rotate_left;·intros;go_simp;try rfl
    try simp only [tD]
    refine' tkx 3 hS ?_ ?_;rotate_left;·intros;go_simp;try rfl
    refine' tkx 4 hS ?_ ?_;rotate_left;·intros;go_simp;try rfl
    refine' tkx 5 hS ?_ ?_;rotate_left;·intro w hSw;have p1:=xc hSw co1;go_simp;try rfl
    try simp only [tD]
    refine' tkx 6 hS ?_ ?_;rotate_left;·intros;go_simp;try rfl
    refine' tkx 7 hS ?_ ?_;rotate_left;·intros;go_simp;try rfl
    refine' tkx 8 hS ?_ ?_;rotate_left;·intros;go_simp;try rfl
    try simp only [tD]
    refine' tkx 9 hS ?_ ?_;rotate_left;·intros;go_simp;try rfl
    try simp only [tD]
    refine skx 10 hS ?_
    try simp only [tD]
    refine skx 11 hS ?_
    try simp only [tD]
    refine skx 12 hS ?_
    try simp only [tD]
    refine skx 13 hS ?_
    try simp only [tD]
    refine skx 14 hS ?_
    try simp only [tD]
    refine skx 15 hS ?_
    try simp only [tD]
    refine skx 16 hS ?_
    try simp only [tD]
    refine skx 17 hS ?_
    try simp only [tD]
    refine skx 18 hS ?_
    try simp only [tD]
    refine skx 19 hS ?_
    try simp only [tD]
    refine skx 20 hS ?_
    try simp only [tD]
    refine skx 21 hS ?_
    try simp only [tD]
    generalize wr.drew=W2 at hS ⊢
    have ANH:=qh (AN.out.trans (if_neg (by simp only [Bool.or_eq_true,ba_beq,not_or];exact ⟨hf,hfr⟩)))
    have FIN:=qh (And.intro (KW.out.trans (Keep.of_ext hS:Keep ρ wr W2) (fun _ _ h=>h)) (HI.out wr W2 hIw.out KW.out.size (Keep.of_ext hS)))
    refine rlx 22 fun K hK=>?_
    go_simp
    refine hK.out _ _ ?_
    try simp only [tD]
    clear hK K
    refine wpAnyX_done (by kernel_rfl) ?_ _
    refine hK1.out _ _ ?_
    clear hK1 hS hf hfr
    gi_wp2_with fail
    go_roundw
    case rel=>exact ⟨j+1,by omega,by go_num,qh ⟨FIN.out.2,FIN.out.1,ANH.out⟩⟩
    case measure=>simp [intOf];omega
  ·have hjz:¬ (j:Int)<(c.regs.length:Int):=by omega
   obtain rfl:j=c.regs.length:=by omega
   have ANH:=qh (by have:=hin.out.2.2;rw [List.take_length] at this;exact this:(mayS N L fx c.regs).any stop=false)
   gi_wp2_with fail
   refine bodyPost_end (results_none rfl _ _ _) rfl ?_
   exact SearchEnd.all ANH.out hin.out.2.1 hin.out.1
end Go.Proofs.YtligiddaampneaaGreat
end
section
namespace Go.Proofs.YtligiddaampneaaGreat
open Go.RowKit
attribute [local go_sem] Oper.semAt_some
variable {W : World} {n1 bc : Nat} {V : MV} {M : Mach} {N : List ByteArray} {L : List Pl}
def sparedS (N:List ByteArray) (L:List Pl) (clob:List ByteArray) (p:Pl):Bool:=clob.all fun r=>!lapS p (plAt L (idx N r))
theorem cells_one (W:World) (cs:List Value) (t:TypeId):∀ (j:Nat) v,cs[j]?=some v→(W.alloc (.cells cs.toArray t)).cell? ⟨W.heap.size,j,none⟩=some v:=by
 intro j v h
 exact (cell_new W cs.toArray t j).trans (by simpa using h)
theorem cells_two (W:World) (cs ds:List Value) (t u:TypeId):(∀ (j:Nat) v,cs[j]?=some v→((W.alloc (.cells cs.toArray t)).alloc (.cells ds.toArray u)).cell? ⟨W.heap.size,j,none⟩=some v)∧(∀ (j:Nat) v,ds[j]?=some v→((W.alloc (.cells cs.toArray t)).alloc (.cells ds.toArray u)).cell? ⟨W.heap.size+1,j,none⟩=some v):=by
 refine ⟨fun j v h=>(Ext.alloc _ _).cell (cells_one W cs t j v h),fun j v h=>?_⟩
 have:=cells_one (W.alloc (.cells cs.toArray t)) ds u j v h
 rw [show (W.alloc (.cells cs.toArray t)).heap.size=W.heap.size+1 by simp] at this
 exact this
theorem sparedM (h:CkIn W n1 bc V M N L) (o:Opn) (vU vK:Value) (hcl:StrsIn W n1 vK o.clob) (hr:∀ r∈o.clob,0≤idx N r) (p:Pl) (hp:p.fit) :
  Calls Tryz.prog 164 #[.pointer (some ⟨bc,0,none⟩),.agg #[.string o.name,.string o.dfn.cls,.string o.dfn.fix,vU,.int .i64 o.tie,vK],.agg #[.int .i64 p.root,.int .i64 p.beg,.int .i64 p.width]] W
   fun e W'=>e=.returned (.bool (sparedS N L o.clob p))∧Ext W W':=by
 generalize hres:sparedS N L o.clob p=res
 obtain ⟨c1,c2⟩:=cells_two W [.string o.name,.string o.dfn.cls,.string o.dfn.fix,vU,.int .i64 o.tie,vK] [.int .i64 p.root,.int .i64 p.beg,.int .i64 p.width] 60 88
 have a5:=c1 5 _ rfl
 have b0:=c2 0 _ rfl
 have b1:=c2 1 _ rfl
 have b2:=c2 2 _ rfl
 clear c1 c2
 have X0:Ext W ((W.alloc (.cells #[.string o.name,.string o.dfn.cls,.string o.dfn.fix,vU,.int .i64 o.tie,vK] 60)).alloc (.cells #[.int .i64 p.root,.int .i64 p.beg,.int .i64 p.width] 88)):=(Ext.alloc _ _).trans (Ext.alloc _ _)
 have X0:=qh X0
 obtain ⟨ka,kc,ek,hk1,hk2⟩:=hcl.form
 subst ek
 unfold maxLen at hk2
 have HR:=qh hr
 have CK:=qh (h.ext X0.out)
 have HK:=qh (hcl.ext h.le X0.out)
 have HLE:=qh (Nat.le_trans h.le X0.out.size)
 have RES:=qh hres
 clear h hcl hr hres
 go_enter Tryz.func164,Tryz.ntmps164
 go_wp2
 generalize (W.alloc (.cells #[.string o.name,.string o.dfn.cls,.string o.dfn.fix,vU,.int .i64 o.tie,.slice ka o.clob.length kc] 60)).alloc (.cells #[.int .i64 p.root,.int .i64 p.beg,.int .i64 p.width] 88)=W1 at *
 generalize W.heap.size=bo at *
 have start:Hid (Ext W1 W1∧sparedS N L (o.clob.take 0) p=true):=qh ⟨Ext.refl _,rfl⟩
 go_loopw [12] (fun i wr=>∃ j:Nat,j≤o.clob.length∧i=.int .i64 j∧Hid (Ext W1 wr∧sparedS N L (o.clob.take j) p=true)) (fun i _=>o.clob.length - (intOf i).toNat)
 case atStart=>exact ⟨0,by omega,rfl,start⟩
 case round =>
  clear start
  obtain ⟨j,hj,rfl,hin⟩:=hrel
  have X1:=qh (X0.out.trans hin.out.1)
  by_cases hjl:j<o.clob.length
  ·have hjz:(j:Int)<(o.clob.length:Int):=by omega
   obtain ⟨r,hr⟩:∃ r,o.clob[j]?=some r:=⟨_,lE hjl⟩
   have hmem:=List.mem_of_getElem? hr
   have CK:=qh (CK.out.ext hin.out.1)
   have HKr:=qh (HK.out.ext HLE.out hin.out.1)
   obtain ⟨ub,uoff,ucap,eu,_,_,hubn,g0⟩:=StrsIn.at HKr.out hr
   cases eu
   have b0:=xc hin.out.1 b0
   have b1:=xc hin.out.1 b1
   have b2:=xc hin.out.1 b2
   obtain ⟨pn,hpn⟩:∃ n:Int,regS N r 9=.ok n:=⟨idx N r,by unfold regS;rw [if_pos (HR.out r hmem)]⟩
   have hpn':pn=idx N r:=by unfold regS at hpn;rw [if_pos (HR.out r hmem)] at hpn;cases hpn;rfl
   obtain ⟨pj,pp,rfl,hpj,hpp,hpf⟩:=plAt_ok CK.out hpn
   have hpz:(pj:Int)<(L.length:Int):=by have:=(List.getElem?_eq_some_iff.1 hpj).1;omega
   obtain ⟨pb,poff,pcap,ep,_,_,_,d0,d1,d2⟩:=PlsIn.at CK.out.pl hpj
   have e9:=CK.out.cells 9 _ rfl
   rw [ep] at e9
   have hreg:=qh (fun (W':World) (x:Ext wr W')=>regM_any (CK.out.ext x) r 9)
   rw [hpn] at hreg
   have htk:o.clob.take (j+1)=o.clob.take j ++ [r]:=by
    rw [List.take_add_one,hr];rfl
   have hall:sparedS N L (o.clob.take (j+1)) p = !lapS p pp:=by
    have h0:=hin.out.2
    unfold sparedS at h0 ⊢
    rw [htk,List.all_append,h0,← hpp,hpn'];simp
   have AN:=qh hall
   have XI:=qh hin.out.1
   have HLP:=qh (fun (W':World)=>lap_any p pp W' hp hpf)
   clear hall htk hr hmem hpn hpn' hpj hpp ep hin HKr
   go_wp2
   rename_i K1 hK1
   have hK1:=qh hK1
   refine wp_region_M (fun w'=>Ext wr w') 10 (by kernel_rfl) (Ext.drew _) (fun hS=>?_)
   refine' tk 0 hS ?_ ?_;rotate_left;·intro w hSw;have p0:=xc hSw b0;have p1:=xc hSw b1;have p2:=xc hSw b2;go_simp;try rfl
   refine' tk 1 hS ?_ ?_;rotate_left;·intros;go_simp;try rfl
   refine' tk 2 hS ?_ ?_;rotate_left;·intros;go_simp;try rfl
   try simp only [tD]
   refine' tk 3 hS ?_ ?_;rotate_left;·intros;go_simp;try rfl
   refine' tk 4 hS ?_ ?_;rotate_left;·intro w hSw;have p9:=xc hSw e9;go_simp;try rfl
   refine' tk 5 hS ?_ ?_;rotate_left;·intros;go_simp;try rfl
   try simp only [tD]
   refine' tk 6 hS ?_ ?_;rotate_left;·intros;go_simp;try rfl
   try simp only [tD]
   generalize wr.drew=W2 at hS ⊢
   refine rc 7 fun K hK=>?_
   go_simp
   refine ((hreg.out W2 hS)).mono ?_
   rintro e W3 ⟨he,rfl⟩
   unfold endOf at he
   subst he
   refine hK.out _ _ hS ?_
   clear hK K
   refine' tk 8 hS ?_ ?_;rotate_left;·intros;go_simp;try rfl
   refine' tk 9 hS ?_ ?_;rotate_left;·intro w hSw;have q0:=xc hSw d0;have q1:=xc hSw d1;have q2:=xc hSw d2;go_simp;try rfl
   try simp only [tD]
   refine rl 10 fun K hK=>?_
   go_simp
   refine ((HLP.out W2)).mono ?_
   rintro e W3 ⟨rfl,x3⟩
   refine hK.out _ _ ?_
   try simp only [tD]
   clear hK K
   refine wpAnyM_done (by kernel_rfl) ?_ _
   refine hK1.out _ _ ?_
   have XF:=qh (XI.out.trans (hS.trans x3))
   have XG:=qh (X1.out.trans (hS.trans x3))
   clear hS x3 hK1
   cases hlp:lapS p pp with
   | true =>
    go_wp2
    go_ret
    refine ⟨ret_bool ?_,XG.out⟩
    rw [← RES.out]
    have:=AN.out
    rw [hlp,Bool.not_true] at this
    symm
    unfold sparedS at this ⊢
    rw [Bool.eq_false_iff] at this ⊢
    intro hh
    apply this
    rw [List.all_eq_true] at hh ⊢
    exact fun x hx=>hh x (List.mem_of_mem_take hx)
   | false =>
    go_wp2
    go_roundw
    case rel=>exact ⟨j+1,by omega,by go_num,qh ⟨XF.out,by rw [AN.out,hlp];rfl⟩⟩
    case measure=>simp [intOf];omega
  ·have hjz:¬ (j:Int)<(o.clob.length:Int):=by omega
   obtain rfl:j=o.clob.length:=by omega
   have h0:=hin.out.2
   rw [List.take_length] at h0
   have FIN:=qh (RES.out.symm.trans h0)
   clear h0
   go_wp2
   go_ret
   exact ⟨ret_bool FIN.out.symm,X1.out⟩
def definedS (N:List ByteArray) (L:List Pl) (o:Opn) (regs:List ByteArray) (l:List Pl):Bool :=
 if 0≤o.tie then sparedS N L o.clob (l.getD o.tie.toNat ⟨0,0,0⟩) else (mayS N L o.dfn.fix regs).any (sparedS N L o.clob)
theorem cells_three (W:World) (cs ds es:List Value) (t u v:TypeId):(∀ (j:Nat) x,cs[j]?=some x→(((W.alloc (.cells cs.toArray t)).alloc (.cells ds.toArray u)).alloc (.cells es.toArray v)).cell? ⟨W.heap.size,j,none⟩=some x) ∧
  (∀ (j:Nat) x,ds[j]?=some x→(((W.alloc (.cells cs.toArray t)).alloc (.cells ds.toArray u)).alloc (.cells es.toArray v)).cell? ⟨W.heap.size+1,j,none⟩=some x) ∧
  (((W.alloc (.cells cs.toArray t)).alloc (.cells ds.toArray u)).alloc (.cells es.toArray v)).heap[W.heap.size+2]?=some (.cells es.toArray v (0,0)):=by
 obtain ⟨h1,h2⟩:=cells_two W cs ds t u
 refine ⟨fun j x h=>(Ext.alloc _ _).cell (h1 j x h),fun j x h=>(Ext.alloc _ _).cell (h2 j x h),?_⟩
 have:=heap_alloc_new ((W.alloc (.cells cs.toArray t)).alloc (.cells ds.toArray u)) (.cells es.toArray v)
 rw [show ((W.alloc (.cells cs.toArray t)).alloc (.cells ds.toArray u)).heap.size=W.heap.size+2 by simp] at this
 exact this
theorem definedM_tied (h:CkIn W n1 bc V M N L) (o:Opn) (vU vK vl:Value) (hcl:StrsIn W n1 vK o.clob) (hr:∀ r∈o.clob,0≤idx N r) (regs:List ByteArray) {n2:Nat} {l:List Pl} (hl:PlsIn W n2 vl l) (hfit:∀ p∈l,p.fit)
  (ht:0≤o.tie) (htl:o.tie<l.length) :
  Calls Tryz.prog 155 #[.pointer (some ⟨bc,0,none⟩),.agg #[.string o.name,.string o.dfn.cls,.string o.dfn.fix,vU,.int .i64 o.tie,vK],vl] W
   fun e W'=>e=.returned (.bool (definedS N L o regs l))∧Ext W W':=by
 unfold definedS
 rw [if_pos ht]
 obtain ⟨oname,⟨ocls,ofix⟩,ouses,otie,oclob⟩:=o
 dsimp only at *
 obtain ⟨tn,rfl⟩:∃ t:Nat,otie=t:=⟨otie.toNat,by omega⟩
 obtain ⟨p,hp⟩:∃ p,l[tn]?=some p:=⟨l[tn]'(by omega),lE _⟩
 have hpl:l.getD ((tn:Int).toNat) ⟨0,0,0⟩=p:=by rw [Int.toNat_natCast,List.getD,hp];rfl
 rw [hpl]
 have hpf:=hfit p (List.mem_of_getElem? hp)
 obtain ⟨ka,kc,ek,hk1,hk2⟩:=hcl.form
 subst ek
 obtain ⟨c1,c2,blk⟩:=cells_three W [.pointer (some ⟨bc,0,none⟩)] [.string oname,.string ocls,.string ofix,vU,.int .i64 (tn:Int),.slice ka oclob.length kc] [.bool false] 119 60 4
 have a0:=c1 0 _ rfl
 have b0:=c2 0 _ rfl
 have b1:=c2 1 _ rfl
 have b2:=c2 2 _ rfl
 have b3:=c2 3 _ rfl
 have b4:=c2 4 _ rfl
 have b5:=c2 5 _ rfl
 obtain ⟨lb,loff,lcap,el,hl1,hl2,hlb,f0,f1,f2⟩:=hl.at hp
 subst el
 unfold maxLen at hl2
 have htz:(tn:Int)<(l.length:Int):=by omega
 have htz0:(0:Int)≤(tn:Int):=by omega
 have hsp:=qh (fun (W':World) (x:Ext W W')=>sparedM (h.ext x) ⟨oname,⟨ocls,ofix⟩,ouses,tn,oclob⟩ vU _ (hcl.ext h.le x) hr p hpf)
 dsimp only at hsp
 have X0:Ext W (((W.alloc (.cells #[.pointer (some ⟨bc,0,none⟩)] 119)).alloc (.cells #[.string oname,.string ocls,.string ofix,vU,.int .i64 (tn:Int),.slice ka oclob.length kc] 60)).alloc (.cells #[.bool false] 4)):=((Ext.alloc _ _).trans (Ext.alloc _ _)).trans (Ext.alloc _ _)
 generalize hres:sparedS N L oclob p=res at hsp ⊢
 have g0:=X0.cell f0
 have g1:=X0.cell f1
 have g2:=X0.cell f2
 have X0:=qh X0
 clear c1 c2 hl hp hcl hr h hres ht htl hpl f0 f1 f2
 go_enter Tryz.func155,Tryz.ntmps155
 go_wp2
 rename_i K1 hK1
 have hK1:=qh hK1
 simp only [Nat.add_assoc,Nat.reduceAdd]
 generalize ((W.alloc (.cells #[.pointer (some ⟨bc,0,none⟩)] 119)).alloc (.cells #[.string oname,.string ocls,.string ofix,vU,.int .i64 (tn:Int),.slice ka oclob.length kc] 60)).alloc (.cells #[.bool false] 4)=W1 at X0 a0 b0 b1 b2 b3 b4 b5 blk g0 g1 g2 ⊢
 obtain ⟨bo,hbo⟩:∃ b,b=W.heap.size:=⟨_,rfl⟩
 rw [← hbo] at a0 b0 b1 b2 b3 b4 b5 blk ⊢
 have HBO:=qh hbo
 clear hbo
 refine wp_region_M (fun w'=>Ext W1 w') 7 (by kernel_rfl) (Ext.drew _) (fun hS=>?_)
 refine' tk 0 hS ?_ ?_;rotate_left;·intro w hSw;have p0:=xc hSw a0;go_simp;try rfl
 refine' tk 1 hS ?_ ?_;rotate_left;·intro w hSw;have q0:=xc hSw b0;have q1:=xc hSw b1;have q2:=xc hSw b2;have q3:=xc hSw b3;have q4:=xc hSw b4;have q5:=xc hSw b5;go_simp;try rfl
 refine' tk 2 hS ?_ ?_;rotate_left;·intros;go_simp;try rfl
 try simp only [tD]
 refine' tk 3 hS ?_ ?_;rotate_left;·intros;go_simp;try rfl
 refine' tk 4 hS ?_ ?_;rotate_left;·intro w hSw;have q4:=xc hSw b4;go_simp;try rfl
 refine' tk 5 hS ?_ ?_;rotate_left;·intros;go_simp;try rfl
 try simp only [tD]
 refine' tk 6 hS ?_ ?_;rotate_left;·intro w hSw;have r0:=xc hSw g0;have r1:=xc hSw g1;have r2:=xc hSw g2;go_simp;try rfl
 try simp only [tD]
 generalize W1.drew=W2 at hS ⊢
 refine rl 7 fun K hK=>?_
 go_simp
 refine ((hsp.out W2 (X0.out.trans hS))).mono ?_
 rintro e W3 ⟨rfl,x3⟩
 refine hK.out _ _ ?_
 try simp only [tD]
 clear hK K
 have blk3:=(hS.trans x3).block blk
 have cc:=cell_of_one blk3
 have ff:=free_of_one blk3
 have X3:=X0.out.trans (hS.trans x3)
 refine rl 8 fun K hK=>?_
 go_simp
 refine hK.out _ _ ?_
 try simp only [tD]
 clear hK K
 refine wpAnyM_done (by kernel_rfl) ?_ _
 refine hK1.out _ _ ?_
 have X4:=qh (Below.setCell X3 (p:=⟨bo+2,0,none⟩) (by rw [HBO.out];show W.heap.size≤W.heap.size+2;omega) (.bool res))
 have cell4:=cell_of_one (heap_set_cells blk3 0 (.bool res))
 generalize W3.setCell ⟨bo+2,0,none⟩ (.bool res)=W4 at X4 cell4 ⊢
 clear hK1 hS x3 X3 cc ff blk3
 go_wp2
 exact bodyPost_ret (v:=.bool res) (by simp [results,Tryz.results155,go_sem,cell4]) rfl ⟨rfl,X4.out⟩
end Go.Proofs.YtligiddaampneaaGreat
end
section
namespace Go.Proofs.YtligiddaampneaaGreat
open Go.RowKit
attribute [local go_sem] Oper.semAt_some
variable {W : World} {n1 bc : Nat} {V : MV} {M : Mach} {N : List ByteArray} {L : List Pl}
theorem mayS_fit (h:CkIn W n1 bc V M N L) {fx:ByteArray} {regs:List ByteArray} (hr:∀ r∈regs,0≤idx N r) {p:Pl} (hp:p∈mayS N L fx regs):p.fit:=by
 obtain ⟨r,hm,rfl⟩:=List.mem_map.1 hp
 have h0:=hr r (List.mem_filter.1 hm).1
 obtain ⟨j,q,e,_,e2,hf⟩:=plAt_ok h (s:=r) (x:=9) (n:=idx N r) (by unfold regS;rw [if_pos h0])
 rw [e2];exact hf
theorem Keep.toExt {S:Nat→Prop} {W W':World} (h:Keep S W W') (hs:∀ k,S k→W.heap.size≤k):Ext W W':=⟨h.os,h.tape,h.output,h.size,fun k hk=>h.block k hk (fun x=>by have:=hs k x;omega)⟩
theorem leaves_mark {P:Program} {fn:Func} {tmps:Array Value} {R:Ending→World→Prop} {D:Nat} {w:World} {v:Value} (hd:w.heap[D]?=some (.deferred (some [])))
  (hr:∀ w',Keep (fun k=>k=D) w w'→(results fn tmps).run P w'=.ok v w') (hR:∀ w',Keep (fun k=>k=D) w w'→R (.returned v) w') :
  LeavesInM Fence.wide 1 P fn tmps R [{ target:=.collected D,args:=#[] }] .returning w:=by
 have k:=Keep.putLoop (fun k=>k=D) w D (.deferred none) rfl
 exact ⟨by simp,Or.inl ⟨D,_,rfl,run_takeDeferred hd,_,hr _ k,hR _ k⟩⟩
theorem definedM_free (h:CkIn W n1 bc V M N L) (o:Opn) (vU vK vl:Value) (hcl:StrsIn W n1 vK o.clob) (hr:∀ r∈o.clob,0≤idx N r) (l:List Pl) (ht:o.tie<0)
  {k:Nat} {c:Cls} (hk:clsIx M o.dfn.cls=(k:Int)) (hc:M.classes[k]?=some c) (hrc:∀ r∈c.regs,0≤idx N r) :
  Calls Tryz.prog 155 #[.pointer (some ⟨bc,0,none⟩),.agg #[.string o.name,.string o.dfn.cls,.string o.dfn.fix,vU,.int .i64 o.tie,vK],vl] W
   fun e W'=>e=.returned (.bool (definedS N L o c.regs l))∧Ext W W':=by
 unfold definedS
 rw [if_neg (by omega)]
 obtain ⟨oname,⟨ocls,ofix⟩,ouses,otie,oclob⟩:=o
 dsimp only at *
 generalize hres:(mayS N L ofix c.regs).any (sparedS N L oclob)=res
 obtain ⟨ka,kc,ek,hk1,hk2⟩:=hcl.form
 subst ek
 obtain ⟨c1,c2,blk⟩:=cells_three W [.pointer (some ⟨bc,0,none⟩)] [.string oname,.string ocls,.string ofix,vU,.int .i64 otie,.slice ka oclob.length kc] [.bool false] 119 60 4
 have a0:=c1 0 _ rfl
 have b0:=c2 0 _ rfl
 have b1:=c2 1 _ rfl
 have b2:=c2 2 _ rfl
 have b3:=c2 3 _ rfl
 have b4:=c2 4 _ rfl
 have b5:=c2 5 _ rfl
 have hsp:=qh (fun (W':World) (x:CkIn W' n1 bc V M N L) (y:StrsIn W' n1 (.slice ka oclob.length kc) oclob) (p:Pl) (hpf:p.fit)=>sparedM x ⟨oname,⟨ocls,ofix⟩,ouses,otie,oclob⟩ vU _ y hr p hpf)
 dsimp only at hsp
 have X0:Ext W (((W.alloc (.cells #[.pointer (some ⟨bc,0,none⟩)] 119)).alloc (.cells #[.string oname,.string ocls,.string ofix,vU,.int .i64 otie,.slice ka oclob.length kc] 60)).alloc (.cells #[.bool false] 4)):=((Ext.alloc _ _).trans (Ext.alloc _ _)).trans (Ext.alloc _ _)
 have X0:=qh X0
 have HRES:=qh hres
 have H:=qh h
 have HK:=qh hcl
 have HC:=qh hc
 have HRC:=qh hrc
 have HKX:=qh hk
 have htd:decide (0≤otie)=false:=by rw [decide_eq_false_iff_not];omega
 clear c1 c2 hcl hr h hres ht hc hrc hk
 refine calls_of_wpAt Tryz.func155 rfl ?_
 simp only [Tryz.ntmps155,List.size_toArray,List.length_cons,List.length_nil,Nat.reduceAdd,Nat.reduceSub,Array.replicate_succ,Array.replicate_zero,List.push_toArray,List.append_toArray,List.nil_append,List.cons_append]
 refine wpAt_seq (wpAt_of_wp (wp_hide (fun Q1 hQ1=>?_)))
 go_wp2
 refine wpAt_seq (wpAt_of_wp (wp_hide (fun Q2 hQ2=>?_)))
 go_wp2
 simp only [Nat.add_assoc,Nat.reduceAdd]
 generalize ((W.alloc (.cells #[.pointer (some ⟨bc,0,none⟩)] 119)).alloc (.cells #[.string oname,.string ocls,.string ofix,vU,.int .i64 otie,.slice ka oclob.length kc] 60)).alloc (.cells #[.bool false] 4)=W1 at X0 a0 b0 b1 b2 b3 b4 b5 blk ⊢
 have blkk:=qh blk
 obtain ⟨bo,hbo⟩:∃ b,b=W.heap.size:=⟨_,rfl⟩
 rw [← hbo] at a0 b0 b1 b2 b3 b4 b5 blk blkk ⊢
 have HBO:=qh hbo
 clear hbo
 refine wpAt_seq (wpAt_seq (wpAt_of_wp (wp_hide (fun Q3 hQ3=>?_))))
 go_wp2_with (go_at_call 156;refine (may_any ⟨ocls,ofix⟩ W1).mono ?_;rintro e W2 ⟨rfl,hx2,hz2,m0,m1,m2⟩;have X2:=qh hx2;have a0:=hx2.cell a0;have b0:=hx2.cell b0;have b1:=hx2.cell b1;have b2:=hx2.cell b2;have b3:=hx2.cell b3;have b4:=hx2.cell b4;have b5:=hx2.cell b5;have blk:=Ext.block hx2 blk;clear hx2)
 refine wpAt_block ?_
 have lb2:bo+2<W1.heap.size:=by
  have:bo+2<W2.heap.size:=(Array.getElem?_eq_some_iff.1 blk).1
  have:=HBO.out
  have:=X0.out.size
  rcases Nat.lt_or_ge (bo+2) W1.heap.size with h | h
  ·exact h
  ·exfalso
   have h2:=(Array.getElem?_eq_some_iff.1 blkk.out).1
   omega
 have hn1:n1≤bo:=by have:=H.out.le;rw [HBO.out];exact this
 have XX:=qh (X0.out.trans X2.out)
 refine wpAt_search (gf:=165) (lb:=#[.pointer (some ⟨W1.heap.size,0,none⟩),.pointer (some ⟨W1.heap.size+1,0,none⟩)]) Tryz.func155 rfl (enters_of Tryz.func165 (by kernel_rfl) rfl)
  (fun _ p v _=>v=Pl.val p) (fun k=>k=bo+2) (Keep (fun k=>W2.heap.size≤k) W2) (fun W'=>Keep (fun k=>k=bo+2∨W2.heap.size≤k) W2 W'∧W'.heap[bo+2]?=some (.cells #[.bool true] 4 (0,0))) (sparedS N L oclob)
  (fun w1 x=>may1_in ((H.out.ext XX.out).ext x) ⟨ocls,ofix⟩ (x.cell m0) (x.cell m1) (x.cell m2) HKX.out HC.out HRC.out) rfl ?hD ?hρ ?hI ?hJ (Keep.refl _ _) ?hb ?hend ?hret
 case hD =>
  rintro k (h | rfl | rfl)
  ·have:=HBO.out;omega
  ·omega
  ·omega
 case hρ =>
  rintro k rfl
  exact ⟨by omega,by rintro (h | h | h) <;> omega⟩
 case hI=>exact fun W1 W2 h _ k=>h.trans k (fun _ _ h=>h)
 case hJ=>exact fun W1' W2' h hz k=>⟨h.1.trans (k.mono (fun q h=>Or.inr h)) (fun _ _ h=>h),(k.block _ (Nat.lt_of_lt_of_le (by omega) hz) (by show ¬ _≤_;omega)).trans h.2⟩
 case hb =>
  rintro q p _ w1 W3 hp hx1 hqz rfl hz hq hi hk
  have hz:W2.heap.size+1<W3.heap.size:=by omega
  clear hx1 hqz
  unfold Pl.val
  refine wpAt_of_in (n:=1) ?_
  gi_wp2
  refine ⟨Ext.alloc _ _,?_⟩
  intro W5 k5 rr hr5 hi5
  have d0:=k5.cell (cell_new W3 #[.int .i64 p.root,.int .i64 p.beg,.int .i64 p.width] 88 0) (fun (e:W3.heap.size=W2.heap.size+1)=>by omega)
  have d1:=k5.cell (cell_new W3 #[.int .i64 p.root,.int .i64 p.beg,.int .i64 p.width] 88 1) (fun (e:W3.heap.size=W2.heap.size+1)=>by omega)
  have d2:=k5.cell (cell_new W3 #[.int .i64 p.root,.int .i64 p.beg,.int .i64 p.width] 88 2) (fun (e:W3.heap.size=W2.heap.size+1)=>by omega)
  have s2:bo+2<W2.heap.size:=by omega
  have a0:=hi5.cell a0 (fun (e:W2.heap.size≤bo)=>by omega)
  have b0:=hi5.cell b0 (fun (e:W2.heap.size≤bo+1)=>by omega)
  have b1:=hi5.cell b1 (fun (e:W2.heap.size≤bo+1)=>by omega)
  have b2:=hi5.cell b2 (fun (e:W2.heap.size≤bo+1)=>by omega)
  have b3:=hi5.cell b3 (fun (e:W2.heap.size≤bo+1)=>by omega)
  have b4:=hi5.cell b4 (fun (e:W2.heap.size≤bo+1)=>by omega)
  have b5:=hi5.cell b5 (fun (e:W2.heap.size≤bo+1)=>by omega)
  have blk5:=(hi5.block (bo+2) s2 (by show ¬ _≤_;omega)).trans blk
  have CK5:=((H.out.ext XX.out).keep hi5.size (fun k hk=>hi5.block k (Nat.lt_of_lt_of_le hk (H.out.ext XX.out).le) (by have:=(H.out.ext XX.out).le;show ¬ _≤_;omega)))
  have HK5:StrsIn W5 n1 _ oclob:=Tab.same (HK.out.ext H.out.le XX.out) (fun k hk=>hi5.block k (Nat.lt_of_lt_of_le hk (H.out.ext XX.out).le) (by have:=(H.out.ext XX.out).le;show ¬ _≤_;omega))
  have hcall:=qh (hsp.out W5 CK5 HK5 p (mayS_fit H.out HRC.out hp))
  have HI5:=qh hi5
  generalize W3.heap.size=bp at d0 d1 d2 ⊢
  clear k5 hi5 hk CK5 HK5 hr5 blk
  refine wpAt_of_in (n:=1) ?_
  cases hst:sparedS N L oclob p with
  | true =>
   rw [hst] at hcall
   have ST:=qh hst
   clear hst
   gi_wp2_with ((try refine ⟨trivial,?_⟩);(try refine ⟨(fun h=>by cases h),?_⟩);gi_at_call 164;refine (CallsIn.inRound _ (callsIn_wide.2 hcall.out)).mono ?_;rintro e W6 ⟨rfl,x6⟩;have X6:=qh x6;have blk6:=Ext.block x6 blk5;have c6:=cell_of_one blk6;have f6:=free_of_one blk6;clear x6 blk5)
   have k7:=Keep.setCell (fun k=>k=bo+2) W6 ⟨bo+2,0,none⟩ (.bool true) rfl
   exact ⟨ST.out,⟨((HI5.out.mono (S':=fun k=>k=bo+2∨W2.heap.size≤k) (fun q h=>Or.inr h)).trans (Keep.of_ext X6.out:Keep (fun k=>k=bo+2∨W2.heap.size≤k) W5 W6) (fun _ _ h=>h)).trans (k7.mono (S':=fun k=>k=bo+2∨W2.heap.size≤k) (fun q h=>Or.inl h)) (fun _ _ h=>h),heap_set_cells blk6 0 _⟩,
    (Keep.of_ext X6.out:Keep (fun k=>k=bo+2) W5 W6).trans k7 (fun _ _ h=>h)⟩
  | false =>
   rw [hst] at hcall
   have ST:=qh hst
   clear hst
   gi_wp2_with ((try refine ⟨trivial,?_⟩);(try refine ⟨(fun h=>by cases h),?_⟩);gi_at_call 164;refine (CallsIn.inRound _ (callsIn_wide.2 hcall.out)).mono ?_;rintro e W6 ⟨rfl,x6⟩;have X6:=qh x6;clear x6)
   exact ⟨ST.out,HI5.out.trans (Keep.of_ext X6.out:Keep (fun k=>W2.heap.size≤k) W5 W6) (fun _ _ h=>h),Keep.of_ext X6.out⟩
 case hend =>
  intro hany W3 hi hk hd
  have blk3:=(hi.block (bo+2) (by omega) (by show ¬ _≤_;omega)).trans blk
  have c3:=cell_of_one blk3
  have f3:=free_of_one blk3
  have HD:=qh hd
  have RF:res=false:=HRES.out.symm.trans hany
  have XF:=qh (Keep.toExt ((Keep.of_ext XX.out:Keep (fun k=>W2.heap.size≤k) W W2).trans hi (fun _ _ h=>h)) (fun q h=>Nat.le_trans XX.out.size h))
  clear hi hk hd hany
  refine wpAt_of_wp ?_
  go_wp2
  have k4:=Keep.setCell (fun k=>k=bo+2) W3 ⟨bo+2,0,none⟩ (.bool false) rfl
  have s3:W2.heap.size<W3.heap.size:=(Array.getElem?_eq_some_iff.1 HD.out).1
  have blk4:=heap_set_cells blk3 0 (.bool false)
  subst RF
  refine leaves_mark (v:=.bool false) ((k4.block W2.heap.size s3 (by show ¬ _=_;omega)).trans HD.out) (fun w' k5=>?_) (fun w' k5=>⟨rfl,?_⟩)
  ·have c5:=k5.cell (cell_of_one blk4) (fun (e:bo+2=W2.heap.size)=>by omega)
   simp [results,Tryz.results155,go_sem,c5]
  ·have:=HBO.out
   exact Keep.toExt (((Keep.of_ext XF.out:Keep (fun k=>W.heap.size≤k) W W3).trans k4 (fun q h e=>by omega)).trans k5 (fun q h e=>by omega)) (fun _ h=>h)
 case hret =>
  intro hany W3 hj hk hd
  have RF:res=true:=HRES.out.symm.trans hany
  have s3:W2.heap.size<W3.heap.size:=(Array.getElem?_eq_some_iff.1 hd).1
  have XF:Keep (fun k=>W.heap.size≤k) W W3:=(Keep.of_ext XX.out:Keep (fun k=>W.heap.size≤k) W W2).trans hk (fun q h (e:q=bo+2)=>by have:=HBO.out;omega)
  subst RF
  show LeavesInM Fence.wide 1 Tryz.prog Tryz.f155 _ _ _ _ _
  refine leaves_mark (v:=.bool true) hd (fun w' k5=>?_) (fun w' k5=>⟨rfl,?_⟩)
  ·have c5:=k5.cell (cell_of_one hj.2) (fun (e:bo+2=W2.heap.size)=>by omega)
   simp [results,Tryz.results155,go_sem,c5]
  ·exact Keep.toExt (XF.trans k5 (fun q h (e:q=W2.heap.size)=>by have:=XX.out.size;omega)) (fun _ h=>h)
end Go.Proofs.YtligiddaampneaaGreat
end
