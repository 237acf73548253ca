/- A description copied: its registers. -/
import Derived.Test.YtligiddaampneaaGreatTd
set_option maxRecDepth 100000
set_option maxHeartbeats 8000000
namespace Go.Proofs.YtligiddaampneaaGreat
open Go.RowKit
attribute [local go_sem] Oper.semAt_some
def smallT:Nat→List RegT→Prop
 | 0,l=>l=[]
 | k+1,l=>l.length≤200∧∀ r∈l,smallT k r.subs
theorem stepsS_mono {g:Wk→RegT→Except Int Wk} (hg:∀ r a b,g a r=.ok b→a.names.length≤b.names.length):∀ {l:List RegT} {σ σ':Wk},stepsS g l σ=.ok σ'→σ.names.length≤σ'.names.length:=by
 intro l
 induction l with
 | nil=>intro σ σ' h;simp only [stepsS] at h;cases h;exact Nat.le_refl _
 | cons x l ih =>
  intro σ σ' h
  simp only [stepsS] at h
  cases hx:g σ x with
  | error e=>rw [hx] at h;cases h
  | ok σ1=>rw [hx] at h;exact Nat.le_trans (hg _ _ _ hx) (ih h)
theorem stepsS_each {g:Wk→RegT→Except Int Wk} (hg:∀ r a b,g a r=.ok b→a.names.length≤b.names.length):∀ {l:List RegT} {σ σ':Wk},stepsS g l σ=.ok σ'→∀ r∈l,∃ a b,g a r=.ok b∧b.names.length≤σ'.names.length:=by
 intro l
 induction l with
 | nil=>intro σ σ' _ r hr;cases hr
 | cons x l ih =>
  intro σ σ' h r hr
  simp only [stepsS] at h
  cases hx:g σ x with
  | error e=>rw [hx] at h;cases h
  | ok σ1 =>
   rw [hx] at h
   rcases List.mem_cons.1 hr with rfl | hr
   ·exact ⟨σ,σ1,hx,stepsS_mono hg h⟩
   ·exact ih h r hr
theorem one_mono {k d:Nat} (r:RegT) (a b:Wk) (h:(match oneS a r.name r.width r.beg d with
  | .ok σ'=>downS k (d+1) r.subs σ'
  | .error x=>.error x)=.ok b):a.names.length≤b.names.length:=by
 cases h1:oneS a r.name r.width r.beg d with
 | error e=>rw [h1] at h;cases h
 | ok σ1 =>
  rw [h1] at h
  have h4:=(downS_names h).1
  obtain ⟨_,_,_,p,roots,_,_,rfl⟩:=oneS_took h1
  simp only [tookS,List.length_append,List.length_cons,List.length_nil] at h4
  omega
theorem downS_grow {k d:Nat}:∀ {l:List RegT} {σ σ':Wk},downS (k+1) d l σ=.ok σ'→σ.names.length+l.length≤σ'.names.length:=by
 intro l
 induction l with
 | nil=>intro σ σ' h;simp only [downS,stepsS] at h;cases h;simp
 | cons r l ih =>
  intro σ σ' h
  simp only [downS,stepsS] at h
  cases h1:oneS σ r.name r.width r.beg d with
  | error e=>rw [h1] at h;cases h
  | ok σ1 =>
   rw [h1] at h
   dsimp only at h
   cases h2:downS k (d+1) r.subs σ1 with
   | error e=>rw [h2] at h;cases h
   | ok σ2 =>
    rw [h2] at h
    have h3:=ih (σ:=σ2) (σ':=σ') (by simp only [downS];exact h)
    have h4:=(downS_names h2).1
    obtain ⟨_,_,_,p,roots,_,_,rfl⟩:=oneS_took h1
    simp only [tookS,List.length_append,List.length_cons,List.length_nil] at h4
    simp only [List.length_cons]
    omega
theorem downS_small:∀ (k d:Nat) (l:List RegT) (σ σ':Wk),d+(k+1)=8→σ'.names.length≤200→downS (k+1) d l σ=.ok σ'→smallT k l:=by
 intro k
 induction k with
 | zero =>
  intro d l σ σ' hd _ h
  cases l with
  | nil=>rfl
  | cons r l =>
   simp only [downS] at h
   cases h1:oneS σ r.name r.width r.beg d with
   | error e=>simp only [stepsS,h1] at h;cases h
   | ok σ1=>have:=(oneS_took h1).1;omega
 | succ k ih =>
  intro d l σ σ' hd hn h
  have hg:=downS_grow h
  refine ⟨by omega,fun r hr=>?_⟩
  rw [downS] at h
  obtain ⟨a,b,hgr,hb⟩:=stepsS_each (one_mono (k:=k+1)) h r hr
  cases h1:oneS a r.name r.width r.beg d with
  | error e=>rw [h1] at hgr;cases hgr
  | ok σ1 =>
   rw [h1] at hgr
   exact ih (d+1) r.subs σ1 b (by omega) (by omega) hgr
theorem places_small {l:List RegT} {σ:Wk} (h:placesS l=.ok σ):smallT 6 l:=downS_small 6 1 l wk0 σ rfl (placesS_tight h).1.ln h
def RegCopy (lo:Nat) (W:World) (v:Value) (l:List RegT):Prop := ∀ W2:World,(∀ k,lo≤k→k<W.heap.size→W2.heap[k]?=W.heap[k]?)→RegsIn W2 W.heap.size v l
theorem RegCopy.later {lo:Nat} {W W':World} {v:Value} {l:List RegT} (h:RegCopy lo W v l) {lo2:Nat} (h1:lo2≤lo) (h2:W.heap.size≤W'.heap.size) (h3:∀ k,lo≤k→k<W.heap.size→W'.heap[k]?=W.heap[k]?):RegCopy lo2 W' v l:=fun W2 hk =>
 (h W2 fun k h4 h5=>(hk k (by omega) (by omega)).trans (h3 k h4 h5)).up' h2
theorem regCells_one {l:List RegT} {vs:List Value} (hv:∀ u∈vs,u.oneCell'=true):∀ u∈regCells l vs,u.oneCell'=true:=by
 intro u hu
 unfold regCells at hu
 obtain ⟨x,hx,hu⟩:=List.mem_flatMap.1 hu
 have:=hv x.2 (List.of_mem_zip hx).2
 simp only [List.mem_cons,List.not_mem_nil,or_false] at hu
 rcases hu with rfl | rfl | rfl | rfl
 ·rfl
 ·rfl
 ·rfl
 ·exact this
theorem regCells_set {l:List RegT}:∀ {vs:List Value} {j:Nat} {r:RegT} {u u':Value},l[j]?=some r→vs[j]?=some u→(regCells l vs).set (j * 4+3) u'=regCells l (vs.set j u'):=by
 induction l with
 | nil=>intro vs j r u u' h;simp at h
 | cons x l ih =>
  intro vs j r u u' hl hv
  cases vs with
  | nil=>simp at hv
  | cons y vs =>
   cases j with
   | zero=>simp [regCells_cons]
   | succ j =>
    have:=ih (vs:=vs) (j:=j) (r:=r) (u:=u) (u':=u') (by simpa using hl) (by simpa using hv)
    rw [List.set_cons_succ,regCells_cons,regCells_cons,← this,show (j+1) * 4+3=j * 4+3+1+1+1+1 by omega]
    simp only [List.set_cons_succ]
theorem copyRegs_step {l:List RegT} {W:World} {n0:Nat} {v:Value} (hlen:l.length≤200) (hv:RegsIn W n0 v l) (hn:n0≤W.heap.size)
  (hsub:∀ r∈l,∀ (w:World) (n0:Nat) (u:Value),RegsIn w n0 u r.subs→n0≤w.heap.size→Calls Tryz.prog 86 #[u] w fun e w'=>∃ v',e=.returned v'∧RegCopy w.heap.size w' v' r.subs∧Ext w w') :
  Calls Tryz.prog 86 #[v] W fun e w'=>∃ v',e=.returned v'∧RegCopy W.heap.size w' v' l∧Ext W w':=by
 have HV:=qh hv
 cases hv with
 | mk vs hl hrow hb hw hs =>
 have hvone:∀ u∈vs,u.oneCell'=true:=fun u hu=>by
  obtain ⟨i,hi⟩:=List.getElem?_of_mem hu
  have hil:=(List.getElem?_eq_some_iff.1 hi).1
  obtain ⟨a,c,e,_,_⟩:=(hs i _ u (lE (show i<l.length by omega)) hi).form
  rw [e];rfl
 have hcl:=qh (cloneReg_any hrow (regCells_one hvone) (by omega))
 obtain ⟨a,cap,rfl,_,_⟩:=hrow.shape
 have HS:=qh hs
 have HW:=qh hw
 have HL:=qh hl
 have HSUB:=qh hsub
 clear hs hw hrow hb hvone hsub
 go_enter Tryz.func86,Tryz.ntmps86
 go_upto_region 2 with (go_at_call 115;refine hcl.out.mono ?_;rintro e w1 ⟨v1,rfl,ho1,hx1⟩;obtain ⟨a1,c1,e1,_,hc1⟩:=(Row.of_owns ho1).shape;subst e1;have X1:=qh hx1;have O1:=qh ho1;clear hx1 ho1)
 unfold maxLen at hc1
 go_wp2_with fail
 go_loopw [8] (fun iv wr=>∃ j:Nat,j≤l.length∧iv=.int .i64 j∧∃ vs2:List Value,Hid (Ext W wr∧w1.heap.size≤wr.heap.size∧vs2.length=l.length∧wr.ownsRow W.heap.size 70 4 (.slice a1 l.length c1) l.length (regCells l vs2)∧(∀ (i:Nat) (r:RegT) (u:Value),i<j→l[i]?=some r→vs2[i]?=some u→RegCopy w1.heap.size wr u r.subs)∧∀ i,j≤i→vs2[i]?=vs[i]?)) (fun iv _=>l.length - (intOf iv).toNat)
 case atStart=>exact ⟨0,by omega,rfl,vs,qh ⟨X1.out,Nat.le_refl _,HL.out,O1.out,fun i r u hi=>by omega,fun i _=>rfl⟩⟩
 case round =>
  obtain ⟨j,hj,rfl,vs2,hin⟩:=hrel
  rename World=>w2
  obtain ⟨x2,hge,hl2,hown,hcop,hrest⟩:=hin.out
  have X2:=qh x2
  have O2:=qh hown
  have HCO:=qh (And.intro hl2 (And.intro hcop (And.intro hrest hge)))
  by_cases hlj:j<l.length
  ·have hjz:(j:Int)<(l.length:Int):=by omega
   obtain ⟨r,hr⟩:∃ x,l[j]?=some x:=⟨_,lE hlj⟩
   obtain ⟨u,hu⟩:∃ u,vs[j]?=some u:=⟨vs[j]'(by rw [hl];exact hlj),lE _⟩
   have hu2:=(hrest j (Nat.le_refl _)).trans hu
   have hsb:=HS.out j r u hr hu
   obtain ⟨ua,uc,rfl⟩:∃ ua uc,u=.slice ua r.subs.length uc:=by
    obtain ⟨p,q,e,_,_⟩:=hsb.form;exact ⟨p,q,e⟩
   obtain ⟨g,rfl⟩:∃ g,a1=some ⟨g,0,none⟩:=by
    rcases hown.2 with ⟨e,e2⟩ | ⟨g,cp,cu,e,_⟩
    ·omega
    ·simp only [Value.slice.injEq] at e
     exact ⟨g,e.1⟩
   have hgl:=hown.lt g rfl
   have hg1:g<w1.heap.size:=(O1.out.lt g rfl).2
   have hcat:=regCells_at hr hu2
   have cu:w2.cell? ⟨g,j * 4+3,none⟩=some (.slice ua r.subs.length uc):=by
    obtain ⟨b,off,cap3,e,_,_,_,hcell⟩:=Row.at (Row.of_owns hown) (fun e=>by have:=hcat.1;rw [e] at this;simp at this)
    cases e
    have:=hcell _ _ hcat.2.2.2
    rw [Nat.zero_add] at this
    exact this
   have fu:=World.ownsRow.frozenAt hown (j * 4+3)
   have hcall:=qh (HSUB.out r (List.mem_of_getElem? hr) w2 n0 (.slice ua r.subs.length uc) (hsb.ext hn x2) (Nat.le_trans hn x2.size))
   have HR:=qh (And.intro hr hu2)
   clear hin x2 hown hcop hrest hl2 hge hr hu hu2 hsb hcat hl
   go_wp2_with (go_at_call 86;refine hcall.out.mono ?_;rintro e w3 ⟨u3,rfl,hc3,hx3⟩;have cu3:=xc hx3 cu;have fu3:=World.ownsRow.frozenAt (owns_ext O2.out hx3) (j * 4+3);have lg3:=Nat.lt_of_lt_of_le hgl.2 hx3.size;have C3:=qh hc3;have X3:=qh hx3;obtain ⟨ua3,uc3,eu3⟩:∃ p q,u3=.slice p r.subs.length q:=(by obtain ⟨p,q,e,_,_⟩:=(hc3 w3 (fun _ _ _=>rfl)).form;exact ⟨p,q,e⟩);subst eu3;clear hc3 hx3)
   have hst:=World.ownsRow.stored (owns_ext O2.out X3.out) (j * 4+3) (.slice ua3 r.subs.length uc3)
   have hoth:∀ q,q≠g→(w3.setCell ⟨g,j * 4+3,none⟩ (.slice ua3 r.subs.length uc3)).heap[q]?=w3.heap[q]?:=fun q hq=>Below.heap_setCell _ _ _ q hq
   have hsz:(w3.setCell ⟨g,j * 4+3,none⟩ (.slice ua3 r.subs.length uc3)).heap.size=w3.heap.size:=set_size _ _ _
   have hs3:=X3.out.size
   obtain ⟨hl2,hcop,hrest,hge⟩:=HCO.out
   refine ⟨⟨j+1,by omega,by go_num,vs2.set j (.slice ua3 r.subs.length uc3),qh ⟨Ext.grown (X2.out.trans X3.out) hst.2 (fun q e=>by cases e;exact hgl.1),by omega,by rw [List.length_set];exact hl2,by
    rw [← regCells_set HR.out.1 HR.out.2];exact hst.1,fun i r2 u hi hr2 hu2=>?_,fun i hi=>by rw [List.getElem?_set_ne (by omega)];exact hrest i (by omega)⟩⟩,by simp [intOf];omega⟩
   by_cases e:i=j
   ·subst e
    rw [List.getElem?_set_self (by omega)] at hu2
    cases hu2
    rw [HR.out.1] at hr2
    cases hr2
    exact C3.out.later hge (by omega) (fun q h1 h2=>hoth q (by omega))
   ·rw [List.getElem?_set_ne (fun h=>e h.symm)] at hu2
    exact (hcop i r2 u (by omega) hr2 hu2).later (Nat.le_refl _) (by omega) (fun q h1 h2=>(hoth q (by omega)).trans (Below.block X3.out q h2))
  ·have hjz:¬ (j:Int)<(l.length:Int):=by omega
   have hje:j=l.length:=by omega
   clear hin
   go_wp2_with fail
   go_ret
   refine ⟨.slice a1 l.length c1,rfl,fun W2 hk=>?_,X2.out⟩
   obtain ⟨hl2,hcop,hrest,hge⟩:=HCO.out
   have hs1:=X1.out.size
   exact .mk vs2 hl2 (Row.of_owns (owns_same (w':=W2) O2.out fun q e=>hk q (O2.out.lt q e).1 (O2.out.lt q e).2)) (fun q e _=>(O2.out.lt q e).2) HW.out (fun i r u hr hu=>hcop i r u (by have:=(List.getElem?_eq_some_iff.1 hr).1;omega) hr hu W2 (fun q h1 h2=>hk q (by omega) h2))
theorem copyRegs_any:∀ (k:Nat) {l:List RegT} {W:World} {n0:Nat} {v:Value},smallT k l→RegsIn W n0 v l→n0≤W.heap.size →
  Calls Tryz.prog 86 #[v] W fun e w'=>∃ v',e=.returned v'∧RegCopy W.heap.size w' v' l∧Ext W w':=by
 intro k
 induction k with
 | zero =>
  intro l W n0 v hs hv hn
  have hl:l=[]:=hs
  subst hl
  exact copyRegs_step (by simp) hv hn (fun r hr=>by cases hr)
 | succ k ih =>
  intro l W n0 v hs hv hn
  exact copyRegs_step hs.1 hv hn (fun r hr w n1 u hu hw=>ih (hs.2 r hr) hu hw)
end Go.Proofs.YtligiddaampneaaGreat
