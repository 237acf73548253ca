/- The reference's copy of a description: its registers. -/
import Derived.Test.YtligiddaampneaaGreatTk
import Derived.Deep.Upon
set_option maxRecDepth 100000
set_option maxHeartbeats 8000000
namespace Go.Proofs.YtligiddaampneaaGreat
open Go.RowKit
attribute [local go_sem] Oper.semAt_some
/-- A whole slice behind nothing, at the operation. -/
theorem wp_append_nil {P:Program} (w:World) {o:Oper} {a:Act} {K:Act→World→Prop} {Q:Exit→Act→World→Prop} (x:Operand) (t:TypeId)
  (ho:o.op=.call { callee:=.builtin .append,args:=#[.const (.slice none 0 0),x],argTypes:=#[t,t] })
  (e:TypeId) (i:TypeInfo) (z:Value) (size bytes:Nat) (ht:P.underlying t=some (.slice e)) (hi:P.info? e=some i) (hz:i.zero=some z)
  (hsize:i.size=size) (hby:i.bytes=bytes) (hzs:z.cells.size=size) (hsz:0<size)
  (m:Nat) (news:List Value) (v:Value) (hx:a.eval x=v) (hr:Row w size v m news) (h1:∀ u∈news,u.oneCell'=true) (hbytes:m * bytes≤140737488355328)
  (h:∀ v' w',w'.ownsRow w.heap.size e size v' m news→Below w.heap.size w w'→K (a.put o.dst v') w'):o.wp P a w K Q:=by
 have hown:=World.ownsRow_nil w w.heap.size e size
 rcases hr.2 with ⟨rfl,rfl⟩ | ⟨ad,cap,rfl,h2,h3,hc⟩
 ·have hnl:news=[]:=by have:=hr.1;simpa using this
  subst hnl
  have hrun:(Builtin.append_ #[t,t] o.type #[.slice none 0 0,.slice none 0 0]).run P w=.ok (.slice none 0 0) w :=
   run_append_nothing w t t o.type e i ht hi none 0 0 (Nat.le_refl _) _ ⟨Or.inl ⟨e,ht⟩,fun w'=>by simp [Builtin.lenOf],by simp [Builtin.firstCells],by simp [Builtin.firstCells],by simp,fun u hu=>by cases hu⟩
  have he:a.eval (.const (.slice none 0 0))=.slice none 0 0:=rfl
  unfold Oper.wp execOp
  simp only [ho,resolve,invoke,builtin,Sem.run_bind,Sem.run_pure,Result.andThen_ok,List.map_toArray,List.map_cons,List.map_nil,hx,he,hrun]
  exact h _ _ hown (Below.refl _ _)
 ·refine wp_append_own w _ x t ho w.heap.size e i z size bytes ht hi hz hsize hby hzs hsz (.slice none 0 0) 0 [] rfl hown ad m cap news hx hr.1 hc h1 (by omega) (by simpa using hbytes) (Nat.le_refl _) ?_
  intro v' w' h4 h5 _
  refine h v' w' (by simpa using h4) ((Below.refl _ _).grown h5 (Nat.le_refl _) ?_)
  intro k hk;simp [Value.ownBlock] at hk
/-- Registers that lie within some blocks. -/
def RegBetw (lo hi:Nat) (W:World) (v:Value) (l:List RegT):Prop := ∀ W2:World,(∀ k,lo≤k→k<hi→W2.heap[k]?=W.heap[k]?)→RegsIn W2 hi v l
theorem RegCopy.betw {lo:Nat} {W:World} {v:Value} {l:List RegT} (h:RegCopy lo W v l):RegBetw lo W.heap.size W v l:=h
theorem RegBetw.move {lo hi:Nat} {W W':World} {v:Value} {l:List RegT} (h:RegBetw lo hi W v l) (hk:∀ k,lo≤k→k<hi→W'.heap[k]?=W.heap[k]?):RegBetw lo hi W' v l :=
 fun W2 h2=>h W2 fun k a b=>(h2 k a b).trans (hk k a b)
theorem regCells_snoc {l:List RegT}:∀ {vs:List Value} {r:RegT} {u:Value},vs.length=l.length→regCells (l ++ [r]) (vs ++ [u])=regCells l vs ++ [.string r.name,.int .i64 r.width,.int .i64 r.beg,u]:=by
 intro vs r u h
 unfold regCells
 rw [List.zip_append h.symm,List.flatMap_append]
 rfl
/-- What is so behind some rounds of copying registers. -/
structure CopR (W:World) (l:List RegT) (j:Nat) (v:Value) (vs:List Value) (wr:World):Prop where
 ext:Ext W wr
 len:vs.length=j
 own:wr.ownsRow W.heap.size 70 4 v j (regCells (l.take j) vs)
 sub:∀ (i:Nat) (r:RegT) (u:Value),l[i]?=some r→vs[i]?=some u→∃ lo hi,W.heap.size≤lo∧hi≤wr.heap.size∧(∀ g,v.ownBlock=some g→g<lo∨hi≤g)∧RegBetw lo hi wr u r.subs
theorem CopR.snoc {W wr w7 w8:World} {l:List RegT} {j g c lo hi:Nat} {v u:Value} {vs:List Value} {r:RegT} (h:CopR W l j v vs wr) (hr:l[j]?=some r) (x:Ext wr w7) (h1:wr.heap.size≤lo) (h2:hi≤w7.heap.size) (hb:RegBetw lo hi w7 u r.subs)
  (hgrow:w7.grownBy w8 v.ownBlock) (hown:w8.ownsRow W.heap.size 70 4 (.slice (some ⟨g,0,none⟩) (j+1) c) (j+1) (regCells (l.take j) vs ++ [.string r.name,.int .i64 r.width,.int .i64 r.beg,u])) (hat:v.ownBlock=some g∨g=w7.heap.size) :
  CopR W l (j+1) (.slice (some ⟨g,0,none⟩) (j+1) c) (vs ++ [u]) w8:=by
 have k:Keep (fun k=>v.ownBlock=some k) w7 w8:=Keep.grown hgrow (fun _ e=>e)
 have hjl:=(List.getElem?_eq_some_iff.1 hr).1
 have hl:=h.len
 have hx:=x.size
 have hk:=k.size
 refine ⟨Ext.grown (h.ext.trans x) hgrow (fun q e=>(h.own.lt q e).1),by rw [List.length_append,hl];rfl,?_,fun i r2 u2 hr2 hu2=>?_⟩
 ·rw [List.take_add_one,hr]
  rw [show (some r).toList=[r] from rfl,regCells_snoc (by rw [hl,List.length_take];omega)]
  exact hown
 ·by_cases e:i<j
  ·rw [List.getElem?_append_left (by omega)] at hu2
   obtain ⟨lo2,hi2,a,b,cc,d⟩:=h.sub i r2 u2 hr2 hu2
   refine ⟨lo2,hi2,a,by omega,fun q hq=>?_,d.move fun q q1 q2=>?_⟩
   ·cases hq
    rcases hat with hat | hat
    ·exact cc _ hat
    ·exact Or.inr (by show hi2≤g;omega)
   ·rw [k.block q (by omega) (fun e2=>by rcases cc q e2 with h3 | h3 <;> omega),Below.block x q (by omega)]
  ·have hi3:i=j:=by
    have:=(List.getElem?_eq_some_iff.1 hu2).1
    rw [List.length_append,hl] at this
    simp at this
    omega
   subst hi3
   rw [hr] at hr2
   cases hr2
   rw [List.getElem?_append_right (by omega),hl,Nat.sub_self] at hu2
   cases hu2
   refine ⟨lo,hi,Nat.le_trans h.ext.size h1,by omega,fun q hq=>?_,hb.move fun q q1 q2=>k.block q (by omega) (fun e2=>by have:=(h.own.lt q e2).2;omega)⟩
   cases hq
   rcases hat with hat | hat
   ·exact Or.inl (Nat.lt_of_lt_of_le (h.own.lt _ hat).2 h1)
   ·exact Or.inr (by show hi≤g;omega)
theorem infoReg1:(Tryz.prog.info? 70).map (fun i=>(i.zero,i.size,i.bytes))=some (some (.agg #[.string ByteArray.empty,.int .i64 0,.int .i64 0,.slice none 0 0]),4,56):=by kernel_rfl
theorem copyRef_step {l:List RegT} {W:World} {n0:Nat} {v:Value} (hlen:l.length≤200) (hv:RegsIn W n0 v l) (hn:n0≤W.heap.size)
  (hsub:∀ r∈l,∀ (w:World) (n0:Nat) (u:Value),RegsIn w n0 u r.subs→n0≤w.heap.size→Calls Tryz.prog 75 #[u] w fun e w'=>∃ v' vs,e=.returned v'∧RegCopy w.heap.size w' v' r.subs∧w'.ownsRow w.heap.size 70 4 v' r.subs.length (regCells r.subs vs)∧Ext w w') :
  Calls Tryz.prog 75 #[v] W fun e w'=>∃ v' vs,e=.returned v'∧RegCopy W.heap.size w' v' l∧w'.ownsRow W.heap.size 70 4 v' l.length (regCells l vs)∧Ext W w':=by
 have HV:=qh hv
 obtain ⟨iZ,hiZ,zZ0,zZ1,zZ2⟩:=info_parts infoReg1
 cases hv with
 | mk vs0 hl hrow hb hw hs =>
 obtain ⟨a,cap,rfl,_,hcap⟩:=hrow.shape
 unfold maxLen at hcap
 have HS:=qh hs
 have HW:=qh hw
 have HL:=qh hl
 have HSUB:=qh hsub
 have HROW:=qh hrow
 clear hs hw hrow hb hsub hl
 go_enter Tryz.func75,Tryz.ntmps75
 go_wp2_with fail
 go_loopw [3,4] (fun ov iv wr=>∃ j:Nat,j≤l.length∧iv=.int .i64 j∧∃ a3 c3 vs,ov=.slice a3 j c3∧Hid (CopR W l j (.slice a3 j c3) vs wr)) (fun _ iv _=>l.length - (intOf iv).toNat)
 case atStart=>exact ⟨0,by omega,rfl,none,0,[],rfl,qh ⟨Ext.refl _,rfl,World.ownsRow_nil _ _ _ _,fun i r u _ hu=>by simp at hu⟩⟩
 case round =>
  obtain ⟨j,hj,rfl,a3,c3,vs,rfl,hin⟩:=hrel
  rename World=>w1
  by_cases hlj:j<l.length
  ·have hjz:(j:Int)<(l.length:Int):=by omega
   obtain ⟨r,hr⟩:∃ x,l[j]?=some x:=⟨_,lE hlj⟩
   obtain ⟨u,hu⟩:∃ u,vs0[j]?=some u:=⟨vs0[j]'(by rw [HL.out];exact hlj),lE _⟩
   have hsb:=HS.out j r u hr hu
   obtain ⟨ua,uc,rfl⟩:∃ ua uc,u=.slice ua r.subs.length uc:=by
    obtain ⟨p,q,e,_,_⟩:=hsb.form;exact ⟨p,q,e⟩
   obtain ⟨e0,e1,e2,e3⟩:=regCells_at hr hu
   obtain ⟨b,off,cap3,e,_,_,_,hcell⟩:=Row.at HROW.out (fun e=>by rw [e] at e0;simp at e0)
   cases e
   have m0:=hin.out.ext.cell (hcell _ _ e0)
   have m1:=hin.out.ext.cell (hcell _ _ e1)
   have m2:=hin.out.ext.cell (hcell _ _ e2)
   have m3:=hin.out.ext.cell (hcell _ _ e3)
   rw [← Nat.add_assoc] at m1 m2 m3
   have HCALL:=qh (fun (w:World) (x:Ext W w)=>HSUB.out r (List.mem_of_getElem? hr) w n0 (.slice ua r.subs.length uc) (hsb.ext hn x) (Nat.le_trans hn x.size))
   have HR:=qh hr
   have hz1:=hin.out.ext.size
   clear hr hu e0 e1 e2 e3 hcell hsb
   go_upto_region 5 with (fail)
   refine wp_region_M (fun w'=>Ext w1 w') 23 (by kernel_rfl) (Ext.drew _) (fun hS=>?_)
   refine' tw 0 ?_ ?_;rotate_left;·intros;go_simp;try rfl
   refine' tk 1 hS ?_ ?_;rotate_left;·intros;go_simp;try rfl
   refine' tk 2 hS ?_ ?_;rotate_left;·intros;go_simp;try rfl
   try simp only [tD]
   refine' tk 3 hS ?_ ?_;rotate_left;·intros;go_simp;try rfl
   refine' tk 4 hS ?_ ?_;rotate_left;·intros;go_simp;try rfl
   refine' tk 5 hS ?_ ?_;rotate_left;·intro w hSw;have z0:=xc hSw m0;go_simp;try rfl
   try simp only [tD]
   refine' tk 6 hS ?_ ?_;rotate_left;·intros;go_simp;try rfl
   refine' tk 7 hS ?_ ?_;rotate_left;·intros;go_simp;try rfl
   refine' tk 8 hS ?_ ?_;rotate_left;·intros;go_simp;try rfl
   try simp only [tD]
   refine' tk 9 hS ?_ ?_;rotate_left;·intros;go_simp;try rfl
   refine' tk 10 hS ?_ ?_;rotate_left;·intro w hSw;have z1:=xc hSw m1;go_simp;try rfl
   refine' tk 11 hS ?_ ?_;rotate_left;·intros;go_simp;try rfl
   try simp only [tD]
   refine' tk 12 hS ?_ ?_;rotate_left;·intros;go_simp;try rfl
   refine' tk 13 hS ?_ ?_;rotate_left;·intros;go_simp;try rfl
   refine' tk 14 hS ?_ ?_;rotate_left;·intros;go_simp;try rfl
   try simp only [tD]
   refine' tk 15 hS ?_ ?_;rotate_left;·intro w hSw;have z2:=xc hSw m2;go_simp;try rfl
   refine' tk 16 hS ?_ ?_;rotate_left;·intros;go_simp;try rfl
   refine' tk 17 hS ?_ ?_;rotate_left;·intros;go_simp;try rfl
   try simp only [tD]
   refine' tk 18 hS ?_ ?_;rotate_left;·intros;go_simp;try rfl
   refine' tk 19 hS ?_ ?_;rotate_left;·intros;go_simp;try rfl
   refine' tk 20 hS ?_ ?_;rotate_left;·intro w hSw;have z3:=xc hSw m3;go_simp;try rfl
   try simp only [tD]
   generalize w1.drew=w2 at hS ⊢
   refine rc 21 fun K hK=>?_
   go_simp
   refine ((HCALL.out w2 (hin.out.ext.trans hS))).mono ?_
   rintro e w3 ⟨u3,vs3,rfl,hc3,ho3,hx3⟩
   obtain ⟨a5,k5,e5,_,_⟩:=(Row.of_owns ho3).shape
   subst e5
   have hsz0:=hS.size
   have hS:=Ext.trans hS hx3
   refine hK.out _ _ hS ?_
   clear hK K
   refine' tk 22 hS ?_ ?_;rotate_left;·intros;go_simp;try rfl
   try simp only [tD]
   refine rl 23 fun K hK=>?_
   go_simp
   have x7:Ext w1 (w3.alloc (.cells #[.string r.name,.int .i64 r.width,.int .i64 r.beg,.slice a5 r.subs.length k5] 70)):=hS.trans (Ext.alloc _ _)
   have hsz3:=hS.size
   refine hK.out _ _ ?_
   try simp only [tD]
   clear hK K
   refine rl 24 fun K hK=>?_
   refine wp_append_lies _ _ _ _ rfl W.heap.size 70 iZ _ 4 56 Tryz.underlying22 hiZ zZ0 zZ1 zZ2 rfl (by omega) (.slice a3 j c3) j _ rfl (owns_ext hin.out.own x7) ⟨w3.heap.size,0,none⟩ 1 1 [.string r.name,.int .i64 r.width,.int .i64 r.beg,.slice a5 r.subs.length k5] rfl rfl (World.news_of_block (cs:=#[.string r.name,.int .i64 r.width,.int .i64 r.beg,.slice a5 r.subs.length k5]) (t:=70) (fr:=(0,0)) (heap_alloc_new w3 _)) (by simp [Value.oneCell']) (by omega) (by unfold maxLen;omega) (by omega) (by simp;omega) _ rfl ?_
   intro g8 c8 w8 hown8 hgrow8 hat8 hlt8
   have CN:=qh (hin.out.snoc HR.out x7 hsz0 (by simp) (RegBetw.move hc3.betw (W':=w3.alloc (.cells #[.string r.name,.int .i64 r.width,.int .i64 r.beg,.slice a5 r.subs.length k5] 70)) (fun k _ h2=>Below.block (Ext.alloc w3 _) k h2)) hgrow8 hown8 hat8)
   have x8:Ext W w8:=CN.out.ext
   clear hown8 hgrow8 hat8 hc3 ho3
   refine hK.out _ _ ?_
   try simp only [tD]
   clear hK K
   refine' tw 25 ?_ ?_;rotate_left;·intros;go_simp;try rfl
   try simp only [tD]
   refine wpAnyM_done (by kernel_rfl) ?_ _
   clear hS x8
   go_wp2_with fail
   go_roundw
   case rel=>exact ⟨j+1,by omega,by go_num,_,_,_,rfl,CN⟩
   case measure=>simp [intOf];omega
  ·have hjz:¬ (j:Int)<(l.length:Int):=by omega
   obtain rfl:j=l.length:=by omega
   have C:=qh hin.out
   clear hin
   go_wp2_with fail
   go_ret
   obtain ⟨h1,h2,h3,h4⟩:=C.out
   rw [List.take_of_length_le (Nat.le_refl _)] at h3
   refine ⟨_,rfl,fun W2 hk=>?_,⟨vs,h3⟩,h1⟩
   exact .mk vs h2 (Row.of_owns (owns_same (w':=W2) h3 fun q e=>hk q (h3.lt q e).1 (h3.lt q e).2)) (fun q e _=>(h3.lt q e).2) HW.out (fun i r u hr hu=>by
    obtain ⟨lo,hi,q1,q2,q3,q4⟩:=h4 i r u hr hu
    exact (q4 W2 fun k k1 k2=>hk k (by omega) (by omega)).up' q2)
theorem copyRef_any:∀ (k:Nat) {l:List RegT} {W:World} {n0:Nat} {v:Value},smallT k l→RegsIn W n0 v l→n0≤W.heap.size →
  Calls Tryz.prog 75 #[v] W fun e w'=>∃ v' vs,e=.returned v'∧RegCopy W.heap.size w' v' l∧w'.ownsRow W.heap.size 70 4 v' l.length (regCells l vs)∧Ext W w':=by
 intro k
 induction k with
 | zero =>
  intro l W n0 v hs hv hn
  have hl:l=[]:=hs
  subst hl
  exact copyRef_step (by simp) hv hn (fun r hr=>by cases hr)
 | succ k ih =>
  intro l W n0 v hs hv hn
  exact copyRef_step hs.1 hv hn (fun r hr w n1 u hu hw=>ih (hs.2 r hr) hu hw)
end Go.Proofs.YtligiddaampneaaGreat
