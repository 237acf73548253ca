/- Plain: the reference's numbers are those of the program: classes. -/
import Derived.Test.YtligiddaampneaaGreatRefQ
set_option maxHeartbeats 1000000
-- shrunk
namespace Go.Proofs.YtligiddaampneaaGreat
section
variable {M : Mach} {N : List ByteArray} {L : List Pl}
theorem fidx_le {α:Type} {p:α→Bool} {l:List α} {i:Nat} {x:α} (hx:l[i]?=some x) (hp:p x=true):0≤fidx p l∧fidx p l≤(i:Int):=by
 unfold fidx
 cases hf:l.findIdx? p with
 | none =>
  rw [List.findIdx?_eq_none_iff] at hf
  have:=hf x (List.mem_of_getElem? hx)
  rw [hp] at this
  cases this
 | some k =>
  dsimp only
  refine ⟨by omega,?_⟩
  rw [List.findIdx?_eq_some_iff_getElem] at hf
  obtain ⟨hk,_,hb⟩:=hf
  obtain ⟨hi,e⟩:=List.getElem?_eq_some_iff.1 hx
  by_cases h:i<k
  ·have:=hb i h
   rw [e,hp] at this
   exact absurd rfl this
  ·omega
theorem idx_ge {l:List ByteArray} {s:ByteArray}:0≤idx l s↔s∈l:=by
 constructor
 ·intro h
  obtain ⟨j,x,_,hx,hp⟩:=fidx_ok (p:=fun x=>x == s) (l:=l) h
  rw [← (ba_beq x s).1 hp]
  exact List.mem_of_getElem? hx
 ·intro h
  obtain ⟨i,hi,_⟩:=idx_mem h
  omega
theorem idx_eq {s t:ByteArray} (h:0≤idx N s) (e:idx N t=idx N s):t=s:=by
 obtain ⟨i,hi,h1⟩:=idx_mem (idx_ge.1 h)
 obtain ⟨j,hj,h2⟩:=idx_mem (idx_ge.1 (show 0≤idx N t by omega))
 have:i=j:=by omega
 subst this
 rw [h1] at h2
 cases h2
 rfl
theorem idx_at_iff {l:List ByteArray} {k:Nat} {s:ByteArray} (hs:l[k]?=some s):idx l s=(k:Int)↔s∉l.take k:=by
 have hle:=fidx_le (p:=fun x=>x == s) hs ((ba_beq s s).2 rfl)
 have hd:idx l s=fidx (fun x=>x == s) l:=rfl
 constructor
 ·intro h hm
  obtain ⟨j,hj⟩:=List.getElem?_of_mem hm
  rw [List.getElem?_take] at hj
  by_cases hjk:j<k
  ·rw [if_pos hjk] at hj
   have:=fidx_le (p:=fun x=>x == s) hj ((ba_beq s s).2 rfl)
   omega
  ·rw [if_neg hjk] at hj;cases hj
 ·intro h
  obtain ⟨i,hi,h1⟩:=idx_mem (List.mem_of_getElem? hs)
  by_cases hik:i<k
  ·exact absurd (List.mem_of_getElem? (i:=i) (by rw [List.getElem?_take,if_pos hik];exact h1)) h
  ·omega
theorem goS_ok_iff {α:Type} {f:Nat→α→Except Int Unit}:∀ {l:List α} {j:Nat},goS f j l=.ok ()↔∀ i x,l[i]?=some x→f (j+i) x=.ok ():=by
 intro l
 induction l with
 | nil=>intro j;simp [goS]
 | cons x l ih =>
  intro j
  constructor
  ·intro h i y hy
   simp only [goS] at h
   cases hf:f j x with
   | error e=>rw [hf] at h;cases h
   | ok u =>
    rw [hf] at h
    dsimp only at h
    cases i with
    | zero=>simp at hy;subst hy;exact hf
    | succ i=>rw [show j+(i+1)=j+1+i by omega];exact ih.1 h i y (by simpa using hy)
  ·exact fun h=>goS_all h
theorem goS_err {α:Type} {f:Nat→α→Except Int Unit} {e:Int} (h:∀ i x y,f i x=.error y→y=e):∀ {l:List α} {j:Nat} {y:Int},goS f j l=.error y→y=e:=by
 intro l
 induction l with
 | nil=>intro j y hy;cases hy
 | cons x l ih =>
  intro j y hy
  simp only [goS] at hy
  cases hf:f j x with
  | error e2=>rw [hf] at hy;cases hy;exact h _ _ _ hf
  | ok u=>rw [hf] at hy;exact ih hy
theorem code_if {r:Except Int Unit} {b:Bool} {e:Int} (h:r=.ok ()↔b=true) (he:∀ y,r=.error y→y=e):codeOf r=if b=true then 0 else e:=by
 cases r with
 | ok u=>rw [if_pos (h.1 rfl)];rfl
 | error y =>
  rw [if_neg (fun hb=>by have:=h.2 hb;cases this)]
  exact he y rfl
theorem goS_ne {α:Type} {f:Nat→α→Except Int Unit}:∀ {l:List α} {j:Nat},(∀ i x e,l[i]?=some x→f (j+i) x=.error e→e≠0)→∀ e,goS f j l=.error e→e≠0:=by
 intro l
 induction l with
 | nil=>intro j _ e h;cases h
 | cons x l ih =>
  intro j h e he
  simp only [goS] at he
  cases hf:f j x with
  | error e2=>rw [hf] at he;cases he;exact h 0 x _ rfl hf
  | ok u =>
   rw [hf] at he
   exact ih (fun i y e2 hy h2=>h (i+1) y e2 (by simpa using hy) (by rw [show j+(i+1)=j+1+i by omega];exact h2)) e he
theorem regS_eqok {s:ByteArray} {e n:Int}:regS N s e=.ok n↔0≤idx N s∧n=idx N s:=by
 unfold regS
 split
 ·rename_i h;constructor
  ·intro h2;cases h2;exact ⟨h,rfl⟩
  ·rintro ⟨_,rfl⟩;rfl
 ·rename_i h;constructor
  ·intro h2;cases h2
  ·rintro ⟨h2,_⟩;exact absurd h2 h
theorem regS_eqerr {s:ByteArray} {e y:Int} (h:regS N s e=.error y):y=e:=by
 unfold regS at h
 split at h
 ·cases h
 ·cases h;rfl
theorem regOK_iff {c:Cls} {k:Nat} {s s0:ByteArray} (hs:c.regs[k]?=some s) (h0:c.regs[0]?=some s0) :
  regOK N L c k s=.ok ()↔0≤idx N s∧s∉c.regs.take k∧0≤idx N s0∧(plAt L (idx N s)).width=(plAt L (idx N s0)).width:=by
 have hd:c.regs.headD ⟨#[]⟩=s0:=by
  cases hr:c.regs with
  | nil=>rw [hr] at h0;cases h0
  | cons a l=>rw [hr] at h0;cases h0;rfl
 have hi:=idx_at_iff hs
 unfold regOK widthS
 rw [hd]
 by_cases h1:0≤idx N s
 ·rw [(regS_eqok (e:=8)).2 ⟨h1,rfl⟩]
  dsimp only
  by_cases h2:idx c.regs s=(k:Int)
  ·rw [if_pos h2]
   by_cases h3:0≤idx N s0
   ·rw [(regS_eqok (e:=8)).2 ⟨h3,rfl⟩]
    dsimp only
    by_cases h4:(plAt L (idx N s)).width=(plAt L (idx N s0)).width
    ·rw [if_pos h4];exact ⟨fun _=>⟨h1,hi.1 h2,h3,h4⟩,fun _=>rfl⟩
    ·rw [if_neg h4];exact ⟨fun h=>(by cases h),fun h=>absurd h.2.2.2 h4⟩
   ·have:regS N s0 8=.error 8:=by unfold regS;rw [if_neg h3]
    rw [this]
    exact ⟨fun h=>(by cases h),fun h=>absurd h.2.2.1 h3⟩
  ·rw [if_neg h2];exact ⟨fun h=>(by cases h),fun h=>absurd (hi.2 h.2.1) h2⟩
 ·have:regS N s 8=.error 8:=by unfold regS;rw [if_neg h1]
  rw [this]
  exact ⟨fun h=>(by cases h),fun h=>absurd h.1 h1⟩
theorem regOK_err {c:Cls} {k:Nat} {s:ByteArray} {y:Int} (h:regOK N L c k s=.error y):y=8:=by
 unfold regOK at h
 split at h
 ·rename_i e he;cases h;exact regS_eqerr he
 ·split at h
  ·split at h
   ·rename_i e he
    cases h
    unfold widthS at he
    split at he
    ·cases he
    ·rename_i e3 he3;cases he;exact regS_eqerr he3
   ·split at h
    ·cases h
    ·cases h;rfl
  ·cases h;rfl
theorem plAt_some {k:Nat} (h:k<L.length):plAt L (k:Int)=L[k]:=by
 unfold plAt
 rw [Int.toNat_natCast,List.getD_eq_getElem?_getD,lE h]
 rfl
theorem okR_iff {regs:List ByteArray} {k:Nat} {s s0:ByteArray} (hl:L.length=N.length) (hs:regs[k]?=some s) (h0:regs[0]?=some s0) (ha:0≤idx N s0) :
  okR N L regs k=true↔0≤idx N s∧s∉regs.take k∧(plAt L (idx N s)).width=(plAt L (idx N s0)).width:=by
 unfold okR
 rw [hs,h0]
 dsimp only
 simp only [Bool.and_eq_true,decide_eq_true_eq,Bool.not_eq_true',Bool.or_eq_true,beq_iff_eq,and_assoc]
 refine and_congr_right fun h1=>?_
 have hc:((regs.take k).map (idx N)).contains (idx N s)=false↔s∉regs.take k:=by
  rw [← Bool.not_eq_true,List.contains_iff_mem,List.mem_map]
  constructor
  ·intro h hm;exact h ⟨s,hm,rfl⟩
  ·rintro h ⟨t,ht,e⟩;rw [idx_eq h1 e] at ht;exact h ht
 rw [hc]
 refine and_congr_right fun h2=>?_
 have l1:=idx_lt h1
 have l0:=idx_lt ha
 obtain ⟨a,ea⟩:∃ a:Nat,idx N s=a:=⟨(idx N s).toNat,by omega⟩
 obtain ⟨b,eb⟩:∃ b:Nat,idx N s0=b:=⟨(idx N s0).toNat,by omega⟩
 rw [ea] at l1
 rw [eb] at l0
 rw [ea,eb,Int.toNat_natCast,Int.toNat_natCast,lE (show a<L.length by omega),lE (show b<L.length by omega),plAt_some (show a<L.length by omega),plAt_some (show b<L.length by omega)]
 dsimp only
 rw [beq_iff_eq]
 constructor
 ·rintro (h | h)
  ·subst h
   rw [hs] at h0
   cases h0
   have:a=b:=by omega
   subst this
   rfl
  ·exact h
 ·exact Or.inr
theorem cls_regs_iff (hl:L.length=N.length) (c:Cls):goS (regOK N L c) 0 c.regs=.ok ()↔(List.range c.regs.length).all (okR N L c.regs)=true:=by
 rw [goS_ok_iff,List.all_eq_true]
 constructor
 ·intro h k hk
  have hk:=List.mem_range.1 hk
  have h0:=lE (show 0<c.regs.length by omega)
  have hs:=lE hk
  have hr0:=(regOK_iff h0 h0).1 (by have:=h 0 _ h0;exact this)
  have hr:=(regOK_iff hs h0).1 (by have:=h k _ hs;rwa [Nat.zero_add] at this)
  exact (okR_iff hl hs h0 hr0.1).2 ⟨hr.1,hr.2.1,hr.2.2.2⟩
 ·intro h k s hs
  have hk:=(List.getElem?_eq_some_iff.1 hs).1
  have h0:=lE (show 0<c.regs.length by omega)
  have ha:=(okR_num h0 (h 0 (List.mem_range.2 (by omega))) hl).1
  have hr:=(okR_iff hl hs h0 ha).1 (h k (List.mem_range.2 hk))
  rw [Nat.zero_add]
  exact (regOK_iff hs h0).2 ⟨hr.1,hr.2.1,ha,hr.2.2⟩
theorem classOK_code (hl:L.length=N.length) {i:Nat} {c:Cls} (hc:M.classes[i]?=some c):codeOf (classOK M N L i c)=clsC M N L i c:=by
 have hle:=fidx_le (p:=fun x:Cls=>x.name == c.name) hc ((ba_beq _ _).2 rfl)
 have hd:clsIx M c.name=fidx (fun x:Cls=>x.name == c.name) M.classes:=rfl
 unfold classOK clsC
 by_cases h1:namedS c.name=true∧clsIx M c.name=i∧¬ (0≤idx N c.name)
 ·have hn:¬ (namedS c.name=false∨clsIx M c.name<(i:Int)∨0≤idx N c.name):=fun h=>by
   rcases h with h | h | h
   ·rw [h1.1] at h;cases h
   ·omega
   ·exact h1.2.2 h
  rw [if_pos h1,if_neg hn]
  by_cases h2:1≤c.regs.length∧c.regs.length≤64
  ·rw [if_pos h2,if_neg (by omega)]
   exact code_if (cls_regs_iff hl c) (fun y hy=>goS_err (fun _ _ _=>regOK_err) hy)
  ·rw [if_neg h2,if_pos (by omega)]
   rfl
 ·rw [if_neg h1,if_pos (by
   by_cases a:namedS c.name=true
   ·by_cases b:clsIx M c.name=i
    ·exact Or.inr (Or.inr (Classical.byContradiction fun h=>h1 ⟨a,b,h⟩))
    ·exact Or.inr (Or.inl (by omega))
   ·exact Or.inl (by simpa using a))]
  rfl
theorem classOK_ne {i:Nat} {c:Cls} {e:Int} (h:classOK M N L i c=.error e):e≠0:=by
 unfold classOK at h
 split at h
 ·split at h
  ·have:=goS_err (fun _ _ _=>regOK_err) h;omega
  ·cases h;decide
 ·cases h;decide
theorem classes_code (hl:L.length=N.length):codeOf (classesS M N L)=clssC M N L:=by
 unfold classesS clssC
 by_cases h:M.classes.length≤64
 ·rw [if_pos h,if_neg (by omega)]
  exact goS_nz _ _ (fun i x hx=>by rw [Nat.zero_add];exact classOK_code hl hx) (fun i x e _ he=>classOK_ne he)
 ·rw [if_neg h,if_pos (by omega)]
  rfl
theorem classes_ne {e:Int} (h:classesS M N L=.error e):e≠0:=by
 unfold classesS at h
 split at h
 ·exact goS_ne (fun _ _ _ _ he=>classOK_ne he) e h
 ·cases h;decide
theorem classes_zero (hl:L.length=N.length) (h:clssC M N L=0):classesS M N L=.ok ():=by
 have hc:=classes_code (M:=M) hl
 cases hh:classesS M N L with
 | ok u=>rfl
 | error e=>rw [hh,h] at hc;exact absurd hc (classes_ne hh)
structure Good (M:Mach) (N:List ByteArray) (L:List Pl):Prop where
 ix:∀ (k:Nat) (c:Cls),M.classes[k]?=some c→clsIx M c.name=(k:Int)
 ne:∀ c∈M.classes,c.regs≠[]
 nodup:∀ c∈M.classes,c.regs.Nodup
 reg:∀ c∈M.classes,∀ r∈c.regs,0≤idx N r
theorem Good.nums (hG:Good M N L) (hl:L.length=N.length):∀ c∈numsC N M.classes,∀ n∈c,0≤n∧n<(L.length:Int):=by
 intro c hc n hn
 unfold numsC at hc
 obtain ⟨x,hx,rfl⟩:=List.mem_map.1 hc
 obtain ⟨r,hr,rfl⟩:=List.mem_map.1 hn
 have h0:=hG.reg x hx r hr
 exact ⟨h0,by rw [hl];exact idx_lt h0⟩
theorem nodup_of_take {l:List ByteArray} (h:∀ k s,l[k]?=some s→s∉l.take k):l.Nodup:=by
 refine List.pairwise_iff_getElem.2 fun i j hi hj hij e=>?_
 exact h j _ (lE hj) (List.mem_of_getElem? (i:=i) (by rw [List.getElem?_take,if_pos hij,lE hi,e]))
theorem classes_good (h:classesS M N L=.ok ()):Good M N L:=by
 have hg:∀ (k:Nat) (c:Cls),M.classes[k]?=some c→classOK M N L k c=.ok ():=fun k c hc=>by
  unfold classesS at h
  split at h
  ·have:=goS_ok_iff.1 h k c hc
   rwa [Nat.zero_add] at this
  ·cases h
 have hp:∀ (k:Nat) (c:Cls),M.classes[k]?=some c→clsIx M c.name=(k:Int)∧c.regs≠[]∧c.regs.Nodup∧∀ r∈c.regs,0≤idx N r:=fun k c hc=>by
  have:=hg k c hc
  unfold classOK at this
  split at this
  ·rename_i h1
   split at this
   ·rename_i h2
    have h0:=lE (show 0<c.regs.length by omega)
    have hr:∀ i s,c.regs[i]?=some s→0≤idx N s∧s∉c.regs.take i:=fun i s hs=>by
     have h3:=goS_ok_iff.1 this i s hs
     rw [Nat.zero_add] at h3
     have h4:=(regOK_iff hs h0).1 h3
     exact ⟨h4.1,h4.2.1⟩
    refine ⟨h1.2.1,fun e=>by rw [e] at h2;simp at h2,nodup_of_take fun i s hs=>(hr i s hs).2,fun r hr2=>?_⟩
    obtain ⟨i,hi⟩:=List.getElem?_of_mem hr2
    exact (hr i r hi).1
   ·cases this
  ·cases this
 refine ⟨fun k c hc=>(hp k c hc).1,fun c hc=>?_,fun c hc=>?_,fun c hc=>?_⟩
 all_goals
  obtain ⟨k,hk⟩:=List.getElem?_of_mem hc
 ·exact (hp k c hk).2.1
 ·exact (hp k c hk).2.2.1
 ·exact (hp k c hk).2.2.2
end
end Go.Proofs.YtligiddaampneaaGreat
