/- Plain: the reference's numbers are those of the program: operations. -/
import Derived.Test.YtligiddaampneaaGreatRefT
set_option maxHeartbeats 1000000
-- shrunk
namespace Go.Proofs.YtligiddaampneaaGreat
section
variable {M : Mach} {N : List ByteArray} {L : List Pl}
theorem numsC_at {k:Nat} {c:Cls} (hc:M.classes[k]?=some c):(numsC N M.classes)[k]?=some (c.regs.map (idx N)):=by
 unfold numsC;rw [List.getElem?_map,hc];rfl
theorem cls_at {s:ByteArray} (h:0≤clsIx M s):∃ (k:Nat) (c:Cls),clsIx M s=(k:Int)∧M.classes[k]?=some c:=by
 obtain ⟨j,c,e,hc,_⟩:=fidx_ok (p:=fun x:Cls=>x.name == s) (l:=M.classes) h
 exact ⟨j,c,e,hc⟩
theorem inI_iff {k:Nat} {c:Cls} {s:ByteArray} (hc:M.classes[k]?=some c) (hr:∀ r∈c.regs,0≤idx N r):inI (numsC N M.classes) (k:Int) (idx N s)=true↔s∈c.regs:=by
 unfold inI
 rw [if_pos (by omega),Int.toNat_natCast,numsC_at hc]
 dsimp only
 rw [decide_eq_true_eq,List.mem_map]
 constructor
 ·rintro ⟨t,ht,e⟩
  rw [idx_eq (hr t ht) e.symm];exact ht
 ·intro h;exact ⟨s,h,rfl⟩
theorem ite_same {α:Type} {p q:Prop} [Decidable p] [Decidable q] {a b:α} (h:p↔q):(if p then a else b)=if q then a else b:=by
 by_cases hp:p
 ·rw [if_pos hp,if_pos (h.1 hp)]
 ·rw [if_neg hp,if_neg (fun x=>hp (h.2 x))]
theorem ite_err {c:Prop} [Decidable c] {a b:Except Int Unit} {y e:Int} (ha:a=.error y→y=e) (hb:b=.error y→y=e):(if c then a else b)=.error y→y=e:=by
 split
 ·exact ha
 ·exact hb
theorem ite_ok {c:Prop} [Decidable c] {a:Except Int Unit} {e:Int} (h:(if c then a else .error e)=.ok ()):c∧a=.ok ():=by
 split at h
 ·exact ⟨by assumption,h⟩
 ·cases h
theorem operS_eq (hG:Good M N L) (u:Opr):operS M u=if operB M N (numsC N M.classes) u=true then .ok (clsIx M u.cls) else .error 9:=by
 unfold operS operB
 by_cases h1:0≤clsIx M u.cls
 ·rw [if_pos h1,decide_eq_true h1,Bool.true_and]
  obtain ⟨k,c,ek,hc⟩:=cls_at h1
  have hi:=inI_iff (s:=u.fix) hc (hG.reg c (List.mem_of_getElem? hc))
  rw [ek,Int.toNat_natCast,hc]
  refine ite_same ?_
  rw [Bool.or_eq_true]
  refine or_congr_right ?_
  rw [hi]
  exact idx_ge
 ·rw [if_neg h1,decide_eq_false h1,Bool.false_and,if_neg (by simp)]
theorem operB_fine (hG:Good M N L) {u:Opr} (h:operB M N (numsC N M.classes) u=true):FineO M N u:=by
 unfold operB at h
 simp only [Bool.and_eq_true,decide_eq_true_eq,Bool.or_eq_true] at h
 obtain ⟨k,c,ek,hc⟩:=cls_at h.1
 have hm:=List.mem_of_getElem? hc
 refine ⟨k,c,ek,hc,hG.nodup c hm,hG.reg c hm,?_⟩
 rcases h.2 with h2 | h2
 ·exact Or.inl ((ba_beq _ _).1 h2)
 ·rw [ek] at h2
  exact Or.inr ((inI_iff hc (hG.reg c hm)).1 h2)
theorem wd_eq (hG:Good M N L) (hl:L.length=N.length) {k:Nat} {c:Cls} (hc:M.classes[k]?=some c):wdS M N L (k:Int)=.ok (widI L (numsC N M.classes) (k:Int)):=by
 have hm:=List.mem_of_getElem? hc
 rw [wdS_at hc]
 unfold widthS widI
 rw [if_pos (by omega),Int.toNat_natCast,numsC_at hc]
 cases hr:c.regs with
 | nil=>exact absurd hr (hG.ne c hm)
 | cons r rs =>
  have h0:=hG.reg c hm r (by rw [hr];exact List.mem_cons_self)
  have hlt:=idx_lt h0
  obtain ⟨a,ea⟩:∃ a:Nat,idx N r=a:=⟨(idx N r).toNat,by omega⟩
  rw [ea] at hlt
  rw [List.headD_cons,(regS_eqok (e:=8)).2 ⟨h0,rfl⟩,List.map_cons]
  dsimp only
  rw [ea,Int.toNat_natCast,lE (show a<L.length by omega),plAt_some (show a<L.length by omega)]
theorem useOK_eq (hG:Good M N L) (hl:L.length=N.length) {d:Nat} {c:Cls} (hc:M.classes[d]?=some c) (j:Nat) (u:Opr) :
  useOK M N L (d:Int) j u=if operB M N (numsC N M.classes) u=true∧widI L (numsC N M.classes) (clsIx M u.cls)=widI L (numsC N M.classes) (d:Int) then .ok () else .error 9:=by
 unfold useOK
 rw [operS_eq hG u]
 by_cases h:operB M N (numsC N M.classes) u=true
 ·rw [if_pos h]
  dsimp only
  have h0:0≤clsIx M u.cls:=by
   unfold operB at h
   simp only [Bool.and_eq_true,decide_eq_true_eq] at h
   exact h.1
  obtain ⟨k,c2,ek,hc2⟩:=cls_at h0
  rw [ek,wd_eq hG hl hc2,wd_eq hG hl hc]
  dsimp only
  by_cases h2:widI L (numsC N M.classes) (k:Int)=widI L (numsC N M.classes) (d:Int)
  ·rw [if_pos h2,if_pos ⟨h,h2⟩]
  ·rw [if_neg h2,if_neg (fun x=>h2 x.2)]
 ·rw [if_neg h,if_neg (fun x=>h x.1)]
theorem arity_nn (s:List UInt8):0≤arityOf s:=by
 unfold arityOf
 split <;> decide
theorem clobOK_iff {o:Opn} {k:Nat} {s:ByteArray} (hs:o.clob[k]?=some s):clobOK N o k s=.ok ()↔okD N o.clob k=true:=by
 have hle:=fidx_le (p:=fun x=>x == s) hs ((ba_beq s s).2 rfl)
 have hd:idx o.clob s=fidx (fun x=>x == s) o.clob:=rfl
 unfold clobOK okD
 rw [hs]
 dsimp only
 rw [Bool.and_eq_true,decide_eq_true_eq,decide_eq_true_eq]
 by_cases h:0≤idx N s
 ·rw [(regS_eqok (e:=9)).2 ⟨h,rfl⟩]
  dsimp only
  by_cases h2:idx o.clob s=(k:Int)
  ·rw [if_pos h2];exact ⟨fun _=>⟨h,by omega⟩,fun _=>rfl⟩
  ·rw [if_neg h2];exact ⟨fun x=>(by cases x),fun x=>absurd (by omega) h2⟩
 ·have:regS N s 9=.error 9:=by unfold regS;rw [if_neg h]
  rw [this]
  exact ⟨fun x=>(by cases x),fun x=>absurd x.1 h⟩
theorem clobOK_err {o:Opn} {k:Nat} {s:ByteArray} {y:Int} (h:clobOK N o k s=.error y):y=9:=by
 unfold clobOK at h
 split at h
 ·rename_i e he;cases h;exact regS_eqerr he
 ·split at h
  ·cases h
  ·cases h;rfl
theorem clobS_iff (o:Opn):clobS N o=.ok ()↔distB N o.clob=true:=by
 unfold clobS distB
 by_cases h:o.clob.length≤64
 ·rw [if_pos h,decide_eq_true h,Bool.true_and,goS_ok_iff,List.all_eq_true]
  constructor
  ·intro hh k hk
   have hs:=lE (List.mem_range.1 hk)
   have:=hh k _ hs
   rw [Nat.zero_add] at this
   exact (clobOK_iff hs).1 this
  ·intro hh k s hs
   rw [Nat.zero_add]
   exact (clobOK_iff hs).2 (hh k (List.mem_range.2 (List.getElem?_eq_some_iff.1 hs).1))
 ·rw [if_neg h,decide_eq_false h,Bool.false_and]
  exact ⟨fun x=>(by cases x),fun x=>by cases x⟩
theorem clobS_err {o:Opn} {y:Int} (h:clobS N o=.error y):y=9:=by
 unfold clobS at h
 split at h
 ·exact goS_err (fun _ _ _=>clobOK_err) h
 ·cases h;rfl
theorem beq_swap (a b:ByteArray):(a == b)=(b == a):=by
 rw [Bool.eq_iff_iff,ba_beq,ba_beq]
 exact ⟨Eq.symm,Eq.symm⟩
theorem tieS_eq {o:Opn} (ha:(o.uses.length:Int)=arityOf o.name.data.toList) :
  tieS o=if (decide (o.tie < -1) || decide (arityOf o.name.data.toList≤o.tie) || (decide (0≤o.tie) && (match o.uses[o.tie.toNat]? with | some u=>!(u.cls == o.dfn.cls && u.fix == o.dfn.fix) | none=>true)))=true then .error 9 else .ok ():=by
 unfold tieS
 rw [← ha]
 by_cases h1:-1≤o.tie∧o.tie<o.uses.length
 ·rw [if_pos h1,decide_eq_false (by omega),decide_eq_false (by omega),Bool.false_or,Bool.false_or]
  by_cases h2:o.tie<0
  ·rw [if_pos (Or.inl h2),decide_eq_false (by omega),Bool.false_and,if_neg (by decide)]
  ·rw [decide_eq_true (show 0≤o.tie by omega),Bool.true_and]
   cases hu:o.uses[o.tie.toNat]? with
   | none =>
    dsimp only
    rw [if_neg (fun h=>by
     rcases h with h | h
     ·exact h2 h
     ·cases h),if_pos rfl]
   | some u =>
    dsimp only
    have e:oprEq o.dfn u=(u.cls == o.dfn.cls && u.fix == o.dfn.fix):=by
     unfold oprEq
     rw [beq_swap o.dfn.cls,beq_swap o.dfn.fix]
    by_cases hq:oprEq o.dfn u=true
    ·rw [if_pos (Or.inr hq),if_neg (by rw [← e,hq];decide)]
    ·rw [if_neg (fun h=>by
      rcases h with h | h
      ·exact h2 h
      ·exact hq h),if_pos (by rw [← e];simpa using hq)]
 ·rw [if_neg h1,if_pos]
  rw [Bool.or_eq_true,Bool.or_eq_true,decide_eq_true_eq,decide_eq_true_eq]
  exact Or.inl (by omega)
theorem tieS_err {o:Opn} {y:Int} (h:tieS o=.error y):y=9:=by
 unfold tieS at h
 exact ite_err (ite_err (fun h=>by cases h) (fun h=>by cases h;rfl)) (fun h=>by cases h;rfl) h
theorem tieS_ok {o:Opn} (h:tieS o=.ok ()):(-1≤o.tie∧o.tie<o.uses.length)∧(0≤o.tie→o.uses[o.tie.toNat]?=some o.dfn):=by
 unfold tieS at h
 obtain ⟨h1,h⟩:=ite_ok h
 obtain ⟨h2,_⟩:=ite_ok h
 refine ⟨h1,fun h0=>?_⟩
 have h3:=h2.resolve_left (by omega)
 cases hu:o.uses[o.tie.toNat]? with
 | none=>rw [hu] at h3;cases h3
 | some u =>
  rw [hu] at h3
  dsimp only at h3
  unfold oprEq at h3
  rw [Bool.and_eq_true] at h3
  have a:=(ba_beq _ _).1 h3.1
  have b:=(ba_beq _ _).1 h3.2
  obtain ⟨ucls,ufix⟩:=u
  dsimp only at a b
  rw [← a,← b]
theorem tailS_code {o:Opn} (ha:(o.uses.length:Int)=arityOf o.name.data.toList):codeOf (tailS N o)=if tailB N o=true then 9 else 0:=by
 unfold tailS tailB
 rw [tieS_eq ha]
 cases (decide (o.tie < -1) || decide (arityOf o.name.data.toList≤o.tie) || (decide (0≤o.tie) && (match o.uses[o.tie.toNat]? with | some u=>!(u.cls == o.dfn.cls && u.fix == o.dfn.fix) | none=>true))) with
 | true=>rw [if_pos rfl,Bool.true_or,if_pos rfl];rfl
 | false =>
  rw [if_neg (by decide),Bool.false_or]
  dsimp only
  have hc:=clobS_iff (N:=N) o
  cases hd:distB N o.clob with
  | true=>rw [hc.2 hd];rfl
  | false =>
   cases hh:clobS N o with
   | ok u=>have:=hc.1 hh;rw [hd] at this;cases this
   | error y=>rw [clobS_err hh];rfl
theorem opS_code (hG:Good M N L) (hl:L.length=N.length) {i:Nat} {o:Opn} (ho:M.ops[i]?=some o):codeOf (opS M N L i o)=opC M N L (numsC N M.classes) i o:=by
 have hle:=fidx_le (p:=fun x:Opn=>x.name == o.name) ho ((ba_beq _ _).2 rfl)
 have hd:opIxT M o.name=fidx (fun x:Opn=>x.name == o.name) M.ops:=rfl
 have hnn:=arity_nn o.name.data.toList
 unfold opS opC
 by_cases h1:0<arityOf o.name.data.toList∧fidx (fun x:Opn=>x.name == o.name) M.ops=i
 ·have hn:¬ (arityOf o.name.data.toList=0∨opIxT M o.name<(i:Int)):=by omega
  rw [if_pos h1,if_neg hn]
  by_cases h2:(o.uses.length:Int)=arityOf o.name.data.toList
  ·have hn2:¬ ((o.uses.length:Int)≠arityOf o.name.data.toList):=fun x=>x h2
   rw [if_pos h2,if_neg hn2]
   unfold usesS
   rw [operS_eq hG o.dfn]
   cases h3:operB M N (numsC N M.classes) o.dfn with
   | false =>
    rw [if_neg (by decide),Bool.false_and,if_pos rfl]
    rfl
   | true =>
    rw [if_pos rfl,Bool.true_and]
    dsimp only
    have h0:0≤clsIx M o.dfn.cls:=by
     unfold operB at h3
     simp only [Bool.and_eq_true,decide_eq_true_eq] at h3
     exact h3.1
    obtain ⟨d,c,ed,hc⟩:=cls_at h0
    rw [ed]
    have hgo:goS (useOK M N L (d:Int)) 0 o.uses=.ok ()↔∀ u∈o.uses,operB M N (numsC N M.classes) u=true∧widI L (numsC N M.classes) (clsIx M u.cls)=widI L (numsC N M.classes) (d:Int):=by
     rw [goS_ok_iff]
     constructor
     ·intro h u hu
      obtain ⟨j,hj⟩:=List.getElem?_of_mem hu
      have:=h j u hj
      rw [useOK_eq hG hl hc] at this
      split at this
      ·assumption
      ·cases this
     ·intro h j u hj
      rw [useOK_eq hG hl hc,if_pos (h u (List.mem_of_getElem? hj))]
    have her:∀ y,goS (useOK M N L (d:Int)) 0 o.uses=.error y→y=9:=fun y hy=>goS_err (fun j u y hy=>by
     rw [useOK_eq hG hl hc] at hy
     split at hy
     ·cases hy
     ·cases hy;rfl) hy
    cases hg:goS (useOK M N L (d:Int)) 0 o.uses with
    | ok u =>
     have ha:=hgo.1 hg
     dsimp only
     rw [if_neg (by
      rw [Bool.not_eq_false,List.all_eq_true]
      exact fun u hu=>(ha u hu).1),if_neg (by
      rw [Bool.not_eq_true,List.any_eq_false]
      intro u hu
      rw [decide_eq_true_eq]
      exact fun x=>x (ha u hu).2)]
     exact tailS_code h2
    | error y =>
     have:=her y hg
     subst this
     dsimp only
     by_cases h4:(o.uses.all (operB M N (numsC N M.classes)))=false
     ·rw [if_pos h4];rfl
     ·rw [if_neg h4,if_pos]
      ·rfl
      ·rw [Bool.not_eq_false,List.all_eq_true] at h4
       refine Classical.byContradiction fun h5=>?_
       rw [Bool.not_eq_true,List.any_eq_false] at h5
       have:=hgo.2 fun u hu=>⟨h4 u hu,by
        have:=h5 u hu
        rw [decide_eq_true_eq] at this
        exact Classical.not_not.1 this⟩
       rw [hg] at this
       cases this
  ·rw [if_neg h2,if_pos h2]
   rfl
 ·rw [if_neg h1,if_pos (by omega)]
  rfl
theorem opS_ne (hG:Good M N L) (hl:L.length=N.length) {i:Nat} {o:Opn} (_ho:M.ops[i]?=some o) {e:Int} (h:opS M N L i o=.error e):e≠0:=by
 unfold opS at h
 split at h
 ·split at h
  ·rename_i h2
   unfold usesS at h
   rw [operS_eq hG o.dfn] at h
   split at h
   ·rename_i e2 he2
    split at he2
    ·cases he2
    ·cases he2;cases h;decide
   ·rename_i d hd
    split at hd
    ·rename_i h3
     cases hd
     have h0:0≤clsIx M o.dfn.cls:=by
      unfold operB at h3
      simp only [Bool.and_eq_true,decide_eq_true_eq] at h3
      exact h3.1
     obtain ⟨d,c,ed,hc⟩:=cls_at h0
     rw [ed] at h
     split at h
     ·rename_i e2 he2
      cases h
      have:=goS_err (e:=9) (fun j u y hy=>by
       rw [useOK_eq hG hl hc] at hy
       split at hy
       ·cases hy
       ·cases hy;rfl) he2
      omega
     ·have ht:=tailS_code (N:=N) h2
      rw [h] at ht
      unfold tailS at h
      split at h
      ·rename_i e2 he2
       cases h
       have:=tieS_err he2;omega
      ·have:=clobS_err h;omega
    ·cases hd
  ·cases h;decide
 ·cases h;decide
theorem ops_code (hG:Good M N L) (hl:L.length=N.length):codeOf (opsS M N L)=opsC M N L (numsC N M.classes):=by
 unfold opsS opsC
 by_cases h:M.ops.length≤64
 ·rw [if_pos h,if_neg (by omega)]
  exact goS_nz _ _ (fun i x hx=>by rw [Nat.zero_add];exact opS_code hG hl hx) (fun i x e hx he=>opS_ne hG hl (by simpa using hx) (by simpa using he))
 ·rw [if_neg h,if_pos (by omega)]
  rfl
structure FineP (M:Mach) (N:List ByteArray) (o:Opn):Prop where
 dfn:FineO M N o.dfn
 uses:∀ u∈o.uses,FineO M N u
 len:o.uses.length=1∨o.uses.length=2
 lt:o.tie<o.uses.length
 tie:0≤o.tie→o.uses[o.tie.toNat]?=some o.dfn
 clob:∀ s∈o.clob,0≤idx N s
 many:o.clob.length≤64
theorem opC_fine (hG:Good M N L) {i:Nat} {o:Opn} (h:opC M N L (numsC N M.classes) i o=0):FineP M N o:=by
 unfold opC at h
 by_cases h1:arityOf o.name.data.toList=0∨opIxT M o.name<i
 ·rw [if_pos h1] at h;cases h
 rw [if_neg h1] at h
 by_cases h2:(o.uses.length:Int)≠arityOf o.name.data.toList
 ·rw [if_pos h2] at h;cases h
 rw [if_neg h2] at h
 by_cases h3:(operB M N (numsC N M.classes) o.dfn && o.uses.all (operB M N (numsC N M.classes)))=false
 ·rw [if_pos h3] at h;cases h
 rw [if_neg h3] at h
 split at h
 ·cases h
 split at h
 ·cases h
 rename_i h4
 rw [Bool.not_eq_false,Bool.and_eq_true,List.all_eq_true] at h3
 have h2:=Classical.not_not.1 h2
 have hd:distB N o.clob=true:=by
  unfold tailB at h4
  cases hh:distB N o.clob with
  | true=>rfl
  | false=>rw [hh] at h4;simp at h4
 have hti:tieS o=.ok ():=by
  rw [tieS_eq h2,if_neg]
  intro hh
  refine h4 ?_
  unfold tailB
  rw [Bool.or_eq_true]
  exact Or.inl hh
 have har:arityOf o.name.data.toList=1∨arityOf o.name.data.toList=2:=by
  have h0:arityOf o.name.data.toList≠0:=fun e=>h1 (Or.inl e)
  unfold arityOf at h0 ⊢
  split at h0
  ·exact absurd rfl h0
  ·exact Or.inl rfl
  ·exact Or.inr rfl
 have hti2:=tieS_ok hti
 have hd2:=(clobS_iff (N:=N) o).2 hd
 unfold clobS at hd2
 have hm:o.clob.length≤64:=by
  split at hd2
  ·assumption
  ·cases hd2
 rw [if_pos hm] at hd2
 refine ⟨operB_fine hG h3.1,fun u hu=>operB_fine hG (h3.2 u hu),by omega,?_,?_,?_,hm⟩
 ·exact hti2.1.2
 ·exact hti2.2
 ·intro s hs
  obtain ⟨j,hj⟩:=List.getElem?_of_mem hs
  have:=goS_ok_iff.1 hd2 j s hj
  rw [Nat.zero_add] at this
  unfold clobOK at this
  split at this
  ·cases this
  ·rename_i n hn
   exact (regS_eqok.1 hn).1
theorem firstNZ_zero {α:Type} {f:Nat→α→Int}:∀ {l:List α} {j:Nat},firstNZ f j l=0→∀ i x,l[i]?=some x→f (j+i) x=0:=by
 intro l
 induction l with
 | nil=>intro j _ i x hx;simp at hx
 | cons x l ih =>
  intro j h i y hy
  simp only [firstNZ] at h
  split at h
  ·rename_i h0
   cases i with
   | zero=>simp at hy;subst hy;exact h0
   | succ i=>rw [show j+(i+1)=j+1+i by omega];exact ih h i y (by simpa using hy)
  ·rename_i h0;exact absurd h h0
theorem ops_fine (hG:Good M N L) (h:opsC M N L (numsC N M.classes)=0):∀ o∈M.ops,FineP M N o:=by
 intro o ho
 obtain ⟨i,hi⟩:=List.getElem?_of_mem ho
 unfold opsC at h
 split at h
 ·cases h
 ·have:=firstNZ_zero h i o hi
  exact opC_fine hG this
end
end Go.Proofs.YtligiddaampneaaGreat
