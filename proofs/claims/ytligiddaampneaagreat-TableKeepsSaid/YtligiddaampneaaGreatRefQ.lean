/- The reference's table: the classes asked, and filled in. -/
import Derived.Test.YtligiddaampneaaGreatRefP
set_option maxHeartbeats 1000000
-- shrunk
namespace Go.Proofs.YtligiddaampneaaGreat
open Go.RowKit
attribute [local go_sem] Oper.semAt_some
variable {W : World} {n1 bt : Nat} {V : MV} {vK : Value} {M : Mach} {N : List ByteArray} {L : List Pl} {C : List (List Int)}
def okR (N:List ByteArray) (L:List Pl) (regs:List ByteArray) (k:Nat):Bool:=match regs[k]? with
 | some s=>decide (0≤idx N s) && !((regs.take k).map (idx N)).contains (idx N s) && (k == 0 || (match regs[0]? with
  | some s0=>(match L[(idx N s).toNat]?,L[(idx N s0).toNat]? with | some p,some p0=>p.width == p0.width | _,_=>false)
  | none=>false))
 | none=>true
def clsC (M:Mach) (N:List ByteArray) (L:List Pl) (i:Nat) (c:Cls):Int :=
 if namedS c.name=false∨clsIx M c.name<i∨0≤idx N c.name then 5
 else if c.regs.length<1∨64<c.regs.length then 8
 else if (List.range c.regs.length).all (okR N L c.regs) then 0 else 8
def clssC (M:Mach) (N:List ByteArray) (L:List Pl):Int:=if 64<M.classes.length then 2 else firstNZ (clsC M N L) 0 M.classes
def numsC (N:List ByteArray) (l:List Cls):List (List Int):=l.map fun c=>c.regs.map (idx N)
theorem numsC_snoc (N:List ByteArray) (l:List Cls) (c:Cls):numsC N (l ++ [c])=numsC N l ++ [c.regs.map (idx N)]:=by simp [numsC]
theorem okR_num {regs:List ByteArray} {k:Nat} {s:ByteArray} (hs:regs[k]?=some s) (h:okR N L regs k=true) (hl:L.length=N.length):0≤idx N s∧idx N s<(L.length:Int):=by
 unfold okR at h
 rw [hs] at h
 dsimp only at h
 simp only [Bool.and_eq_true,decide_eq_true_eq] at h
 have h0:=h.1.1
 refine ⟨h0,?_⟩
 obtain ⟨j,x,e,hx,_⟩:=fidx_ok (p:=fun x=>x == s) (l:=N) h0
 have hj:=(List.getElem?_eq_some_iff.1 hx).1
 have e2:idx N s=(j:Int):=e
 rw [e2,hl]
 omega
theorem goS_nz {α:Type} {f:Nat→α→Except Int Unit} {g:Nat→α→Int}:∀ (l:List α) (j:Nat),(∀ (i:Nat) (x:α),l[i]?=some x→codeOf (f (j+i) x)=g (j+i) x)→(∀ (i:Nat) (x:α) (e:Int),l[i]?=some x→f (j+i) x=.error e→e≠0)→codeOf (goS f j l)=firstNZ g j l:=by
 intro l
 induction l with
 | nil=>intro j _ _;rfl
 | cons x l ih =>
  intro j h hne
  have h0:=h 0 x rfl
  rw [Nat.add_zero] at h0
  simp only [goS,firstNZ]
  cases hf:f j x with
  | error e =>
   have he:=hne 0 x e rfl (by rw [Nat.add_zero];exact hf)
   rw [hf] at h0
   have h1:g j x=e:=h0.symm
   dsimp only
   rw [h1,if_neg he]
   rfl
  | ok u =>
   rw [hf] at h0
   have h1:g j x=0:=h0.symm
   dsimp only
   rw [h1,if_pos rfl]
   refine ih (j+1) (fun i y hy=>?_) (fun i y e hy=>?_)
   ·rw [show j+1+i=j+(i+1) by omega];exact h (i+1) y (by simpa using hy)
   ·rw [show j+1+i=j+(i+1) by omega];exact hne (i+1) y e (by simpa using hy)
theorem lapI_pl {a b:Int} (ha:0≤a∧a<(L.length:Int)) (hb:0≤b∧b<(L.length:Int)):lapI L a b=lapS (plAt L a) (plAt L b):=by
 obtain ⟨ka,rfl⟩:∃ k:Nat,a=k:=⟨a.toNat,by omega⟩
 obtain ⟨kb,rfl⟩:∃ k:Nat,b=k:=⟨b.toNat,by omega⟩
 unfold lapI plAt
 rw [if_pos ⟨ha.1,hb.1⟩,Int.toNat_natCast,Int.toNat_natCast,List.getD_eq_getElem?_getD,List.getD_eq_getElem?_getD,lE (show ka<L.length by omega),lE (show kb<L.length by omega)]
 rfl
theorem listS_all {l:List ByteArray} (h:∀ s∈l,0≤idx N s):listS N l=l.map (idx N):=by
 unfold listS
 rw [List.filter_eq_self]
 intro n hn
 obtain ⟨s,hs,rfl⟩:=List.mem_map.1 hn
 exact decide_eq_true (h s hs)
theorem idx_lt {s:ByteArray} (h:0≤idx N s):idx N s<(N.length:Int):=by
 obtain ⟨j,x,e,hx,_⟩:=fidx_ok (p:=fun x=>x == s) (l:=N) h
 have hj:=(List.getElem?_eq_some_iff.1 hx).1
 have e2:idx N s=(j:Int):=e
 rw [e2];omega
theorem clear_spared {o:Opn} (hl:L.length=N.length) (h:∀ s∈o.clob,0≤idx N s) {r:Int} (hr:0≤r∧r<(L.length:Int)):clearB N L o r=o.clob.all fun s=>!lapS (plAt L (idx N s)) (plAt L r):=by
 unfold clearB
 rw [listS_all h,List.all_map]
 rw [Bool.eq_iff_iff,List.all_eq_true,List.all_eq_true]
 constructor
 ·intro hh s hs
  have:=hh s hs
  simp only [Function.comp] at this
  rwa [lapI_pl ⟨h s hs,by rw [hl];exact idx_lt (h s hs)⟩ hr] at this
 ·intro hh s hs
  simp only [Function.comp]
  rw [lapI_pl ⟨h s hs,by rw [hl];exact idx_lt (h s hs)⟩ hr]
  exact hh s hs
theorem clear_sparedS {o:Opn} (hl:L.length=N.length) (hT:∀ p∈L,p.tight) (h:∀ s∈o.clob,0≤idx N s) {r:Int} (hr:0≤r∧r<(L.length:Int)):clearB N L o r=sparedS N L o.clob (plAt L r):=by
 rw [clear_spared hl h hr]
 have ht:∀ n:Int,0≤n∧n<(L.length:Int)→(plAt L n).tight:=fun n hn=>by
  obtain ⟨k,rfl⟩:∃ k:Nat,n=k:=⟨n.toNat,by omega⟩
  unfold plAt
  rw [Int.toNat_natCast,List.getD_eq_getElem?_getD,lE (show k<L.length by omega)]
  exact hT _ (List.getElem_mem _)
 unfold sparedS
 rw [Bool.eq_iff_iff,List.all_eq_true,List.all_eq_true]
 constructor
 ·intro hh s hs
  have:=hh s hs
  rwa [lap_comm (ht _ ⟨h s hs,by rw [hl];exact idx_lt (h s hs)⟩) (ht r hr)] at this
 ·intro hh s hs
  have:=hh s hs
  rwa [lap_comm (ht r hr) (ht _ ⟨h s hs,by rw [hl];exact idx_lt (h s hs)⟩)] at this
theorem filter_one {s:ByteArray}:∀ {l:List ByteArray},l.Nodup→s∈l→l.filter (fun r=>s == r)=[s]:=by
 intro l
 induction l with
 | nil=>intro _ h;cases h
 | cons x l ih =>
  intro hn hm
  rw [List.nodup_cons] at hn
  by_cases e:s=x
  ·subst e
   have hno:l.filter (fun r=>s == r)=[]:=by
    rw [List.filter_eq_nil_iff]
    intro r hr he
    rw [(ba_beq s r).1 he] at hn
    exact hn.1 hr
   rw [List.filter_cons,if_pos ((ba_beq s s).2 rfl),hno]
  ·have hm2:s∈l:=(List.mem_cons.1 hm).resolve_left e
   rw [List.filter_cons,if_neg (by rw [ba_bne e];simp)]
   exact ih hn.2 hm2
theorem mayO_choI {u:Opr} {k:Nat} {c:Cls} (hk:clsIx M u.cls=(k:Int)) (hc:M.classes[k]?=some c) (hn:c.regs.Nodup) (hr:∀ r∈c.regs,0≤idx N r) (hf:u.fix=⟨#[]⟩∨u.fix∈c.regs):mayO M N L u=(choI M N (numsC N M.classes) u).map (plAt L):=by
 unfold mayO
 rw [regsOf_eq hk hc]
 unfold choI mayS
 rw [hk,if_pos (by omega),Int.toNat_natCast]
 by_cases h0:u.fix=⟨#[]⟩
 ·have hb:(u.fix == ⟨#[]⟩)=true:=(ba_beq _ _).2 h0
  rw [hb,if_pos rfl]
  have hC:(numsC N M.classes)[k]?=some (c.regs.map (idx N)):=by unfold numsC;rw [List.getElem?_map,hc];rfl
  rw [hC]
  dsimp only
  rw [List.map_map]
  have hall:(c.regs.filter fun r=>true || (u.fix == r))=c.regs:=by rw [List.filter_eq_self];intro r _;rfl
  rw [hall]
  rfl
 ·have hb:(u.fix == ⟨#[]⟩)=false:=ba_bne h0
  have hm:=hf.resolve_left h0
  rw [hb,if_neg (by simp)]
  have hall:(c.regs.filter fun r=>false || (u.fix == r))=[u.fix]:=by
   rw [show (fun r=>false || (u.fix == r))=(fun r=>u.fix == r) from funext fun r=>Bool.false_or _]
   exact filter_one hn hm
  rw [hall,listS_all (fun s hs=>by rw [List.mem_singleton] at hs;subst hs;exact hr _ hm)]
  rfl
theorem any_congr {α:Type} {l:List α} {f g:α→Bool} (h:∀ x∈l,f x=g x):l.any f=l.any g:=by
 rw [Bool.eq_iff_iff,List.any_eq_true,List.any_eq_true]
 constructor
 ·rintro ⟨x,hx,e⟩;exact ⟨x,hx,by rw [← h x hx];exact e⟩
 ·rintro ⟨x,hx,e⟩;exact ⟨x,hx,by rw [h x hx];exact e⟩
def FineO (M:Mach) (N:List ByteArray) (u:Opr):Prop := ∃ (k:Nat) (c:Cls),clsIx M u.cls=(k:Int)∧M.classes[k]?=some c∧c.regs.Nodup∧(∀ r∈c.regs,0≤idx N r)∧(u.fix=⟨#[]⟩∨u.fix∈c.regs)
theorem FineO.may {u:Opr} (h:FineO M N u):mayO M N L u=(choI M N (numsC N M.classes) u).map (plAt L):=by
 obtain ⟨k,c,h1,h2,h3,h4,h5⟩:=h
 exact mayO_choI h1 h2 h3 h4 h5
theorem FineO.num {u:Opr} (h:FineO M N u) (hl:L.length=N.length) {n:Int} (hn:n∈choI M N (numsC N M.classes) u):0≤n∧n<(L.length:Int):=by
 obtain ⟨k,c,h1,h2,h3,h4,h5⟩:=h
 have hmem:n∈c.regs.map (idx N)∨n∈listS N [u.fix]:=by
  unfold choI at hn
  rw [h1,if_pos (by omega),Int.toNat_natCast] at hn
  split at hn
  ·have hC:(numsC N M.classes)[k]?=some (c.regs.map (idx N)):=by unfold numsC;rw [List.getElem?_map,h2];rfl
   rw [hC] at hn
   exact Or.inl hn
  ·exact Or.inr hn
 rw [hl]
 rcases hmem with h | h
 ·obtain ⟨r,hr,rfl⟩:=List.mem_map.1 h
  exact ⟨h4 r hr,idx_lt (h4 r hr)⟩
 ·unfold listS at h
  obtain ⟨h6,h7⟩:=List.mem_filter.1 h
  obtain ⟨r,hr,rfl⟩:=List.mem_map.1 h6
  have:=of_decide_eq_true h7
  exact ⟨this,idx_lt this⟩
theorem okDef_S {o:Opn} (hl:L.length=N.length) (hT:∀ p∈L,p.tight) (hc:∀ s∈o.clob,0≤idx N s) (hd:FineO M N o.dfn) {x y:Int} {l:List Pl}
  (h0:o.tie=0→x∈choI M N (numsC N M.classes) o.dfn∧l.getD 0 ⟨0,0,0⟩=plAt L x) (h1:0≤o.tie→o.tie≠0→o.tie=1∧y∈choI M N (numsC N M.classes) o.dfn∧l.getD 1 ⟨0,0,0⟩=plAt L y) :
  okDef M N L (numsC N M.classes) o x y=definedS N L o (regsOf M o.dfn) l:=by
 unfold okDef definedS
 by_cases ht:0≤o.tie
 ·rw [if_pos ht,if_pos ht]
  by_cases hz:o.tie=0
  ·obtain ⟨hm,hp⟩:=h0 hz
   rw [if_pos hz,decide_eq_true hm,Bool.true_and,hz,show (0:Int).toNat=0 from rfl,hp]
   exact clear_sparedS hl hT hc (hd.num hl hm)
  ·obtain ⟨h2,hm,hp⟩:=h1 ht hz
   rw [if_neg hz,decide_eq_true hm,Bool.true_and,h2,show (1:Int).toNat=1 from rfl,hp]
   exact clear_sparedS hl hT hc (hd.num hl hm)
 ·rw [if_neg ht,if_neg ht]
  rw [show mayS N L o.dfn.fix (regsOf M o.dfn)=mayO M N L o.dfn from rfl,hd.may,List.any_map]
  exact any_congr fun n hn=>clear_sparedS hl hT hc (hd.num hl hn)
theorem fitsI_S {o:Opn} (hl:L.length=N.length) (hT:∀ p∈L,p.tight) (hc:∀ s∈o.clob,0≤idx N s) (hd:FineO M N o.dfn) (hu:∀ u∈o.uses,FineO M N u) (h12:o.uses.length=1∨o.uses.length=2) (hlt:o.tie<o.uses.length) (htie:0≤o.tie→o.uses[o.tie.toNat]?=some o.dfn) :
  fitsI M N L (numsC N M.classes) o=fitsS M N L o:=by
 unfold fitsI fitsS
 match hh:o.uses,h12 with
 | [u],_ =>
  have hfu:=hu u (by rw [hh];simp)
  have hA:useA M N (numsC N M.classes) o=choI M N (numsC N M.classes) u:=by unfold useA;rw [hh]
  have hB:useB M N (numsC N M.classes) o=[-1]:=by unfold useB;rw [hh]
  rw [hA,hB]
  simp only [choicesS,List.any_map,hfu.may]
  refine any_congr fun x hx=>?_
  have hlx:lapI L x (-1)=false:=by unfold lapI;rw [if_neg (by omega)]
  simp only [List.any_cons,List.any_nil,Bool.or_false,hlx,Bool.not_false,Bool.true_and,Function.comp]
  refine okDef_S hl hT hc hd (fun h0=>?_) (fun h0 h1=>?_)
  ·have h2:=htie (by omega)
   rw [h0,hh] at h2
   cases h2
   exact ⟨hx,rfl⟩
  ·rw [hh] at hlt
   simp at hlt
   omega
 | [u,t],_ =>
  have hfu:=hu u (by rw [hh];simp)
  have hft:=hu t (by rw [hh];simp)
  have hA:useA M N (numsC N M.classes) o=choI M N (numsC N M.classes) u:=by unfold useA;rw [hh]
  have hB:useB M N (numsC N M.classes) o=choI M N (numsC N M.classes) t:=by unfold useB;rw [hh]
  rw [hA,hB]
  simp only [choicesS,List.any_flatMap,List.any_map,List.any_filter,hfu.may,hft.may]
  refine any_congr fun x hx=>?_
  simp only [Function.comp]
  refine any_congr fun y hy=>?_
  rw [lapI_pl (hfu.num hl hx) (hft.num hl hy)]
  congr 1
  refine okDef_S hl hT hc hd (fun h0=>?_) (fun h0 h1=>?_)
  ·have h2:=htie (by omega)
   rw [h0,hh] at h2
   cases h2
   exact ⟨hx,rfl⟩
  ·rw [hh] at hlt
   simp at hlt
   have h3:o.tie=1:=by omega
   have h2:=htie (by omega)
   rw [h3,hh] at h2
   cases h2
   exact ⟨h3,hy,rfl⟩
 | [],h=>simp at h
 | _ :: _ :: _ :: _,h=>simp at h
theorem pairI_S {a b:Nat} {ca cb:Cls} (hl:L.length=N.length) (hca:M.classes[a]?=some ca) (hcb:M.classes[b]?=some cb) (hka:clsIx M ca.name=(a:Int)) (hkb:clsIx M cb.name=(b:Int)) (hna:ca.regs.Nodup) (hnb:cb.regs.Nodup) (hra:∀ r∈ca.regs,0≤idx N r) (hrb:∀ r∈cb.regs,0≤idx N r) :
  pairI L (numsC N M.classes) (a:Int) (b:Int)=pairS M N L ca.name cb.name:=by
 have hfa:FineO M N ⟨ca.name,⟨#[]⟩⟩:=⟨a,ca,hka,hca,hna,hra,Or.inl rfl⟩
 have hfb:FineO M N ⟨cb.name,⟨#[]⟩⟩:=⟨b,cb,hkb,hcb,hnb,hrb,Or.inl rfl⟩
 have hCa:(numsC N M.classes)[a]?=some (ca.regs.map (idx N)):=by unfold numsC;rw [List.getElem?_map,hca];rfl
 have hCb:(numsC N M.classes)[b]?=some (cb.regs.map (idx N)):=by unfold numsC;rw [List.getElem?_map,hcb];rfl
 have hcha:choI M N (numsC N M.classes) ⟨ca.name,⟨#[]⟩⟩=ca.regs.map (idx N):=by
  unfold choI
  rw [hka,if_pos (by omega),if_pos ((ba_beq _ _).2 rfl),Int.toNat_natCast,hCa]
 have hchb:choI M N (numsC N M.classes) ⟨cb.name,⟨#[]⟩⟩=cb.regs.map (idx N):=by
  unfold choI
  rw [hkb,if_pos (by omega),if_pos ((ba_beq _ _).2 rfl),Int.toNat_natCast,hCb]
 unfold pairI pairS
 rw [if_pos ⟨by omega,by omega⟩,Int.toNat_natCast,Int.toNat_natCast,hCa,hCb,hfa.may,hfb.may]
 dsimp only
 rw [← hcha,← hchb]
 simp only [List.any_map]
 refine any_congr fun x hx=>?_
 simp only [Function.comp]
 refine any_congr fun y hy=>?_
 simp only [Function.comp]
 rw [lapI_pl (hfa.num hl hx) (hfb.num hl hy)]
end Go.Proofs.YtligiddaampneaaGreat
