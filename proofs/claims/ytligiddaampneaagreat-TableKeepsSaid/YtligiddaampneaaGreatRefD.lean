/- Plain facts of going down into registers: what a deeper level leaves as it was; the reference's own tests, put together. No condition. -/
import Derived.Test.YtligiddaampneaaGreatRefC
set_option maxHeartbeats 1000000
-- shrunk
namespace Go.Proofs.YtligiddaampneaaGreat
open Go.RowKit
def Same (d:Nat) (σ σ':Wk):Prop:=d≤σ'.ways.length∧(∀ j,j+1<d→σ'.ways[j]?=σ.ways[j]?)∧(1<d→σ'.roots=σ.roots)
theorem Same.refl {d:Nat} {σ:Wk} (h:d≤σ.ways.length):Same d σ σ:=⟨h,fun _ _=>rfl,fun _=>rfl⟩
theorem Same.trans {d:Nat} {a b c:Wk} (h:Same d a b) (k:Same d b c):Same d a c :=
 ⟨k.1,fun j hj=>(k.2.1 j hj).trans (h.2.1 j hj),fun hd=>(k.2.2 hd).trans (h.2.2 hd)⟩
theorem Same.up {d:Nat} {a b:Wk} (h:Same (d+1) a b):Same d a b :=
 ⟨by have:=h.1;omega,fun j hj=>h.2.1 j (by omega),fun hd=>h.2.2 (by omega)⟩
theorem oneS_took {σ σ':Wk} {name:ByteArray} {w beg:Int} {d:Nat} (h:oneS σ name w beg d=.ok σ') :
  d≤6∧σ.names.length<200∧(1≤w∧w≤64∧0≤beg)∧∃ p roots,placeS σ d w beg=.ok (p,roots)∧(within σ d).any (lapS p)=false∧σ'=tookS σ name d p roots:=by
 unfold oneS at h
 by_cases h1:6<d
 ·rw [if_pos h1] at h;cases h
 rw [if_neg h1] at h
 by_cases h2:200≤σ.names.length
 ·rw [if_pos h2] at h;cases h
 rw [if_neg h2] at h
 by_cases h3:(namedS name && !(memB name σ.names))=false
 ·rw [if_pos h3] at h;cases h
 rw [if_neg h3] at h
 by_cases h4:¬ (1≤w∧w≤64∧0≤beg)
 ·rw [if_pos h4] at h;cases h
 rw [if_neg h4] at h
 cases hp:placeS σ d w beg with
 | error e=>rw [hp] at h;cases h
 | ok q =>
  obtain ⟨p,roots⟩:=q
  rw [hp] at h
  dsimp only at h
  by_cases h5:(within σ d).any (lapS p)=true
  ·rw [if_pos h5] at h;cases h
  ·rw [if_neg h5] at h
   cases h
   exact ⟨by omega,by omega,Decidable.not_not.1 h4,p,roots,rfl,by simpa using h5,rfl⟩
theorem placeS_roots {σ:Wk} {d:Nat} {w beg:Int} {p:Pl} {roots:Int} (h:placeS σ d w beg=.ok (p,roots)) (hd:1<d):roots=σ.roots:=by
 unfold placeS at h
 rw [if_neg (by omega)] at h
 split at h
 ·split at h
  ·cases h;rfl
  ·cases h
 ·cases h
theorem took_ways {σ:Wk} {name:ByteArray} {d:Nat} {p q:Pl} {D:List Pl} {roots:Int} (hq:σ.ways[d - 1]?=some (q,D)) :
  (tookS σ name d p roots).ways=σ.ways.take (d - 1) ++ [(q,D ++ [p]),(p,[])]:=by
 simp only [tookS,hq]
theorem took_at {σ:Wk} {name:ByteArray} {d:Nat} {p q:Pl} {D:List Pl} {roots:Int} (hd:1≤d) (hq:σ.ways[d - 1]?=some (q,D)) :
  (tookS σ name d p roots).ways.length=d+1∧(tookS σ name d p roots).ways[d - 1]?=some (q,D ++ [p])∧(tookS σ name d p roots).ways[d]?=some (p,[])∧∀ j,j+1<d→(tookS σ name d p roots).ways[j]?=σ.ways[j]?:=by
 rw [took_ways hq]
 have hlt:=(List.getElem?_eq_some_iff.1 hq).1
 have hl:(σ.ways.take (d - 1)).length=d - 1:=by rw [List.length_take];omega
 refine ⟨by rw [List.length_append,hl];simp;omega,?_,?_,fun j hj=>?_⟩
 ·rw [List.getElem?_append_right (by omega),hl,Nat.sub_self];rfl
 ·rw [List.getElem?_append_right (by omega),hl,show d - (d - 1)=1 by omega];rfl
 ·rw [List.getElem?_append_left (by omega),List.getElem?_take,if_pos (by omega)]
theorem oneS_same {σ σ':Wk} {name:ByteArray} {w beg:Int} {d:Nat} (hd:1≤d) (hl:d≤σ.ways.length) (h:oneS σ name w beg d=.ok σ'):Same d σ σ'∧d+1≤σ'.ways.length:=by
 obtain ⟨_,_,_,p,roots,hp,_,rfl⟩:=oneS_took h
 obtain ⟨⟨q,D⟩,hq⟩:∃ q,σ.ways[d - 1]?=some q:=⟨_,lE (by omega)⟩
 obtain ⟨h1,_,_,h4⟩:=took_at (name:=name) (p:=p) (roots:=roots) hd hq
 exact ⟨⟨by omega,h4,fun hd=>placeS_roots hp hd⟩,by omega⟩
theorem stepsS_same {g:Wk→RegT→Except Int Wk} {d:Nat} (hg:∀ σ σ' r,d≤σ.ways.length→g σ r=.ok σ'→Same d σ σ'):∀ (l:List RegT) (σ σ':Wk),d≤σ.ways.length→stepsS g l σ=.ok σ'→Same d σ σ':=by
 intro l
 induction l with
 | nil=>intro σ σ' hl h;simp only [stepsS] at h;cases h;exact Same.refl hl
 | cons r l ih =>
  intro σ σ' hl h
  simp only [stepsS] at h
  cases h1:g σ r with
  | error x=>rw [h1] at h;cases h
  | ok σ1 =>
   rw [h1] at h
   have s1:=hg σ σ1 r hl h1
   exact s1.trans (ih σ1 σ' s1.1 h)
theorem downS_same (k:Nat):∀ (d:Nat) (l:List RegT) (σ σ':Wk),1≤d→d≤σ.ways.length→downS k d l σ=.ok σ'→Same d σ σ':=by
 induction k with
 | zero=>intro d l σ σ' _ hl h;simp only [downS] at h;cases h;exact Same.refl hl
 | succ k ih =>
  intro d l σ σ' hd hl h
  simp only [downS] at h
  refine stepsS_same (fun σ σ' r hl h=>?_) l σ σ' hl h
  cases h1:oneS σ r.name r.width r.beg d with
  | error x=>rw [h1] at h;cases h
  | ok σ1 =>
   rw [h1] at h
   obtain ⟨s1,s2⟩:=oneS_same hd hl h1
   exact s1.trans (ih (d+1) r.subs σ1 σ' (by omega) s2 h).up
def badS (d:Nat) (width w beg:Int):Bool:=decide (w<1∨64<w∨beg<0∨(d=1∧beg≠0)∨(1<d∧(width<beg∨width - beg<w)))
theorem oneS_ref {σ:Wk} {name:ByteArray} {w beg:Int} {d:Nat} {q:Pl} {D:List Pl} (hd:1≤d) (hq:σ.ways[d - 1]?=some (q,D)) :
  oneS σ name w beg d=if 6<d then .error 4 else if 200≤σ.names.length then .error 2 else if (namedS name && !(memB name σ.names))=false then .error 5 else if badS d q.width w beg=true then .error 6
   else if D.any (lapS (if d=1 then ⟨σ.roots,beg,w⟩ else ⟨q.root,q.beg+beg,w⟩))=true then .error 7 else .ok (tookS σ name d (if d=1 then ⟨σ.roots,beg,w⟩ else ⟨q.root,q.beg+beg,w⟩) (if d=1 then σ.roots+1 else σ.roots)):=by
 have hw:within σ d=D:=by unfold within;rw [hq]
 unfold oneS
 split
 ·rfl
 split
 ·rfl
 split
 ·rfl
 unfold badS placeS
 rw [hw,hq]
 by_cases h1:d=1
 ·rw [if_pos h1,if_pos h1,if_pos h1]
  by_cases h2:1≤w∧w≤64∧0≤beg
  ·rw [if_neg (by omega)]
   by_cases h3:beg=0
   ·rw [if_pos h3,if_neg (by rw [decide_eq_true_eq];omega)]
   ·rw [if_neg h3,if_pos (by rw [decide_eq_true_eq];omega)]
  ·rw [if_pos h2,if_pos (by rw [decide_eq_true_eq];omega)]
 ·rw [if_neg h1,if_neg h1,if_neg h1]
  by_cases h2:1≤w∧w≤64∧0≤beg
  ·rw [if_neg (by omega)]
   by_cases h3:beg≤q.width - w
   ·dsimp only
    rw [if_pos h3,if_neg (by rw [decide_eq_true_eq];omega)]
   ·dsimp only
    rw [if_neg h3,if_pos (by rw [decide_eq_true_eq];omega)]
  ·rw [if_pos h2,if_pos (by rw [decide_eq_true_eq];omega)]
def Few (σ:Wk):Prop:=0≤σ.roots∧σ.roots≤σ.names.length
theorem oneS_few {σ σ':Wk} {name:ByteArray} {w beg:Int} {d:Nat} (hF:Few σ) (h:oneS σ name w beg d=.ok σ'):Few σ':=by
 obtain ⟨_,_,_,p,roots,hp,_,rfl⟩:=oneS_took h
 have:roots=σ.roots∨roots=σ.roots+1:=by
  unfold placeS at hp
  split at hp
  ·split at hp
   ·cases hp;exact Or.inr rfl
   ·cases hp
  ·split at hp
   ·split at hp
    ·cases hp;exact Or.inl rfl
    ·cases hp
   ·cases hp
 obtain ⟨h1,h2⟩:=hF
 unfold Few tookS
 dsimp only
 rw [List.length_append]
 simp only [List.length_cons,List.length_nil]
 omega
theorem stepsS_few {g:Wk→RegT→Except Int Wk} (hg:∀ σ σ' r,Few σ→g σ r=.ok σ'→Few σ'):∀ (l:List RegT) (σ σ':Wk),Few σ→stepsS g l σ=.ok σ'→Few σ':=by
 intro l
 induction l with
 | nil=>intro σ σ' hl h;simp only [stepsS] at h;cases h;exact hl
 | cons r l ih =>
  intro σ σ' hl h
  simp only [stepsS] at h
  cases h1:g σ r with
  | error x=>rw [h1] at h;cases h
  | ok σ1=>rw [h1] at h;exact ih σ1 σ' (hg σ σ1 r hl h1) h
theorem downS_few (k:Nat):∀ (d:Nat) (l:List RegT) (σ σ':Wk),Few σ→downS k d l σ=.ok σ'→Few σ':=by
 induction k with
 | zero=>intro d l σ σ' hl h;simp only [downS] at h;cases h;exact hl
 | succ k ih =>
  intro d l σ σ' hF h
  simp only [downS] at h
  refine stepsS_few (fun σ σ' r hF h=>?_) l σ σ' hF h
  cases h1:oneS σ r.name r.width r.beg d with
  | error x=>rw [h1] at h;cases h
  | ok σ1=>rw [h1] at h;exact ih (d+1) r.subs σ1 σ' (oneS_few hF h1) h
theorem drop_step {g:Wk→RegT→Except Int Wk} {l:List RegT} {i:Nat} {r:RegT} {σ:Wk} (hr:l[i]?=some r):stepsS g (l.drop i) σ=match g σ r with | .ok σ'=>stepsS g (l.drop (i+1)) σ' | .error x=>.error x:=by
 obtain ⟨hi,e⟩:=List.getElem?_eq_some_iff.1 hr
 rw [List.drop_eq_getElem_cons hi,e]
 simp only [stepsS]
 cases g σ r <;> rfl
theorem memB_idx {s:ByteArray} {l:List ByteArray}:memB s l=decide (0≤idx l s):=by
 unfold idx
 cases hf:l.findIdx? (fun x=>x == s) with
 | none =>
  rw [List.findIdx?_eq_none_iff] at hf
  show memB s l=false
  cases h:memB s l with
  | false=>rfl
  | true =>
   rw [memB_iff] at h
   have:=hf s h
   rw [(ba_beq s s).2 rfl] at this
   cases this
 | some i =>
  rw [List.findIdx?_eq_some_iff_getElem] at hf
  obtain ⟨hlt,he,_⟩:=hf
  have hm:s∈l:=by rw [← (ba_beq _ _).1 he];exact List.getElem_mem hlt
  rw [(memB_iff s l).2 hm]
  symm;rw [decide_eq_true_eq]
  show (0:Int)≤(i:Int)
  omega
end Go.Proofs.YtligiddaampneaaGreat
