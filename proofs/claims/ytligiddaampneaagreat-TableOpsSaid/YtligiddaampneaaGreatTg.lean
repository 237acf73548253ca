/- Plain: rows of what laps, as sets of small numbers. -/
import Derived.Test.YtligiddaampneaaGreatTb
import Derived.Test.YtligiddaampneaaGreatRefX
namespace Go.Proofs.YtligiddaampneaaGreat
section
variable {L : List Pl}
def lapRow (L:List Pl) (p:Pl) (k:Nat):List Int:=((List.range k).filter (fun j:Nat=>lapS p (L.getD j ⟨0,0,0⟩))).map (fun j:Nat=>(j:Int))
theorem lapRow_succ (p:Pl) (k:Nat):lapRow L p (k+1)=lapRow L p k ++ (if lapS p (L.getD k ⟨0,0,0⟩)=true then [(k:Int)] else []):=by
 unfold lapRow
 rw [List.range_succ,List.filter_append,List.map_append]
 congr 1
 cases h:lapS p (L.getD k ⟨0,0,0⟩) with
 | true =>
  rw [if_pos rfl,List.filter_cons_of_pos (p:=fun j:Nat=>lapS p (L.getD j ⟨0,0,0⟩)) h]
  rfl
 | false =>
  rw [if_neg (by decide),List.filter_cons_of_neg (p:=fun j:Nat=>lapS p (L.getD j ⟨0,0,0⟩)) (by rw [h];decide)]
  rfl
theorem lapRow_len (p:Pl) (k:Nat):(lapRow L p k).length≤k:=by
 unfold lapRow
 rw [List.length_map]
 exact Nat.le_trans (List.length_filter_le _ _) (by rw [List.length_range];exact Nat.le_refl _)
theorem lapRow_mem {p:Pl} {k n:Nat}:(n:Int)∈lapRow L p k↔n<k∧lapS p (L.getD n ⟨0,0,0⟩)=true:=by
 unfold lapRow
 rw [List.mem_map]
 constructor
 ·rintro ⟨j,hj,e⟩
  have:j=n:=by omega
  subst this
  have:=List.mem_filter.1 hj
  exact ⟨List.mem_range.1 this.1,this.2⟩
 ·rintro ⟨h1,h2⟩
  exact ⟨n,List.mem_filter.2 ⟨List.mem_range.2 h1,h2⟩,rfl⟩
theorem lapI_row {ws:List Nat} {a:Nat} (hl:L.length≤65535) (ha:a<L.length) (hw:∀ n,hasW ws n=decide (n≤65535∧(n:Int)∈lapRow L (L.getD a ⟨0,0,0⟩) L.length)) (b:Int) :
  (decide (0≤b) && hasW ws b.toNat)=lapI L (a:Int) b:=by
 unfold lapI
 by_cases hb:0≤b
 ·obtain ⟨k,rfl⟩:∃ k:Nat,b=k:=⟨b.toNat,by omega⟩
  rw [if_pos ⟨by omega,hb⟩,decide_eq_true hb,Bool.true_and,Int.toNat_natCast,Int.toNat_natCast,hw,List.getElem?_eq_getElem ha]
  have ga:L.getD a ⟨0,0,0⟩=L[a]:=by rw [List.getD_eq_getElem?_getD,List.getElem?_eq_getElem ha];rfl
  rw [ga]
  by_cases hk:k<L.length
  ·have gk:L.getD k ⟨0,0,0⟩=L[k]:=by rw [List.getD_eq_getElem?_getD,List.getElem?_eq_getElem hk];rfl
   rw [List.getElem?_eq_getElem hk]
   dsimp only
   rw [Bool.eq_iff_iff,decide_eq_true_eq,lapRow_mem,gk]
   constructor
   ·exact fun h=>h.2.2
   ·exact fun h=>⟨by omega,hk,h⟩
  ·rw [List.getElem?_eq_none (by omega)]
   dsimp only
   rw [decide_eq_false]
   intro h
   exact hk (lapRow_mem.1 h.2).1
 ·rw [if_neg (fun h=>hb h.2),decide_eq_false hb,Bool.false_and]
end
end Go.Proofs.YtligiddaampneaaGreat
