/- What a description has that the check has taken. -/
import Derived.Test.YtligiddaampneaaGreatTn
namespace Go.Proofs.YtligiddaampneaaGreat
open Go.RowKit
section
variable {M : Mach} {N : List ByteArray} {L : List Pl}
theorem oneS_fresh {σ σ':Wk} {name:ByteArray} {w beg:Int} {d:Nat} (h:oneS σ name w beg d=.ok σ'):name∉σ.names:=by
 unfold oneS at h
 by_cases h1:6<d
 ·rw [if_pos h1] at h;cases h
 rw [if_neg h1] at h
 by_cases h2:200≤σ.names.length
 ·rw [if_pos h2] at h;cases h
 rw [if_neg h2] at h
 by_cases h3:(namedS name && !(memB name σ.names))=false
 ·rw [if_pos h3] at h;cases h
 intro hm
 rw [(memB_iff _ _).2 hm] at h3
 simp at h3
theorem places_nodup {l:List RegT} {σ:Wk} (h:placesS l=.ok σ):σ.names.Nodup:=by
 have:=downS_inv (I:=fun σ=>(σ.Good∧∀ p∈σ.places,p.tight)∧σ.names.Nodup) (fun σ name width beg d σ' hI hd hdw h=>⟨⟨⟨(good_one hI.1.1 hd hdw h).1,oneS_tight hI.1.1 hI.1.2 hd hdw h⟩,by
  obtain ⟨_,_,_,p,roots,_,_,rfl⟩:=oneS_took h
  show (σ.names ++ [name]).Nodup
  rw [List.nodup_append]
  refine ⟨hI.2,by simp,fun a ha b hb e=>?_⟩
  rw [List.mem_singleton.1 hb] at e
  exact oneS_fresh h (e ▸ ha)⟩,(good_one hI.1.1 hd hdw h).2⟩) 7 1 l wk0 σ (by omega) ⟨⟨start_good,by simp [wk0]⟩,by simp [wk0]⟩ (by simp [wk0]) h
 exact this.1.2
structure Taken (M:Mach) (N:List ByteArray) (L:List Pl):Prop where
 pl:∃ σ,placesS M.regs=.ok σ∧σ.names=N∧σ.places=L
 head:headS M=.ok (N,L)
 good:Good M N L
 fine:∀ o∈M.ops,FineP M N o
 small:SmallM M
 known:KnownM M N
 len:L.length=N.length
 tight:∀ p∈L,p.tight
 le:N.length≤200
 nd:N.Nodup
 ndc:(M.classes.map Cls.name).Nodup
 ndo:(M.ops.map Opn.name).Nodup
 slots:0≤M.slots∧M.slots≤1000
theorem names_nodup {l:List ByteArray} (h:∀ (k:Nat) (s:ByteArray),l[k]?=some s→idx l s=(k:Int)):l.Nodup:=nodup_of_take fun k s hs=>(idx_at_iff hs).1 (h k s hs)
theorem taken_of (h:checkS M=.ok ()):∃ N L,Taken M N L:=by
 unfold checkS at h
 cases hh:headS M with
 | error x=>rw [hh] at h;cases h
 | ok r =>
  obtain ⟨N,L⟩:=r
  rw [hh] at h
  dsimp only at h
  cases hc:classesS M N L with
  | error x=>rw [hc] at h;cases h
  | ok u =>
   rw [hc] at h
   dsimp only at h
   cases ho:opsS M N L with
   | error x=>rw [ho] at h;cases h
   | ok u2 =>
    rw [ho] at h
    dsimp only at h
    cases hv:convS M N L with
    | error x=>rw [hv] at h;cases h
    | ok u3 =>
     have hl:L.length=N.length∧(∀ p∈L,p.tight)∧∃ σ,placesS M.regs=.ok σ∧σ.names=N∧σ.places=L:=by
      have h2:=hh
      unfold headS at h2
      split at h2
      ·cases hp:placesS M.regs with
       | error x=>rw [hp] at h2;cases h2
       | ok σ =>
        rw [hp] at h2
        dsimp only at h2
        have hg:=placesS_tight hp
        split at h2
        ·cases h2;exact ⟨hg.1.lp,hg.2,σ,rfl,rfl,rfl⟩
        ·cases h2
      ·cases h2
     obtain ⟨hlen,hT,σ,hp,hN,hL⟩:=hl
     have hG:=classes_good hc
     have hle:N.length≤200:=hN ▸ (placesS_tight hp).1.ln
     have hoc:opsC M N L (numsC N M.classes)=0:=by rw [← ops_code hG hlen,ho];rfl
     have hF:=ops_fine hG hoc
     have hcv:(convB M N L && savedB M N L && insB M N (numsC N M.classes))=true:=(conv_iff hG hlen hT).1 (by rw [hv])
     rw [Bool.and_eq_true,Bool.and_eq_true] at hcv
     obtain ⟨v1,v2,v3,v4,v5,v6,v7⟩:=convB_true hcv.1.1
     have hcl:M.classes.length≤64∧∀ c∈M.classes,c.regs.length≤64:=by
      refine ⟨(by unfold classesS at hc;split at hc <;> (first | assumption | (cases hc))),fun c hm=>?_⟩
      obtain ⟨n,hn⟩:=List.getElem?_of_mem hm
      exact (classesS_of hc n c hn).2.1.2
     have hol:M.ops.length≤64:=by unfold opsS at ho;split at ho <;> (first | assumption | (cases ho))
     have hop:∀ (i:Nat) (o:Opn),M.ops[i]?=some o→opIxT M o.name=(i:Int):=fun i o hi=>by
      unfold opsS at ho
      rw [if_pos hol] at ho
      have h3:=goS_ok ho i o hi
      rw [Nat.zero_add] at h3
      unfold opS at h3
      split at h3
      ·rename_i h4;exact h4.2
      ·cases h3
     have hfix:∀ u:Opr,FineO M N u→0≤clsIx M u.cls∧(u.fix=⟨#[]⟩∨0≤idx N u.fix):=fun u hu=>by
      obtain ⟨k,c,h1,_,_,h4,h5⟩:=hu
      exact ⟨by omega,h5.imp id fun hm=>h4 _ hm⟩
     refine ⟨N,L,⟨σ,hp,hN,hL⟩,hh,hG,hF,⟨places_small hp,hcl.1,fun c hc=>by have:=hcl.2 c hc;omega,hol,fun o ho=>by rcases (hF o ho).len with e | e <;> omega,fun o ho=>by have:=(hF o ho).many;omega,by omega,by omega⟩,⟨fun o ho=>(hF o ho).clob,fun o ho u hu=>?_,fun o ho e=>?_,hG.reg,fun s hs=>?_,fun s hs=>?_,v3⟩,hlen,hT,hle,?_,?_,?_,v6,v7⟩
     ·rcases List.mem_cons.1 hu with rfl | hu
      ·exact hfix _ (hF o ho).dfn
      ·exact hfix _ ((hF o ho).uses u hu)
     ·have:=(hF o ho).len
      rw [e] at this
      simp at this
     ·obtain ⟨i,hi⟩:=List.getElem?_of_mem hs
      exact ((apartB_iff hlen).1 v2 i s hi).1
     ·obtain ⟨i,hi⟩:=List.getElem?_of_mem hs
      exact ((apartB_iff hlen).1 v5 i s hi).1
     ·exact hN ▸ places_nodup hp
     ·refine names_nodup fun k s hs=>?_
      rw [List.getElem?_map] at hs
      obtain ⟨c,hc2,rfl⟩:=Option.map_eq_some_iff.1 hs
      rw [clsIx_idx]
      exact hG.ix k c hc2
     ·refine names_nodup fun k s hs=>?_
      rw [List.getElem?_map] at hs
      obtain ⟨o,ho2,rfl⟩:=Option.map_eq_some_iff.1 hs
      rw [opIx_idx]
      exact hop k o ho2
end
end Go.Proofs.YtligiddaampneaaGreat
