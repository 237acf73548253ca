/- Plain: the reference's numbers are those of the program: the convention, the spills, the whole. -/
import Derived.Test.YtligiddaampneaaGreatRefU
set_option maxHeartbeats 1000000
-- shrunk
namespace Go.Proofs.YtligiddaampneaaGreat
section
variable {M : Mach} {N : List ByteArray} {L : List Pl}
theorem plAt_mem {n:Int} (h:0≤n∧n<(L.length:Int)):plAt L n∈L:=by
 obtain ⟨k,rfl⟩:∃ k:Nat,n=k:=⟨n.toNat,by omega⟩
 rw [plAt_some (show k<L.length by omega)]
 exact List.getElem_mem _
theorem idx_in (hl:L.length=N.length) {s:ByteArray} (h:0≤idx N s):0≤idx N s∧idx N s<(L.length:Int):=⟨h,by rw [hl];exact idx_lt h⟩
theorem apS_iff {l:List ByteArray}:∀ {acc ps:List Pl},apS N L l acc=.ok ps↔ps=acc ++ l.map (fun s=>plAt L (idx N s))∧∀ i s,l[i]?=some s→0≤idx N s∧(∀ p∈acc,lapS (plAt L (idx N s)) p=false)∧∀ t∈l.take i,lapS (plAt L (idx N s)) (plAt L (idx N t))=false:=by
 induction l with
 | nil =>
  intro acc ps
  simp only [apS,List.map_nil,List.append_nil]
  constructor
  ·intro h;cases h;exact ⟨rfl,fun i s h=>by simp at h⟩
  ·rintro ⟨rfl,_⟩;rfl
 | cons r l ih =>
  intro acc ps
  simp only [apS]
  by_cases h0:0≤idx N r
  ·rw [(regS_eqok (e:=10)).2 ⟨h0,rfl⟩]
   dsimp only
   by_cases h1:acc.any (lapS (plAt L (idx N r)))=true
   ·rw [if_pos h1]
    constructor
    ·intro h;cases h
    ·rintro ⟨_,h⟩
     have:=(h 0 r rfl).2.1
     obtain ⟨p,hp,hpl⟩:=List.any_eq_true.1 h1
     rw [this p hp] at hpl
     cases hpl
   ·rw [if_neg h1,ih]
    rw [Bool.not_eq_true,List.any_eq_false] at h1
    constructor
    ·rintro ⟨rfl,h⟩
     refine ⟨by simp,fun i s hs=>?_⟩
     cases i with
     | zero =>
      simp at hs
      subst hs
      exact ⟨h0,fun p hp=>by simpa using h1 p hp,fun t ht=>by simp at ht⟩
     | succ i =>
      obtain ⟨a,b,c⟩:=h i s (by simpa using hs)
      refine ⟨a,fun p hp=>b p (List.mem_append_left _ hp),fun t ht=>?_⟩
      rw [List.take_succ_cons] at ht
      rcases List.mem_cons.1 ht with rfl | ht
      ·exact b _ (List.mem_append_right _ (List.mem_singleton.2 rfl))
      ·exact c t ht
    ·rintro ⟨rfl,h⟩
     refine ⟨by simp,fun i s hs=>?_⟩
     obtain ⟨a,b,c⟩:=h (i+1) s (by simpa using hs)
     refine ⟨a,fun p hp=>?_,fun t ht=>c t (by rw [List.take_succ_cons];exact List.mem_cons_of_mem _ ht)⟩
     rcases List.mem_append.1 hp with hp | hp
     ·exact b p hp
     ·rw [List.mem_singleton.1 hp]
      exact c r (by rw [List.take_succ_cons];exact List.mem_cons_self)
  ·have:regS N r 10=.error 10:=by unfold regS;rw [if_neg h0]
   rw [this]
   dsimp only
   constructor
   ·intro h;cases h
   ·rintro ⟨_,h⟩;exact absurd (h 0 r rfl).1 h0
theorem apS_err {l:List ByteArray}:∀ {acc:List Pl} {y:Int},apS N L l acc=.error y→y=10:=by
 induction l with
 | nil=>intro acc y h;cases h
 | cons r l ih =>
  intro acc y h
  simp only [apS] at h
  split at h
  ·rename_i e he;cases h;exact regS_eqerr he
  ·split at h
   ·cases h;rfl
   ·exact ih h
theorem apartB_iff (hl:L.length=N.length) {l:List ByteArray}:apartB N L l=true↔∀ i s,l[i]?=some s→0≤idx N s∧∀ t∈l.take i,lapS (plAt L (idx N s)) (plAt L (idx N t))=false:=by
 unfold apartB
 rw [List.all_eq_true]
 constructor
 ·intro h i s hs
  have h0:∀ (j:Nat) (t:ByteArray),l[j]?=some t→0≤idx N t:=fun j t ht=>by
   have:=h j (List.mem_range.2 (List.getElem?_eq_some_iff.1 ht).1)
   unfold okA at this
   rw [ht] at this
   simp only [Bool.and_eq_true,decide_eq_true_eq] at this
   exact this.1
  refine ⟨h0 i s hs,fun t ht=>?_⟩
  have:=h i (List.mem_range.2 (List.getElem?_eq_some_iff.1 hs).1)
  unfold okA at this
  rw [hs] at this
  simp only [Bool.and_eq_true,List.all_eq_true] at this
  have h3:=this.2 t ht
  obtain ⟨j,hj⟩:=List.getElem?_of_mem (List.mem_of_mem_take ht)
  rw [lapI_pl (idx_in hl (h0 i s hs)) (idx_in hl (h0 j t hj))] at h3
  simpa using h3
 ·intro h k hk
  have hs:=lE (List.mem_range.1 hk)
  obtain ⟨a,b⟩:=h k _ hs
  unfold okA
  rw [hs]
  simp only [Bool.and_eq_true,decide_eq_true_eq,List.all_eq_true]
  refine ⟨a,fun t ht=>?_⟩
  obtain ⟨j,hj⟩:=List.getElem?_of_mem (List.mem_of_mem_take ht)
  rw [lapI_pl (idx_in hl a) (idx_in hl (h j t hj).1),b t ht]
  rfl
theorem apartS_iff (hl:L.length=N.length) {l:List ByteArray} {most:Nat} {ps:List Pl}:apartS N L l (most:Int)=.ok ps↔(l.length≤most∧apartB N L l=true)∧ps=l.map (fun s=>plAt L (idx N s)):=by
 unfold apartS
 by_cases h:(l.length:Int)≤(most:Int)
 ·rw [if_pos h,apS_iff,apartB_iff hl,List.nil_append]
  constructor
  ·rintro ⟨a,b⟩;exact ⟨⟨by omega,fun i s hs=>⟨(b i s hs).1,(b i s hs).2.2⟩⟩,a⟩
  ·rintro ⟨⟨_,b⟩,a⟩;exact ⟨a,fun i s hs=>⟨(b i s hs).1,fun p hp=>by simp at hp,(b i s hs).2⟩⟩
 ·rw [if_neg h]
  exact ⟨fun x=>(by cases x),fun x=>absurd x.1.1 (by omega)⟩
theorem apartS_err {l:List ByteArray} {most y:Int} (h:apartS N L l most=.error y):y=10:=by
 unfold apartS at h
 split at h
 ·exact apS_err h
 ·cases h;rfl
def convB (M:Mach) (N:List ByteArray) (L:List Pl):Bool:=decide (M.args.length≤16) && apartB N L M.args && decide (0≤idx N M.result) && decide (M.saved.length≤64) && apartB N L M.saved && decide (0≤M.slots) && decide (M.slots≤1000)
def savedB (M:Mach) (N:List ByteArray) (L:List Pl):Bool:=M.saved.all fun s=>!lapI L (idx N M.result) (idx N s)
def insB (M:Mach) (N:List ByteArray) (C:List (List Int)):Bool:=(listS N M.args ++ [idx N M.result]).all fun n=>(List.range C.length).any fun k=>inI C (k:Int) n
def pairsB (L:List Pl) (C:List (List Int)):Bool:=(List.range C.length).all fun a=>(List.range C.length).all fun b=>decide (b<a) || pairI L C (a:Int) (b:Int)
def makeC (M:Mach) (N:List ByteArray) (L:List Pl) (C:List (List Int)):Int :=
 if convB M N L=false then 10 else if savedB M N L=false then 10 else if insB M N C=false then 10 else if M.ops.all (fitsI M N L C)=false then 11 else if pairsB L C=false then 11 else 0
def coreC (four:Bool) (M:Mach) (N:List ByteArray) (L:List Pl):Int:=if clssC M N L=0 then (if four=true then opsC M N L (numsC N M.classes) else 0) else clssC M N L
def beginS (four:Bool) (M:Mach):Except Int (List ByteArray × List Pl):=match headS M with
 | .error x=>.error x
 | .ok (N,L)=>if coreC four M N L=0 then .ok (N,L) else .error (coreC four M N L)
def makeR (M:Mach):Int:=match beginS true M with
 | .error x=>x
 | .ok (N,L)=>makeC M N L (numsC N M.classes)
theorem ins_iff (hG:Good M N L) (ha:∀ s∈M.args,0≤idx N s) (hr:0≤idx N M.result):convIn M=.ok ()↔insB M N (numsC N M.classes)=true:=by
 unfold convIn insB
 rw [goS_ok_iff,listS_all ha,List.all_eq_true]
 have hone:∀ s,0≤idx N s→((inS M 0 s=.ok ())↔((List.range (numsC N M.classes).length).any fun k=>inI (numsC N M.classes) (k:Int) (idx N s))=true):=fun s _=>by
  unfold inS
  have e:(M.classes.any fun c=>decide (0≤idx c.regs s))=((List.range (numsC N M.classes).length).any fun k=>inI (numsC N M.classes) (k:Int) (idx N s)):=by
   rw [Bool.eq_iff_iff,List.any_eq_true,List.any_eq_true]
   constructor
   ·rintro ⟨c,hc,h⟩
    obtain ⟨k,hk⟩:=List.getElem?_of_mem hc
    refine ⟨k,List.mem_range.2 ?_,(inI_iff hk (hG.reg c hc)).2 (idx_ge.1 (of_decide_eq_true h))⟩
    exact (List.getElem?_eq_some_iff.1 (numsC_at (N:=N) hk)).1
   ·rintro ⟨k,hk,h⟩
    have hk:=List.mem_range.1 hk
    unfold numsC at hk
    rw [List.length_map] at hk
    have hc:=lE hk
    have hm:=List.mem_of_getElem? hc
    exact ⟨_,hm,decide_eq_true (idx_ge.2 ((inI_iff hc (hG.reg _ hm)).1 h))⟩
  rw [e]
  cases ((List.range (numsC N M.classes).length).any fun k=>inI (numsC N M.classes) (k:Int) (idx N s)) with
  | true=>simp
  | false=>simp
 have hj:∀ (j:Nat) (s:ByteArray),inS M (0+j) s=inS M 0 s:=fun _ _=>rfl
 constructor
 ·intro h n hn
  rcases List.mem_append.1 hn with hn | hn
  ·obtain ⟨s,hs,rfl⟩:=List.mem_map.1 hn
   obtain ⟨i,hi⟩:=List.getElem?_of_mem (List.mem_append_left [M.result] hs)
   exact (hone s (ha s hs)).1 (by rw [← hj i];exact h i s hi)
  ·rw [List.mem_singleton.1 hn]
   obtain ⟨i,hi⟩:=List.getElem?_of_mem (List.mem_append_right M.args (List.mem_singleton.2 rfl:M.result∈[M.result]))
   exact (hone M.result hr).1 (by rw [← hj i];exact h i _ hi)
 ·intro h i s hs
  rw [hj]
  rcases List.mem_append.1 (List.mem_of_getElem? hs) with hm | hm
  ·exact (hone s (ha s hm)).2 (h _ (List.mem_append_left _ (List.mem_map_of_mem hm)))
  ·rw [List.mem_singleton.1 hm]
   exact (hone _ hr).2 (h _ (List.mem_append_right _ (List.mem_singleton.2 rfl)))
theorem convIn_err {y:Int} (h:convIn M=.error y):y=10:=by
 unfold convIn at h
 refine goS_err (fun i s y hy=>?_) h
 unfold inS at hy
 split at hy
 ·cases hy
 ·cases hy;rfl
theorem convS_ten {y:Int} (h:convS M N L=.error y):y=10:=by
 unfold convS at h
 split at h
 ·rename_i e he;cases h;exact apartS_err he
 ·split at h
  ·rename_i e he;cases h;exact regS_eqerr he
  ·unfold convRest at h
   split at h
   ·rename_i e he;cases h;exact apartS_err he
   ·split at h
    ·cases h;rfl
    ·unfold convSlots at h
     split at h
     ·exact convIn_err h
     ·cases h;rfl
theorem conv_iff (hG:Good M N L) (hl:L.length=N.length) (hT:∀ p∈L,p.tight):convS M N L=.ok ()↔(convB M N L && savedB M N L && insB M N (numsC N M.classes))=true:=by
 have hargs:apartB N L M.args=true→∀ s∈M.args,0≤idx N s:=fun h s hs=>by
  obtain ⟨i,hi⟩:=List.getElem?_of_mem hs
  exact ((apartB_iff hl).1 h i s hi).1
 have hsv:apartB N L M.saved=true→∀ s∈M.saved,0≤idx N s:=fun h s hs=>by
  obtain ⟨i,hi⟩:=List.getElem?_of_mem hs
  exact ((apartB_iff hl).1 h i s hi).1
 have hsave:apartB N L M.saved=true→0≤idx N M.result→((M.saved.map fun s=>plAt L (idx N s)).any (fun p=>lapS p (plAt L (idx N M.result)))=false↔savedB M N L=true):=fun ha hr=>by
  unfold savedB
  rw [List.any_eq_false,List.all_eq_true]
  have e:∀ s∈M.saved,lapI L (idx N M.result) (idx N s)=lapS (plAt L (idx N s)) (plAt L (idx N M.result)):=fun s hs=>by
   rw [lapI_pl (idx_in hl hr) (idx_in hl (hsv ha s hs)),lap_comm (hT _ (plAt_mem (idx_in hl hr))) (hT _ (plAt_mem (idx_in hl (hsv ha s hs))))]
  constructor
  ·intro h s hs
   have:=h _ (List.mem_map_of_mem hs)
   rw [e s hs]
   simpa using this
  ·intro h p hp
   obtain ⟨s,hs,rfl⟩:=List.mem_map.1 hp
   have:=h s hs
   rw [e s hs] at this
   simpa using this
 unfold convB
 simp only [Bool.and_eq_true,decide_eq_true_eq,and_assoc]
 unfold convS
 constructor
 ·intro h
  split at h
  ·cases h
  ·rename_i ps hps
   have h1:=((apartS_iff hl (most:=16)).1 hps).1
   split at h
   ·cases h
   ·rename_i n hn
    obtain ⟨hr,rfl⟩:=regS_eqok.1 hn
    unfold convRest at h
    split at h
    ·cases h
    ·rename_i ps2 hps2
     obtain ⟨h2,rfl⟩:=(apartS_iff hl (most:=64)).1 hps2
     split at h
     ·cases h
     ·rename_i h3
      unfold convSlots at h
      split at h
      ·rename_i h4
       exact ⟨h1.1,h1.2,hr,h2.1,h2.2,h4.1,h4.2,(hsave h2.2 hr).1 (by simpa using h3),(ins_iff hG (hargs h1.2) hr).1 h⟩
      ·cases h
 ·rintro ⟨a1,a2,hr,s1,s2,l1,l2,sv,ins⟩
  have e1:=(apartS_iff hl (most:=16) (l:=M.args)).2 ⟨⟨a1,a2⟩,rfl⟩
  have e2:=(apartS_iff hl (most:=64) (l:=M.saved)).2 ⟨⟨s1,s2⟩,rfl⟩
  rw [show ((16:Nat):Int)=16 from rfl] at e1
  rw [show ((64:Nat):Int)=64 from rfl] at e2
  rw [e1,(regS_eqok (e:=10)).2 ⟨hr,rfl⟩]
  dsimp only
  unfold convRest
  rw [e2]
  dsimp only
  rw [(hsave s2 hr).2 sv,if_neg (by decide)]
  unfold convSlots
  rw [if_pos ⟨l1,l2⟩]
  exact (ins_iff hG (hargs a2) hr).2 ins
theorem lapI_comm (hT:∀ p∈L,p.tight) (a b:Int):lapI L a b=lapI L b a:=by
 unfold lapI
 by_cases h:0≤a∧0≤b
 ·rw [if_pos h,if_pos ⟨h.2,h.1⟩]
  cases ha:L[a.toNat]? with
  | none=>cases hb:L[b.toNat]? <;> rfl
  | some p =>
   cases hb:L[b.toNat]? with
   | none=>rfl
   | some q=>exact lap_comm (hT p (List.mem_of_getElem? ha)) (hT q (List.mem_of_getElem? hb))
 ·rw [if_neg h,if_neg (fun x=>h ⟨x.2,x.1⟩)]
theorem pairI_comm (hT:∀ p∈L,p.tight) (C:List (List Int)) (a b:Int):pairI L C a b=pairI L C b a:=by
 unfold pairI
 by_cases h:0≤a∧0≤b
 ·rw [if_pos h,if_pos ⟨h.2,h.1⟩]
  cases ha:C[a.toNat]? with
  | none=>cases hb:C[b.toNat]? <;> rfl
  | some x =>
   cases hb:C[b.toNat]? with
   | none=>rfl
   | some y =>
    dsimp only
    rw [Bool.eq_iff_iff,List.any_eq_true,List.any_eq_true]
    constructor
    ·rintro ⟨p,hp,h⟩
     obtain ⟨q,hq,h2⟩:=List.any_eq_true.1 h
     exact ⟨q,hq,List.any_eq_true.2 ⟨p,hp,by rw [lapI_comm hT];exact h2⟩⟩
    ·rintro ⟨p,hp,h⟩
     obtain ⟨q,hq,h2⟩:=List.any_eq_true.1 h
     exact ⟨q,hq,List.any_eq_true.2 ⟨p,hp,by rw [lapI_comm hT];exact h2⟩⟩
 ·rw [if_neg h,if_neg (fun x=>h ⟨x.2,x.1⟩)]
theorem spills_err {y:Int} (h:spillsS M N L=.error y):y=11:=by
 unfold spillsS at h
 split at h
 ·rename_i e he
  cases h
  refine goS_err (fun i o y hy=>?_) he
  unfold spillO at hy
  split at hy
  ·cases hy
  ·cases hy;rfl
 ·refine goS_err (fun i c y hy=>?_) h
  unfold spillC at hy
  refine goS_err (fun j c2 y hy=>?_) hy
  unfold spillP at hy
  split at hy
  ·cases hy
  ·cases hy;rfl
theorem fits_all (hl:L.length=N.length) (hT:∀ p∈L,p.tight) (hO:∀ o∈M.ops,FineP M N o):goS (spillO M N L) 0 M.ops=.ok ()↔M.ops.all (fitsI M N L (numsC N M.classes))=true:=by
 rw [goS_ok_iff,List.all_eq_true]
 have e:∀ o∈M.ops,fitsI M N L (numsC N M.classes) o=fitsS M N L o:=fun o ho=>by
  have h:=hO o ho
  exact fitsI_S hl hT h.clob h.dfn h.uses h.len h.lt h.tie
 constructor
 ·intro h o ho
  obtain ⟨i,hi⟩:=List.getElem?_of_mem ho
  have:=h i o hi
  unfold spillO at this
  split at this
  ·rw [e o ho];assumption
  ·cases this
 ·intro h i o ho
  have hm:=List.mem_of_getElem? ho
  unfold spillO
  rw [← e o hm,if_pos (h o hm)]
theorem pairs_all (hG:Good M N L) (hl:L.length=N.length) (hT:∀ p∈L,p.tight):goS (spillC M N L) 0 M.classes=.ok ()↔pairsB L (numsC N M.classes)=true:=by
 have e:∀ (a b:Nat) (ca cb:Cls),M.classes[a]?=some ca→M.classes[b]?=some cb→pairI L (numsC N M.classes) (a:Int) (b:Int)=pairS M N L ca.name cb.name:=fun a b ca cb ha hb =>
  pairI_S hl ha hb (hG.ix a ca ha) (hG.ix b cb hb) (hG.nodup ca (List.mem_of_getElem? ha)) (hG.nodup cb (List.mem_of_getElem? hb)) (hG.reg ca (List.mem_of_getElem? ha)) (hG.reg cb (List.mem_of_getElem? hb))
 have h1:goS (spillC M N L) 0 M.classes=.ok ()↔∀ (a b:Nat) (ca cb:Cls),b≤a→M.classes[a]?=some ca→M.classes[b]?=some cb→pairI L (numsC N M.classes) (a:Int) (b:Int)=true:=by
  rw [goS_ok_iff]
  constructor
  ·intro h a b ca cb hab ha hb
   have:=h a ca ha
   rw [Nat.zero_add] at this
   unfold spillC at this
   rw [goS_ok_iff] at this
   have h2:=this b cb (by rw [List.getElem?_take,if_pos (by omega)];exact hb)
   unfold spillP at h2
   split at h2
   ·rw [e a b ca cb ha hb];assumption
   ·cases h2
  ·intro h a ca ha
   rw [Nat.zero_add]
   unfold spillC
   rw [goS_ok_iff]
   intro b cb hb
   rw [List.getElem?_take] at hb
   split at hb
   ·unfold spillP
    rw [← e a b ca cb ha hb,if_pos (h a b ca cb (by omega) ha hb)]
   ·cases hb
 rw [h1]
 unfold pairsB
 rw [List.all_eq_true]
 have hlen:(numsC N M.classes).length=M.classes.length:=by unfold numsC;rw [List.length_map]
 constructor
 ·intro h a ha
  rw [List.all_eq_true]
  intro b hb
  have ha:=List.mem_range.1 ha
  have hb:=List.mem_range.1 hb
  rw [hlen] at ha hb
  rw [Bool.or_eq_true,decide_eq_true_eq]
  by_cases hab:b<a
  ·exact Or.inl hab
  ·right
   rw [pairI_comm hT]
   exact h b a _ _ (by omega) (lE hb) (lE ha)
 ·intro h a b ca cb hab ha hb
  have la:=(List.getElem?_eq_some_iff.1 ha).1
  have lb:=(List.getElem?_eq_some_iff.1 hb).1
  have h2:=h b (List.mem_range.2 (by omega))
  rw [List.all_eq_true] at h2
  have h3:=h2 a (List.mem_range.2 (by omega))
  rw [Bool.or_eq_true,decide_eq_true_eq] at h3
  rw [pairI_comm hT]
  exact h3.resolve_left (by omega)
theorem make_code (hh:∀ N L,headS M=.ok (N,L)→L.length=N.length∧∀ p∈L,p.tight):makeR M=codeOf (checkS M):=by
 unfold makeR beginS checkS
 cases hd:headS M with
 | error x=>rfl
 | ok r =>
  obtain ⟨N,L⟩:=r
  obtain ⟨hl,hT⟩:=hh N L hd
  dsimp only
  have hc:=classes_code (M:=M) hl
  unfold coreC
  cases hcl:classesS M N L with
  | error x =>
   rw [hcl] at hc
   have hne:clssC M N L≠0:=by
    rw [← hc]
    show x≠0
    exact classes_ne hcl
   rw [if_neg hne,if_neg hne]
   exact hc.symm
  | ok u =>
   have hG:=classes_good hcl
   rw [hcl] at hc
   have hc0:clssC M N L=0:=hc.symm
   simp only [if_pos hc0,if_true]
   have ho:=ops_code hG hl
   cases hop:opsS M N L with
   | error x =>
    rw [hop] at ho
    have hne:opsC M N L (numsC N M.classes)≠0:=by
     rw [← ho]
     show x≠0
     unfold opsS at hop
     split at hop
     ·exact goS_ne (fun i o e hi he=>opS_ne hG hl hi (by rw [Nat.zero_add] at he;exact he)) x hop
     ·cases hop;decide
    rw [if_neg hne]
    exact ho.symm
   | ok u2 =>
    rw [hop] at ho
    have ho0:opsC M N L (numsC N M.classes)=0:=ho.symm
    rw [if_pos ho0]
    dsimp only
    have hO:=ops_fine hG ho0
    have hcv:=conv_iff hG hl hT
    unfold makeC
    cases hv:convS M N L with
    | error x =>
     have:=convS_ten hv
     subst this
     dsimp only
     show _=(10:Int)
     by_cases k1:convB M N L=false
     ·rw [if_pos k1]
     rw [if_neg k1]
     by_cases k2:savedB M N L=false
     ·rw [if_pos k2]
     rw [if_neg k2]
     by_cases k3:insB M N (numsC N M.classes)=false
     ·rw [if_pos k3]
     rw [Bool.not_eq_false] at k1 k2 k3
     rw [k1,k2,k3,hv] at hcv
     have:=hcv.2 rfl
     cases this
    | ok u3 =>
     have h3:=hcv.1 hv
     simp only [Bool.and_eq_true] at h3
     rw [h3.1.1,h3.1.2,h3.2,if_neg (by decide),if_neg (by decide),if_neg (by decide)]
     dsimp only
     have hf:=fits_all hl hT hO
     have hp:=pairs_all hG hl hT
     cases hsp:spillsS M N L with
     | error x =>
      have:=spills_err hsp
      subst this
      show _=(11:Int)
      by_cases k1:(M.ops.all (fitsI M N L (numsC N M.classes)))=false
      ·rw [if_pos k1]
      rw [if_neg k1]
      by_cases k2:pairsB L (numsC N M.classes)=false
      ·rw [if_pos k2]
      rw [Bool.not_eq_false] at k1 k2
      unfold spillsS at hsp
      rw [hf.2 k1] at hsp
      dsimp only at hsp
      rw [hp.2 k2] at hsp
      cases hsp
     | ok u4 =>
      unfold spillsS at hsp
      cases hg:goS (spillO M N L) 0 M.ops with
      | error e=>rw [hg] at hsp;cases hsp
      | ok u5 =>
       rw [hg] at hsp
       dsimp only at hsp
       rw [hf.1 hg,hp.1 hsp,if_neg (by decide),if_neg (by decide)]
       rfl
end
end Go.Proofs.YtligiddaampneaaGreat
