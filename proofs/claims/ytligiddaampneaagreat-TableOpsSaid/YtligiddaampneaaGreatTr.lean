/- Package bitset: a set's numbers in their order. -/
import Derived.Test.YtligiddaampneaaGreatTh
import Derived.Test.YtligiddaampneaaGreatTq
namespace Go.Proofs.YtligiddaampneaaGreat
open Go.RowKit
attribute [local go_sem] Oper.semAt_some
def upto (f:Nat→Bool) (p:Nat):List Nat:=(List.range p).filter f
theorem upto_succ (f:Nat→Bool) (p:Nat):upto f (p+1)=upto f p ++ (if f p=true then [p] else []):=by
 unfold upto
 rw [List.range_succ,List.filter_append]
 congr 1
 cases h:f p with
 | true=>rw [if_pos rfl,List.filter_cons_of_pos h];rfl
 | false=>rw [if_neg (by decide),List.filter_cons_of_neg (by rw [h];decide)];rfl
theorem upto_at {f:Nat→Bool} {p T:Nat} (h:f p=true) (hp:p<T):(upto f T)[(upto f p).length]?=some p:=by
 obtain ⟨d,rfl⟩:∃ d,T=p+1+d:=⟨T - (p+1),by omega⟩
 have e:upto f (p+1+d)=upto f p ++ (p :: (((List.range d).map (p+1 + ·)).filter f)):=by
  show (List.range (p+1+d)).filter f=_
  rw [List.range_add,List.filter_append]
  show upto f (p+1) ++ _=_
  rw [upto_succ,if_pos h,List.append_assoc]
  rfl
 rw [e,List.getElem?_append_right (Nat.le_refl _),Nat.sub_self]
 rfl
theorem WordsIn.same1 {W W':World} {n0:Nat} {v:Value} {ws:List Nat} (h:WordsIn W n0 v ws) (hk:∀ k,v.ownBlock=some k→W'.heap[k]?=W.heap[k]?):WordsIn W' n0 v ws :=
 ⟨⟨h.tab.row.same0 fun q e _=>hk q e,h.tab.len,h.tab.blk⟩,h.lt⟩
set_option maxRecDepth 100000 in
set_option maxHeartbeats 4000000 in
theorem each1_in {W:World} {n0 bs:Nat} {u:Value} {ws:List Nat} (hc:W.cell? ⟨bs,0,none⟩=some u) (hw:WordsIn W n0 u ws) (hn:n0≤W.heap.size) (hl:ws.length≤1024) :
  Hands Tryz.prog 142 #[.pointer (some ⟨bs,0,none⟩)] (fun n:Nat=>.int .i64 (n:Int)) (upto (hasW ws) (ws.length * 64)) (fun k=>k=bs∨u.ownBlock=some k) W:=by
 intro Ll n ρ I hρ hY h0
 refine callsIn_of_wp Tryz.func142 rfl trivial ?_
 simp only [Tryz.ntmps142,List.size_toArray,List.length_cons,List.length_nil,Nat.reduceAdd,Nat.reduceSub,Array.replicate_succ,Array.replicate_zero,List.push_toArray,List.append_toArray,List.nil_append,List.cons_append]
 obtain ⟨a,cap,rfl,hl1,hl2⟩:=hw.form
 unfold maxLen at hl2
 have HW:=Lib.hid hw
 have HY:=Lib.hid hY
 have HP:=Lib.hid hρ
 have start:Hid (I (upto (hasW ws) (0 * 64)).length W∧Keep ρ W W):=Lib.hid ⟨h0,Keep.refl _ _⟩
 clear hw hY hρ h0
 gi_wp2_with fail
 gi_loopw [9] (fun iv wr=>∃ i:Nat,i≤ws.length∧iv=.int .i64 i∧Hid (I (upto (hasW ws) (i * 64)).length wr∧Keep ρ W wr)) (fun iv _=>ws.length - (intOf iv).toNat)
 case atStart=>exact ⟨0,by omega,rfl,start⟩
 case round =>
  clear start
  obtain ⟨i,hi,rfl,hin⟩:=hrel
  rename World=>w2
  by_cases hli:i<ws.length
  ·have hiz:(i:Int)<(ws.length:Int):=by omega
   obtain ⟨w,hww⟩:∃ x,ws[i]?=some x:=⟨_,List.getElem?_eq_getElem hli⟩
   obtain ⟨b,off,cap2,e,_,_,c0⟩:=(HW.out.same1 (W':=w2) fun k e=>hin.out.2.block k (Nat.lt_of_lt_of_le (HW.out.tab.blk k e (fun e2=>by rw [List.map_eq_nil_iff] at e2;rw [e2] at hli;simp at hli)) hn) (HP.out k (Or.inr e))).at hww
   cases e
   have HWW:=Lib.hid hww
   have start2:Hid (I (upto (hasW ws) (i * 64+0)).length w2∧Keep ρ W w2):=hin
   clear hww hin
   gi_wp2_with fail
   gi_loopw [14] (fun kv wr=>∃ k:Nat,k≤64∧kv=.int .i64 k∧Hid (I (upto (hasW ws) (i * 64+k)).length wr∧Keep ρ W wr)) (fun kv _=>64 - (intOf kv).toNat)
   case atStart=>exact ⟨0,by omega,rfl,start2⟩
   case round =>
    clear start2
    obtain ⟨k,hk,rfl,hin⟩:=hrel
    rename World=>w3
    by_cases hlk:k<64
    ·have hkz:(k:Int)<64:=by omega
     have hb:=bit_one (k:=k) (HW.out.lt w (List.mem_of_getElem? HWW.out))
     have hhas:hasW ws (i * 64+k)=w.testBit k:=by
      rw [hasW_at (w:=w) (by rw [show (i * 64+k) / 64=i by omega];exact HWW.out),show (i * 64+k) % 64=k by omega]
     have hsu:=upto_succ (hasW ws) (i * 64+k)
     cases ht:w.testBit k with
     | true =>
      rw [ht] at hb hhas
      rw [if_pos hhas] at hsu
      have hy:=HY.out (n - 1) (upto (hasW ws) (i * 64+k)).length w3 (i * 64+k) (upto_at hhas (by have:(i+1) * 64≤ws.length * 64:=Nat.mul_le_mul_right 64 hli;omega)) hin.out.1
      obtain ⟨fn,tm,asg,bdy,hyr,hR⟩:=hy
      rw [show ((i * 64+k:Nat):Int)=(i:Int) * 64+(k:Int) by omega] at hyr
      have hR:=Lib.hid hR
      have KW:=Lib.hid hin.out.2
      have HSU:=Lib.hid hsu
      clear hin ht hhas hsu
      gi_wp2_with fail
      refine ⟨(fun h=>by cases h),?_⟩
      refine RoundIn.mono hR.out ?_
      clear hR
      rintro e w8 ⟨k8,rfl,hij⟩
      have J8:=Lib.hid hij
      have K8:=Lib.hid k8
      clear hij k8
      gi_wp2_with fail
      go_roundw
      case rel=>exact ⟨k+1,by omega,by go_num,Lib.hid ⟨by rw [← Nat.add_assoc,HSU.out,List.length_append];exact J8.out,KW.out.trans K8.out (fun _ _ h=>h)⟩⟩
      case measure=>simp [intOf];omega
     | false =>
      rw [ht] at hb hhas
      rw [if_neg (by rw [hhas];decide),List.append_nil] at hsu
      have HSU:=Lib.hid hsu
      clear ht hhas hsu
      gi_wp2_with fail
      refine ⟨(fun f h=>by cases h),?_⟩
      gi_wp2_with fail
      go_roundw
      case rel=>exact ⟨k+1,by omega,by go_num,Lib.hid ⟨by rw [← Nat.add_assoc,HSU.out];exact hin.out.1,hin.out.2⟩⟩
      case measure=>simp [intOf];omega
    ·have hkz:¬ (k:Int)<64:=by omega
     have hke:k=64:=by omega
     have HKE:=Lib.hid hke
     clear hke
     gi_wp2_with fail
     go_roundw
     case rel=>exact ⟨i+1,by omega,by go_num,Lib.hid ⟨by have:=hin.out.1;rw [HKE.out] at this;rw [show (i+1) * 64=i * 64+64 by omega];exact this,hin.out.2⟩⟩
     case measure=>simp [intOf];omega
  ·have hiz:¬ (i:Int)<(ws.length:Int):=by omega
   have hie:i=ws.length:=by omega
   have HI:=Lib.hid hie
   clear hie
   gi_wp2_with fail
   refine bodyPost_end (results_none rfl _ _ _) rfl ?_
   exact ⟨rfl,hin.out.2,by have:=hin.out.1;rw [HI.out] at this;exact this⟩
end Go.Proofs.YtligiddaampneaaGreat
