/- Package table: names by numbers, numbers by names. -/
import Derived.Test.YtligiddaampneaaGreatTb
import Derived.Test.YtligiddaampneaaGreatRefX
import Derived.Carry
set_option maxRecDepth 100000
set_option maxHeartbeats 4000000
namespace Go.Proofs.YtligiddaampneaaGreat
open Go.RowKit
attribute [local go_sem] Oper.semAt_some
def numFrom:Nat→List ByteArray→List MapEntry
 | _,[]=>[]
 | k,s :: l=>{ key:=.string s,val:=.int .i64 (k:Int),born:=k } :: numFrom (k+1) l
theorem numFrom_keys:∀ (l:List ByteArray) (k:Nat),strKeys (numFrom k l)=true:=by
 intro l
 induction l with
 | nil=>intro k;exact strKeys_nil
 | cons s l ih=>intro k;simp only [numFrom,strKeys_cons];exact ih (k+1)
theorem numFrom_snoc:∀ (l:List ByteArray) (k:Nat) (s:ByteArray),numFrom k (l ++ [s])=numFrom k l ++ [{ key:=.string s,val:=.int .i64 ((k+l.length:Nat):Int),born:=k+l.length }]:=by
 intro l
 induction l with
 | nil=>intro k s;simp [numFrom]
 | cons x l ih =>
  intro k s
  simp only [List.cons_append,numFrom,ih,List.length_cons]
  rw [show k+1+l.length=k+(l.length+1) by omega]
theorem data_beq (a b:ByteArray):(a.data.toList == b.data.toList)=(a == b):=by rw [← bytes_beq b a,beq_swap]
theorem idx_cons (x:ByteArray) (l:List ByteArray) (s:ByteArray):idx (x :: l) s=if (x == s)=true then 0 else if 0≤idx l s then idx l s+1 else -1:=by
 unfold idx
 rw [List.findIdx?_cons]
 cases (x == s) with
 | true=>simp
 | false =>
  cases hf:l.findIdx? (fun y=>y == s) with
  | none=>simp
  | some i =>
   simp only [Option.map_some,if_neg (show ¬ (false=true) by decide)]
   rw [if_pos (by omega)]
   push_cast
   rfl
theorem entry_num:∀ (l:List ByteArray) (k:Nat) (s:ByteArray),entryAt s.data.toList (numFrom k l)=if 0≤idx l s then some (Value.int .i64 ((k:Int)+idx l s)) else none:=by
 intro l
 induction l with
 | nil=>intro k s;rw [if_neg (by unfold idx;simp)];exact entryAt_nil _
 | cons x l ih =>
  intro k s
  rw [idx_cons,numFrom,entryAt_cons,data_beq,ih]
  cases (x == s) with
  | true=>simp
  | false =>
   by_cases h:0≤idx l s
   ·simp only [Bool.false_eq_true,if_false,h,if_true]
    rw [if_pos (show 0≤idx l s+1 by omega)]
    congr 2
    push_cast
    omega
   ·simp [h]
def NumIn (W:World) (r:Nat) (l:List ByteArray):Prop:=W.heap[r]?=some (.map (numFrom 0 l).toArray l.length)
section
variable {P : Program} (T K E : TypeId) (hT : P.underlying T = some (.map K E)) (hK : P.underlying K = some .string)
include hT hK
theorem run_lookup_has {W:World} {es:List MapEntry} {c r:Nat} {k:ByteArray} {v:Value} (ok:Bool) (hg:W.heap[r]?=some (.map es.toArray c)) (hs:strKeys es=true) (hv:entryAt k.data.toList es=some v) :
  (Instr.lookup T (.map (some r)) (.string k) ok).run P W=.ok (if ok then .tuple #[v,.bool true] else v) W:=by
 obtain ⟨j,hf⟩:=(findNow_str k es hs 0).2 v hv
 cases ok <;> simp [Instr.lookup,run_underlying hT,run_underlying hK,MapKept.run_getObj_map hg,run_check_str hK,Instr.findKey,hf,Result.andThen]
theorem run_lookup_not {W:World} {es:List MapEntry} {c r:Nat} {k:ByteArray} (ok:Bool) (hg:W.heap[r]?=some (.map es.toArray c)) (hs:strKeys es=true) (hv:entryAt k.data.toList es=none) {z:Value} (hz:(zeroValue E).run P W=.ok z W) :
  (Instr.lookup T (.map (some r)) (.string k) ok).run P W=.ok (if ok then .tuple #[z,.bool false] else z) W:=by
 have hf:=(findNow_str k es hs 0).1 hv
 cases ok <;> simp [Instr.lookup,run_underlying hT,run_underlying hK,MapKept.run_getObj_map hg,run_check_str hK,Instr.findKey,hf,Result.andThen,hz]
end
theorem numbered_any {W:World} {n0:Nat} {v:Value} {l:List ByteArray} (hv:StrsIn W n0 v l) (hn:n0≤W.heap.size) (hd:l.Nodup) :
  Calls Tryz.prog 78 #[v] W fun e w'=>∃ r,e=.returned (.map (some r))∧W.heap.size≤r∧NumIn w' r l∧Ext W w':=by
 obtain ⟨a,cap,rfl,hl1,hl2⟩:=hv.form
 unfold maxLen at hl2
 have hins:=@run_update_last Tryz.prog 80 9 3 Tryz.underlying80 Tryz.underlying9
 have hmm:=@run_makeMap Tryz.prog
 have H:=qh hv
 have HD:=qh hd
 clear hv hd
 go_enter Tryz.func78,Tryz.ntmps78
 go_wp2_with fail
 go_loopw [9] (fun iv wr=>∃ i:Nat,i≤l.length∧iv=.int .i64 i∧wr=W.alloc (.map (numFrom 0 (l.take i)).toArray i)) (fun iv _=>l.length - (intOf iv).toNat)
 case atStart=>exact ⟨0,by omega,rfl,rfl⟩
 case round =>
  obtain ⟨i,hi,rfl,rfl⟩:=hrel
  by_cases hli:i<l.length
  ·have hiz:(i:Int)<(l.length:Int):=by omega
   obtain ⟨s,hs⟩:∃ x,l[i]?=some x:=⟨_,lE hli⟩
   have x1:Ext W (W.alloc (.map (numFrom 0 (l.take i)).toArray i)):=Ext.alloc _ _
   obtain ⟨b,off,cap2,e,_,_,hb,c0⟩:=StrsIn.at (StrsIn.ext H.out hn x1) hs
   cases e
   have htk:l.take (i+1)=l.take i ++ [s]:=by rw [List.take_add_one,hs];rfl
   have hno:idx (l.take i) s = -1:=idx_not (fun hm=>by
    obtain ⟨j,hj⟩:=List.getElem?_of_mem hm
    rw [List.getElem?_take] at hj
    split at hj
    ·have e:=(List.getElem?_inj (by omega) HD.out).1 (hj.trans hs.symm)
     omega
    ·cases hj)
   have hen:entryAt s.data.toList (numFrom 0 (l.take i))=none:=by rw [entry_num,hno,if_neg (by decide)]
   have hup:=hins W (numFrom 0 (l.take i)) i W.heap.size s (.int .i64 (i:Int)) rfl (numFrom_keys _ _) hen
   have hnew:numFrom 0 (l.take i) ++ [({ key:=.string s,val:=.int .i64 (i:Int),born:=i }:MapEntry)]=numFrom 0 (l.take (i+1)):=by
    rw [htk,numFrom_snoc,List.length_take,Nat.min_eq_left hi]
    simp
   rw [hnew] at hup
   have HUP:=qh hup
   clear hs hno hen hnew htk hins hmm x1
   go_wp2_with fail
   exact ⟨⟨i+1,by omega,by go_num,rfl⟩,by simp [intOf];omega⟩
  ·have htk:l.take i=l:=List.take_of_length_le (by omega)
   have hie:i=l.length:=by omega
   have hiz:¬ (i:Int)<(l.length:Int):=by omega
   have HT:=qh htk
   have HI:=qh hie
   clear htk hie hins hmm
   go_wp2_with fail
   go_ret
   refine ⟨W.heap.size,rfl,Nat.le_refl _,?_,Ext.alloc _ _⟩
   unfold NumIn
   rw [HT.out,HI.out]
   exact heap_alloc_new W _
theorem NumIn.ext {W W':World} {r:Nat} {l:List ByteArray} (h:NumIn W r l) (x:Ext W W'):NumIn W' r l:=x.block h
theorem NumIn.look {W:World} {r:Nat} {l:List ByteArray} (h:NumIn W r l) {s:ByteArray} (hs:0≤idx l s) (ok:Bool) :
  (Instr.lookup 80 (.map (some r)) (.string s) ok).run Tryz.prog W=.ok (if ok then .tuple #[.int .i64 (idx l s),.bool true] else .int .i64 (idx l s)) W:=by
 have e:=entry_num l 0 s
 rw [if_pos hs,Int.natCast_zero,Int.zero_add] at e
 exact run_lookup_has 80 9 3 Tryz.underlying80 Tryz.underlying9 ok h (numFrom_keys _ _) e
theorem numbers_any {W:World} {n0 bt r:Nat} {v:Value} {l N:List ByteArray} (hc:W.cell? ⟨bt,10,none⟩=some (.map (some r))) (hr:NumIn W r N) (hv:StrsIn W n0 v l) (hn:n0≤W.heap.size) (hl:l.length≤1000) (hN:∀ s∈l,0≤idx N s) :
  Calls Tryz.prog 79 #[.pointer (some ⟨bt,0,none⟩),v] W fun e w'=>∃ u,e=.returned u∧w'.ownsRow W.heap.size 3 1 u l.length ((l.map (idx N)).map (Value.int .i64))∧Ext W w':=by
 obtain ⟨a,cap,rfl,hl1,hl2⟩:=hv.form
 unfold maxLen at hl2
 have H:=qh hv
 have HR:=qh hr
 have HN:=qh hN
 obtain ⟨iI,hiI,zI0,zI1,zI2⟩:=info_parts infoI
 clear hv hr hN
 go_enter Tryz.func79,Tryz.ntmps79
 go_wp2_with fail
 go_loopw [5,10] (fun ov iv wr=>∃ i:Nat,i≤l.length∧iv=.int .i64 i∧∃ a5 c5,ov=.slice a5 i c5∧Hid (Ext W wr∧wr.ownsRow W.heap.size 3 1 (.slice a5 i c5) i (((l.take i).map (idx N)).map (Value.int .i64)))) (fun _ iv _=>l.length - (intOf iv).toNat)
 case atStart=>exact ⟨0,by omega,rfl,none,0,rfl,qh ⟨Ext.refl _,World.ownsRow_nil _ _ _ _⟩⟩
 case round =>
  obtain ⟨i,hi,rfl,a5,c5,rfl,hin⟩:=hrel
  rename World=>w2
  have hc:=xc hin.out.1 hc
  by_cases hli:i<l.length
  ·have hiz:(i:Int)<(l.length:Int):=by omega
   obtain ⟨s,hs⟩:∃ x,l[i]?=some x:=⟨_,lE hli⟩
   obtain ⟨b,off,cap2,e,_,_,hb,c0⟩:=StrsIn.at (StrsIn.ext H.out hn hin.out.1) hs
   cases e
   have hlk:=(HR.out.ext hin.out.1).look (HN.out s (List.mem_of_getElem? hs)) false
   rw [if_neg (by decide)] at hlk
   obtain ⟨n,hnn⟩:∃ x,idx N s=x:=⟨_,rfl⟩
   rw [hnn] at hlk
   have HTK:Hid (((l.take (i+1)).map (idx N)).map (Value.int .i64)=((l.take i).map (idx N)).map (Value.int .i64) ++ [.int .i64 n]):=qh (by
    rw [List.take_add_one,hs];simp [hnn])
   have HOW:=qh hin.out.2
   have HX:=qh hin.out.1
   clear hs hnn hin
   go_wp2_with (at_builtin;go_loud (refine wpList_append_lies _ rfl _ _ 36 rfl W.heap.size 3 iI _ 1 8 Tryz.underlying36 hiI zI0 zI1 zI2 rfl (by omega) (.slice a5 i c5) i (((l.take i).map (idx N)).map (Value.int .i64)) rfl (HOW.out.alloc _) ⟨w2.heap.size,0,none⟩ 1 1 [.int .i64 n] rfl rfl (World.news_of_block (cs:=#[.int .i64 n]) (t:=3) (fr:=(0,0)) (heap_alloc_new w2 _)) (by simp [Value.oneCell']) (by omega) (by unfold maxLen;omega) (by omega) (by have:=HX.out.size;simp;omega) _ rfl ?_;intro g3 c3 w3 hown3 hgrow3 hat3 hlt3))
   have X3:Hid (Ext W w3):=qh (Ext.grown (HX.out.trans (Ext.alloc w2 _)) hgrow3 (fun q e=>(HOW.out.lt q e).1))
   have HO3:=qh hown3
   clear hown3 hgrow3 hat3
   go_roundw
   case rel=>exact ⟨i+1,by omega,by go_num,some ⟨g3,0,none⟩,c3,rfl,qh ⟨X3.out,by rw [HTK.out];exact HO3.out⟩⟩
   case measure=>simp [intOf];omega
  ·have hiz:¬ (i:Int)<(l.length:Int):=by omega
   have hie:i=l.length:=by omega
   have htk:l.take i=l:=List.take_of_length_le (by omega)
   have HI:=qh hie
   have HT:=qh htk
   clear hie htk
   go_wp2_with fail
   go_ret
   have ho:=hin.out.2
   rw [HT.out,List.map_map] at ho
   exact ⟨.slice a5 i c5,rfl,HI.out ▸ ho,hin.out.1⟩
end Go.Proofs.YtligiddaampneaaGreat
