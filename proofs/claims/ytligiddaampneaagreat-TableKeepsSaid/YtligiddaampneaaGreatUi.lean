/- The reference's copy of a description: what is copied, laid. -/
import Derived.Test.YtligiddaampneaaGreatUh
set_option maxHeartbeats 1000000
namespace Go.Proofs.YtligiddaampneaaGreat
open Go.RowKit
attribute [local go_sem] Oper.semAt_some
/-- A list of names as a row. -/
theorem StrsIn.rowS {W:World} {n0:Nat} {v:Value} {l:List ByteArray} (h:StrsIn W n0 v l):Row W 1 v l.length (l.map Value.string):=h.slice
theorem OprsIn.rowO {W:World} {n0:Nat} {v:Value} {l:List Opr} (h:OprsIn W n0 v l):Row W 2 v l.length (l.map fun o=>[Value.string o.cls,.string o.fix]).flatten:=by
 have:=Tab.row h
 rw [List.length_map] at this
 exact this
theorem opr_one (l:List Opr):∀ q∈(l.map fun o=>[Value.string o.cls,.string o.fix]).flatten,q.oneCell'=true:=fun q hq=>by
 obtain ⟨r,hr,hq⟩:=List.mem_flatten.1 hq
 obtain ⟨x,_,rfl⟩:=List.mem_map.1 hr
 simp only [List.mem_cons,List.not_mem_nil,or_false] at hq
 rcases hq with rfl | rfl <;> rfl
theorem str_one (l:List ByteArray):∀ q∈l.map Value.string,q.oneCell'=true:=fun q hq=>by
 obtain ⟨x,_,rfl⟩:=List.mem_map.1 hq
 rfl
/-- Some classes copied. -/
structure ClsO (wr:World) (lo:Nat) (M:Mach) (i:Nat) (vC:Value) (us:List Value):Prop where
 len:us.length=i
 own:wr.ownsRow lo 51 2 vC i (clsRows (M.classes.take i) us).flatten
 sub:∀ (k:Nat) (c:Cls) (u:Value),M.classes[k]?=some c→us[k]?=some u→wr.ownsRow lo 9 1 u c.regs.length (c.regs.map Value.string)
/-- Some operations copied. -/
structure OpsO (wr:World) (lo:Nat) (M:Mach) (j:Nat) (vO:Value) (ps:List (Value × Value)):Prop where
 len:ps.length=j
 own:wr.ownsRow lo 60 6 vO j (opRows (M.ops.take j) ps).flatten
 sub:∀ (k:Nat) (o:Opn) (u:Value × Value),M.ops[k]?=some o→ps[k]?=some u→wr.ownsRow lo 57 2 u.1 o.uses.length (o.uses.map fun o=>[Value.string o.cls,.string o.fix]).flatten∧wr.ownsRow lo 9 1 u.2 o.clob.length (o.clob.map Value.string)
section
variable {W w2 w7 w8 wr wr' : World} {lo i j g cp : Nat} {M : Mach} {vC vO : Value} {us : List Value} {ps : List (Value × Value)} {ts : List TypeId}
theorem ClsO.nil (wr:World) (lo:Nat) (M:Mach):ClsO wr lo M 0 (.slice none 0 0) []:=⟨rfl,World.ownsRow_nil _ _ _ _,fun k c u _ hu=>by simp at hu⟩
theorem OpsO.nil (wr:World) (lo:Nat) (M:Mach):OpsO wr lo M 0 (.slice none 0 0) []:=⟨rfl,World.ownsRow_nil _ _ _ _,fun k c u _ hu=>by simp at hu⟩
theorem ClsO.keep (h:ClsO wr lo M i vC us) (k:KeepN ts wr wr') (h1:51∉ts) (h2:9∉ts):ClsO wr' lo M i vC us :=
 ⟨h.len,owns_keepN h.own k h1,fun q c u hc hu=>owns_keepN (h.sub q c u hc hu) k h2⟩
theorem OpsO.keep (h:OpsO wr lo M j vO ps) (k:KeepN ts wr wr') (h1:60∉ts) (h2:57∉ts) (h3:9∉ts):OpsO wr' lo M j vO ps :=
 ⟨h.len,owns_keepN h.own k h1,fun q c u hc hu=>⟨owns_keepN (h.sub q c u hc hu).1 k h2,owns_keepN (h.sub q c u hc hu).2 k h3⟩⟩
theorem ClsO.ext (h:ClsO wr lo M i vC us) (x:Ext wr wr'):ClsO wr' lo M i vC us:=h.keep (ts:=[]) (KeepN.ext x) (by decide) (by decide)
theorem ClsO.base {lo2:Nat} (h:ClsO wr lo M i vC us) (hb:lo2≤lo):ClsO wr lo2 M i vC us:=⟨h.len,owns_base h.own hb,fun k c u hc hu=>owns_base (h.sub k c u hc hu) hb⟩
theorem OpsO.base {lo2:Nat} (h:OpsO wr lo M j vO ps) (hb:lo2≤lo):OpsO wr lo2 M j vO ps:=⟨h.len,owns_base h.own hb,fun k c u hc hu=>⟨owns_base (h.sub k c u hc hu).1 hb,owns_base (h.sub k c u hc hu).2 hb⟩⟩
theorem ClsO.snoc {c:Cls} {u:Value} (h:ClsO wr lo M i vC us) (hc:M.classes[i]?=some c) (x:Ext wr w7) (hu:w7.ownsRow lo 9 1 u c.regs.length (c.regs.map Value.string)) (hgrow:w7.grownBy w8 vC.ownBlock)
  (hown:w8.ownsRow lo 51 2 (.slice (some ⟨g,0,none⟩) (i+1) cp) (i+1) ((clsRows (M.classes.take i) us).flatten ++ [.string c.name,u])):ClsO w8 lo M (i+1) (.slice (some ⟨g,0,none⟩) (i+1) cp) (us ++ [u]):=by
 have kn:KeepN [51] w7 w8:=KeepN.grown (owns_ext h.own x) hgrow (by decide)
 have hl:=h.len
 have hil:=(List.getElem?_eq_some_iff.1 hc).1
 refine ⟨by rw [List.length_append,hl];rfl,?_,fun k c2 u2 hc2 hu2=>?_⟩
 ·have e:clsRows (M.classes.take (i+1)) (us ++ [u])=clsRows (M.classes.take i) us ++ [[.string c.name,u]]:=by
   unfold clsRows
   rw [List.take_add_one,hc,show (some c).toList=[c] from rfl,List.zipWith_append (by rw [List.length_take];omega)]
   rfl
  rw [e,List.flatten_append]
  simpa using hown
 ·by_cases hk:k<i
  ·rw [List.getElem?_append_left (by omega)] at hu2
   exact owns_keepN (owns_ext (h.sub k c2 u2 hc2 hu2) x) kn (by decide)
  ·have hk2:k=i:=by
    have:=(List.getElem?_eq_some_iff.1 hu2).1
    rw [List.length_append,hl] at this
    simp at this
    omega
   subst hk2
   rw [hc] at hc2
   cases hc2
   rw [List.getElem?_append_right (by omega),hl,Nat.sub_self] at hu2
   cases hu2
   exact owns_keepN hu kn (by decide)
theorem OpsO.snoc {o:Opn} {a b:Value} (h:OpsO wr lo M j vO ps) (ho:M.ops[j]?=some o) (x:Ext wr w7) (ha:w7.ownsRow lo 57 2 a o.uses.length (o.uses.map fun o=>[Value.string o.cls,.string o.fix]).flatten) (hb:w7.ownsRow lo 9 1 b o.clob.length (o.clob.map Value.string)) (hgrow:w7.grownBy w8 vO.ownBlock)
  (hown:w8.ownsRow lo 60 6 (.slice (some ⟨g,0,none⟩) (j+1) cp) (j+1) ((opRows (M.ops.take j) ps).flatten ++ [.string o.name,.string o.dfn.cls,.string o.dfn.fix,a,.int .i64 o.tie,b])):OpsO w8 lo M (j+1) (.slice (some ⟨g,0,none⟩) (j+1) cp) (ps ++ [(a,b)]):=by
 have kn:KeepN [60] w7 w8:=KeepN.grown (owns_ext h.own x) hgrow (by decide)
 have hl:=h.len
 have hil:=(List.getElem?_eq_some_iff.1 ho).1
 refine ⟨by rw [List.length_append,hl];rfl,?_,fun k c2 u2 hc2 hu2=>?_⟩
 ·have e:opRows (M.ops.take (j+1)) (ps ++ [(a,b)])=opRows (M.ops.take j) ps ++ [[.string o.name,.string o.dfn.cls,.string o.dfn.fix,a,.int .i64 o.tie,b]]:=by
   unfold opRows
   rw [List.take_add_one,ho,show (some o).toList=[o] from rfl,List.zipWith_append (by rw [List.length_take];omega)]
   rfl
  rw [e,List.flatten_append]
  simpa using hown
 ·by_cases hk:k<j
  ·rw [List.getElem?_append_left (by omega)] at hu2
   have:=h.sub k c2 u2 hc2 hu2
   exact ⟨owns_keepN (owns_ext this.1 x) kn (by decide),owns_keepN (owns_ext this.2 x) kn (by decide)⟩
  ·have hk2:k=j:=by
    have:=(List.getElem?_eq_some_iff.1 hu2).1
    rw [List.length_append,hl] at this
    simp at this
    omega
   subst hk2
   rw [ho] at hc2
   cases hc2
   rw [List.getElem?_append_right (by omega),hl,Nat.sub_self] at hu2
   cases hu2
   exact ⟨owns_keepN ha kn (by decide),owns_keepN hb kn (by decide)⟩
/-- What a copy is: all its rows are its own. -/
structure CopyO (lo:Nat) (w:World) (uR uC uO uA uS:Value) (M:Mach):Prop where
 regs:∃ vs,w.ownsRow lo 70 4 uR M.regs.length (regCells M.regs vs)
 cls:∃ us,ClsO w lo M M.classes.length uC us
 ops:∃ ps,OpsO w lo M M.ops.length uO ps
 args:w.ownsRow lo 9 1 uA M.args.length (M.args.map Value.string)
 saved:w.ownsRow lo 9 1 uS M.saved.length (M.saved.map Value.string)
/-- A copy is a description in memory. -/
theorem CopyO.mach {w:World} {uR uC uO uA uS:Value} (h:CopyO lo w uR uC uO uA uS M) (hr:RegsIn w w.heap.size uR M.regs) (ht:∀ o∈M.ops,fits64 o.tie) (hf:fits64 M.slots):MachIn w w.heap.size uR uC uO uA uS M:=by
 obtain ⟨us,hc⟩:=h.cls
 obtain ⟨ps,ho⟩:=h.ops
 have c2:=hc.own
 have o2:=ho.own
 rw [List.take_of_length_le (Nat.le_refl _)] at c2 o2
 have hl1:(clsRows M.classes us).length=M.classes.length:=by have:=hc.len;unfold clsRows;rw [List.length_zipWith];omega
 have hl2:(opRows M.ops ps).length=M.ops.length:=by have:=ho.len;unfold opRows;rw [List.length_zipWith];omega
 refine ⟨hr,⟨us,hc.len,rows_owns (rows:=clsRows M.classes us) (by rw [hl1];exact c2) clsRows_len (Nat.le_refl _) (fun _ _ _=>rfl),fun k c u hc1 hu=>strs_owns (hc.sub k c u hc1 hu) (Nat.le_refl _) (fun _ _ _=>rfl)⟩,
  ⟨ps,ho.len,rows_owns (rows:=opRows M.ops ps) (by rw [hl2];exact o2) opRows_len (Nat.le_refl _) (fun _ _ _=>rfl),fun k o u ho1 hu=>?_⟩,strs_owns h.args (Nat.le_refl _) (fun _ _ _=>rfl),strs_owns h.saved (Nat.le_refl _) (fun _ _ _=>rfl),hf⟩
 obtain ⟨a1,a2⟩:=ho.sub k o u ho1 hu
 exact ⟨rows_owns (by rw [List.length_map];exact a1) (fun r hr=>by obtain ⟨_,_,rfl⟩:=List.mem_map.1 hr;rfl) (Nat.le_refl _) (fun _ _ _=>rfl),strs_owns a2 (Nat.le_refl _) (fun _ _ _=>rfl),ht o (List.mem_of_getElem? ho1)⟩
end
end Go.Proofs.YtligiddaampneaaGreat
