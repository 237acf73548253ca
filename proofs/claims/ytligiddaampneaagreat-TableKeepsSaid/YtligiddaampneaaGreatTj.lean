/- A description copied. -/
import Derived.Test.YtligiddaampneaaGreatTe
import Derived.Test.YtligiddaampneaaGreatTh
set_option maxHeartbeats 1000000
namespace Go.Proofs.YtligiddaampneaaGreat
open Go.RowKit
attribute [local go_sem] Oper.semAt_some
structure SmallM (M:Mach):Prop where
 regs:smallT 6 M.regs
 ncls:M.classes.length≤64
 cls:∀ c∈M.classes,c.regs.length≤1000
 nops:M.ops.length≤64
 uses:∀ o∈M.ops,o.uses.length≤1000
 clob:∀ o∈M.ops,o.clob.length≤1000
 args:M.args.length≤1000
 saved:M.saved.length≤1000
def MachCopy (lo:Nat) (W:World) (vR vC vO vA vS:Value) (M:Mach):Prop := ∀ W2:World,(∀ k,lo≤k→k<W.heap.size→W2.heap[k]?=W.heap[k]?)→MachIn W2 W.heap.size vR vC vO vA vS M
def clsRows (l:List Cls) (us:List Value):List (List Value):=List.zipWith (fun c u=>[.string c.name,u]) l us
def opRows (l:List Opn) (ps:List (Value × Value)):List (List Value):=List.zipWith (fun o u=>[.string o.name,.string o.dfn.cls,.string o.dfn.fix,u.1,.int .i64 o.tie,u.2]) l ps
theorem zipWith_set {α β γ:Type} {f:α→β→γ} {c:α} {u:β}:∀ {l:List α} {us:List β} {i:Nat},l[i]?=some c→(List.zipWith f l us).set i (f c u)=List.zipWith f l (us.set i u):=by
 intro l
 induction l with
 | nil=>intro us i h;simp at h
 | cons x l ih =>
  intro us i h
  cases us with
  | nil=>simp
  | cons y us =>
   cases i with
   | zero=>simp at h;subst h;simp
   | succ i=>simp only [List.zipWith_cons_cons,List.set_cons_succ];rw [ih (by simpa using h)]
section
variable {l : List Cls} {us : List Value} {lo : List Opn} {ps : List (Value × Value)}
theorem clsRows_len:∀ r∈clsRows l us,r.length=2:=by
 intro r hr
 obtain ⟨i,hi⟩:=List.getElem?_of_mem hr
 unfold clsRows at hi
 rw [List.getElem?_zipWith] at hi
 split at hi
 ·cases hi;rfl
 ·cases hi
theorem opRows_len:∀ r∈opRows lo ps,r.length=6:=by
 intro r hr
 obtain ⟨i,hi⟩:=List.getElem?_of_mem hr
 unfold opRows at hi
 rw [List.getElem?_zipWith] at hi
 split at hi
 ·cases hi;rfl
 ·cases hi
theorem clsRows_at {i:Nat} {c:Cls} {u:Value} (hc:l[i]?=some c) (hu:us[i]?=some u):(clsRows l us)[i]?=some [.string c.name,u]:=by
 unfold clsRows;rw [List.getElem?_zipWith,hc,hu]
theorem opRows_at {i:Nat} {o:Opn} {u:Value × Value} (hc:lo[i]?=some o) (hu:ps[i]?=some u):(opRows lo ps)[i]?=some [.string o.name,.string o.dfn.cls,.string o.dfn.fix,u.1,.int .i64 o.tie,u.2]:=by
 unfold opRows;rw [List.getElem?_zipWith,hc,hu]
theorem clsRows_set {i:Nat} {c:Cls} {u:Value} (hc:l[i]?=some c) (hu:us[i]?=some u) (u':Value):(clsRows l us).flatten.set (i * 2+1) u'=(clsRows l (us.set i u')).flatten:=by
 rw [flatten_set clsRows_len (clsRows_at hc hu) (by decide)]
 congr 1
 exact zipWith_set hc
theorem opRows_set {i:Nat} {o:Opn} {u:Value × Value} (hc:lo[i]?=some o) (hu:ps[i]?=some u) (a b:Value):((opRows lo ps).flatten.set (i * 6+3) a).set (i * 6+5) b=(opRows lo (ps.set i (a,b))).flatten:=by
 rw [flatten_set opRows_len (opRows_at hc hu) (by decide)]
 have hlt:=(List.getElem?_eq_some_iff.1 (opRows_at hc hu)).1
 rw [flatten_set (rows:=(opRows lo ps).set i ([Value.string o.name,.string o.dfn.cls,.string o.dfn.fix,u.1,.int .i64 o.tie,u.2].set 3 a)) (size:=6) (fun r hr=>by
  rcases List.mem_or_eq_of_mem_set hr with h | h
  ·exact opRows_len r h
  ·rw [h];rfl) (List.getElem?_set_self hlt) (by decide),List.set_set]
 congr 1
 exact zipWith_set (f:=fun (o:Opn) (u:Value × Value)=>[Value.string o.name,.string o.dfn.cls,.string o.dfn.fix,u.1,.int .i64 o.tie,u.2]) (u:=(a,b)) hc
theorem clsRows_one (h:∀ u∈us,u.oneCell'=true):∀ u∈(clsRows l us).flatten,u.oneCell'=true:=by
 intro u hu
 obtain ⟨r,hr,hu⟩:=List.mem_flatten.1 hu
 obtain ⟨i,hi⟩:=List.getElem?_of_mem hr
 unfold clsRows at hi
 rw [List.getElem?_zipWith] at hi
 split at hi
 ·rename_i c x hc hx
  cases hi
  simp only [List.mem_cons,List.not_mem_nil,or_false] at hu
  rcases hu with rfl | rfl
  ·rfl
  ·exact h _ (List.mem_of_getElem? hx)
 ·cases hi
theorem opRows_one (h:∀ u∈ps,u.1.oneCell'=true∧u.2.oneCell'=true):∀ u∈(opRows lo ps).flatten,u.oneCell'=true:=by
 intro u hu
 obtain ⟨r,hr,hu⟩:=List.mem_flatten.1 hu
 obtain ⟨i,hi⟩:=List.getElem?_of_mem hr
 unfold opRows at hi
 rw [List.getElem?_zipWith] at hi
 split at hi
 ·rename_i c x hc hx
  cases hi
  have hx:=h _ (List.mem_of_getElem? hx)
  simp only [List.mem_cons,List.not_mem_nil,or_false] at hu
  rcases hu with rfl | rfl | rfl | rfl | rfl | rfl
  ·rfl
  ·rfl
  ·rfl
  ·exact hx.1
  ·rfl
  ·exact hx.2
 ·cases hi
theorem strs_owns {W W2:World} {lo n0:Nat} {v:Value} {l:List ByteArray} (h:W.ownsRow lo 9 1 v l.length (l.map Value.string)) (hn:W.heap.size≤n0) (hk:∀ k,lo≤k→k<W.heap.size→W2.heap[k]?=W.heap[k]?):StrsIn W2 n0 v l:=by
 have h2:=owns_same (w':=W2) h fun k e=>hk k (h.lt k e).1 (h.lt k e).2
 refine ⟨?_,fun r hr=>?_,fun k e _=>Nat.lt_of_lt_of_le (h.lt k e).2 hn⟩
 ·have:=Row.of_owns h2
  simp only [List.length_map]
  have e:∀ l:List ByteArray,((l.map fun s=>[Value.string s]).flatten)=l.map Value.string:=fun l=>by
   induction l with
   | nil=>rfl
   | cons a l ih=>simp only [List.map_cons,List.flatten_cons,ih,List.cons_append,List.nil_append]
  rw [e]
  exact this
 ·obtain ⟨_,_,rfl⟩:=List.mem_map.1 hr;rfl
theorem rows_owns {W W2:World} {lo n0 size:Nat} {E:TypeId} {v:Value} {rows:List (List Value)} (h:W.ownsRow lo E size v rows.length rows.flatten) (hl:∀ r∈rows,r.length=size) (hn:W.heap.size≤n0) (hk:∀ k,lo≤k→k<W.heap.size→W2.heap[k]?=W.heap[k]?):Tab W2 n0 size v rows :=
 ⟨Row.of_owns (owns_same (w':=W2) h fun k e=>hk k (h.lt k e).1 (h.lt k e).2),hl,fun k e _=>Nat.lt_of_lt_of_le (h.lt k e).2 hn⟩
end
theorem MachCopy.later {lo lo2:Nat} {W W':World} {vR vC vO vA vS:Value} {M:Mach} (h:MachCopy lo W vR vC vO vA vS M) (h1:lo2≤lo) (h2:W.heap.size≤W'.heap.size) (h3:∀ k,lo≤k→k<W.heap.size→W'.heap[k]?=W.heap[k]?):MachCopy lo2 W' vR vC vO vA vS M:=fun W2 hk =>
 (h W2 fun k h4 h5=>(hk k (by omega) (by omega)).trans (h3 k h4 h5)).up h2
theorem eight {W:World} {b:Nat} {t:TypeId} {fz:Nat × Nat} {z0 z1 z2 z3 z4 z5 z6 z7 v0 v1 v2 v3 v4 v5 v6 v7:Value} (h:W.heap[b]?=some (.cells #[z0,z1,z2,z3,z4,z5,z6,z7] t fz)) :
  ((((((((W.setCell ⟨b,0,none⟩ v0).setCell ⟨b,1,none⟩ v1).setCell ⟨b,2,none⟩ v2).setCell ⟨b,3,none⟩ v3).setCell ⟨b,4,none⟩ v4).setCell ⟨b,5,none⟩ v5).setCell ⟨b,6,none⟩ v6).setCell ⟨b,7,none⟩ v7).heap[b]?=some (.cells #[v0,v1,v2,v3,v4,v5,v6,v7] t fz)∧Keep (fun k=>k=b) W ((((((((W.setCell ⟨b,0,none⟩ v0).setCell ⟨b,1,none⟩ v1).setCell ⟨b,2,none⟩ v2).setCell ⟨b,3,none⟩ v3).setCell ⟨b,4,none⟩ v4).setCell ⟨b,5,none⟩ v5).setCell ⟨b,6,none⟩ v6).setCell ⟨b,7,none⟩ v7):=by
 have h1:=heap_set_cells h 0 v0
 have h2:=heap_set_cells h1 1 v1
 have h3:=heap_set_cells h2 2 v2
 have h4:=heap_set_cells h3 3 v3
 have h5:=heap_set_cells h4 4 v4
 have h6:=heap_set_cells h5 5 v5
 have h7:=heap_set_cells h6 6 v6
 have h8:=heap_set_cells h7 7 v7
 simp only [List.setIfInBounds_toArray,List.set_cons_zero,List.set_cons_succ] at h8
 exact ⟨h8,((((((((Keep.setCell (fun k=>k=b) W ⟨b,0,none⟩ v0 rfl).trans (Keep.setCell (fun k=>k=b) _ ⟨b,1,none⟩ v1 rfl) (fun _ _ e=>e)).trans (Keep.setCell (fun k=>k=b) _ ⟨b,2,none⟩ v2 rfl) (fun _ _ e=>e)).trans (Keep.setCell (fun k=>k=b) _ ⟨b,3,none⟩ v3 rfl) (fun _ _ e=>e)).trans (Keep.setCell (fun k=>k=b) _ ⟨b,4,none⟩ v4 rfl) (fun _ _ e=>e)).trans (Keep.setCell (fun k=>k=b) _ ⟨b,5,none⟩ v5 rfl) (fun _ _ e=>e)).trans (Keep.setCell (fun k=>k=b) _ ⟨b,6,none⟩ v6 rfl) (fun _ _ e=>e)).trans (Keep.setCell (fun k=>k=b) _ ⟨b,7,none⟩ v7 rfl) (fun _ _ e=>e))⟩
structure CpI (W w2:World) (n0:Nat) (M:Mach) (bc:List Value) (vC vO:Value) (i j:Nat) (wr:World):Prop where
 keep:Keep (fun k=>k=W.heap.size) w2 wr
 lt:W.heap.size<w2.heap.size
 blk:wr.heap[W.heap.size]?=some (.cells bc.toArray 27 (0,0))
 cls:∃ us:List Value,us.length=M.classes.length∧wr.ownsRow w2.heap.size 51 2 vC M.classes.length (clsRows M.classes us).flatten ∧
  ∀ (k:Nat) (c:Cls) (u:Value),M.classes[k]?=some c→us[k]?=some u→(k<i→wr.ownsRow w2.heap.size 9 1 u c.regs.length (c.regs.map Value.string))∧(i≤k→StrsIn W n0 u c.regs)
 ops:∃ ps:List (Value × Value),ps.length=M.ops.length∧wr.ownsRow w2.heap.size 60 6 vO M.ops.length (opRows M.ops ps).flatten ∧
  ∀ (k:Nat) (o:Opn) (u:Value × Value),M.ops[k]?=some o→ps[k]?=some u→fits64 o.tie∧(k<j→wr.ownsRow w2.heap.size 57 2 u.1 o.uses.length (o.uses.map fun o=>[Value.string o.cls,.string o.fix]).flatten∧wr.ownsRow w2.heap.size 9 1 u.2 o.clob.length (o.clob.map Value.string))∧(j≤k→OprsIn W n0 u.1 o.uses∧StrsIn W n0 u.2 o.clob)
section
variable {W w2 wr wr' : World} {n0 : Nat} {M : Mach} {bc : List Value} {vC vO : Value} {i j : Nat}
theorem CpI.ext (h:CpI W w2 n0 M bc vC vO i j wr) (x:Ext wr wr'):CpI W w2 n0 M bc vC vO i j wr':=by
 obtain ⟨us,c1,c2,c3⟩:=h.cls
 obtain ⟨ps,o1,o2,o3⟩:=h.ops
 exact ⟨h.keep.trans (Keep.of_ext x:Keep (fun k=>k=W.heap.size) wr wr') (fun _ _ e=>e),h.lt,x.block h.blk,⟨us,c1,owns_ext c2 x,fun k c u hc hu=>⟨fun hk=>owns_ext ((c3 k c u hc hu).1 hk) x,(c3 k c u hc hu).2⟩⟩,
  ⟨ps,o1,owns_ext o2 x,fun k o u ho hu=>⟨(o3 k o u ho hu).1,fun hk=>⟨owns_ext ((o3 k o u ho hu).2.1 hk).1 x,owns_ext ((o3 k o u ho hu).2.1 hk).2 x⟩,(o3 k o u ho hu).2.2⟩⟩⟩
theorem CpI.set_cls {g kC:Nat} (h:CpI W w2 n0 M bc (.slice (some ⟨g,0,none⟩) M.classes.length kC) vO i j wr) {c:Cls} (hc:M.classes[i]?=some c) {u':Value} (hu':wr.ownsRow w2.heap.size 9 1 u' c.regs.length (c.regs.map Value.string)) :
  CpI W w2 n0 M bc (.slice (some ⟨g,0,none⟩) M.classes.length kC) vO (i+1) j (wr.setCell ⟨g,i * 2+1,none⟩ u'):=by
 obtain ⟨us,c1,c2,c3⟩:=h.cls
 obtain ⟨ps,o1,o2,o3⟩:=h.ops
 have hil:=(List.getElem?_eq_some_iff.1 hc).1
 obtain ⟨u,hu⟩:∃ u,us[i]?=some u:=⟨us[i]'(by omega),lE _⟩
 have hst:=World.ownsRow.stored c2 (i * 2+1) u'
 have hgl:=c2.lt g rfl
 have kn:KeepN [51] wr (wr.setCell ⟨g,i * 2+1,none⟩ u'):=KeepN.grown c2 hst.2 (by decide)
 refine ⟨h.keep.trans (Keep.setCell (fun k=>k=g) wr ⟨g,i * 2+1,none⟩ u' rfl) (fun q hq e=>by omega),h.lt,kn.2 _ _ h.blk (fun cs t fz e=>by cases e;decide),⟨us.set i u',by rw [List.length_set];exact c1,by
  rw [← clsRows_set hc hu];exact hst.1,fun k c2 u2 hc2 hu2=>?_⟩,⟨ps,o1,owns_keepN o2 kn (by decide),fun k o u ho hu=>⟨(o3 k o u ho hu).1,fun hk=>⟨owns_keepN ((o3 k o u ho hu).2.1 hk).1 kn (by decide),owns_keepN ((o3 k o u ho hu).2.1 hk).2 kn (by decide)⟩,(o3 k o u ho hu).2.2⟩⟩⟩
 by_cases e:k=i
 ·subst e
  rw [List.getElem?_set_self (by omega)] at hu2
  cases hu2
  rw [hc] at hc2
  cases hc2
  exact ⟨fun _=>owns_keepN hu' kn (by decide),fun hk=>by omega⟩
 ·rw [List.getElem?_set_ne (fun e2=>e e2.symm)] at hu2
  exact ⟨fun hk=>owns_keepN ((c3 k c2 u2 hc2 hu2).1 (by omega)) kn (by decide),fun hk=>(c3 k c2 u2 hc2 hu2).2 (by omega)⟩
theorem CpI.set_ops {g kO:Nat} (h:CpI W w2 n0 M bc vC (.slice (some ⟨g,0,none⟩) M.ops.length kO) i j wr) {o:Opn} (ho:M.ops[j]?=some o) {a b:Value} (ha:wr.ownsRow w2.heap.size 57 2 a o.uses.length (o.uses.map fun o=>[Value.string o.cls,.string o.fix]).flatten)
  (hb:wr.ownsRow w2.heap.size 9 1 b o.clob.length (o.clob.map Value.string)) :
  CpI W w2 n0 M bc vC (.slice (some ⟨g,0,none⟩) M.ops.length kO) i (j+1) ((wr.setCell ⟨g,j * 6+3,none⟩ a).setCell ⟨g,j * 6+5,none⟩ b):=by
 obtain ⟨us,c1,c2,c3⟩:=h.cls
 obtain ⟨ps,o1,o2,o3⟩:=h.ops
 have hjl:=(List.getElem?_eq_some_iff.1 ho).1
 obtain ⟨u,hu⟩:∃ u,ps[j]?=some u:=⟨ps[j]'(by omega),lE _⟩
 have hst:=World.ownsRow.stored o2 (j * 6+3) a
 have hst2:=World.ownsRow.stored hst.1 (j * 6+5) b
 have hgl:=o2.lt g rfl
 have kn:KeepN [60] wr ((wr.setCell ⟨g,j * 6+3,none⟩ a).setCell ⟨g,j * 6+5,none⟩ b):=(KeepN.grown o2 hst.2 (by decide)).trans (KeepN.grown hst.1 hst2.2 (by decide))
 have kk:Keep (fun k=>k=g) wr ((wr.setCell ⟨g,j * 6+3,none⟩ a).setCell ⟨g,j * 6+5,none⟩ b):=(Keep.setCell (fun k=>k=g) wr ⟨g,j * 6+3,none⟩ a rfl).trans (Keep.setCell (fun k=>k=g) _ ⟨g,j * 6+5,none⟩ b rfl) (fun _ _ e=>e)
 refine ⟨h.keep.trans kk (fun q hq e=>by omega),h.lt,kn.2 _ _ h.blk (fun cs t fz e=>by cases e;decide),⟨us,c1,owns_keepN c2 kn (by decide),fun k c u hc hu=>⟨fun hk=>owns_keepN ((c3 k c u hc hu).1 hk) kn (by decide),(c3 k c u hc hu).2⟩⟩,⟨ps.set j (a,b),by rw [List.length_set];exact o1,by
  rw [← opRows_set ho hu];exact hst2.1,fun k o2 u2 hc2 hu2=>?_⟩⟩
 by_cases e:k=j
 ·subst e
  rw [List.getElem?_set_self (by omega)] at hu2
  cases hu2
  rw [ho] at hc2
  cases hc2
  exact ⟨(o3 k o u ho hu).1,fun _=>⟨owns_keepN ha kn (by decide),owns_keepN hb kn (by decide)⟩,fun hk=>by omega⟩
 ·rw [List.getElem?_set_ne (fun e2=>e e2.symm)] at hu2
  exact ⟨(o3 k o2 u2 hc2 hu2).1,fun hk=>⟨owns_keepN ((o3 k o2 u2 hc2 hu2).2.1 (by omega)).1 kn (by decide),owns_keepN ((o3 k o2 u2 hc2 hu2).2.1 (by omega)).2 kn (by decide)⟩,fun hk=>(o3 k o2 u2 hc2 hu2).2.2 (by omega)⟩
theorem CpI.mach {lo:Nat} {vR vA vS:Value} (h:CpI W w2 n0 M bc vC vO M.classes.length M.ops.length wr) (hlo:lo≤w2.heap.size) (hlo2:W.heap.size<lo) (hR:RegCopy lo w2 vR M.regs)
  (hA:wr.ownsRow w2.heap.size 9 1 vA M.args.length (M.args.map Value.string)) (hS:wr.ownsRow w2.heap.size 9 1 vS M.saved.length (M.saved.map Value.string)) (hf:fits64 M.slots):MachCopy lo wr vR vC vO vA vS M:=by
 intro W2 hk
 obtain ⟨us,c1,c2,c3⟩:=h.cls
 obtain ⟨ps,o1,o2,o3⟩:=h.ops
 have hsz:=h.keep.size
 have hk2:∀ k,w2.heap.size≤k→k<wr.heap.size→W2.heap[k]?=wr.heap[k]?:=fun k h1 h2=>hk k (by omega) h2
 refine ⟨(hR W2 fun k h1 h2=>(hk k h1 (by omega)).trans (h.keep.block k h2 (fun e=>by omega))).up' hsz,⟨us,c1,?_,fun k c u hc hu=>strs_owns ((c3 k c u hc hu).1 (List.getElem?_eq_some_iff.1 hc).1) (Nat.le_refl _) hk2⟩,
  ⟨ps,o1,?_,fun k o u ho hu=>?_⟩,strs_owns hA (Nat.le_refl _) hk2,strs_owns hS (Nat.le_refl _) hk2,hf⟩
 ·have hl:(clsRows M.classes us).length=M.classes.length:=by unfold clsRows;rw [List.length_zipWith];omega
  exact rows_owns (rows:=clsRows M.classes us) (by rw [hl];exact c2) clsRows_len (Nat.le_refl _) hk2
 ·have hl:(opRows M.ops ps).length=M.ops.length:=by unfold opRows;rw [List.length_zipWith];omega
  exact rows_owns (rows:=opRows M.ops ps) (by rw [hl];exact o2) opRows_len (Nat.le_refl _) hk2
 ·obtain ⟨a1,a2⟩:=(o3 k o u ho hu).2.1 (List.getElem?_eq_some_iff.1 ho).1
  exact ⟨rows_owns (by rw [List.length_map];exact a1) (fun r hr=>by obtain ⟨_,_,rfl⟩:=List.mem_map.1 hr;rfl) (Nat.le_refl _) hk2,strs_owns a2 (Nat.le_refl _) hk2,(o3 k o u ho hu).1⟩
end
end Go.Proofs.YtligiddaampneaaGreat
