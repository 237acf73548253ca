/- What is so while a description of one's own is spoilt. -/
import Derived.Test.YtligiddaampneaaGreatUi
import Derived.Test.YtligiddaampneaaGreatTo
import Derived.Test.YtligiddaampneaaGreatRefW
set_option maxHeartbeats 1000000
namespace Go.Proofs.YtligiddaampneaaGreat
open Go.RowKit
attribute [local go_sem] Oper.semAt_some
/-- A row that lies within some blocks. -/
def RowB (w:World) (lo hi:Nat) (E:TypeId) (size:Nat) (v:Value) (n:Nat):Prop:=(∃ xs,w.ownsRow lo E size v n xs)∧∀ g,v.ownBlock=some g→g<hi
section
variable {w wr w0 w1 w' W : World} {lo hi size n i j : Nat} {E : TypeId} {v uR uC uO uA uS : Value} {M : Mach} {us : List Value} {ps : List (Value × Value)} {xs : List Value} {N : List ByteArray} {L : List Pl}
theorem RowB.set (h:RowB w lo hi E size v n) (b i:Nat) (u:Value):RowB (w.setCell ⟨b,i,none⟩ u) lo hi E size v n:=by
 obtain ⟨⟨xs,h⟩,hl⟩:=h
 refine ⟨?_,hl⟩
 by_cases e:v.ownBlock=some b
 ·rcases h.2 with ⟨rfl,_⟩ | ⟨g,cap,cur,rfl,_⟩
  ·cases e
  ·cases e
   exact ⟨_,(h.stored i u).1⟩
 ·exact ⟨xs,owns_same h fun k hk=>Below.heap_setCell _ _ _ k (fun e2=>e (by rw [hk];exact congrArg some e2))⟩
theorem owns_block (h:w.ownsRow lo E size v n xs) (hn:0<n):∃ g cap cur,v=.slice (some ⟨g,0,none⟩) n cap∧lo≤g∧w.heap[g]?=some (.cells cur E (0,0))∧n≤cap∧cap≤maxLen∧n * size≤cur.size:=by
 rcases h.2 with ⟨_,h2⟩ | ⟨g,cap,cur,h2,h3,h4,h5,h6,h7,_⟩
 ·omega
 ·exact ⟨g,cap,cur,h2,h3,h4,h5,h6,by rw [h7];exact Nat.mul_le_mul_right _ h5⟩
theorem RowB.block (h:RowB w lo hi E size v n) (hn:0<n):∃ g cap cur,v=.slice (some ⟨g,0,none⟩) n cap∧lo≤g∧g<hi∧w.heap[g]?=some (.cells cur E (0,0))∧n * size≤cur.size:=by
 obtain ⟨⟨xs,h⟩,hl⟩:=h
 obtain ⟨g,cap,cur,h2,h3,h4,_,_,h5⟩:=owns_block h hn
 exact ⟨g,cap,cur,h2,h3,hl g (by rw [h2];rfl),h4,h5⟩
theorem block_cell {b:Nat} {cs:Array Value} {t:TypeId} {fz:Nat × Nat} (h:w.heap[b]?=some (.cells cs t fz)) (j:Nat) (hj:j<cs.size):∃ x,w.cell? ⟨b,j,none⟩=some x:=by
 refine ⟨cs[j],?_⟩
 simp only [World.cell?,h]
 simp [hj]
theorem block_free {b:Nat} {cs:Array Value} {t:TypeId} (h:w.heap[b]?=some (.cells cs t (0,0))) (j:Nat):w.frozen? ⟨b,j,none⟩=false:=by
 simp [World.frozen?,h]
theorem RowB.form (h:RowB w lo hi E size v n):∃ a c,v=.slice a n c:=by
 obtain ⟨⟨xs,h⟩,_⟩:=h
 obtain ⟨a,c,e,_,_⟩:=(Row.of_owns h).shape
 exact ⟨a,c,e⟩
abbrev spoilT:List TypeId:=[9,70,51,60,57]
/-- A copy of which the registers, the first i classes, the first j operations and so on may have been spoilt. -/
structure Spoil (w0:World) (lo hi:Nat) (M:Mach) (uR uC uO uA uS:Value) (us:List Value) (ps:List (Value × Value)) (i j:Nat) (wr:World):Prop where
 keep:Keep (fun k=>lo≤k∧k<hi) w0 wr
 kn:KeepN spoilT w0 wr
 regs:RowB wr lo hi 70 4 uR M.regs.length
 cls:(∃ xs,wr.ownsRow lo 51 2 uC M.classes.length xs∧∀ q,2 * i≤q→xs[q]?=(clsRows M.classes us).flatten[q]?)∧∀ g,uC.ownBlock=some g→g<hi
 ops:(∃ xs,wr.ownsRow lo 60 6 uO M.ops.length xs∧∀ q,6 * j≤q→xs[q]?=(opRows M.ops ps).flatten[q]?)∧∀ g,uO.ownBlock=some g→g<hi
 names:∀ (k:Nat) (c:Cls) (u:Value),M.classes[k]?=some c→us[k]?=some u→RowB wr lo hi 9 1 u c.regs.length
 uses:∀ (k:Nat) (o:Opn) (p:Value × Value),M.ops[k]?=some o→ps[k]?=some p→RowB wr lo hi 57 2 p.1 o.uses.length
 args:RowB wr lo hi 9 1 uA M.args.length
 saved:RowB wr lo hi 9 1 uS M.saved.length
theorem owns_rowB (h:w1.ownsRow lo E size v n xs) (hh:w1.heap.size≤hi) (x:Ext w1 w0):RowB w0 lo hi E size v n:=⟨⟨xs,owns_ext h x⟩,fun g e=>Nat.lt_of_lt_of_le (h.lt g e).2 hh⟩
theorem CopyO.spoil (h:CopyO lo w1 uR uC uO uA uS M) (hh:w1.heap.size≤hi) (x:Ext w1 w0):∃ us ps,us.length=M.classes.length∧ps.length=M.ops.length∧Spoil w0 lo hi M uR uC uO uA uS us ps 0 0 w0:=by
 obtain ⟨vs,hr⟩:=h.regs
 obtain ⟨us,hc⟩:=h.cls
 obtain ⟨ps,ho⟩:=h.ops
 refine ⟨us,ps,hc.len,ho.len,Keep.refl _ _,KeepN.refl _ _,owns_rowB hr hh x,⟨⟨_,owns_ext hc.own x,fun q _=>?_⟩,fun g e=>Nat.lt_of_lt_of_le (hc.own.lt g e).2 hh⟩,⟨⟨_,owns_ext ho.own x,fun q _=>?_⟩,fun g e=>Nat.lt_of_lt_of_le (ho.own.lt g e).2 hh⟩,
  fun k c u h1 h2=>owns_rowB (hc.sub k c u h1 h2) hh x,fun k o p h1 h2=>owns_rowB (ho.sub k o p h1 h2).1 hh x,owns_rowB h.args hh x,owns_rowB h.saved hh x⟩
 ·rw [List.take_of_length_le (Nat.le_refl _)]
 ·rw [List.take_of_length_le (Nat.le_refl _)]
theorem Spoil.set {b:Nat} {cs:Array Value} {fz:Nat × Nat} (h:Spoil w0 lo hi M uR uC uO uA uS us ps i j wr) (hb:wr.heap[b]?=some (.cells cs E fz)) (h1:lo≤b) (h2:b<hi) (hE:E∈[9,70,57]) (q:Nat) (u:Value) :
  Spoil w0 lo hi M uR uC uO uA uS us ps i j (wr.setCell ⟨b,q,none⟩ u):=by
 have kn:KeepN [E] wr (wr.setCell ⟨b,q,none⟩ u):=KeepN.set hb u (List.mem_singleton.2 rfl)
 have hC:51∉[E]:=fun e=>by
  rw [List.mem_singleton] at e
  subst e
  revert hE
  decide
 have hO:60∉[E]:=fun e=>by
  rw [List.mem_singleton] at e
  subst e
  revert hE
  decide
 have hS:∀ t∈[E],t∈spoilT:=fun t e=>by
  rw [List.mem_singleton] at e
  subst e
  simp only [List.mem_cons,List.not_mem_nil,or_false] at hE
  rcases hE with rfl | rfl | rfl <;> decide
 obtain ⟨⟨x1,c1,c2⟩,c3⟩:=h.cls
 obtain ⟨⟨x2,o1,o2⟩,o3⟩:=h.ops
 exact ⟨h.keep.trans (Keep.setCell _ wr ⟨b,q,none⟩ u ⟨h1,h2⟩) (fun _ _ e=>e),h.kn.trans (kn.mono hS),h.regs.set b q u,⟨⟨x1,owns_keepN c1 kn hC,c2⟩,c3⟩,⟨⟨x2,owns_keepN o1 kn hO,o2⟩,o3⟩,
  fun k c p a1 a2=>(h.names k c p a1 a2).set b q u,fun k o p a1 a2=>(h.uses k o p a1 a2).set b q u,h.args.set b q u,h.saved.set b q u⟩
theorem Spoil.setB {g cap n:Nat} (h:Spoil w0 lo hi M uR uC uO uA uS us ps i j wr) (hr:RowB wr lo hi E size (.slice (some ⟨g,0,none⟩) n cap) n) (hn:0<n) (hE:E∈[9,70,57]) (q:Nat) (u:Value) :
  Spoil w0 lo hi M uR uC uO uA uS us ps i j (wr.setCell ⟨g,q,none⟩ u):=by
 obtain ⟨g2,cap2,cur,e,h1,h2,hb,_⟩:=hr.block hn
 cases e
 exact h.set hb h1 h2 hE q u
theorem Spoil.up (h:Spoil w0 lo hi M uR uC uO uA uS us ps i j wr) {i2 j2:Nat} (hi2:i≤i2) (hj2:j≤j2):Spoil w0 lo hi M uR uC uO uA uS us ps i2 j2 wr:=by
 obtain ⟨⟨x1,c1,c2⟩,c3⟩:=h.cls
 obtain ⟨⟨x2,o1,o2⟩,o3⟩:=h.ops
 exact ⟨h.keep,h.kn,h.regs,⟨⟨x1,c1,fun q hq=>c2 q (by omega)⟩,c3⟩,⟨⟨x2,o1,fun q hq=>o2 q (by omega)⟩,o3⟩,h.names,h.uses,h.args,h.saved⟩
theorem Spoil.setC {g cap:Nat} (h:Spoil w0 lo hi M (uR) (.slice (some ⟨g,0,none⟩) M.classes.length cap) uO uA uS us ps i j wr) (q:Nat) (hq:q<2 * i) (u:Value) (hn:0<M.classes.length) :
  Spoil w0 lo hi M uR (.slice (some ⟨g,0,none⟩) M.classes.length cap) uO uA uS us ps i j (wr.setCell ⟨g,q,none⟩ u):=by
 obtain ⟨⟨x1,c1,c2⟩,c3⟩:=h.cls
 obtain ⟨⟨x2,o1,o2⟩,o3⟩:=h.ops
 obtain ⟨g2,cap2,cur,e,h1,hb,_⟩:=owns_block c1 hn
 cases e
 have kn:KeepN [51] wr (wr.setCell ⟨g,q,none⟩ u):=KeepN.set hb u (List.mem_singleton.2 rfl)
 exact ⟨h.keep.trans (Keep.setCell _ wr ⟨g,q,none⟩ u ⟨h1,c3 g rfl⟩) (fun _ _ e=>e),h.kn.trans (kn.mono (by decide)),h.regs.set g q u,⟨⟨_,(c1.stored q u).1,fun k hk=>by rw [List.getElem?_set_ne (by omega)];exact c2 k hk⟩,c3⟩,⟨⟨x2,owns_keepN o1 kn (by decide),o2⟩,o3⟩,
  fun k c p a1 a2=>(h.names k c p a1 a2).set g q u,fun k o p a1 a2=>(h.uses k o p a1 a2).set g q u,h.args.set g q u,h.saved.set g q u⟩
theorem Spoil.setO {g cap:Nat} (h:Spoil w0 lo hi M uR uC (.slice (some ⟨g,0,none⟩) M.ops.length cap) uA uS us ps i j wr) (q:Nat) (hq:q<6 * j) (u:Value) (hn:0<M.ops.length) :
  Spoil w0 lo hi M uR uC (.slice (some ⟨g,0,none⟩) M.ops.length cap) uA uS us ps i j (wr.setCell ⟨g,q,none⟩ u):=by
 obtain ⟨⟨x1,c1,c2⟩,c3⟩:=h.cls
 obtain ⟨⟨x2,o1,o2⟩,o3⟩:=h.ops
 obtain ⟨g2,cap2,cur,e,h1,hb,_⟩:=owns_block o1 hn
 cases e
 have kn:KeepN [60] wr (wr.setCell ⟨g,q,none⟩ u):=KeepN.set hb u (List.mem_singleton.2 rfl)
 exact ⟨h.keep.trans (Keep.setCell _ wr ⟨g,q,none⟩ u ⟨h1,o3 g rfl⟩) (fun _ _ e=>e),h.kn.trans (kn.mono (by decide)),h.regs.set g q u,⟨⟨x1,owns_keepN c1 kn (by decide),c2⟩,c3⟩,⟨⟨_,(o1.stored q u).1,fun k hk=>by rw [List.getElem?_set_ne (by omega)];exact o2 k hk⟩,o3⟩,
  fun k c p a1 a2=>(h.names k c p a1 a2).set g q u,fun k o p a1 a2=>(h.uses k o p a1 a2).set g q u,h.args.set g q u,h.saved.set g q u⟩
/-- The class that comes up is not spoilt yet. -/
theorem Spoil.clsAt (h:Spoil w0 lo hi M uR uC uO uA uS us ps i j wr) (hl:us.length=M.classes.length) (hi1:i<M.classes.length):∃ g cap cur c u,uC=.slice (some ⟨g,0,none⟩) M.classes.length cap∧wr.heap[g]?=some (.cells cur 51 (0,0))∧i * 2+2≤cur.size∧M.classes[i]?=some c∧us[i]?=some u∧wr.cell? ⟨g,i * 2+1,none⟩=some u:=by
 obtain ⟨⟨x1,c1,c2⟩,c3⟩:=h.cls
 obtain ⟨g,cap,cur,rfl,h1,hb,_,_,hs⟩:=owns_block c1 (by omega)
 obtain ⟨c,hc⟩:∃ x,M.classes[i]?=some x:=⟨_,lE hi1⟩
 obtain ⟨u,hu⟩:∃ x,us[i]?=some x:=⟨_,lE (by omega)⟩
 refine ⟨g,cap,cur,c,u,rfl,hb,by omega,hc,hu,?_⟩
 have hx:x1.length=M.classes.length * 2:=c1.1
 rw [c1.cellAt (i * 2+1) (by omega),c2 _ (by omega)]
 have hrow:(clsRows M.classes us)[i]?=some [.string c.name,u]:=by
  unfold clsRows
  rw [List.getElem?_zipWith,hc,hu]
 exact flatten_at clsRows_len hrow rfl
theorem Spoil.opAt (h:Spoil w0 lo hi M uR uC uO uA uS us ps i j wr) (hl:ps.length=M.ops.length) (hj1:j<M.ops.length):∃ g cap cur o p,uO=.slice (some ⟨g,0,none⟩) M.ops.length cap∧wr.heap[g]?=some (.cells cur 60 (0,0))∧j * 6+6≤cur.size∧M.ops[j]?=some o∧ps[j]?=some p∧wr.cell? ⟨g,j * 6+3,none⟩=some p.1:=by
 obtain ⟨⟨x1,c1,c2⟩,c3⟩:=h.ops
 obtain ⟨g,cap,cur,rfl,h1,hb,_,_,hs⟩:=owns_block c1 (by omega)
 obtain ⟨o,ho⟩:∃ x,M.ops[j]?=some x:=⟨_,lE hj1⟩
 obtain ⟨p,hp⟩:∃ x,ps[j]?=some x:=⟨_,lE (by omega)⟩
 refine ⟨g,cap,cur,o,p,rfl,hb,by omega,ho,hp,?_⟩
 have hx:x1.length=M.ops.length * 6:=c1.1
 rw [c1.cellAt (j * 6+3) (by omega),c2 _ (by omega)]
 have hrow:(opRows M.ops ps)[j]?=some [.string o.name,.string o.dfn.cls,.string o.dfn.fix,p.1,.int .i64 o.tie,p.2]:=by
  unfold opRows
  rw [List.getElem?_zipWith,ho,hp]
 exact flatten_at opRows_len hrow rfl
/-- A table outlives what is done to blocks that are older. -/
theorem TblIn.spoil {W1:World} {bt:Nat} {V:TV} (h:TblIn w0 bt V M N L) (x:Ext W1 w0) (hbt:bt<W1.heap.size) (k:Keep (fun k=>lo≤k∧k<hi) w0 wr) (kn:KeepN spoilT w0 wr) (hm:∀ w:World,(∀ k,hi≤k→k<bt→w.heap[k]?=W1.heap[k]?)→MachIn w bt V.vR V.vC V.vO V.vA V.vS M)
  (hN:W1.ownsRow hi 9 1 V.vN N.length (N.map Value.string)):TblIn wr bt V M N L:=by
 have hb:=h.lt
 refine ⟨kn.2 _ _ h.blk (fun cs t fz e=>by cases e;decide),hm wr (fun q a b=>(k.block q (by omega) (fun e=>by omega)).trans (Below.block x q (by omega))),?_,owns_keepN h.pl kn (by decide),h.regs.keepN kn,h.cls.keepN kn,h.ops.keepN kn,h.laps.imp fun _ q=>⟨q.1,q.2.keep kn (by decide) (by decide)⟩,h.of.imp fun _ q=>q.keep kn (by decide) (by decide),h.ins.imp fun _ q=>⟨q.1,q.2.keep kn (by decide) (by decide)⟩,
  h.may.imp fun _ q=>⟨q.1,q.2.keep kn (by decide) (by decide) (by decide)⟩,h.clob.imp fun _ q=>q.keep kn (by decide) (by decide),owns_keepN h.saved kn (by decide),owns_keepN h.args kn (by decide),h.keeps.keep kn (by decide)⟩
 have h2:=owns_ext hN x
 exact owns_base (owns_same h2 fun q e=>k.block q (h2.lt q e).2 (fun e2=>by have:=(h2.lt q e).1;omega)) (Nat.zero_le _)
theorem TabNew.spoil {n0 bt:Nat} {V:MV} {vK:Value} (h:TabNew W w0 n0 bt V vK M N L) (hn:n0≤lo) (hW:hi≤W.heap.size) (k:Keep (fun k=>lo≤k∧k<hi) w0 wr) (kn:KeepN spoilT w0 wr):TabIn wr wr.heap.size bt V vK M N L (numsC N M.classes):=by
 obtain ⟨kb,h,h2⟩:=h
 have hb:=h.lt
 have hle:=h.le
 refine TabG.tab (n0:=n0) (kb:=kb) ⟨kn.2 _ _ h.blk (fun cs t fz e=>by cases e;decide),h.le,h.kbn,h.m.same (fun q hq=>k.block q (by omega) (fun e=>by omega)),?_,owns_keepN h.pl kn (by decide),h.tight,h.len,h.k.imp fun _ q=>q.keep kn (by decide) (by decide)⟩
 exact owns_base (owns_same h2 fun q e=>k.block q (h2.lt q e).2 (fun e2=>by have:=(h2.lt q e).1;omega)) (Nat.zero_le _)
end
end Go.Proofs.YtligiddaampneaaGreat
