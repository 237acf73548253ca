/- The reference's table: the classes asked, and filled in. -/
import Derived.Test.YtligiddaampneaaGreatRefQ
set_option maxHeartbeats 1000000
-- shrunk
namespace Go.Proofs.YtligiddaampneaaGreat
open Go.RowKit
attribute [local go_sem] Oper.semAt_some
theorem owns_base {w:World} {base b2 size:Nat} {e:TypeId} {v:Value} {n:Nat} {xs:List Value} (h:w.ownsRow base e size v n xs) (hb:b2≤base):w.ownsRow b2 e size v n xs:=by
 refine ⟨h.1,?_⟩
 rcases h.2 with h2 | ⟨g,cap,cur,rfl,h3,r⟩
 ·exact Or.inl h2
 ·exact Or.inr ⟨g,cap,cur,rfl,Nat.le_trans hb h3,r⟩
structure KG (W:World) (kb:Nat) (vK:Value) (C:List (List Int)) (us:List Value):Prop where
 len:us.length=C.length
 own:W.ownsRow kb 36 1 vK C.length us
 rows:∀ (i:Nat) (c:List Int) (u:Value),C[i]?=some c→us[i]?=some u→W.ownsRow 0 3 1 u c.length (c.map (Value.int .i64))
structure TabG (W:World) (n0 bt kb:Nat) (V:MV) (vK:Value) (M:Mach) (N:List ByteArray) (L:List Pl) (C:List (List Int)):Prop where
 blk:W.heap[bt]?=some (.cells (machCells M V.vR V.vC V.vO V.vA V.vS ++ [V.vN,V.vP,vK]).toArray 48 (0,0))
 le:n0≤bt
 kbn:n0≤kb
 m:MachIn W n0 V.vR V.vC V.vO V.vA V.vS M
 nm:W.ownsRow 0 9 1 V.vN N.length (N.map Value.string)
 pl:W.ownsRow 0 88 3 V.vP L.length (plCells L)
 tight:∀ p∈L,p.tight
 len:L.length=N.length
 k:∃ us,KG W kb vK C us
section
variable {W : World} {n0 bt kb : Nat} {V : MV} {vK : Value} {M : Mach} {N : List ByteArray} {L : List Pl} {C : List (List Int)}
theorem TabG.lt (h:TabG W n0 bt kb V vK M N L C):bt<W.heap.size:=(Array.getElem?_eq_some_iff.1 h.blk).1
theorem KG.ext {W':World} {us:List Value} (h:KG W kb vK C us) (x:Ext W W'):KG W' kb vK C us :=
 ⟨h.len,owns_ext h.own x,fun i c u hc hu=>owns_ext (h.rows i c u hc hu) x⟩
theorem TabG.ext {W':World} (h:TabG W n0 bt kb V vK M N L C) (x:Ext W W'):TabG W' n0 bt kb V vK M N L C :=
 ⟨x.block h.blk,h.le,h.kbn,h.m.same fun k hk=>Below.block x k (Nat.lt_trans (Nat.lt_of_lt_of_le hk h.le) h.lt),owns_ext h.nm x,owns_ext h.pl x,h.tight,h.len,h.k.imp fun _ k=>k.ext x⟩
theorem TabG.c10 (h:TabG W n0 bt kb V vK M N L C):W.cell? ⟨bt,10,none⟩=some vK:=by
 simp only [World.cell?,h.blk]
 simp [machCells]
theorem TabG.f10 (h:TabG W n0 bt kb V vK M N L C):W.frozen? ⟨bt,10,none⟩=false:=by
 simp [World.frozen?,h.blk]
theorem KG.inM {us:List Value} (h:KG W kb vK C us):KIn W W.heap.size vK C:=by
 have e:∀ us:List Value,(us.map fun u=>[u]).flatten=us:=fun us=>by
  induction us with
  | nil=>rfl
  | cons x l ih=>simp [ih]
 have e2:∀ l:List Int,(l.map fun n=>[Value.int .i64 n]).flatten=l.map (Value.int .i64):=fun l=>by
  induction l with
  | nil=>rfl
  | cons x l ih=>simp [ih]
 refine ⟨us,h.len,Tab.of_owns (base:=kb) (e:=36) (n:=C.length) (by rw [e];exact h.own) (fun r hr=>?_) (by rw [List.length_map];exact h.len),fun i c u hc hu=>Tab.of_owns (base:=0) (e:=3) (n:=c.length) (by rw [e2];exact h.rows i c u hc hu) (fun r hr=>?_) (by rw [List.length_map])⟩
 ·obtain ⟨_,_,rfl⟩:=List.mem_map.1 hr;rfl
 ·obtain ⟨_,_,rfl⟩:=List.mem_map.1 hr;rfl
theorem TabG.tab (h:TabG W n0 bt kb V vK M N L C):TabIn W W.heap.size bt V vK M N L C:=by
 obtain ⟨us,hk⟩:=h.k
 refine ⟨⟨fun j v hj=>?_,h.lt,Nat.le_refl _,h.m.up (by have:=h.lt;have:=h.le;omega),StrsIn.of_owns h.nm rfl,PlsIn.of_owns h.pl rfl,fun p hp=>(h.tight p hp).fit,h.len⟩,h.c10,hk.inM,h.tight⟩
 have hj2:(machCells M V.vR V.vC V.vO V.vA V.vS ++ [V.vN,V.vP,vK])[j]?=some v:=by
  have hlt:=(List.getElem?_eq_some_iff.1 hj).1
  rw [show [V.vN,V.vP,vK]=[V.vN,V.vP] ++ [vK] from rfl,← List.append_assoc,List.getElem?_append_left hlt]
  exact hj
 simp only [World.cell?,h.blk]
 simpa using hj2
theorem TabG.snoc {us:List Value} (h:TabG W n0 bt kb V vK M N L C) (hk:KG W kb vK C us) {wa w6:World} {u vK2:Value} {c:List Int} (x:Ext W wa) (hg:wa.grownBy w6 vK.ownBlock)
  (hown:w6.ownsRow kb 36 1 vK2 (C.length+1) (us ++ [u])) (hu:W.ownsRow 0 3 1 u c.length (c.map (Value.int .i64))) :
  TabG (w6.setCell ⟨bt,10,none⟩ vK2) n0 bt kb V vK2 M N L (C ++ [c]):=by
 have k6:Keep (fun k=>vK.ownBlock=some k) W w6:=(Keep.of_ext x:Keep (fun k=>vK.ownBlock=some k) W wa).trans (Keep.grown hg (fun _ e=>e)) (fun _ _ h=>h)
 have nb:=owns_ne hk.own h.blk (by decide)
 have b6:=(k6.block bt h.lt nb).trans h.blk
 have b7:=heap_set_cells b6 10 vK2
 have k7:Keep (fun k=>vK.ownBlock=some k∨k=bt) W (w6.setCell ⟨bt,10,none⟩ vK2):=(k6.mono (fun _ e=>Or.inl e)).trans (Keep.setCell (fun k=>k=bt) w6 ⟨bt,10,none⟩ vK2 rfl) (fun _ _ e=>Or.inr e)
 have st:∀ {base size n:Nat} {e:TypeId} {v:Value} {xs:List Value},W.ownsRow base e size v n xs→e≠36→e≠48→(w6.setCell ⟨bt,10,none⟩ vK2).ownsRow base e size v n xs:=fun {base size n e v xs} ho h1 h2 =>
  owns_same ho fun k e=>k7.block k (ho.lt k e).2 fun s=>s.elim (fun e2=>owns_types ho hk.own h1 e e2) (fun e3=>owns_ne ho h.blk h2 (by rw [e,e3]))
 have n6:=owns_ne hown b6 (by decide)
 refine ⟨?_,h.le,h.kbn,h.m.same fun k hk2=>k7.block k (by have:=h.lt;have:=h.le;omega) fun s=>s.elim (fun e=>by have:=(hk.own.lt k e).1;have:=h.kbn;omega) (fun e=>by have:=h.le;omega),st h.nm (by decide) (by decide),st h.pl (by decide) (by decide),h.tight,h.len,us ++ [u],?_,?_,fun i c2 u2 hc hu2=>?_⟩
 ·rw [b7];simp [machCells]
 ·rw [List.length_append,List.length_append,hk.len];rfl
 ·rw [List.length_append]
  exact owns_same hown fun k e=>Keep.block (Keep.setCell (fun k=>k=bt) w6 ⟨bt,10,none⟩ vK2 rfl) k (hown.lt k e).2 (fun e2=>n6 (by rw [e,e2]))
 ·by_cases hi:i<C.length
  ·rw [List.getElem?_append_left hi] at hc
   rw [List.getElem?_append_left (by rw [hk.len];exact hi)] at hu2
   exact st (hk.rows i c2 u2 hc hu2) (by decide) (by decide)
  ·rw [List.getElem?_append_right (by omega)] at hc
   rw [List.getElem?_append_right (by rw [hk.len];omega)] at hu2
   have hi0:i - C.length=0:=by
    have:=(List.getElem?_eq_some_iff.1 hc).1
    simp at this;omega
   rw [hk.len,hi0] at hu2
   rw [hi0] at hc
   cases hc
   cases hu2
   exact st hu (by decide) (by decide)
end
theorem infoK:(Tryz.prog.info? 36).map (fun i=>(i.zero,i.size,i.bytes))=some (some (.slice none 0 0),1,24):=by kernel_rfl
