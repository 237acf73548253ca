/- Several texts joined. No condition. -/
import Derived.Test.YtligiddaampneaaGreatTb
import Derived.Test.YtligiddaampneaaGreatRefX
import Derived.Test.YtligiddaampneaaGreatTf
set_option maxHeartbeats 1000000
namespace Go.Proofs.YtligiddaampneaaGreat
section
variable {L : List Pl}
def lapRow (L:List Pl) (p:Pl) (k:Nat):List Int:=((List.range k).filter (fun j:Nat=>lapS p (L.getD j ⟨0,0,0⟩))).map (fun j:Nat=>(j:Int))
theorem lapRow_succ (p:Pl) (k:Nat):lapRow L p (k+1)=lapRow L p k ++ (if lapS p (L.getD k ⟨0,0,0⟩)=true then [(k:Int)] else []):=by
 unfold lapRow
 rw [List.range_succ,List.filter_append,List.map_append]
 congr 1
 cases h:lapS p (L.getD k ⟨0,0,0⟩) with
 | true =>
  rw [if_pos rfl,List.filter_cons_of_pos (p:=fun j:Nat=>lapS p (L.getD j ⟨0,0,0⟩)) h]
  rfl
 | false =>
  rw [if_neg (by decide),List.filter_cons_of_neg (p:=fun j:Nat=>lapS p (L.getD j ⟨0,0,0⟩)) (by rw [h];decide)]
  rfl
theorem lapRow_len (p:Pl) (k:Nat):(lapRow L p k).length≤k:=by
 unfold lapRow
 rw [List.length_map]
 exact Nat.le_trans (List.length_filter_le _ _) (by rw [List.length_range];exact Nat.le_refl _)
theorem lapRow_mem {p:Pl} {k n:Nat}:(n:Int)∈lapRow L p k↔n<k∧lapS p (L.getD n ⟨0,0,0⟩)=true:=by
 unfold lapRow
 rw [List.mem_map]
 constructor
 ·rintro ⟨j,hj,e⟩
  have:j=n:=by omega
  subst this
  have:=List.mem_filter.1 hj
  exact ⟨List.mem_range.1 this.1,this.2⟩
 ·rintro ⟨h1,h2⟩
  exact ⟨n,List.mem_filter.2 ⟨List.mem_range.2 h1,h2⟩,rfl⟩
end
end Go.Proofs.YtligiddaampneaaGreat
set_option maxHeartbeats 1000000
namespace Go.Proofs.YtligiddaampneaaGreat
open Go.RowKit
def KeepN (ts:List TypeId) (W W':World):Prop:=W.heap.size≤W'.heap.size∧∀ (k:Nat) (o:Obj),W.heap[k]?=some o→(∀ (cs:Array Value) (t:TypeId) (fz:Nat × Nat),o=.cells cs t fz→t∉ts)→W'.heap[k]?=some o
section
variable {ts : List TypeId} {W W' : World}
theorem KeepN.refl (ts:List TypeId) (W:World):KeepN ts W W:=⟨Nat.le_refl _,fun _ _ h _=>h⟩
theorem KeepN.ext (x:Ext W W'):KeepN ts W W':=⟨x.size,fun _ _ h _=>x.block h⟩
theorem KeepN.trans {W2:World} (a:KeepN ts W W') (b:KeepN ts W' W2):KeepN ts W W2:=⟨Nat.le_trans a.1 b.1,fun k o h ht=>b.2 k o (a.2 k o h ht) ht⟩
theorem KeepN.mono {us:List TypeId} (a:KeepN ts W W') (h:∀ t∈ts,t∈us):KeepN us W W':=⟨a.1,fun k o hk ht=>a.2 k o hk (fun cs t fz e m=>ht cs t fz e (h t m))⟩
theorem KeepN.grown {base size n:Nat} {E:TypeId} {v:Value} {xs:List Value} (ho:W.ownsRow base E size v n xs) (hg:W.grownBy W' v.ownBlock) (hE:E∈ts):KeepN ts W W':=by
 have k:Keep (fun k=>v.ownBlock=some k) W W':=Keep.grown hg (fun _ e=>e)
 refine ⟨k.size,fun q o hq ht=>?_⟩
 rw [k.block q (Array.getElem?_eq_some_iff.1 hq).1 (fun e=>?_)]
 ·exact hq
 ·rcases ho.2 with ⟨e2,_⟩ | ⟨g,cap,cur,e2,_,hg2,_⟩
  ·rw [e2] at e;cases e
  ·rw [e2] at e
   cases e
   rw [hg2] at hq
   cases hq
   exact ht _ _ _ rfl hE
theorem KeepN.set {b i:Nat} {cs:Array Value} {E:TypeId} {fz:Nat × Nat} (hb:W.heap[b]?=some (.cells cs E fz)) (u:Value) (hE:E∈ts):KeepN ts W (W.setCell ⟨b,i,none⟩ u):=by
 refine ⟨by rw [set_size];exact Nat.le_refl _,fun q o hq ht=>?_⟩
 rw [Below.heap_setCell _ _ _ q (fun e=>?_)]
 ·exact hq
 ·rw [show q=b from e,hb] at hq
  cases hq
  exact ht _ _ _ rfl hE
theorem KeepN.keep {S:Nat→Prop} (h:Keep S W W') (hs:∀ k,S k→∃ cs t fz,W.heap[k]?=some (.cells cs t fz)∧t∈ts):KeepN ts W W':=by
 refine ⟨h.size,fun k o hk ht=>?_⟩
 rw [h.block k (Array.getElem?_eq_some_iff.1 hk).1 (fun s=>?_)]
 ·exact hk
 ·obtain ⟨cs,t,fz,e,m⟩:=hs k s
  rw [e] at hk
  cases hk
  exact ht _ _ _ rfl m
theorem owns_keepN {base size n:Nat} {E:TypeId} {v:Value} {xs:List Value} (h:W.ownsRow base E size v n xs) (k:KeepN ts W W') (hE:E∉ts):W'.ownsRow base E size v n xs:=by
 refine ⟨h.1,?_⟩
 rcases h.2 with h2 | ⟨g,cap,cur,h2,h3,h4,h5⟩
 ·exact Or.inl h2
 ·exact Or.inr ⟨g,cap,cur,h2,h3,k.2 g _ h4 (fun cs t fz e=>by cases e;exact hE),h5⟩
def SetIn (W:World) (u:Value) (f:Nat→Bool):Prop := ∃ ws,WordsIn W W.heap.size u ws∧OnU W u∧ws.length≤1024∧∀ n,hasW ws n=f n
theorem SetIn.form {u:Value} {f:Nat→Bool} (h:SetIn W u f):∃ a n c,u=.slice a n c:=by
 obtain ⟨ws,h1,_⟩:=h
 obtain ⟨a,c,e,_⟩:=h1.form
 exact ⟨a,_,c,e⟩
theorem SetIn.keep {u:Value} {f:Nat→Bool} (h:SetIn W u f) (k:KeepN ts W W') (hU:108∉ts):SetIn W' u f:=by
 obtain ⟨ws,h1,h2,h3,h4⟩:=h
 have hk:∀ q,u.ownBlock=some q→∃ cs fz,W.heap[q]?=some (.cells cs 108 fz)∧W'.heap[q]?=some (.cells cs 108 fz):=fun q e=>by
  obtain ⟨cs,fz,hg⟩:=h2 q e
  exact ⟨cs,fz,hg,k.2 q _ hg (fun cs t fz e=>by cases e;exact hU)⟩
 refine ⟨ws,⟨Tab.up (W:=W') ⟨h1.tab.row.same0 fun q e _=>?_,h1.tab.len,h1.tab.blk⟩ k.1,h1.lt⟩,fun q e=>?_,h3,h4⟩
 ·obtain ⟨cs,fz,e1,e2⟩:=hk q e
  rw [e1,e2]
 ·obtain ⟨cs,fz,_,e2⟩:=hk q e
  exact ⟨cs,fz,e2⟩
theorem SetIn.ext {u:Value} {f:Nat→Bool} (h:SetIn W u f) (x:Ext W W'):SetIn W' u f:=h.keep (ts:=[]) (KeepN.ext x) (by decide)
def inL (l:List Int) (n:Nat):Bool:=decide (n≤65535∧(n:Int)∈l)
theorem of_set {v:Value} {l:List Int} (hv:SliceInts W v l) (hfit:∀ n∈l,fits64 n) :
  Calls Tryz.prog 80 #[v] W fun e w'=>∃ v',e=.returned (.agg #[v'])∧SetIn w' v' (inL l)∧Ext W w' :=
 (of_any hv hfit).mono fun _ _ ⟨v',ws,e,h1,h2,_,h4,h5,h6⟩=>⟨v',e,⟨ws,h1,h5,h4,h2⟩,h6⟩
theorem sub_set {va vb:Value} {f g:Nat→Bool} (ha:SetIn W va f) (hb:SetIn W vb g) :
  Calls Tryz.prog 110 #[.agg #[va],.agg #[vb]] W fun e w'=>∃ v',e=.returned (.agg #[v'])∧SetIn w' v' (fun n=>f n && !g n)∧Ext W w':=by
 obtain ⟨xs,a1,_,a3,a4⟩:=ha
 obtain ⟨ys,b1,_,b3,b4⟩:=hb
 exact (sub_any a1 b1 (Nat.le_refl _) (Nat.le_refl _) a3 b3).mono fun _ _ ⟨v',ws,e,h1,h2,_,h4,h5,h6⟩=>⟨v',e,⟨ws,h1,h5,h4,fun n=>by rw [h2,a4,b4]⟩,h6⟩
theorem has_set {u:Value} {f:Nat→Bool} (h:SetIn W u f) (n:Int) (hf:fits64 n):Calls Tryz.prog 50 #[.agg #[u],.int .i64 n] W fun e w'=>e=.returned (.bool (decide (0≤n) && f n.toNat))∧Ext W w':=by
 obtain ⟨ws,h1,_,_,h4⟩:=h
 exact (has_any h1 (Nat.le_refl _) n hf).mono fun _ _ ⟨e,x⟩=>⟨by rw [e,h4],x⟩
structure SetsG (W:World) (lo:Nat) (v:Value) (f:Nat→Nat→Bool) (us:List Value):Prop where
 own:W.ownsRow lo 78 1 v us.length us
 sets:∀ (i:Nat) (u:Value),us[i]?=some u→SetIn W u (f i)
theorem SetsG.keep {lo:Nat} {v:Value} {f:Nat→Nat→Bool} {us:List Value} (h:SetsG W lo v f us) (k:KeepN ts W W') (hS:78∉ts) (hU:108∉ts):SetsG W' lo v f us :=
 ⟨owns_keepN h.own k hS,fun i u hu=>(h.sets i u hu).keep k hU⟩
theorem SetsG.ext {lo:Nat} {v:Value} {f:Nat→Nat→Bool} {us:List Value} (h:SetsG W lo v f us) (x:Ext W W'):SetsG W' lo v f us:=h.keep (ts:=[]) (KeepN.ext x) (by decide) (by decide)
theorem SetsG.nil (W:World) (lo:Nat) (f:Nat→Nat→Bool):SetsG W lo (.slice none 0 0) f []:=⟨World.ownsRow_nil _ _ _ _,fun i u h=>by simp at h⟩
theorem SetsG.snoc {wa w8:World} {lo:Nat} {v v' u:Value} {f:Nat→Nat→Bool} {us:List Value} (h:SetsG W lo v f us) (x:Ext W wa) (hg:wa.grownBy w8 v.ownBlock) (hown:w8.ownsRow lo 78 1 v' (us.length+1) (us ++ [u])) (hu:SetIn wa u (f us.length)):SetsG w8 lo v' f (us ++ [u]):=by
 have kg:KeepN [78] wa w8:=KeepN.grown (owns_ext h.own x) hg (by decide)
 refine ⟨by rw [List.length_append];exact hown,fun i q hq=>?_⟩
 by_cases hi:i<us.length
 ·rw [List.getElem?_append_left hi] at hq
  exact (h.sets i q hq).keep ((KeepN.ext x).trans kg) (by decide)
 ·rw [List.getElem?_append_right (by omega)] at hq
  have hi0:i - us.length=0:=by
   have:=(List.getElem?_eq_some_iff.1 hq).1
   simp at this;omega
  rw [hi0] at hq
  cases hq
  rw [show i=us.length by omega]
  exact hu.keep kg (by decide)
theorem infoSet:(Tryz.prog.info? 78).map (fun i=>(i.zero,i.size,i.bytes))=some (some (.agg #[.slice none 0 0]),1,24):=by kernel_rfl
end
end Go.Proofs.YtligiddaampneaaGreat
