/- Rows of rows in memory, while they are laid; what an operand may be. -/
import Derived.Test.YtligiddaampneaaGreatTl
namespace Go.Proofs.YtligiddaampneaaGreat
open Go.RowKit
section
variable {ts : List TypeId} {W W' : World}
theorem KG.keep {kb:Nat} {v:Value} {C:List (List Int)} {us:List Value} (h:KG W kb v C us) (k:KeepN ts W W') (h1:36∉ts) (h2:3∉ts):KG W' kb v C us :=
 ⟨h.len,owns_keepN h.own k h1,fun i c u hc hu=>owns_keepN (h.rows i c u hc hu) k h2⟩
theorem KG.nil (W:World) (kb:Nat):KG W kb (.slice none 0 0) [] []:=⟨rfl,World.ownsRow_nil _ _ _ _,fun i c u h=>by simp at h⟩
theorem KG.snoc {wa w8:World} {kb:Nat} {v v' u:Value} {C:List (List Int)} {c:List Int} {us:List Value} (h:KG W kb v C us) (x:Ext W wa) (hg:wa.grownBy w8 v.ownBlock) (hown:w8.ownsRow kb 36 1 v' (C.length+1) (us ++ [u])) (hu:wa.ownsRow 0 3 1 u c.length (c.map (Value.int .i64))):KG w8 kb v' (C ++ [c]) (us ++ [u]):=by
 have kg:KeepN [36] wa w8:=KeepN.grown (owns_ext h.own x) hg (by decide)
 refine ⟨by rw [List.length_append,List.length_append,h.len];rfl,by rw [List.length_append];exact hown,fun i c2 q hc hq=>?_⟩
 by_cases hi:i<us.length
 ·rw [List.getElem?_append_left hi] at hq
  rw [List.getElem?_append_left (by rw [← h.len];exact hi)] at hc
  exact owns_keepN (owns_ext (h.rows i c2 q hc hq) x) kg (by decide)
 ·rw [List.getElem?_append_right (by omega)] at hq
  rw [List.getElem?_append_right (by rw [← h.len];omega)] at hc
  have hi0:i - us.length=0:=by
   have:=(List.getElem?_eq_some_iff.1 hq).1
   simp at this;omega
  rw [← h.len,hi0] at hc
  rw [hi0] at hq
  cases hq
  cases hc
  exact owns_keepN hu kg (by decide)
structure MayG (W:World) (lo:Nat) (v:Value) (f:Nat→Nat→Nat→Bool) (len:Nat→Nat) (ms:List Value):Prop where
 own:W.ownsRow lo 81 1 v ms.length ms
 rows:∀ (i:Nat) (u:Value),ms[i]?=some u→∃ us,SetsG W 0 u (f i) us∧us.length=len i
theorem MayG.keep {lo:Nat} {v:Value} {f:Nat→Nat→Nat→Bool} {len:Nat→Nat} {ms:List Value} (h:MayG W lo v f len ms) (k:KeepN ts W W') (h1:81∉ts) (h2:78∉ts) (h3:108∉ts):MayG W' lo v f len ms :=
 ⟨owns_keepN h.own k h1,fun i u hu=>by obtain ⟨us,a,b⟩:=h.rows i u hu;exact ⟨us,a.keep k h2 h3,b⟩⟩
theorem MayG.ext {lo:Nat} {v:Value} {f:Nat→Nat→Nat→Bool} {len:Nat→Nat} {ms:List Value} (h:MayG W lo v f len ms) (x:Ext W W'):MayG W' lo v f len ms:=h.keep (ts:=[]) (KeepN.ext x) (by decide) (by decide) (by decide)
theorem MayG.nil (W:World) (lo:Nat) (f:Nat→Nat→Nat→Bool) (len:Nat→Nat):MayG W lo (.slice none 0 0) f len []:=⟨World.ownsRow_nil _ _ _ _,fun i u h=>by simp at h⟩
theorem MayG.snoc {wa w8:World} {lo:Nat} {v v' u:Value} {f:Nat→Nat→Nat→Bool} {len:Nat→Nat} {ms us:List Value} (h:MayG W lo v f len ms) (x:Ext W wa) (hg:wa.grownBy w8 v.ownBlock) (hown:w8.ownsRow lo 81 1 v' (ms.length+1) (ms ++ [u])) (hu:SetsG wa 0 u (f ms.length) us) (hl:us.length=len ms.length):MayG w8 lo v' f len (ms ++ [u]):=by
 have kg:KeepN [81] wa w8:=KeepN.grown (owns_ext h.own x) hg (by decide)
 refine ⟨by rw [List.length_append];exact hown,fun i q hq=>?_⟩
 by_cases hi:i<ms.length
 ·rw [List.getElem?_append_left hi] at hq
  obtain ⟨us,a,b⟩:=h.rows i q hq
  exact ⟨us,a.keep ((KeepN.ext x).trans kg) (by decide) (by decide),b⟩
 ·rw [List.getElem?_append_right (by omega)] at hq
  have hi0:i - ms.length=0:=by
   have:=(List.getElem?_eq_some_iff.1 hq).1
   simp at this;omega
  rw [hi0] at hq
  cases hq
  rw [show i=ms.length by omega]
  exact ⟨us,hu.keep kg (by decide) (by decide),hl⟩
theorem SetsG.base {lo lo2:Nat} {v:Value} {f:Nat→Nat→Bool} {us:List Value} (h:SetsG W lo v f us) (hb:lo2≤lo):SetsG W lo2 v f us:=⟨owns_base h.own hb,h.sets⟩
theorem infoSets:(Tryz.prog.info? 81).map (fun i=>(i.zero,i.size,i.bytes))=some (some (.slice none 0 0),1,24):=by kernel_rfl
end
section
variable (M : Mach) (N : List ByteArray) (L : List Pl) (C : List (List Int))
def choB (u:Opr) (n:Nat):Bool:=if (u.fix == ⟨#[]⟩)=true then inL (C.getD (clsIx M u.cls).toNat []) n else inL [idx N u.fix] n
def subB (b:Nat→Bool) (cl:List ByteArray) (n:Nat):Bool:=b n && cl.all fun s=>!inL (lapRow L (plAt L (idx N s)) L.length) n
def operB2 (o:Opn) (k:Nat) (n:Nat):Bool:=match (o.dfn :: o.uses)[k]? with
 | some u=>if k=0 then subB N L (choB M N C u) o.clob n else choB M N C u n
 | none=>false
def mayB (i k n:Nat):Bool:=match M.ops[i]? with | some o=>operB2 M N L C o k n | none=>false
def mayLen (i:Nat):Nat:=match M.ops[i]? with | some o=>o.uses.length+1 | none=>0
theorem subB_nil (b:Nat→Bool):subB N L b []=b:=by funext n;simp [subB]
theorem subB_snoc (b:Nat→Bool) (cl:List ByteArray) (s:ByteArray):subB N L b (cl ++ [s])=fun n=>subB N L b cl n && !inL (lapRow L (plAt L (idx N s)) L.length) n:=by
 funext n
 simp [subB,List.all_append,Bool.and_assoc]
end
theorem clsIx_idx (M:Mach) (s:ByteArray):idx (M.classes.map Cls.name) s=clsIx M s:=by
 unfold idx clsIx fidx
 rw [List.findIdx?_map]
 rfl
theorem opIx_idx (M:Mach) (s:ByteArray):idx (M.ops.map Opn.name) s=opIxT M s:=by
 unfold idx opIxT fidx
 rw [List.findIdx?_map]
 rfl
end Go.Proofs.YtligiddaampneaaGreat
