/- Several texts joined. No condition. -/
import Derived.Test.YtligiddaampneaaGreatTl
import Derived.Test.YtligiddaampneaaGreatTc
import Derived.Test.YtligiddaampneaaGreatTj
set_option maxHeartbeats 1000000
namespace Go.Proofs.YtligiddaampneaaGreat
open Go.RowKit
section
variable {ts : List TypeId} {W W' : World}
theorem KG.keep {kb:Nat} {v:Value} {C:List (List Int)} {us:List Value} (h:KG W kb v C us) (k:KeepN ts W W') (h1:36∉ts) (h2:3∉ts):KG W' kb v C us :=
 ⟨h.len,owns_keepN h.own k h1,fun i c u hc hu=>owns_keepN (h.rows i c u hc hu) k h2⟩
theorem KG.nil (W:World) (kb:Nat):KG W kb (.slice none 0 0) [] []:=⟨rfl,World.ownsRow_nil _ _ _ _,fun i c u h=>by simp at h⟩
theorem KG.snoc {wa w8:World} {kb:Nat} {v v' u:Value} {C:List (List Int)} {c:List Int} {us:List Value} (h:KG W kb v C us) (x:Ext W wa) (hg:wa.grownBy w8 v.ownBlock) (hown:w8.ownsRow kb 36 1 v' (C.length+1) (us ++ [u])) (hu:wa.ownsRow 0 3 1 u c.length (c.map (Value.int .i64))):KG w8 kb v' (C ++ [c]) (us ++ [u]):=by
 have kg:KeepN [36] wa w8:=KeepN.grown (owns_ext h.own x) hg (by decide)
 refine ⟨by rw [List.length_append,List.length_append,h.len];rfl,by rw [List.length_append];exact hown,fun i c2 q hc hq=>?_⟩
 by_cases hi:i<us.length
 ·rw [List.getElem?_append_left hi] at hq
  rw [List.getElem?_append_left (by rw [← h.len];exact hi)] at hc
  exact owns_keepN (owns_ext (h.rows i c2 q hc hq) x) kg (by decide)
 ·rw [List.getElem?_append_right (by omega)] at hq
  rw [List.getElem?_append_right (by rw [← h.len];omega)] at hc
  have hi0:i - us.length=0:=by
   have:=(List.getElem?_eq_some_iff.1 hq).1
   simp at this;omega
  rw [← h.len,hi0] at hc
  rw [hi0] at hq
  cases hq
  cases hc
  exact owns_keepN hu kg (by decide)
structure MayG (W:World) (lo:Nat) (v:Value) (f:Nat→Nat→Nat→Bool) (len:Nat→Nat) (ms:List Value):Prop where
 own:W.ownsRow lo 81 1 v ms.length ms
 rows:∀ (i:Nat) (u:Value),ms[i]?=some u→∃ us,SetsG W 0 u (f i) us∧us.length=len i
theorem MayG.keep {lo:Nat} {v:Value} {f:Nat→Nat→Nat→Bool} {len:Nat→Nat} {ms:List Value} (h:MayG W lo v f len ms) (k:KeepN ts W W') (h1:81∉ts) (h2:78∉ts) (h3:108∉ts):MayG W' lo v f len ms :=
 ⟨owns_keepN h.own k h1,fun i u hu=>by obtain ⟨us,a,b⟩:=h.rows i u hu;exact ⟨us,a.keep k h2 h3,b⟩⟩
theorem MayG.ext {lo:Nat} {v:Value} {f:Nat→Nat→Nat→Bool} {len:Nat→Nat} {ms:List Value} (h:MayG W lo v f len ms) (x:Ext W W'):MayG W' lo v f len ms:=h.keep (ts:=[]) (KeepN.ext x) (by decide) (by decide) (by decide)
theorem MayG.nil (W:World) (lo:Nat) (f:Nat→Nat→Nat→Bool) (len:Nat→Nat):MayG W lo (.slice none 0 0) f len []:=⟨World.ownsRow_nil _ _ _ _,fun i u h=>by simp at h⟩
theorem MayG.snoc {wa w8:World} {lo:Nat} {v v' u:Value} {f:Nat→Nat→Nat→Bool} {len:Nat→Nat} {ms us:List Value} (h:MayG W lo v f len ms) (x:Ext W wa) (hg:wa.grownBy w8 v.ownBlock) (hown:w8.ownsRow lo 81 1 v' (ms.length+1) (ms ++ [u])) (hu:SetsG wa 0 u (f ms.length) us) (hl:us.length=len ms.length):MayG w8 lo v' f len (ms ++ [u]):=by
 have kg:KeepN [81] wa w8:=KeepN.grown (owns_ext h.own x) hg (by decide)
 refine ⟨by rw [List.length_append];exact hown,fun i q hq=>?_⟩
 by_cases hi:i<ms.length
 ·rw [List.getElem?_append_left hi] at hq
  obtain ⟨us,a,b⟩:=h.rows i q hq
  exact ⟨us,a.keep ((KeepN.ext x).trans kg) (by decide) (by decide),b⟩
 ·rw [List.getElem?_append_right (by omega)] at hq
  have hi0:i - ms.length=0:=by
   have:=(List.getElem?_eq_some_iff.1 hq).1
   simp at this;omega
  rw [hi0] at hq
  cases hq
  rw [show i=ms.length by omega]
  exact ⟨us,hu.keep kg (by decide) (by decide),hl⟩
theorem SetsG.base {lo lo2:Nat} {v:Value} {f:Nat→Nat→Bool} {us:List Value} (h:SetsG W lo v f us) (hb:lo2≤lo):SetsG W lo2 v f us:=⟨owns_base h.own hb,h.sets⟩
theorem infoSets:(Tryz.prog.info? 81).map (fun i=>(i.zero,i.size,i.bytes))=some (some (.slice none 0 0),1,24):=by kernel_rfl
end
section
variable (M : Mach) (N : List ByteArray) (L : List Pl) (C : List (List Int))
def choB (u:Opr) (n:Nat):Bool:=if (u.fix == ⟨#[]⟩)=true then inL (C.getD (clsIx M u.cls).toNat []) n else inL [idx N u.fix] n
def subB (b:Nat→Bool) (cl:List ByteArray) (n:Nat):Bool:=b n && cl.all fun s=>!inL (lapRow L (plAt L (idx N s)) L.length) n
def operB2 (o:Opn) (k:Nat) (n:Nat):Bool:=match (o.dfn :: o.uses)[k]? with
 | some u=>if k=0 then subB N L (choB M N C u) o.clob n else choB M N C u n
 | none=>false
def mayB (i k n:Nat):Bool:=match M.ops[i]? with | some o=>operB2 M N L C o k n | none=>false
def mayLen (i:Nat):Nat:=match M.ops[i]? with | some o=>o.uses.length+1 | none=>0
theorem subB_nil (b:Nat→Bool):subB N L b []=b:=by funext n;simp [subB]
theorem subB_snoc (b:Nat→Bool) (cl:List ByteArray) (s:ByteArray):subB N L b (cl ++ [s])=fun n=>subB N L b cl n && !inL (lapRow L (plAt L (idx N s)) L.length) n:=by
 funext n
 simp [subB,List.all_append,Bool.and_assoc]
end
theorem clsIx_idx (M:Mach) (s:ByteArray):idx (M.classes.map Cls.name) s=clsIx M s:=by
 unfold idx clsIx fidx
 rw [List.findIdx?_map]
 rfl
theorem opIx_idx (M:Mach) (s:ByteArray):idx (M.ops.map Opn.name) s=opIxT M s:=by
 unfold idx opIxT fidx
 rw [List.findIdx?_map]
 rfl
end Go.Proofs.YtligiddaampneaaGreat
set_option maxRecDepth 100000
set_option maxHeartbeats 16000000
namespace Go.Proofs.YtligiddaampneaaGreat
open Go.RowKit
attribute [local go_sem] Oper.semAt_some
structure KnownM (M:Mach) (N:List ByteArray):Prop where
 clob:∀ o∈M.ops,∀ s∈o.clob,0≤idx N s
 oper:∀ o∈M.ops,∀ u∈o.dfn :: o.uses,0≤clsIx M u.cls∧(u.fix=⟨#[]⟩∨0≤idx N u.fix)
 uses:∀ o∈M.ops,o.uses≠[]
 cls:∀ c∈M.classes,∀ s∈c.regs,0≤idx N s
 args:∀ s∈M.args,0≤idx N s
 saved:∀ s∈M.saved,0≤idx N s
 result:0≤idx N M.result
structure OpsG (W:World) (bt:Nat) (cs:List Value) (M:Mach) (N:List ByteArray) (L:List Pl) (C:List (List Int)) (i:Nat) (vK vM:Value) (us ms:List Value) (wr:World):Prop where
 keep:Keep (fun k=>k=bt) W wr
 blk:wr.heap[bt]?=some (.cells ((cs.set 17 vK).set 16 vM).toArray 84 (0,0))
 clob:KG wr W.heap.size vK ((M.ops.take i).map fun o=>o.clob.map (idx N)) us
 may:MayG wr W.heap.size vM (mayB M N L C) (mayLen M) ms
 len:ms.length=i
theorem NumIn.keepN {ts:List TypeId} {W W':World} {r:Nat} {l:List ByteArray} (h:NumIn W r l) (k:KeepN ts W W'):NumIn W' r l:=k.2 r _ h (fun cs t fz e=>by cases e)
theorem keep_table {W wr:World} {bt:Nat} {cs:List Value} (hb:W.heap[bt]?=some (.cells cs.toArray 84 (0,0))) (k:Keep (fun k=>k=bt) W wr):KeepN [84] W wr :=
 KeepN.keep k (fun q e=>⟨cs.toArray,84,(0,0),(by rw [show q=bt from e];exact hb),List.mem_singleton.2 rfl⟩)
theorem oprs_at {w:World} {base g c:Nat} {l:List Opr} (h:w.ownsRow base 57 2 (.slice (some ⟨g,0,none⟩) l.length c) l.length (l.map fun o=>[Value.string o.cls,.string o.fix]).flatten) {k:Nat} {x:Opr} (hx:l[k]?=some x) :
  w.cell? ⟨g,k * 2,none⟩=some (.string x.cls)∧w.cell? ⟨g,k * 2+1,none⟩=some (.string x.fix):=by
 have hk:=(List.getElem?_eq_some_iff.1 hx).1
 have hl:∀ r∈(l.map fun o:Opr=>[Value.string o.cls,.string o.fix]),r.length=2:=fun r hr=>by obtain ⟨_,_,rfl⟩:=List.mem_map.1 hr;rfl
 have hi:(l.map fun o:Opr=>[Value.string o.cls,.string o.fix])[k]?=some [.string x.cls,.string x.fix]:=by rw [List.getElem?_map,hx];rfl
 have h0:=flatten_at (j:=0) hl hi rfl
 have h1:=flatten_at (j:=1) hl hi rfl
 exact ⟨by rw [h.cellAt (k * 2) (by omega)];exact h0,by rw [h.cellAt (k * 2+1) (by omega)];exact h1⟩
theorem set_self {l:List Value} {i:Nat} {v:Value} (h:l[i]?=some v):l.set i v=l:=by
 obtain ⟨hl,e⟩:=List.getElem?_eq_some_iff.1 h
 rw [← e,List.set_getElem_self]
theorem operands_any {W:World} {bt r rk lo1 lo2:Nat} {cs:List Value} {vR vC vO vA vS vL vI:Value} {M:Mach} {N:List ByteArray} {L:List Pl} {C:List (List Int)} {lsU inU:List Value}
  (hb:W.heap[bt]?=some (.cells cs.toArray 84 (0,0))) (h3:cs[3]?=some vO) (h10:cs[10]?=some (.map (some r))) (h11:cs[11]?=some (.map (some rk))) (h13:cs[13]?=some vL) (h15:cs[15]?=some vI) (h16:cs[16]?=some (.slice none 0 0)) (h17:cs[17]?=some (.slice none 0 0))
  (hm:MachIn W bt vR vC vO vA vS M) (hs:SmallM M) (hr:NumIn W r N) (hrc:NumIn W rk (M.classes.map Cls.name))
  (hL:SetsG W lo1 vL (fun i=>inL (lapRow L (L.getD i ⟨0,0,0⟩) L.length)) lsU) (hLl:lsU.length=L.length) (hI:SetsG W lo2 vI (fun i=>inL (C.getD i [])) inU) (hIl:inU.length=M.classes.length) (hK:KnownM M N) (hN:L.length=N.length) (hN2:N.length≤200) :
  Calls Tryz.prog 82 #[.pointer (some ⟨bt,0,none⟩)] W fun e w'=>e=.returned (.tuple #[])∧∃ vK vM us ms,OpsG W bt cs M N L C M.ops.length vK vM us ms w':=by
 obtain ⟨aO,kO,rfl,hO1,hO2⟩:=hm.ops.form
 obtain ⟨iK,hiK,zK0,zK1,zK2⟩:=info_parts infoK
 obtain ⟨iO,hiO,zO0,zO1,zO2⟩:=info_parts infoClOpr
 obtain ⟨iZ,hiZ,zZ0,zZ1,zZ2⟩:=info_parts infoSet
 obtain ⟨iZs,hiZs,zZs0,zZs1,zZs2⟩:=info_parts infoSets
 unfold maxLen at hO2
 have hno:=hs.nops
 have c3:=blk_cell hb 3 _ h3
 have hlt:=(Array.getElem?_eq_some_iff.1 hb).1
 have h17lt:=(List.getElem?_eq_some_iff.1 h17).1
 have h16lt:=(List.getElem?_eq_some_iff.1 h16).1
 have HS:=qh hs
 have HK:=qh hK
 have HB:=qh hb
 have HII:=qh (And.intro hLl (And.intro hIl (And.intro hN hN2)))
 have HG:Hid (∀ a b,((cs.set 17 a).set 16 b)[10]?=some (.map (some r))∧((cs.set 17 a).set 16 b)[11]?=some (.map (some rk))∧((cs.set 17 a).set 16 b)[13]?=some vL∧((cs.set 17 a).set 16 b)[15]?=some vI∧((cs.set 17 a).set 16 b)[17]?=some a∧((cs.set 17 a).set 16 b)[16]?=some b):=qh (fun a b=>by
  refine ⟨?_,?_,?_,?_,?_,?_⟩
  ·rw [List.getElem?_set_ne (by decide),List.getElem?_set_ne (by decide)];exact h10
  ·rw [List.getElem?_set_ne (by decide),List.getElem?_set_ne (by decide)];exact h11
  ·rw [List.getElem?_set_ne (by decide),List.getElem?_set_ne (by decide)];exact h13
  ·rw [List.getElem?_set_ne (by decide),List.getElem?_set_ne (by decide)];exact h15
  ·rw [List.getElem?_set_ne (by decide),List.getElem?_set_self h17lt]
  ·rw [List.getElem?_set_self (by rw [List.length_set];exact h16lt)])
 have HF:Hid (∀ wr,Keep (fun k=>k=bt) W wr→MachIn wr bt vR vC (.slice aO M.ops.length kO) vA vS M∧NumIn wr r N∧NumIn wr rk (M.classes.map Cls.name)∧SetsG wr lo1 vL (fun i=>inL (lapRow L (L.getD i ⟨0,0,0⟩) L.length)) lsU∧SetsG wr lo2 vI (fun i=>inL (C.getD i [])) inU):=qh (fun wr k=>by
  have kn:=keep_table hb k
  exact ⟨hm.same (fun q hq=>k.block q (by omega) (by omega)),hr.keepN kn,hrc.keepN kn,hL.keep kn (by decide) (by decide),hI.keep kn (by decide) (by decide)⟩)
 have start:Hid (OpsG W bt cs M N L C 0 (.slice none 0 0) (.slice none 0 0) [] [] W):=qh ⟨Keep.refl _ _,by
  rw [set_self h17,set_self h16];exact hb,KG.nil _ _,MayG.nil _ _ _ _,rfl⟩
 clear hm hs hr hrc hL hLl hI hIl hK hN hN2 hb h3 h10 h11 h13 h15 h16 h17 h16lt h17lt
 go_enter Tryz.func82,Tryz.ntmps82
 go_wp2_with fail
 go_loopw [16] (fun iv wr=>∃ i:Nat,i≤M.ops.length∧iv=.int .i64 i∧∃ vK vM us ms,Hid (OpsG W bt cs M N L C i vK vM us ms wr)) (fun iv _=>M.ops.length - (intOf iv).toNat)
 case atStart=>exact ⟨0,by omega,rfl,_,_,_,_,start⟩
 case round =>
  clear start
  obtain ⟨i,hi,rfl,vK,vM,us,ms,hin⟩:=hrel
  rename World=>w2
  by_cases hli:i<M.ops.length
  ·have hiz:(i:Int)<(M.ops.length:Int):=by omega
   obtain ⟨o,ho⟩:∃ x,M.ops[i]?=some x:=⟨_,lE hli⟩
   obtain ⟨k2,b2,hcl,hmay,hln⟩:=hin.out
   obtain ⟨m2,_,_,_,_⟩:=HF.out w2 k2
   obtain ⟨b,off,cap,uu,cc,e,_,_,_,c0,c1,c2,c3',c4,c5,hU,hCl,_⟩:=m2.ops.at ho
   cases e
   obtain ⟨ua,uc,rfl,hu1,hu2⟩:=hU.form
   obtain ⟨ka,kc,rfl,_,_⟩:=hCl.form
   obtain ⟨u0,hu0⟩:∃ x,o.uses[0]?=some x:=⟨o.uses[0]'(List.length_pos_iff.2 (HK.out.uses o (List.mem_of_getElem? ho))),lE _⟩
   obtain ⟨bu,fu,cu,eu,_,_,_,_,_⟩:=hU.at hu0
   cases eu
   have hom:=List.mem_of_getElem? ho
   have x3:Ext w2 (w2.alloc (.cells #[.string o.name,.string o.dfn.cls,.string o.dfn.fix,.slice (some ⟨bu,fu,none⟩) o.uses.length uc,.int .i64 o.tie,.slice ka o.clob.length kc] 60)):=Ext.alloc _ _
   have hcc:=cells_one w2 [.string o.name,.string o.dfn.cls,.string o.dfn.fix,.slice (some ⟨bu,fu,none⟩) o.uses.length uc,.int .i64 o.tie,.slice ka o.clob.length kc] 60
   have d5:=hcc 5 _ rfl
   have bo:=heap_alloc_new w2 (.cells #[.string o.name,.string o.dfn.cls,.string o.dfn.fix,.slice (some ⟨bu,fu,none⟩) o.uses.length uc,.int .i64 o.tie,.slice ka o.clob.length kc] 60)
   have hlC:((M.ops.take i).map fun o=>o.clob.map (idx N)).length=i:=by rw [List.length_map,List.length_take];omega
   have HCL:=qh hcl
   obtain ⟨aK,cK,eK,hK1,hK2⟩:=(Row.of_owns hcl.own).shape
   have ow:=hcl.own
   rw [hlC] at eK hK1 ow
   subst eK
   unfold maxLen at hK2
   have OW:=qh ow
   have HLC:=qh hlC
   have K2:=qh k2
   have B2:=qh b2
   have MAY:=qh hmay
   have HLN:=qh hln
   have HO:=qh ho
   have HU:=qh hU
   have HCLB:=qh hCl
   have HUSE:=qh (HK.out.uses o hom)
   have HOP:=qh (HK.out.oper o hom)
   have HNUM:Hid (∀ w,Keep (fun k=>k=bt) W w→w.cell? ⟨bt,10,none⟩=some (.map (some r))→Calls Tryz.prog 79 #[.pointer (some ⟨bt,0,none⟩),.slice ka o.clob.length kc] w fun e w'=>∃ u,e=.returned u∧w'.ownsRow w.heap.size 3 1 u o.clob.length ((o.clob.map (idx N)).map (Value.int .i64))∧Ext w w'):=qh (fun w kw hc=>numbers_any (n0:=bt) hc (HF.out w kw).2.1 (Tab.same (W':=w) HCLB.out fun k hk=>(kw.block k (by omega) (by omega)).trans (K2.out.block k (by omega) (by omega)).symm) (by have:=kw.size;omega) (HS.out.clob o hom) (HK.out.clob o hom))
   have HCLL:=qh (HS.out.clob o hom)
   have hul:=HS.out.uses o hom
   clear hu0 hcc ho k2 b2 hcl hmay hln hin m2 hom hlC ow hU hCl
   go_upto_region 3 with (fail)
   generalize w2.alloc (.cells #[.string o.name,.string o.dfn.cls,.string o.dfn.fix,.slice (some ⟨bu,fu,none⟩) o.uses.length uc,.int .i64 o.tie,.slice ka o.clob.length kc] 60)=w3 at x3 d5 bo ⊢
   generalize hbo0:w2.heap.size=b0 at d5 bo ⊢
   have HB0:=qh hbo0
   have X3:=qh x3
   have BO:=qh bo
   have b3:=x3.block B2.out
   have c17:=blk_cell b3 17 _ (HG.out _ _).2.2.2.2.1
   have c10:=blk_cell b3 10 _ (HG.out _ _).1
   have B3:=qh b3
   clear x3 bo b3 hbo0
   rename_i K1 hK1
   have hK1:=qh hK1
   refine wp_region_M (fun w'=>Ext w3 w') 10 (by kernel_rfl) (Ext.drew _) (fun hS=>?_)
   refine' tw 0 ?_ ?_;rotate_left;·intros;go_simp;try rfl
   refine' tk 1 hS ?_ ?_;rotate_left;·intros;go_simp;try rfl
   refine' tk 2 hS ?_ ?_;rotate_left;·intros;go_simp;try rfl
   try simp only [tD]
   refine' tk 3 hS ?_ ?_;rotate_left;·intros;go_simp;try rfl
   refine' tk 4 hS ?_ ?_;rotate_left;·intro w hSw;have z0:=xc hSw c17;go_simp;try rfl
   refine' tk 5 hS ?_ ?_;rotate_left;·intros;go_simp;try rfl
   try simp only [tD]
   refine' tk 6 hS ?_ ?_;rotate_left;·intros;go_simp;try rfl
   refine' tk 7 hS ?_ ?_;rotate_left;·intro w hSw;have z1:=xc hSw d5;go_simp;try rfl
   try simp only [tD]
   generalize w3.drew=w4 at hS ⊢
   refine rc 8 fun K hK=>?_
   go_simp
   refine ((HNUM.out w4 (K2.out.trans (Keep.of_ext (X3.out.trans hS):Keep (fun k=>k=bt) w2 w4) (fun _ _ h=>h)) (hS.cell c10))).mono ?_
   rintro e w5 ⟨u5,rfl,ho5,hx5⟩
   obtain ⟨a5,k5,e5,_,_⟩:=(Row.of_owns ho5).shape
   subst e5
   have hS:=Ext.trans hS hx5
   have HO5:=qh ho5
   clear ho5
   refine hK.out _ _ hS ?_
   try simp only [tD]
   clear hK K
   refine rc 9 fun K hK=>?_
   go_simp
   have x7:Ext w3 (w5.alloc (.cells #[.slice a5 o.clob.length k5] 36)):=hS.trans (Ext.alloc _ _)
   have hsz5:=hS.size
   refine hK.out _ _ x7 ?_
   try simp only [tD]
   clear hK K
   refine rl 10 fun K hK=>?_
   have hszW:=K2.out.size
   have hsz3:=X3.out.size
   refine wp_append_lies _ _ _ _ rfl W.heap.size 36 iK _ 1 24 Tryz.underlying46 hiK zK0 zK1 zK2 rfl (by omega) (.slice aK i cK) i us rfl (owns_ext OW.out (X3.out.trans x7)) ⟨w5.heap.size,0,none⟩ 1 1 [.slice a5 o.clob.length k5] rfl rfl (World.news_of_block (cs:=#[.slice a5 o.clob.length k5]) (t:=36) (fr:=(0,0)) (heap_alloc_new w5 _)) (by simp [Value.oneCell']) (by omega) (by unfold maxLen;omega) (by omega) (by simp;omega) _ rfl ?_
   intro g8 c8 w8 hown8 hgrow8 hat8 hlt8
   have k8:Keep (fun k=>(Value.slice aK i cK).ownBlock=some k) w3 w8:=(Keep.of_ext x7:Keep (fun k=>(Value.slice aK i cK).ownBlock=some k) w3 _).trans (Keep.grown hgrow8 (fun _ e=>e)) (fun _ _ h=>h)
   have b8:=(k8.block bt (Array.getElem?_eq_some_iff.1 B3.out).1 (owns_ne (owns_ext OW.out X3.out) B3.out (by decide))).trans B3.out
   have g17:=blk_cell b8 17 _ (HG.out _ _).2.2.2.2.1
   have gf17:=blk_free b8 17
   have hlt8':=(Array.getElem?_eq_some_iff.1 b8).1
   have GR:=qh hgrow8
   have OW8:=qh hown8
   have K8:=qh k8
   have B8:=qh b8
   have X7:=qh x7
   clear hown8 hgrow8 hat8 k8 b8 x7
   refine hK.out _ _ ?_
   try simp only [tD]
   clear hK K
   refine' tw 11 ?_ ?_;rotate_left;·intros;go_simp;try rfl
   try simp only [tD]
   refine' tw 12 ?_ ?_;rotate_left;·intros;go_simp;try rfl
   try simp only [tD]
   refine rl 13 fun K hK=>?_
   go_simp
   refine hK.out _ _ ?_
   try simp only [tD]
   clear hK K
   refine wpAnyM_done (by kernel_rfl) ?_ _
   refine hK1.out _ _ ?_
   have kn8:KeepN [36] w3 w8:=(KeepN.ext X7.out).trans (KeepN.grown (owns_ext OW.out (X3.out.trans X7.out)) GR.out (by decide))
   have SN:=qh ((HCL.out.ext X3.out).snoc X7.out GR.out (c:=o.clob.map (idx N)) (u:=.slice a5 o.clob.length k5) (by rw [HLC.out];exact OW8.out) (by rw [List.length_map];exact (owns_base HO5.out (Nat.zero_le _)).alloc _))
   have hTK:(M.ops.take (i+1)).map (fun o=>o.clob.map (idx N))=(M.ops.take i).map (fun o=>o.clob.map (idx N)) ++ [o.clob.map (idx N)]:=by rw [List.take_add_one,HO.out,List.map_append];rfl
   have HTK:=qh hTK
   clear hTK
   generalize hw9:w8.setCell ⟨bt,17,none⟩ (.slice (some ⟨g8,0,none⟩) (i+1) c8)=w9
   have kns:KeepN [84] w8 w9:=by rw [← hw9];exact KeepN.set B8.out _ (by decide)
   have K9:Hid (Keep (fun k=>k=bt) W w9):=qh (((K2.out.trans (Keep.of_ext X3.out:Keep (fun k=>k=bt) w2 w3) (fun _ _ h=>h)).trans K8.out (fun q hq e=>by have:=((owns_ext OW.out X3.out).lt q e).1;omega)).trans (by rw [← hw9];exact Keep.setCell (fun k=>k=bt) w8 ⟨bt,17,none⟩ _ rfl) (fun _ _ h=>h))
   have B9:Hid (w9.heap[bt]?=some (.cells ((cs.set 17 (.slice (some ⟨g8,0,none⟩) (i+1) c8)).set 16 vM).toArray 84 (0,0))):=qh (by
    have:=heap_set_cells B8.out 17 (.slice (some ⟨g8,0,none⟩) (i+1) c8)
    rw [← hw9,this,List.setIfInBounds_toArray,List.set_comm _ _ (by decide),List.set_set])
   have kn9:KeepN [36,84] w3 w9:=(kn8.mono (fun t h=>by simp at h ⊢;exact Or.inl h)).trans (kns.mono (fun t h=>by simp at h ⊢;exact Or.inr h))
   have CL9:Hid (KG w9 W.heap.size (.slice (some ⟨g8,0,none⟩) (i+1) c8) ((M.ops.take (i+1)).map fun o=>o.clob.map (idx N)) (us ++ [.slice a5 o.clob.length k5])):=qh (by rw [HTK.out];exact SN.out.keep kns (by decide) (by decide))
   have MY9:Hid (MayG w9 W.heap.size vM (mayB M N L C) (mayLen M) ms):=qh ((MAY.out.ext X3.out).keep kn9 (by decide) (by decide) (by decide))
   have bo9:=kn9.2 b0 _ BO.out (fun cs t fz e=>by cases e;decide)
   have e1:=blk_cell bo9 1 _ rfl
   have e2:=blk_cell bo9 2 _ rfl
   have e3:=blk_cell bo9 3 _ rfl
   have BO9:=qh bo9
   have hU9:Tab w9 bt 2 (.slice (some ⟨bu,fu,none⟩) o.uses.length uc) (o.uses.map fun o=>[.string o.cls,.string o.fix]):=Tab.same HU.out fun k hk=>(K9.out.block k (by omega) (by omega)).trans (K2.out.block k (by omega) (by omega)).symm
   have hnl:((o.uses.map fun o:Opr=>[Value.string o.cls,.string o.fix]).flatten).length=o.uses.length * 2:=by have:=hU9.row.1;rw [List.length_map] at this;exact this
   have hnews:∀ (j:Nat) (u:Value),((o.uses.map fun o:Opr=>[Value.string o.cls,.string o.fix]).flatten)[j]?=some u→w9.cell? ((⟨bu,fu,none⟩:Addr).add j)=some u:=by
    rcases hU9.row.2 with ⟨e,_⟩ | ⟨a,cap,e,_,_,hc⟩
    ·cases e
    ·injection e with e1 e2 e3
     injection e1 with e1
     subst e1
     exact hc
   have hone:∀ u∈((o.uses.map fun o:Opr=>[Value.string o.cls,.string o.fix]).flatten),u.oneCell'=true:=fun u hu=>by
    obtain ⟨l,hl,hu⟩:=List.mem_flatten.1 hu
    obtain ⟨v,_,rfl⟩:=List.mem_map.1 hl
    simp at hu
    rcases hu with rfl | rfl <;> rfl
   have NEW:=qh (And.intro hnl (And.intro hnews hone))
   have hup:=List.length_pos_iff.2 HUSE.out
   have e3a:=xc (Ext.alloc w9 (.cells #[.string o.dfn.cls,.string o.dfn.fix] 57)) e3
   have hlt9:=(Array.getElem?_eq_some_iff.1 B9.out).1
   clear kn8 SN kns kn9 bo9 hU9 hnl hnews hone HCL OW MAY GR OW8 K8 B8 X7 c17 c10 d5 B3 g17 gf17 hw9 hlt8 hlt8' hS HO5 X3 BO
   go_wp2_with (at_builtin;go_loud (refine wpList_append_lies _ rfl _ _ 58 rfl w9.heap.size 57 iO _ 2 32 Tryz.underlying58 hiO zO0 zO1 zO2 rfl (by omega) (.slice (some ⟨w9.heap.size,0,none⟩) 1 1) 1 [.string o.dfn.cls,.string o.dfn.fix] rfl (World.ownsRow_lit w9 #[.string o.dfn.cls,.string o.dfn.fix] 1 (Nat.le_refl _) (by unfold maxLen;omega) rfl) ⟨bu,fu,none⟩ o.uses.length uc _ rfl NEW.out.1 (fun j u hu=>xc (Ext.alloc w9 _) (NEW.out.2.1 j u hu)) NEW.out.2.2 hup (by unfold maxLen;omega) (by omega) (by simp) _ rfl ?_;intro g10 c10 w10 hown10 hgrow10 hat10 hlt10))
   have X10:Hid (Ext w9 w10):=qh (Ext.grown (Ext.alloc w9 _) hgrow10 (fun q e=>by cases e;exact Nat.le_refl _))
   have OWN10:Hid (w10.ownsRow w9.heap.size 57 2 (.slice (some ⟨g10,0,none⟩) (o.dfn :: o.uses).length c10) (o.dfn :: o.uses).length ((o.dfn :: o.uses).map fun o=>[.string o.cls,.string o.fix]).flatten):=qh (by rw [List.length_cons,Nat.add_comm];exact hown10)
   clear hown10 hgrow10 hat10
   clear e1 e2 e3 e3a
   go_loopw [4,40] (fun lv kv wr=>∃ k:Nat,k≤o.uses.length+1∧kv=.int .i64 k∧∃ a4 c4 us4,lv=.slice a4 k c4∧Hid (Ext w10 wr∧SetsG wr w10.heap.size (.slice a4 k c4) (operB2 M N L C o) us4∧us4.length=k)) (fun _ kv _=>o.uses.length+1 - (intOf kv).toNat)
   case atStart=>exact ⟨0,by omega,rfl,none,0,[],rfl,qh ⟨Ext.refl _,SetsG.nil _ _ _,rfl⟩⟩
   case round =>
    obtain ⟨k,hk,rfl,a4,c4,us4,rfl,hin4⟩:=hrel
    rename World=>w11
    by_cases hlk:k<o.uses.length+1
    ·have hkz:(k:Int)<1+(o.uses.length:Int):=by omega
     have hkz2:(k:Int)<(o.uses.length:Int)+1:=by omega
     obtain ⟨x,hx⟩:∃ x,(o.dfn :: o.uses)[k]?=some x:=⟨_,lE (by rw [List.length_cons];exact hlk)⟩
     obtain ⟨x11,sg4,hl4⟩:=hin4.out
     obtain ⟨s0,s1⟩:=oprs_at (owns_ext OWN10.out x11) hx
     obtain ⟨hq0,hfx⟩:=HOP.out x (List.mem_of_getElem? hx)
     obtain ⟨q,cq,hq,hcq⟩:=cls_at hq0
     have hql:q<inU.length:=by rw [HII.out.2.1];exact (List.getElem?_eq_some_iff.1 hcq).1
     obtain ⟨uq,huq⟩:∃ u,inU[q]?=some u:=⟨_,lE hql⟩
     have X11:=qh x11
     have kw11:Keep (fun k=>k=bt) W w11:=K9.out.trans (Keep.of_ext (X10.out.trans x11):Keep (fun k=>k=bt) w9 w11) (fun _ _ h=>h)
     obtain ⟨m11,nr11,nc11,sl11,si11⟩:=HF.out w11 kw11
     obtain ⟨gI,cI,eI,_,_⟩:=si11.own.form (by omega)
     subst eI
     have hset0:=si11.sets q uq huq
     obtain ⟨ai,ni,ci,ei⟩:=hset0.form
     subst ei
     have x12:Ext w11 (w11.alloc (.cells #[.string x.cls,.string x.fix] 57)):=Ext.alloc _ _
     have hcc:=cells_one w11 [.string x.cls,.string x.fix] 57
     have t0:=hcc 0 _ rfl
     have t1:=hcc 1 _ rfl
     have HLK:Hid (∀ w,Ext w11 w→(Instr.lookup 80 (.map (some rk)) (.string x.cls) false).run Tryz.prog w=.ok (.int .i64 (q:Int)) w):=qh (fun w xw=>by
      have:=(nc11.ext xw).look (s:=x.cls) (by rw [clsIx_idx];exact hq0) false
      rw [if_neg (by decide),clsIx_idx,hq] at this
      exact this)
     have ci0:w11.cell? ⟨gI,q,none⟩=some (.slice ai ni ci):=by
      rw [si11.own.cellAt q (by omega)];exact huq
     have b11:=(X10.out.trans x11).block B9.out
     have c15:=blk_cell b11 15 _ (HG.out _ _).2.2.2.1
     have c11:=blk_cell b11 11 _ (HG.out _ _).2.1
     have SET0:Hid (SetIn w11 (.slice ai ni ci) (inL (C.getD q []))):=qh hset0
     have HX:=qh hx
     have HQ:=qh (And.intro hq hfx)
     have SG4:=qh (And.intro sg4 hl4)
     have NR11:=qh nr11
     have SL11:=qh sl11
     have KW11:=qh kw11
     have B11:=qh b11
     have hem:=empty_beq x.fix
     have e5:=xc (X10.out.trans x11) (blk_cell BO9.out 5 _ rfl)
     clear hin4 hcc hset0 m11 nr11 nc11 sl11 si11 kw11 b11 hx hq hfx hq0 hcq huq sg4 hl4 x11
     go_upto_region 8 with (fail)
     generalize w11.alloc (.cells #[.string x.cls,.string x.fix] 57)=w12 at x12 t0 t1 ⊢
     generalize hb6e:w11.heap.size=b6 at t0 t1 ⊢
     have HB6:=qh hb6e
     have c15:=xc x12 c15
     have c11:=xc x12 c11
     have ci0:=xc x12 ci0
     have e5:=xc x12 e5
     have X12:=qh x12
     clear x12 hb6e
     rename_i K1 hK1
     have hK1:=qh hK1
     refine wp_region_M (fun w'=>Ext w12 w') 14 (by kernel_rfl) (Ext.drew _) (fun hS=>?_)
     refine' tk 0 hS ?_ ?_;rotate_left;·intros;go_simp;try rfl
     refine' tk 1 hS ?_ ?_;rotate_left;·intros;go_simp;try rfl
     refine' tk 2 hS ?_ ?_;rotate_left;·intros;go_simp;try rfl
     try simp only [tD]
     refine' tk 3 hS ?_ ?_;rotate_left;·intro w hSw;have z0:=xc hSw c15;go_simp;try rfl
     refine' tk 4 hS ?_ ?_;rotate_left;·intros;go_simp;try rfl
     refine' tk 5 hS ?_ ?_;rotate_left;·intros;go_simp;try rfl
     try simp only [tD]
     refine' tk 6 hS ?_ ?_;rotate_left;·intros;go_simp;try rfl
     refine' tk 7 hS ?_ ?_;rotate_left;·intro w hSw;have z1:=xc hSw c11;go_simp;try rfl
     refine' tk 8 hS ?_ ?_;rotate_left;·intros;go_simp;try rfl
     try simp only [tD]
     refine' tk 9 hS ?_ ?_;rotate_left;·intro w hSw;have z2:=xc hSw t0;go_simp;try rfl
     refine' tk 10 hS ?_ ?_;rotate_left;·intro w hSw;have z4:=HLK.out _ (X12.out.trans hSw);go_simp;try rfl
     refine' tk 11 hS ?_ ?_;rotate_left;·intros;go_simp;try rfl
     try simp only [tD]
     refine' tk 12 hS ?_ ?_;rotate_left;·intro w hSw;have z3:=xc hSw ci0;go_simp;try rfl
     try simp only [tD]
     generalize w12.drew=w13 at hS ⊢
     refine rc 13 fun K hK=>?_
     go_simp
     have x14:Ext w12 (w13.alloc (.cells #[.slice none 0 0] 78)):=hS.trans (Ext.alloc _ _)
     refine hK.out _ _ x14 ?_
     try simp only [tD]
     clear hK K
     refine rl 14 fun K hK=>?_
     go_simp
     refine hK.out _ _ ?_
     try simp only [tD]
     clear hK K
     refine wpAnyM_done (by kernel_rfl) ?_ _
     refine hK1.out _ _ ?_
     have bb7:=heap_alloc_new w13 (.cells #[.slice ai ni ci] 78)
     have x14':Ext w12 (w13.alloc (.cells #[.slice ai ni ci] 78)):=hS.trans (Ext.alloc _ _)
     have hsz13:=hS.size
     clear x14 hS
     generalize w13.alloc (.cells #[.slice ai ni ci] 78)=w14 at bb7 x14' ⊢
     generalize w13.heap.size=b7 at bb7 hsz13 ⊢
     have X14:=qh x14'
     have BB7:=qh bb7
     have HCH:Hid ((x.fix == ⟨#[]⟩)=true→choB M N C x=inL (C.getD q [])):=qh (fun h=>by funext n;unfold choB;rw [if_pos h,HQ.out.1,Int.toNat_natCast])
     have HCI:Hid ((x.fix == ⟨#[]⟩)=false→choB M N C x=inL [idx N x.fix]):=qh (fun h=>by funext n;unfold choB;rw [if_neg (by rw [h];decide)])
     have b12:=(X12.out.block B11.out)
     have c10:=blk_cell b12 10 _ (HG.out _ _).1
     have t1:=X14.out.cell t1
     have z10:=X14.out.cell c10
     have hb7l:=(Array.getElem?_eq_some_iff.1 bb7).1
     clear b12 bb7 x14'
     go_upto_if 60 with (fail)
     go_cut [] from 58 to 69 (fun wx=>∃ v7,Keep (fun q=>q=b7) w14 wx∧wx.heap[b7]?=some (.cells #[v7] 78 (0,0))∧SetIn wx v7 (choB M N C x))
     case first =>
      cases hf:(x.fix == ⟨#[]⟩) with
      | true =>
       rw [hf] at hem
       go_wp2_with fail
       go_meet
       case rel=>exact ⟨_,Keep.refl _ _,BB7.out,by rw [HCH.out hf];exact SET0.out.ext (X12.out.trans X14.out)⟩
      | false =>
       rw [hf] at hem
       have hfn:0≤idx N x.fix:=by
        rcases HQ.out.2 with e | e
        ·rw [e] at hf;exact absurd hf (by decide)
        ·exact e
       have HLF:Hid (∀ w,Ext w11 w→(Instr.lookup 80 (.map (some r)) (.string x.fix) false).run Tryz.prog w=.ok (.int .i64 (idx N x.fix)) w):=qh (fun w xw=>by
        have:=(NR11.out.ext xw).look (s:=x.fix) hfn false
        rw [if_neg (by decide)] at this
        exact this)
       have HFIT:Hid (fits64 (idx N x.fix)):=qh (by have:=idx_lt hfn;have:=HII.out.2.2.2;unfold fits64;omega)
       have HFF:=qh hf
       clear hfn hf
       go_upto_region 10 with (fail)
       refine wp_region_M (fun w'=>Ext w14 w') 7 (by kernel_rfl) (Ext.drew _) (fun hS=>?_)
       refine' tk 0 hS ?_ ?_;rotate_left;·intros;go_simp;try rfl
       refine' tk 1 hS ?_ ?_;rotate_left;·intros;go_simp;try rfl
       refine' tk 2 hS ?_ ?_;rotate_left;·intros;go_simp;try rfl
       try simp only [tD]
       refine' tk 3 hS ?_ ?_;rotate_left;·intro w hSw;have z0:=xc hSw z10;go_simp;try rfl
       refine' tk 4 hS ?_ ?_;rotate_left;·intros;go_simp;try rfl
       refine' tk 5 hS ?_ ?_;rotate_left;·intro w hSw;have z1:=xc hSw t1;go_simp;try rfl
       try simp only [tD]
       refine' tk 6 hS ?_ ?_;rotate_left;·intro w hSw;have z2:=HLF.out _ ((X12.out.trans X14.out).trans hSw);go_simp;try rfl
       try simp only [tD]
       generalize w14.drew=w15 at hS ⊢
       refine rl 7 fun K hK=>?_
       go_simp
       refine hK.out _ _ ?_
       try simp only [tD]
       clear hK K
       refine rl 8 fun K hK=>?_
       go_simp
       refine ((of_set (l:=[idx N x.fix]) (v:=.slice (some ⟨w15.heap.size,0,none⟩) 1 1) (Row.of_owns (World.ownsRow_lit (base:=0) w15 #[.int .i64 (idx N x.fix)] 1 (Nat.zero_le _) (by unfold maxLen;omega) rfl)) (fun n hn=>by rw [List.mem_singleton.1 hn];exact HFIT.out))).mono ?_
       rintro e w16 ⟨v16,rfl,hset16,hx16⟩
       obtain ⟨a16,n16,k16,e16⟩:=hset16.form
       subst e16
       have x16:Ext w14 w16:=(hS.trans (Ext.alloc _ _)).trans hx16
       have b16:=x16.block BB7.out
       have g16:=blk_cell b16 0 _ rfl
       have gf16:=blk_free b16 0
       have gl16:=(Array.getElem?_eq_some_iff.1 b16).1
       have X16:=qh x16
       have B16:=qh b16
       have S16:=qh hset16
       clear hx16 x16 b16 hset16
       refine hK.out _ _ ?_
       try simp only [tD]
       clear hK K
       refine rl 9 fun K hK=>?_
       go_simp
       refine hK.out _ _ ?_
       try simp only [tD]
       clear hK K
       refine wpAnyM_done (by kernel_rfl) ?_ _
       go_wp2_with fail
       go_meet
       case rel =>
        refine ⟨.slice a16 n16 k16,(Keep.of_ext X16.out:Keep (fun q=>q=b7) w14 w16).trans (Keep.setCell (fun q=>q=b7) w16 ⟨b7,0,none⟩ _ rfl) (fun _ _ h=>h),?_,?_⟩
        ·have:=heap_set_cells B16.out 0 (.slice a16 n16 k16)
         rw [this];rfl
        ·rw [HCI.out HFF.out]
         exact S16.out.keep (KeepN.set (i:=0) B16.out (.slice a16 n16 k16) (ts:=[78]) (by decide)) (by decide)
     case rest =>
     obtain ⟨v7,k15,b15,set15⟩:=hcut
     rename World=>w15
     obtain ⟨a7,n7,p7,e7⟩:=set15.form
     subst e7
     have E15:Hid (Ext w12 w15):=qh (X14.out.keep k15 (fun q e=>by omega))
     have e5:=E15.out.cell e5
     have c10':=E15.out.cell c10
     have KW15:Hid (Keep (fun k=>k=bt) W w15):=qh (KW11.out.trans (Keep.of_ext (X12.out.trans E15.out):Keep (fun k=>k=bt) w11 w15) (fun _ _ h=>h))
     have B15:=qh b15
     have S15:=qh set15
     clear k15 b15 set15 z10 t0 t1 c15 c11 ci0 hem
     go_wp2_with (go_at_call 79;refine (HNUM.out w15 KW15.out c10').mono ?_;rintro e w16 ⟨u6,rfl,ho6,hx6⟩;obtain ⟨a6,k6,e6,_,_⟩:=(Row.of_owns ho6).shape;subst e6;have HO6:=qh ho6;have X16:=qh hx6;clear ho6 hx6)
     have B16:=qh (X16.out.block B15.out)
     have S16:=qh (S15.out.ext X16.out)
     have hz16:=X16.out.size
     go_loopw [75] (fun jv wr=>∃ j:Nat,j≤o.clob.length∧jv=.int .i64 j∧∃ v8,Hid (Keep (fun q=>q=b7) w16 wr∧wr.heap[b7]?=some (.cells #[v8] 78 (0,0))∧SetIn wr v8 (if k=0 then subB N L (choB M N C x) (o.clob.take j) else choB M N C x))) (fun jv _=>o.clob.length - (intOf jv).toNat)
     case atStart=>exact ⟨0,by omega,rfl,_,qh ⟨Keep.refl _ _,B16.out,by
      have e:(if k=0 then subB N L (choB M N C x) (o.clob.take 0) else choB M N C x)=choB M N C x:=by
       split
       ·exact subB_nil _ _ _
       ·rfl
      rw [e];exact S16.out⟩⟩
     case round =>
      obtain ⟨j,hj,rfl,v8,hin5⟩:=hrel
      rename World=>w17
      have E17:Hid (Ext w12 w17):=qh ((E15.out.trans X16.out).keep hin5.out.1 (fun q e=>by omega))
      obtain ⟨a8,n8,p8,e8⟩:=hin5.out.2.2.form
      subst e8
      have f7:=blk_cell hin5.out.2.1 0 _ rfl
      have hcl1:=HCLL.out
      by_cases hlj:j<o.clob.length
      ·have hjz:(j:Int)<(o.clob.length:Int):=by omega
       obtain ⟨s,hs⟩:∃ x,o.clob[j]?=some x:=⟨_,lE hlj⟩
       have hsn:0≤idx N s:=HK.out.clob o (List.mem_of_getElem? HO.out) s (List.mem_of_getElem? hs)
       obtain ⟨p,hp⟩:∃ p:Nat,idx N s=p:=⟨(idx N s).toNat,by omega⟩
       have hpl:p<lsU.length:=by have:=idx_lt hsn;have:=HII.out.1;have:=HII.out.2.2.1;omega
       have hkn:KeepN [78] w16 w17:=KeepN.keep hin5.out.1 (fun q e=>⟨#[.slice a7 n7 p7],78,(0,0),(by rw [show q=b7 from e];exact B16.out),List.mem_singleton.2 rfl⟩)
       obtain ⟨g6,p6,e6,_,_⟩:=HO6.out.form (by omega)
       cases e6
       have cj:w17.cell? ⟨g6,j,none⟩=some (.int .i64 (p:Int)):=by
        rw [(owns_keepN HO6.out hkn (by decide)).cellAt j (by omega),List.getElem?_map,List.getElem?_map,hs]
        simp [hp]
       have HSN:Hid (idx N s=(p:Int)∧o.clob[j]?=some s):=qh ⟨hp,hs⟩
       have htk:o.clob.take (j+1)=o.clob.take j ++ [s]:=by rw [List.take_add_one,hs];rfl
       have HTK2:=qh htk
       clear hs hsn hp htk hkn
       by_cases hk0:k=0
       ·have hk0z:((k:Int) == 0)=true:=by simp [hk0]
        obtain ⟨gL,cL,eL,_,_⟩:=SL11.out.own.form (by omega)
        subst eL
        obtain ⟨up,hup2⟩:∃ u,lsU[p]?=some u:=⟨_,lE hpl⟩
        have E17':Ext w11 w17:=X12.out.trans E17.out
        have hset1:=(SL11.out.ext E17').sets p up hup2
        obtain ⟨al,nl,pl,el⟩:=hset1.form
        subst el
        have cp:w17.cell? ⟨gL,p,none⟩=some (.slice al nl pl):=by
         rw [(SL11.out.ext E17').own.cellAt p (by omega)];exact hup2
        have c13:=blk_cell (E17'.block B11.out) 13 _ (HG.out _ _).2.2.1
        have hset17:SetIn w17 (.slice a8 n8 p8) (subB N L (choB M N C x) (o.clob.take j)):=by
         have:=hin5.out.2.2
         rw [if_pos hk0] at this
         exact this
        have HSUB:=qh (fun (w:World) (xw:Ext w17 w)=>sub_set (hset17.ext xw) (hset1.ext xw))
        have hpz:(p:Int)<(lsU.length:Int):=by omega
        clear hset1 hset17 hup2 E17'
        go_upto_region 15 with (fail)
        refine wp_region_M (fun w'=>Ext w17 w') 8 (by kernel_rfl) (Ext.drew _) (fun hS=>?_)
        refine' tk 0 hS ?_ ?_;rotate_left;·intro w hSw;have z0:=xc hSw f7;go_simp;try rfl
        refine' tk 1 hS ?_ ?_;rotate_left;·intros;go_simp;try rfl
        refine' tk 2 hS ?_ ?_;rotate_left;·intros;go_simp;try rfl
        try simp only [tD]
        refine' tk 3 hS ?_ ?_;rotate_left;·intros;go_simp;try rfl
        refine' tk 4 hS ?_ ?_;rotate_left;·intro w hSw;have z1:=xc hSw c13;go_simp;try rfl
        refine' tk 5 hS ?_ ?_;rotate_left;·intros;go_simp;try rfl
        try simp only [tD]
        refine' tk 6 hS ?_ ?_;rotate_left;·intros;go_simp;try rfl
        refine' tk 7 hS ?_ ?_;rotate_left;·intro w hSw;have z2:=xc hSw cp;go_simp;try rfl
        try simp only [tD]
        generalize w17.drew=w18 at hS ⊢
        refine rl 8 fun K hK=>?_
        go_simp
        refine ((HSUB.out w18 hS)).mono ?_
        rintro e w19 ⟨v19,rfl,hset19,hx19⟩
        obtain ⟨a19,n19,k19,e19⟩:=hset19.form
        subst e19
        have x19:Ext w17 w19:=hS.trans hx19
        have b19:=x19.block hin5.out.2.1
        have g19:=blk_cell b19 0 _ rfl
        have gf19:=blk_free b19 0
        have gl19:=(Array.getElem?_eq_some_iff.1 b19).1
        have X19:=qh x19
        have B19:=qh b19
        have S19:=qh hset19
        clear hx19 x19 b19 hset19
        refine hK.out _ _ ?_
        try simp only [tD]
        clear hK K
        refine rl 9 fun K hK=>?_
        go_simp
        refine hK.out _ _ ?_
        try simp only [tD]
        clear hK K
        refine wpAnyM_done (by kernel_rfl) ?_ _
        go_wp2_with fail
        go_roundw
        case rel =>
         refine ⟨j+1,by omega,by go_num,.slice a19 n19 k19,qh ⟨(hin5.out.1.trans (Keep.of_ext X19.out:Keep (fun q=>q=b7) w17 w19) (fun _ _ h=>h)).trans (Keep.setCell (fun q=>q=b7) w19 ⟨b7,0,none⟩ _ rfl) (fun _ _ h=>h),?_,?_⟩⟩
         ·have:=heap_set_cells B19.out 0 (.slice a19 n19 k19)
          first
           | (rw [this];rfl)
           | exact (Array.getElem?_eq_some_iff.1 (this.trans rfl)).2
         ·have:=S19.out.keep (KeepN.set (i:=0) B19.out (.slice a19 n19 k19) (ts:=[78]) (by decide)) (by decide)
          try rw [if_pos hk0]
          rw [HTK2.out,subB_snoc,HSN.out.1]
          have e:plAt L (p:Int)=L.getD p ⟨0,0,0⟩:=by rw [plAt_some (by have:=HII.out.1;omega),List.getD_eq_getElem?_getD,lE (by have:=HII.out.1;omega)];rfl
          rw [e]
          exact this
        case measure=>simp [intOf];omega
       ·have hk0z:((k:Int) == 0)=false:=by simp [hk0]
        go_wp2_with fail
        go_roundw
        case rel=>exact ⟨j+1,by omega,by go_num,_,qh ⟨hin5.out.1,hin5.out.2.1,by have:=hin5.out.2.2;rw [if_neg hk0] at this;(try rw [if_neg hk0]);exact this⟩⟩
        case measure=>simp [intOf];omega
      ·have hjz:¬ (j:Int)<(o.clob.length:Int):=by omega
       have hje:j=o.clob.length:=by omega
       have HJ:=qh hje
       clear hje
       have HFE:Hid (operB2 M N L C o k=if k=0 then subB N L (choB M N C x) o.clob else choB M N C x):=qh (by
        funext n
        unfold operB2
        rw [HX.out]
        dsimp only
        split <;> rfl)
       have XA:=qh (X12.out.trans E17.out)
       have OWN4:Hid (w17.ownsRow w10.heap.size 78 1 (.slice a4 k c4) k us4):=qh (by
        have:=owns_ext SG4.out.1.own XA.out
        rw [SG4.out.2] at this
        exact this)
       have hz11:=X11.out.size
       have hzA:=XA.out.size
       have HIN5:=qh hin5.out.2.2
       clear hin5
       go_wp2_with (at_builtin;go_loud (refine wpList_append_lies _ rfl _ _ 81 rfl w10.heap.size 78 iZ _ 1 24 Tryz.underlying81 hiZ zZ0 zZ1 zZ2 rfl (by omega) (.slice a4 k c4) k us4 rfl (OWN4.out.alloc _) ⟨w17.heap.size,0,none⟩ 1 1 [.slice a8 n8 p8] rfl rfl (World.news_of_block (cs:=#[.slice a8 n8 p8]) (t:=78) (fr:=(0,0)) (heap_alloc_new w17 _)) (by simp [Value.oneCell']) (by omega) (by unfold maxLen;omega) (by omega) (by simp;omega) _ rfl ?_;intro g20 c20 w20 hown20 hgrow20 hat20 hlt20))
       have X20:Hid (Ext w10 w20):=qh (Ext.grown ((X11.out.trans XA.out).trans (Ext.alloc w17 _)) hgrow20 (fun q e=>(OWN4.out.lt q e).1))
       have S20:=qh (SG4.out.1.snoc (XA.out.trans (Ext.alloc w17 _)) hgrow20 (by rw [SG4.out.2];exact hown20) (by
        have:=HIN5.out.ext (Ext.alloc w17 (.cells #[.slice a8 n8 p8] 78))
        rw [SG4.out.2,HFE.out]
        rw [HJ.out,List.take_length] at this
        exact this))
       clear hown20 hgrow20 hat20
       go_roundw
       case rel=>exact ⟨k+1,by omega,by go_num,some ⟨g20,0,none⟩,c20,_,rfl,qh ⟨X20.out,S20.out,by rw [List.length_append,SG4.out.2];rfl⟩⟩
       case measure=>simp [intOf];omega
    ·have hkz:¬ (k:Int)<1+(o.uses.length:Int):=by omega
     have hke:k=o.uses.length+1:=by omega
     have HKE:=qh hke
     clear hke
     obtain ⟨x11,sg4,hl4⟩:=hin4.out
     obtain ⟨aM,cM,eM,_,hM2⟩:=(Row.of_owns MY9.out.own).shape
     rw [HLN.out] at eM
     subst eM
     have OWM:Hid (w11.ownsRow W.heap.size 81 1 (.slice aM i cM) i ms):=qh (by
      have:=owns_ext MY9.out.own (X10.out.trans x11)
      rw [HLN.out] at this
      exact this)
     have b11:=(X10.out.trans x11).block B9.out
     have c16:=blk_cell b11 16 _ (HG.out _ _).2.2.2.2.2
     have c16a:=xc (Ext.alloc w11 (.cells #[.slice a4 k c4] 81)) c16
     have X11:=qh x11
     have SG4:=qh (And.intro sg4 hl4)
     have B11:=qh b11
     have hz10:=X10.out.size
     have hz11:=x11.size
     have hz9:=K9.out.size
     clear hin4 x11 sg4 hl4 b11
     go_wp2_with (at_builtin;go_loud (refine wpList_append_lies _ rfl _ _ 82 rfl W.heap.size 81 iZs _ 1 24 Tryz.underlying82 hiZs zZs0 zZs1 zZs2 rfl (by omega) (.slice aM i cM) i ms rfl (OWM.out.alloc _) ⟨w11.heap.size,0,none⟩ 1 1 [.slice a4 k c4] rfl rfl (World.news_of_block (cs:=#[.slice a4 k c4]) (t:=81) (fr:=(0,0)) (heap_alloc_new w11 _)) (by simp [Value.oneCell']) (by omega) (by unfold maxLen;omega) (by omega) (by simp;omega) _ rfl ?_;intro g21 c21 w21 hown21 hgrow21 hat21 hlt21;have k21:Keep (fun q=>(Value.slice aM i cM).ownBlock=some q) w11 w21:=(Keep.of_ext (Ext.alloc w11 _):Keep (fun q=>(Value.slice aM i cM).ownBlock=some q) w11 _).trans (Keep.grown hgrow21 (fun _ e=>e)) (fun _ _ h=>h);have b21:=(k21.block bt (Array.getElem?_eq_some_iff.1 B11.out).1 (owns_ne OWM.out B11.out (by decide))).trans B11.out;have g16:=blk_cell b21 16 _ (HG.out _ _).2.2.2.2.2;have gf16:=blk_free b21 16;have gl16:=(Array.getElem?_eq_some_iff.1 b21).1;have GR21:=qh hgrow21;have OW21:=qh hown21;have K21:=qh k21;have B21:=qh b21;clear hown21 hgrow21 hat21 k21 b21))
     go_roundw
     case rel =>
      have kn21:KeepN [81] w11 w21:=(KeepN.ext (Ext.alloc w11 _)).trans (KeepN.grown (OWM.out.alloc _) GR21.out (by decide))
      have kn22:KeepN [84] w21 (w21.setCell ⟨bt,16,none⟩ (.slice (some ⟨g21,0,none⟩) (i+1) c21)):=KeepN.set B21.out _ (by decide)
      have kn23:KeepN [81,84] w11 (w21.setCell ⟨bt,16,none⟩ (.slice (some ⟨g21,0,none⟩) (i+1) c21)):=(kn21.mono (fun t h=>by simp at h ⊢;exact Or.inl h)).trans (kn22.mono (fun t h=>by simp at h ⊢;exact Or.inr h))
      refine ⟨i+1,by omega,by go_num,.slice (some ⟨g8,0,none⟩) (i+1) c8,.slice (some ⟨g21,0,none⟩) (i+1) c21,us ++ [.slice a5 o.clob.length k5],ms ++ [.slice a4 k c4],qh ⟨?_,?_,(CL9.out.ext (X10.out.trans X11.out)).keep kn23 (by decide) (by decide),?_,?_⟩⟩
      ·exact ((K9.out.trans (Keep.of_ext (X10.out.trans X11.out):Keep (fun k=>k=bt) w9 w11) (fun _ _ h=>h)).trans K21.out (fun q hq e=>by have:=(OWM.out.lt q e).1;omega)).trans (Keep.setCell (fun k=>k=bt) w21 ⟨bt,16,none⟩ _ rfl) (fun _ _ h=>h)
      ·have:=heap_set_cells B21.out 16 (.slice (some ⟨g21,0,none⟩) (i+1) c21)
       rw [this,List.setIfInBounds_toArray,List.set_set]
      ·refine MayG.keep (ts:=[84]) ?_ kn22 (by decide) (by decide) (by decide)
       refine (MY9.out.ext (X10.out.trans X11.out)).snoc (Ext.alloc w11 _) GR21.out (by rw [HLN.out];exact OW21.out) (us:=us4) ?_ ?_
       ·have e:mayB M N L C ms.length=operB2 M N L C o:=by
         funext a b
         unfold mayB
         rw [HLN.out,HO.out]
        rw [e]
        exact (SG4.out.1.base (Nat.zero_le _)).ext (Ext.alloc w11 _)
       ·unfold mayLen
        rw [HLN.out,HO.out,SG4.out.2,HKE.out]
      ·rw [List.length_append,HLN.out];rfl
     case measure=>simp [intOf];omega
  ·have hiz:¬ (i:Int)<(M.ops.length:Int):=by omega
   have hie:i=M.ops.length:=by omega
   have HI:=qh hie
   clear hie
   go_wp2_with fail
   go_end0
   exact ⟨rfl,vK,vM,us,ms,by have:=hin.out;rw [HI.out] at this;exact this⟩
end Go.Proofs.YtligiddaampneaaGreat
set_option maxHeartbeats 1000000
namespace Go.Proofs.YtligiddaampneaaGreat
open Go.RowKit
section
variable {M : Mach} {N : List ByteArray} {L : List Pl}
theorem oneS_fresh {σ σ':Wk} {name:ByteArray} {w beg:Int} {d:Nat} (h:oneS σ name w beg d=.ok σ'):name∉σ.names:=by
 unfold oneS at h
 by_cases h1:6<d
 ·rw [if_pos h1] at h;cases h
 rw [if_neg h1] at h
 by_cases h2:200≤σ.names.length
 ·rw [if_pos h2] at h;cases h
 rw [if_neg h2] at h
 by_cases h3:(namedS name && !(memB name σ.names))=false
 ·rw [if_pos h3] at h;cases h
 intro hm
 rw [(memB_iff _ _).2 hm] at h3
 simp at h3
theorem places_nodup {l:List RegT} {σ:Wk} (h:placesS l=.ok σ):σ.names.Nodup:=by
 have:=downS_inv (I:=fun σ=>(σ.Good∧∀ p∈σ.places,p.tight)∧σ.names.Nodup) (fun σ name width beg d σ' hI hd hdw h=>⟨⟨⟨(good_one hI.1.1 hd hdw h).1,oneS_tight hI.1.1 hI.1.2 hd hdw h⟩,by
  obtain ⟨_,_,_,p,roots,_,_,rfl⟩:=oneS_took h
  show (σ.names ++ [name]).Nodup
  rw [List.nodup_append]
  refine ⟨hI.2,by simp,fun a ha b hb e=>?_⟩
  rw [List.mem_singleton.1 hb] at e
  exact oneS_fresh h (e ▸ ha)⟩,(good_one hI.1.1 hd hdw h).2⟩) 7 1 l wk0 σ (by omega) ⟨⟨start_good,by simp [wk0]⟩,by simp [wk0]⟩ (by simp [wk0]) h
 exact this.1.2
structure Taken (M:Mach) (N:List ByteArray) (L:List Pl):Prop where
 pl:∃ σ,placesS M.regs=.ok σ∧σ.names=N∧σ.places=L
 head:headS M=.ok (N,L)
 good:Good M N L
 fine:∀ o∈M.ops,FineP M N o
 small:SmallM M
 known:KnownM M N
 len:L.length=N.length
 tight:∀ p∈L,p.tight
 le:N.length≤200
 nd:N.Nodup
 ndc:(M.classes.map Cls.name).Nodup
 ndo:(M.ops.map Opn.name).Nodup
 slots:0≤M.slots∧M.slots≤1000
theorem names_nodup {l:List ByteArray} (h:∀ (k:Nat) (s:ByteArray),l[k]?=some s→idx l s=(k:Int)):l.Nodup:=nodup_of_take fun k s hs=>(idx_at_iff hs).1 (h k s hs)
theorem taken_of (h:checkS M=.ok ()):∃ N L,Taken M N L:=by
 unfold checkS at h
 cases hh:headS M with
 | error x=>rw [hh] at h;cases h
 | ok r =>
  obtain ⟨N,L⟩:=r
  rw [hh] at h
  dsimp only at h
  cases hc:classesS M N L with
  | error x=>rw [hc] at h;cases h
  | ok u =>
   rw [hc] at h
   dsimp only at h
   cases ho:opsS M N L with
   | error x=>rw [ho] at h;cases h
   | ok u2 =>
    rw [ho] at h
    dsimp only at h
    cases hv:convS M N L with
    | error x=>rw [hv] at h;cases h
    | ok u3 =>
     have hl:L.length=N.length∧(∀ p∈L,p.tight)∧∃ σ,placesS M.regs=.ok σ∧σ.names=N∧σ.places=L:=by
      have h2:=hh
      unfold headS at h2
      split at h2
      ·cases hp:placesS M.regs with
       | error x=>rw [hp] at h2;cases h2
       | ok σ =>
        rw [hp] at h2
        dsimp only at h2
        have hg:=placesS_tight hp
        split at h2
        ·cases h2;exact ⟨hg.1.lp,hg.2,σ,rfl,rfl,rfl⟩
        ·cases h2
      ·cases h2
     obtain ⟨hlen,hT,σ,hp,hN,hL⟩:=hl
     have hG:=classes_good hc
     have hle:N.length≤200:=hN ▸ (placesS_tight hp).1.ln
     have hoc:opsC M N L (numsC N M.classes)=0:=by rw [← ops_code hG hlen,ho];rfl
     have hF:=ops_fine hG hoc
     have hcv:(convB M N L && savedB M N L && insB M N (numsC N M.classes))=true:=(conv_iff hG hlen hT).1 (by rw [hv])
     rw [Bool.and_eq_true,Bool.and_eq_true] at hcv
     obtain ⟨v1,v2,v3,v4,v5,v6,v7⟩:=convB_true hcv.1.1
     have hcl:M.classes.length≤64∧∀ c∈M.classes,c.regs.length≤64:=by
      refine ⟨(by unfold classesS at hc;split at hc <;> (first | assumption | (cases hc))),fun c hm=>?_⟩
      obtain ⟨n,hn⟩:=List.getElem?_of_mem hm
      exact (classesS_of hc n c hn).2.1.2
     have hol:M.ops.length≤64:=by unfold opsS at ho;split at ho <;> (first | assumption | (cases ho))
     have hop:∀ (i:Nat) (o:Opn),M.ops[i]?=some o→opIxT M o.name=(i:Int):=fun i o hi=>by
      unfold opsS at ho
      rw [if_pos hol] at ho
      have h3:=goS_ok ho i o hi
      rw [Nat.zero_add] at h3
      unfold opS at h3
      split at h3
      ·rename_i h4;exact h4.2
      ·cases h3
     have hfix:∀ u:Opr,FineO M N u→0≤clsIx M u.cls∧(u.fix=⟨#[]⟩∨0≤idx N u.fix):=fun u hu=>by
      obtain ⟨k,c,h1,_,_,h4,h5⟩:=hu
      exact ⟨by omega,h5.imp id fun hm=>h4 _ hm⟩
     refine ⟨N,L,⟨σ,hp,hN,hL⟩,hh,hG,hF,⟨places_small hp,hcl.1,fun c hc=>by have:=hcl.2 c hc;omega,hol,fun o ho=>by rcases (hF o ho).len with e | e <;> omega,fun o ho=>by have:=(hF o ho).many;omega,by omega,by omega⟩,⟨fun o ho=>(hF o ho).clob,fun o ho u hu=>?_,fun o ho e=>?_,hG.reg,fun s hs=>?_,fun s hs=>?_,v3⟩,hlen,hT,hle,?_,?_,?_,v6,v7⟩
     ·rcases List.mem_cons.1 hu with rfl | hu
      ·exact hfix _ (hF o ho).dfn
      ·exact hfix _ ((hF o ho).uses u hu)
     ·have:=(hF o ho).len
      rw [e] at this
      simp at this
     ·obtain ⟨i,hi⟩:=List.getElem?_of_mem hs
      exact ((apartB_iff hlen).1 v2 i s hi).1
     ·obtain ⟨i,hi⟩:=List.getElem?_of_mem hs
      exact ((apartB_iff hlen).1 v5 i s hi).1
     ·exact hN ▸ places_nodup hp
     ·refine names_nodup fun k s hs=>?_
      rw [List.getElem?_map] at hs
      obtain ⟨c,hc2,rfl⟩:=Option.map_eq_some_iff.1 hs
      rw [clsIx_idx]
      exact hG.ix k c hc2
     ·refine names_nodup fun k s hs=>?_
      rw [List.getElem?_map] at hs
      obtain ⟨o,ho2,rfl⟩:=Option.map_eq_some_iff.1 hs
      rw [opIx_idx]
      exact hop k o ho2
end
end Go.Proofs.YtligiddaampneaaGreat
