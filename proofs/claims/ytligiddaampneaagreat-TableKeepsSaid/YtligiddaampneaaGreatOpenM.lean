/- A description that came in: from what it reads as to how it lies in memory. -/
import Derived.Test.YtligiddaampneaaGreatMgD
import Derived.ChangeArms
import Derived.ChangeSame
import Derived.DataReads
import Derived.WideShapes
import Derived.Deep.Slices
set_option maxRecDepth 100000
set_option maxHeartbeats 1000000
-- shrunk
namespace Go.Proofs.YtligiddaampneaaGreat
open Go.RowKit Go.Deep Go.ChangeShapes Go.WideShapes
theorem flat_size {size:Nat}:∀ {rows:List (List Value)},(∀ r∈rows,r.length=size)→rows.flatten.length=rows.length * size:=by
 intro rows
 induction rows with
 | nil=>intro _;simp
 | cons a rows ih =>
  intro hl
  have ha:a.length=size:=hl a (by simp)
  simp only [List.flatten_cons,List.length_append,List.length_cons,ih (fun r hr=>hl r (by simp [hr])),ha,Nat.add_mul];omega
theorem flat_index {size:Nat}:∀ {rows:List (List Value)} {j:Nat} {u:Value},(∀ r∈rows,r.length=size)→rows.flatten[j]?=some u→∃ i r k,rows[i]?=some r∧r[k]?=some u∧j=i * size+k∧k<size:=by
 intro rows
 induction rows with
 | nil=>intro j u _ h;simp at h
 | cons a rows ih =>
  intro j u hl h
  have ha:a.length=size:=hl a (by simp)
  rw [List.flatten_cons] at h
  by_cases hj:j<size
  ·rw [List.getElem?_append_left (by omega)] at h
   exact ⟨0,a,j,rfl,h,by omega,hj⟩
  ·rw [List.getElem?_append_right (by omega),ha] at h
   obtain ⟨i,r,k,h1,h2,h3,h4⟩:=ih (fun r hr=>hl r (by simp [hr])) h
   exact ⟨i+1,r,k,by simpa using h1,h2,by rw [Nat.add_mul];omega,h4⟩
theorem pick_rows {α:Type} {R:List Value→α→Prop}:∀ {rows:List (List Value)},(∀ r∈rows,∃ a,R r a)→∃ l:List α,l.length=rows.length∧∀ (i:Nat) (r:List Value) (a:α),rows[i]?=some r→l[i]?=some a→R r a:=by
 intro rows
 induction rows with
 | nil=>intro _;exact ⟨[],rfl,fun i r a h=>by simp at h⟩
 | cons x rows ih =>
  intro h
  obtain ⟨a,ha⟩:=h x (by simp)
  obtain ⟨l,hl,hr⟩:=ih (fun r hr=>h r (by simp [hr]))
  refine ⟨a :: l,by simp [hl],fun i r b h1 h2=>?_⟩
  cases i with
  | zero=>simp at h1 h2;subst h1;subst h2;exact ha
  | succ i=>exact hr i r b (by simpa using h1) (by simpa using h2)
theorem rows_map {α:Type} {f:α→List Value} {rows:List (List Value)} {l:List α} (hl:l.length=rows.length) (h:∀ (i:Nat) (r:List Value) (a:α),rows[i]?=some r→l[i]?=some a→r=f a):rows=l.map f:=by
 refine List.ext_getElem? fun i=>?_
 rw [List.getElem?_map]
 by_cases hi:i<rows.length
 ·rw [lE hi,lE (show i<l.length by omega)]
  exact congrArg some (h i _ _ (lE hi) (lE (by omega)))
 ·rw [List.getElem?_eq_none (by omega),List.getElem?_eq_none (by omega)]
  rfl
theorem addr_block (a:Addr) (i:Nat):(a.add i).block=a.block:=by unfold Addr.add;split <;> rfl
section
variable {H : Type} {enc : TypeId × Value → H} {P : Program} {w : World} {base : Nat} {held : Bool}
theorem open_tab {t e:TypeId} {fuel size:Nat} {v:Value} {x:DataW H × List MemPlace} (ht:P.underlying t=some (.slice e)) (hc:P.cellsOf e=size) (hs:0<size) (h:DataW.trod enc P w base (fun _=>true) held fuel t [v]=some x) :
  ∃ rows:List (List Value),Tab w w.heap.size size v rows∧∀ r∈rows,∃ y n,n<fuel∧DataW.trod enc P w base (fun _=>true) held n e r=some y:=by
 rcases DataW.trod_slice ht h with ⟨hcs,_⟩ | ⟨a,len,cap,elems,rest,n,hf,hcs,_,hb,hl,hm,hlen,hel,_,_⟩
 ·have hv:v=.slice none 0 0:=by simpa using hcs
  subst hv
  exact ⟨[],⟨⟨by simp,Or.inl ⟨rfl,rfl⟩⟩,by simp,fun k e=>by cases e⟩,by simp⟩
 ·have hv:v=.slice (some a) len cap:=by simpa using hcs
  subst hv
  have each:∀ i,i<len→∃ r:List Value,(w.cells? base (a.add (i * size)) size=some r)∧∃ y,DataW.trod enc P w base (fun _=>true) held n e r=some y:=by
   intro i hi
   have k:=hel i hi
   rw [lE (by omega),hc] at k
   obtain ⟨r,h1,h2⟩:=Option.bind_eq_some_iff.1 k
   exact ⟨r,h1,_,h2⟩
  obtain ⟨f,hfx⟩:=choose_lt each
  have hat:∀ i,i<len→(f i).length=size∧∀ k u,(f i)[k]?=some u→w.cell? (a.add (i * size+k))=some u:=fun i hi=>by
   obtain ⟨_,h2,h3⟩:=World.cells?_some (hfx i hi).1
   refine ⟨h2,fun k u hk=>?_⟩
   have hkl:=(List.getElem?_eq_some_iff.1 hk).1
   rw [← add_add,h3 k (by omega)]
   exact hk
  have hrow:∀ r∈(List.range len).map f,r.length=size:=fun r hr=>by
   obtain ⟨i,hi,rfl⟩:=List.mem_map.1 hr
   exact (hat i (List.mem_range.1 hi)).1
  have hix:∀ i r,((List.range len).map f)[i]?=some r→i<len∧r=f i:=fun i r h=>by
   rw [List.getElem?_map] at h
   by_cases hi:i<len
   ·rw [List.getElem?_range hi] at h;cases h;exact ⟨hi,rfl⟩
   ·rw [List.getElem?_eq_none (by simpa using hi)] at h;cases h
  have hll:((List.range len).map f).length=len:=by simp
  refine ⟨(List.range len).map f,⟨⟨flat_size hrow,Or.inr ⟨a,cap,by rw [hll],by rw [hll];exact hl,hm,fun j u hj=>?_⟩⟩,hrow,fun k ek hne=>?_⟩,fun r hr=>?_⟩
  ·obtain ⟨i,r,k,h1,h2,rfl,_⟩:=flat_index hrow hj
   obtain ⟨hi,rfl⟩:=hix i r h1
   exact (hat i hi).2 k u h2
  ·have h0:0<len:=by
    rcases Nat.eq_zero_or_pos len with h | h
    ·subst h;exact absurd rfl hne
    ·exact h
   obtain ⟨hf1,hf2⟩:=hat 0 h0
   have:=hf2 0 _ (lE (show 0<(f 0).length by omega))
   have hlt:=World.block_lt_of_cell? w _ this
   rw [addr_block] at hlt
   cases ek
   exact hlt
  ·obtain ⟨i,hi,rfl⟩:=List.mem_map.1 hr
   obtain ⟨y,hy⟩:=(hfx i (List.mem_range.1 hi)).2
   exact ⟨y,n,by omega,hy⟩
end
section
variable {H : Type} {enc : TypeId × Value → H} {w : World} {base : Nat} {held : Bool}
theorem cells_string:Tryz.prog.cellsOf 9=1:=by kernel_rfl
theorem cells_int:Tryz.prog.cellsOf 3=1:=by kernel_rfl
theorem cells_strs:Tryz.prog.cellsOf 25=1:=by kernel_rfl
theorem cells_regs:Tryz.prog.cellsOf 22=1:=by kernel_rfl
theorem cells_clss:Tryz.prog.cellsOf 23=1:=by kernel_rfl
theorem cells_ops:Tryz.prog.cellsOf 24=1:=by kernel_rfl
theorem cells_opers:Tryz.prog.cellsOf 58=1:=by kernel_rfl
theorem cells_oper:Tryz.prog.cellsOf 57=2:=by kernel_rfl
theorem cells_class:Tryz.prog.cellsOf 51=2:=by kernel_rfl
theorem cells_reg:Tryz.prog.cellsOf 70=4:=by kernel_rfl
theorem cells_op:Tryz.prog.cellsOf 60=6:=by kernel_rfl
theorem cells_machine:Tryz.prog.cellsOf 27=8:=by kernel_rfl
theorem open_str1 {n:Nat} {v:Value} {y:DataW H × List MemPlace} (h:DataW.trod enc Tryz.prog w base (fun _=>true) held n 9 [v]=some y):∃ s:ByteArray,v=.string s:=by
 obtain ⟨s,h1,_,_⟩:=DataW.trod_string Tryz.underlying9 h
 exact ⟨s,by simpa using h1⟩
theorem open_int1 {n:Nat} {v:Value} {y:DataW H × List MemPlace} (h:DataW.trod enc Tryz.prog w base (fun _=>true) held n 3 [v]=some y):∃ k:Int,v=.int .i64 k∧fits64 k:=by
 obtain ⟨k,h1,_,h2⟩:=DataW.trod_int Tryz.underlying3 h
 refine ⟨k,by simpa using h1,?_⟩
 simp only [Lit.wf,Bool.and_eq_true,decide_eq_true_eq] at h2
 exact ⟨h2.1,h2.2⟩
theorem open_strsIn {n:Nat} {v:Value} {y:DataW H × List MemPlace} (h:DataW.trod enc Tryz.prog w base (fun _=>true) held n 25 [v]=some y):∃ l:List ByteArray,StrsIn w w.heap.size v l:=by
 obtain ⟨rows,ht,hr⟩:=open_tab Tryz.underlying25 cells_string (by decide) h
 obtain ⟨l,hl,hp⟩:=pick_rows (rows:=rows) (R:=fun r (s:ByteArray)=>r=[.string s]) (fun r hr2=>by
  obtain ⟨y,n,_,hy⟩:=hr r hr2
  have hlen:=ht.len r hr2
  match r,hlen with
  | [u],_ =>
   obtain ⟨s,rfl⟩:=open_str1 hy
   exact ⟨s,rfl⟩)
 refine ⟨l,?_⟩
 unfold StrsIn
 rw [← rows_map hl hp]
 exact ht
theorem open_opersIn {n:Nat} {v:Value} {y:DataW H × List MemPlace} (h:DataW.trod enc Tryz.prog w base (fun _=>true) held n 58 [v]=some y):∃ l:List Opr,OprsIn w w.heap.size v l:=by
 obtain ⟨rows,ht,hr⟩:=open_tab Tryz.underlying58 cells_oper (by decide) h
 obtain ⟨l,hl,hp⟩:=pick_rows (rows:=rows) (R:=fun r (o:Opr)=>r=[.string o.cls,.string o.fix]) (fun r hr2=>by
  obtain ⟨y,n,_,hy⟩:=hr r hr2
  have hlen:=ht.len r hr2
  match r,hlen with
  | [u0,u1],_ =>
   obtain ⟨y0,y1,k,_,_,h0,h1⟩:=trod_struct2 Tryz.underlying57 hy
   rw [cells_string] at h0 h1
   obtain ⟨s0,rfl⟩:=open_str1 h0
   obtain ⟨s1,rfl⟩:=open_str1 h1
   exact ⟨⟨s0,s1⟩,rfl⟩)
 refine ⟨l,?_⟩
 unfold OprsIn
 rw [← rows_map hl hp]
 exact ht
theorem zip_rows {α β:Type} {f:α→β→List Value} {rows:List (List Value)} {l:List (α × β)} (hl:l.length=rows.length) (h:∀ (i:Nat) (r:List Value) (a:α × β),rows[i]?=some r→l[i]?=some a→r=f a.1 a.2):rows=List.zipWith f (l.map Prod.fst) (l.map Prod.snd):=by
 rw [rows_map (f:=fun a:α × β=>f a.1 a.2) hl h]
 clear h hl
 induction l with
 | nil=>rfl
 | cons a l ih=>simp only [List.map_cons,List.zipWith_cons_cons,ih]
theorem pair_at {α β:Type} {l:List (α × β)} {i:Nat} {a:α} {b:β} (h1:(l.map Prod.fst)[i]?=some a) (h2:(l.map Prod.snd)[i]?=some b):l[i]?=some (a,b):=by
 rw [List.getElem?_map] at h1 h2
 cases h:l[i]? with
 | none=>rw [h] at h1;cases h1
 | some x=>rw [h] at h1 h2;cases h1;cases h2;rfl
theorem open_clsIn {n:Nat} {v:Value} {y:DataW H × List MemPlace} (h:DataW.trod enc Tryz.prog w base (fun _=>true) held n 23 [v]=some y):∃ l:List Cls,ClsIn w w.heap.size v l:=by
 obtain ⟨rows,ht,hr⟩:=open_tab Tryz.underlying23 cells_class (by decide) h
 obtain ⟨l,hl,hp⟩:=pick_rows (rows:=rows) (R:=fun r (a:Cls × Value)=>r=[.string a.1.name,a.2]∧StrsIn w w.heap.size a.2 a.1.regs) (fun r hr2=>by
  obtain ⟨y,n,_,hy⟩:=hr r hr2
  have hlen:=ht.len r hr2
  match r,hlen with
  | [u0,u1],_ =>
   obtain ⟨y0,y1,k,_,_,h0,h1⟩:=trod_struct2 Tryz.underlying51 hy
   rw [cells_string] at h0
   rw [cells_strs] at h1
   obtain ⟨s0,rfl⟩:=open_str1 h0
   obtain ⟨rs,hrs⟩:=open_strsIn h1
   exact ⟨(⟨s0,rs⟩,u1),rfl,hrs⟩)
 have e:=zip_rows (f:=fun (c:Cls) u=>[.string c.name,u]) hl (fun i r a h1 h2=>(hp i r a h1 h2).1)
 refine ⟨l.map Prod.fst,l.map Prod.snd,by simp,by rw [← e];exact ht,fun i c u hc hu=>?_⟩
 have hp2:=pair_at hc hu
 have hi:i<rows.length:=by have:=(List.getElem?_eq_some_iff.1 hp2).1;omega
 exact (hp i _ _ (lE hi) hp2).2
theorem open_opsIn {n:Nat} {v:Value} {y:DataW H × List MemPlace} (h:DataW.trod enc Tryz.prog w base (fun _=>true) held n 24 [v]=some y):∃ l:List Opn,OpsIn w w.heap.size v l:=by
 obtain ⟨rows,ht,hr⟩:=open_tab Tryz.underlying24 cells_op (by decide) h
 obtain ⟨l,hl,hp⟩:=pick_rows (rows:=rows) (R:=fun r (a:Opn × (Value × Value))=>r=[.string a.1.name,.string a.1.dfn.cls,.string a.1.dfn.fix,a.2.1,.int .i64 a.1.tie,a.2.2]∧OprsIn w w.heap.size a.2.1 a.1.uses∧StrsIn w w.heap.size a.2.2 a.1.clob∧fits64 a.1.tie) (fun r hr2=>by
  obtain ⟨y,n,_,hy⟩:=hr r hr2
  have hlen:=ht.len r hr2
  match r,hlen with
  | [u0,u1,u2,u3,u4,u5],_ =>
   obtain ⟨xs,k,_,_,_,hxl,hf⟩:=DataW.trod_struct Tryz.underlying60 hy
   match xs,hxl with
   | [y0,y1,y2,y3,y4],_ =>
   have h0:DataW.trod enc Tryz.prog w base (fun _=>true) held k 9 (([u0,u1,u2,u3,u4,u5].drop 0).take (Tryz.prog.cellsOf 9))=some y0:=hf 0 _ rfl
   have h1:DataW.trod enc Tryz.prog w base (fun _=>true) held k 57 (([u0,u1,u2,u3,u4,u5].drop 1).take (Tryz.prog.cellsOf 57))=some y1:=hf 1 _ rfl
   have h2:DataW.trod enc Tryz.prog w base (fun _=>true) held k 58 (([u0,u1,u2,u3,u4,u5].drop 3).take (Tryz.prog.cellsOf 58))=some y2:=hf 2 _ rfl
   have h3:DataW.trod enc Tryz.prog w base (fun _=>true) held k 3 (([u0,u1,u2,u3,u4,u5].drop 4).take (Tryz.prog.cellsOf 3))=some y3:=hf 3 _ rfl
   have h4:DataW.trod enc Tryz.prog w base (fun _=>true) held k 25 (([u0,u1,u2,u3,u4,u5].drop 5).take (Tryz.prog.cellsOf 25))=some y4:=hf 4 _ rfl
   rw [cells_string] at h0
   rw [cells_oper] at h1
   rw [cells_opers] at h2
   rw [cells_int] at h3
   rw [cells_strs] at h4
   obtain ⟨s0,rfl⟩:=open_str1 h0
   obtain ⟨z0,z1,k2,_,_,g0,g1⟩:=trod_struct2 Tryz.underlying57 h1
   rw [cells_string] at g0 g1
   obtain ⟨s1,rfl⟩:=open_str1 g0
   obtain ⟨s2,rfl⟩:=open_str1 g1
   obtain ⟨us,hus⟩:=open_opersIn h2
   obtain ⟨ti,rfl,hti⟩:=open_int1 h3
   obtain ⟨cl,hcl⟩:=open_strsIn h4
   exact ⟨(⟨s0,⟨s1,s2⟩,us,ti,cl⟩,(u3,u5)),rfl,hus,hcl,hti⟩)
 have e:=zip_rows (f:=fun (o:Opn) (u:Value × Value)=>[.string o.name,.string o.dfn.cls,.string o.dfn.fix,u.1,.int .i64 o.tie,u.2]) hl (fun i r a h1 h2=>(hp i r a h1 h2).1)
 refine ⟨l.map Prod.fst,l.map Prod.snd,by simp,by rw [← e];exact ht,fun i c u hc hu=>?_⟩
 have hp2:=pair_at hc hu
 have hi:i<rows.length:=by have:=(List.getElem?_eq_some_iff.1 hp2).1;omega
 exact (hp i _ _ (lE hi) hp2).2
theorem reg_cells_flat (l:List (RegT × Value)):regCells (l.map Prod.fst) (l.map Prod.snd)=(l.map fun a=>[Value.string a.1.name,.int .i64 a.1.width,.int .i64 a.1.beg,a.2]).flatten:=by
 induction l with
 | nil=>rfl
 | cons a l ih=>simp only [List.map_cons,regCells_cons,ih,List.flatten_cons];rfl
theorem open_regsIn:∀ (n:Nat) {v:Value} {y:DataW H × List MemPlace},DataW.trod enc Tryz.prog w base (fun _=>true) held n 22 [v]=some y→∃ l:List RegT,RegsIn w w.heap.size v l:=by
 intro n
 induction n using Nat.strongRecOn with
 | _ n ih =>
 intro v y h
 obtain ⟨rows,ht,hr⟩:=open_tab Tryz.underlying22 cells_reg (by decide) h
 obtain ⟨l,hl,hp⟩:=pick_rows (rows:=rows) (R:=fun r (a:RegT × Value)=>r=[.string a.1.name,.int .i64 a.1.width,.int .i64 a.1.beg,a.2]∧(fits64 a.1.width∧fits64 a.1.beg)∧RegsIn w w.heap.size a.2 a.1.subs) (fun r hr2=>by
  obtain ⟨y,m,hm,hy⟩:=hr r hr2
  have hlen:=ht.len r hr2
  match r,hlen with
  | [u0,u1,u2,u3],_ =>
   obtain ⟨xs,k,hk,_,_,hxl,hf⟩:=DataW.trod_struct Tryz.underlying70 hy
   match xs,hxl with
   | [y0,y1,y2,y3],_ =>
   have h0:DataW.trod enc Tryz.prog w base (fun _=>true) held k 9 (([u0,u1,u2,u3].drop 0).take (Tryz.prog.cellsOf 9))=some y0:=hf 0 _ rfl
   have h1:DataW.trod enc Tryz.prog w base (fun _=>true) held k 3 (([u0,u1,u2,u3].drop 1).take (Tryz.prog.cellsOf 3))=some y1:=hf 1 _ rfl
   have h2:DataW.trod enc Tryz.prog w base (fun _=>true) held k 3 (([u0,u1,u2,u3].drop 2).take (Tryz.prog.cellsOf 3))=some y2:=hf 2 _ rfl
   have h3:DataW.trod enc Tryz.prog w base (fun _=>true) held k 22 (([u0,u1,u2,u3].drop 3).take (Tryz.prog.cellsOf 22))=some y3:=hf 3 _ rfl
   rw [cells_string] at h0
   rw [cells_int] at h1 h2
   rw [cells_regs] at h3
   obtain ⟨s0,rfl⟩:=open_str1 h0
   obtain ⟨a,rfl,ha⟩:=open_int1 h1
   obtain ⟨b,rfl,hb⟩:=open_int1 h2
   obtain ⟨sub,hsub⟩:=ih k (by omega) h3
   exact ⟨(.mk s0 a b sub,u3),rfl,⟨ha,hb⟩,hsub⟩)
 have e:=rows_map (f:=fun a:RegT × Value=>[.string a.1.name,.int .i64 a.1.width,.int .i64 a.1.beg,a.2]) hl (fun i r a h1 h2=>(hp i r a h1 h2).1)
 have hll:(l.map Prod.fst).length=rows.length:=by simp [hl]
 have hat:∀ (i:Nat) (a:RegT × Value),l[i]?=some a→(fits64 a.1.width∧fits64 a.1.beg)∧RegsIn w w.heap.size a.2 a.1.subs:=fun i a ha=>by
  have hi:i<rows.length:=by have:=(List.getElem?_eq_some_iff.1 ha).1;omega
  exact (hp i _ _ (lE hi) ha).2
 refine ⟨l.map Prod.fst,.mk (l.map Prod.snd) (by simp) ?_ (fun k ek hne=>ht.blk k ek (fun e2=>hne (by rw [e2] at hl;rw [List.length_eq_zero_iff.1 hl];rfl))) (fun r hr2=>?_) (fun i r u hr2 hu=>?_)⟩
 ·rw [reg_cells_flat,← e,hll]
  exact ht.row
 ·obtain ⟨a,ha,rfl⟩:=List.mem_map.1 hr2
  obtain ⟨i,hi⟩:=List.getElem?_of_mem ha
  exact (hat i a hi).1
 ·exact (hat i _ (pair_at hr2 hu)).2
theorem open_machine {v:Value} {d:DataW H} {p:List MemPlace} {r:Reach} {b0:Nat} (hv:Value.okWide Tryz.prog w r b0 27 v) (h:DataW.Trod enc Tryz.prog w base (fun _=>true) held 27 v d p) :
  ∃ (M:Mach) (vR vC vO vA vS:Value),v=.agg #[.string M.name,vR,vC,vO,vA,.string M.result,vS,.int .i64 M.slots]∧MachIn w w.heap.size vR vC vO vA vS M:=by
 obtain ⟨cs,rfl,hsz⟩:=okWide_struct Tryz.underlying27 hv
 obtain ⟨n,hn⟩:=h
 rw [cells_machine] at hsz
 obtain ⟨l,rfl⟩:∃ l:List Value,cs=l.toArray:=⟨cs.toList,by simp⟩
 have hlen:l.length=8:=by simpa using hsz
 match l,hlen with
 | [u0,u1,u2,u3,u4,u5,u6,u7],_ =>
 obtain ⟨xs,k,hk,_,_,hxl,hf⟩:=DataW.trod_struct Tryz.underlying27 hn
 match xs,hxl with
 | [y0,y1,y2,y3,y4,y5,y6,y7],_ =>
 have h0:DataW.trod enc Tryz.prog w base (fun _=>true) held k 9 (([u0,u1,u2,u3,u4,u5,u6,u7].drop 0).take (Tryz.prog.cellsOf 9))=some y0:=hf 0 _ rfl
 have h1:DataW.trod enc Tryz.prog w base (fun _=>true) held k 22 (([u0,u1,u2,u3,u4,u5,u6,u7].drop 1).take (Tryz.prog.cellsOf 22))=some y1:=hf 1 _ rfl
 have h2:DataW.trod enc Tryz.prog w base (fun _=>true) held k 23 (([u0,u1,u2,u3,u4,u5,u6,u7].drop 2).take (Tryz.prog.cellsOf 23))=some y2:=hf 2 _ rfl
 have h3:DataW.trod enc Tryz.prog w base (fun _=>true) held k 24 (([u0,u1,u2,u3,u4,u5,u6,u7].drop 3).take (Tryz.prog.cellsOf 24))=some y3:=hf 3 _ rfl
 have h4:DataW.trod enc Tryz.prog w base (fun _=>true) held k 25 (([u0,u1,u2,u3,u4,u5,u6,u7].drop 4).take (Tryz.prog.cellsOf 25))=some y4:=hf 4 _ rfl
 have h5:DataW.trod enc Tryz.prog w base (fun _=>true) held k 9 (([u0,u1,u2,u3,u4,u5,u6,u7].drop 5).take (Tryz.prog.cellsOf 9))=some y5:=hf 5 _ rfl
 have h6:DataW.trod enc Tryz.prog w base (fun _=>true) held k 25 (([u0,u1,u2,u3,u4,u5,u6,u7].drop 6).take (Tryz.prog.cellsOf 25))=some y6:=hf 6 _ rfl
 have h7:DataW.trod enc Tryz.prog w base (fun _=>true) held k 3 (([u0,u1,u2,u3,u4,u5,u6,u7].drop 7).take (Tryz.prog.cellsOf 3))=some y7:=hf 7 _ rfl
 rw [cells_string] at h0 h5
 rw [cells_regs] at h1
 rw [cells_clss] at h2
 rw [cells_ops] at h3
 rw [cells_strs] at h4 h6
 rw [cells_int] at h7
 obtain ⟨s0,rfl⟩:=open_str1 h0
 obtain ⟨rs,hrs⟩:=open_regsIn _ h1
 obtain ⟨cl,hcl⟩:=open_clsIn h2
 obtain ⟨ops,hops⟩:=open_opsIn h3
 obtain ⟨ar,har⟩:=open_strsIn h4
 obtain ⟨s5,rfl⟩:=open_str1 h5
 obtain ⟨sv,hsv⟩:=open_strsIn h6
 obtain ⟨sl,rfl,hsl⟩:=open_int1 h7
 exact ⟨⟨s0,rs,cl,ops,ar,s5,sv,sl⟩,u1,u2,u3,u4,u6,rfl,⟨hrs,hcl,hops,har,hsv,hsl⟩⟩
end
end Go.Proofs.YtligiddaampneaaGreat
