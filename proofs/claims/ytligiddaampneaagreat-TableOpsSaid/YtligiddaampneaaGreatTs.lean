/- Package bitset: a set's numbers in a list. -/
import Derived.Test.YtligiddaampneaaGreatTr
import Derived.Test.YtligiddaampneaaGreatRefR
import Derived.OwnWalkIn
import Derived.Deep.AppendLies
namespace Go.Proofs.YtligiddaampneaaGreat
open Go.RowKit
attribute [local go_sem] Oper.semAt_some
section
variable {F : Fence} {nF : Nat} {P : Program} (w : World)
theorem wpListIn_append_lies {ops:Array Oper} {rest:List Oper} {o:Oper} {a:Act} {Q:Exit→Act→World→Prop} (hgd:o.guard=none) (s x:Operand) (t:TypeId)
  (ho:o.op=.call { callee:=.builtin .append,args:=#[s,x],argTypes:=#[t,t] })
  (base:Nat) (e:TypeId) (i:TypeInfo) (z:Value) (size bytes:Nat) (ht:P.underlying t=some (.slice e)) (hi:P.info? e=some i) (hz:i.zero=some z)
  (hsize:i.size=size) (hby:i.bytes=bytes) (hzs:z.cells.size=size) (hsz:0<size)
  (v:Value) (n:Nat) (xs:List Value) (hs:a.eval s=v) (hown:w.ownsRow base e size v n xs)
  (ad:Addr) (m c:Nat) (news:List Value) (hx:a.eval x=.slice (some ad) m c) (hl:news.length=m * size) (hnews:∀ j u,news[j]?=some u→w.cell? (ad.add j)=some u) (h1:∀ u∈news,u.oneCell'=true)
  (hm:0<m) (h63:n+m≤maxLen) (hbytes:(n+m) * bytes≤140737488355328) (hbase:base≤w.heap.size) (H:Nat) (hH:w.heap.size=H)
  (h:∀ g cap w',w'.ownsRow base e size (.slice (some ⟨g,0,none⟩) (n+m) cap) (n+m) (xs ++ news)→w.grownBy w' v.ownBlock→(v.ownBlock=some g∨g=H)→g<w'.heap.size→wpListIn F nF P ops Q rest (a.put o.dst (.slice (some ⟨g,0,none⟩) (n+m) cap)) w'):wpListIn F nF P ops Q (o :: rest) a w:=by
 refine wpListIn_plain hgd fun K hK=>?_
 obtain ⟨g,cap,w',hr,h2,h3,h4,h5⟩:=run_append_lies (P:=P) w t o.type base e i z size bytes ht hi hz hsize hby hzs hsz v n xs hown ad m c news hl hnews h1 hm h63 hbytes hbase H hH
 unfold Oper.wpIn
 refine ⟨by simp [Oper.about,ho,resolve,Target.leads,Sem.run_pure],?_⟩
 rw [Oper.semAt_plain F _ _ (by rw [ho];intro c hc';cases hc')]
 simp [execOp,ho,resolve,invoke,builtin,hs,hx,hr,Result.andThen]
 exact hK _ _ (h g cap w' h2 h3 h4 h5)
end
theorem each_any (u:Value) (W:World) (a:Option Addr) (n c:Nat) (hu:u=.slice a n c):Calls Tryz.prog 114 #[.agg #[u]] W fun e W' =>
  e=.returned (.func (.func 142) #[] #[.pointer (some ⟨W.heap.size,0,none⟩)])∧Ext W W'∧W.heap.size<W'.heap.size∧W'.cell? ⟨W.heap.size,0,none⟩=some u:=by
 subst hu
 go_enter Tryz.func114,Tryz.ntmps114
 go_wp2
 go_ret
 exact ⟨rfl,Ext.alloc _ _,by simp,cell_new W #[.slice a n c] 78 0⟩
set_option maxRecDepth 100000 in
set_option maxHeartbeats 4000000 in
theorem list_set {W:World} {u:Value} {f:Nat→Bool} (h:SetIn W u f) :
  Calls Tryz.prog 84 #[.agg #[u]] W fun e W'=>∃ v T,e=.returned v∧(∀ n,f n=true→n<T)∧W'.ownsRow W.heap.size 3 1 v (upto f T).length ((upto f T).map fun n:Nat=>Value.int .i64 (n:Int))∧Ext W W':=by
 obtain ⟨ws,hw,hu,hl,hf⟩:=h
 obtain rfl:hasW ws=f:=funext hf
 obtain ⟨a,cap,rfl,hl1,hl2⟩:=hw.form
 obtain ⟨iI,hiI,zI0,zI1,zI2⟩:=info_parts infoI
 have x1:Ext W ((W.alloc (.cells #[.slice a ws.length cap] 78)).alloc (.cells #[.slice none 0 0] 36)):=(Ext.alloc _ _).trans (Ext.alloc _ _)
 obtain ⟨c1,c2⟩:=cells_two W [.slice a ws.length cap] [.slice none 0 0] 78 36
 have d0:=c1 0 _ rfl
 have b2:((W.alloc (.cells #[.slice a ws.length cap] 78)).alloc (.cells #[.slice none 0 0] 36)).heap[W.heap.size+1]?=some (.cells #[.slice none 0 0] 36 (0,0)):=by
  have:=heap_alloc_new (W.alloc (.cells #[.slice a ws.length cap] 78)) (.cells #[.slice none 0 0] 36)
  rw [show (W.alloc (.cells #[.slice a ws.length cap] 78)).heap.size=W.heap.size+1 by simp] at this
  exact this
 have HW:=Lib.hid hw
 have HU:=Lib.hid hu
 clear hw hu c1 c2 hf
 refine calls_of_wpAt Tryz.func84 rfl ?_
 simp only [Tryz.ntmps84,List.size_toArray,List.length_cons,List.length_nil,Nat.reduceAdd,Nat.reduceSub,Array.replicate_succ,Array.replicate_zero,List.push_toArray,List.append_toArray,List.nil_append,List.cons_append]
 refine wpAt_seq (wpAt_of_wp (wp_hide (fun Q1 hQ1=>?_)))
 go_wp2
 refine wpAt_seq (wpAt_of_wp (wp_hide (fun Q2 hQ2=>?_)))
 go_wp2
 generalize (W.alloc (.cells #[.slice a ws.length cap] 78)).alloc (.cells #[.slice none 0 0] 36)=W1 at x1 d0 b2 ⊢
 generalize hbs:W.heap.size=bs at d0 b2 ⊢
 have X1:=Lib.hid x1
 have lb:=(Array.getElem?_eq_some_iff.1 b2).1
 clear x1
 refine wpAt_seq (wpAt_seq (wpAt_of_wp (wp_hide (fun Q3 hQ3=>?_))))
 go_wp2_with (go_at_call 114;refine (each_any _ W1 a ws.length cap rfl).mono ?_;rintro e W2 ⟨rfl,hx2,hz2,m0⟩;have X2:=Lib.hid hx2;have b2:=hx2.block b2;clear hx2)
 refine wpAt_block ?_
 have XX:=Lib.hid (X1.out.trans X2.out)
 have NE:Hid (∀ k,(Value.slice a ws.length cap).ownBlock=some k→k<W.heap.size∧k≠bs+1):=Lib.hid (fun k e=>by
  obtain ⟨cs,fz,hg⟩:=HU.out k e
  have hlt:=(Array.getElem?_eq_some_iff.1 hg).1
  exact ⟨hlt,fun e2=>by omega⟩)
 refine wpAt_hand (gf:=142) (lb:=#[.pointer (some ⟨W1.heap.size,0,none⟩)]) Tryz.func84 rfl (enters_of Tryz.func142 (by kernel_rfl) rfl)
  (fun k=>k=bs+1∨W2.heap.size+2≤k) (fun i w=>i≤(upto (hasW ws) (ws.length * 64)).length∧∃ aq cq,w.heap[bs+1]?=some (.cells #[.slice aq i cq] 36 (0,0))∧w.ownsRow (W2.heap.size+2) 3 1 (.slice aq i cq) i (((upto (hasW ws) (ws.length * 64)).take i).map fun n:Nat=>Value.int .i64 (n:Int))∧W2.heap.size≤w.heap.size)
  (fun w1 x=>each1_in (n0:=W.heap.size) (x.cell m0) (HW.out.ext (Nat.le_refl _) (XX.out.trans x)) (XX.out.trans x).size hl) rfl ?hD ?hρ ?hI ?h0 ?hb ?hend
 case hD =>
  rintro k (rfl | e)
  ·exact ⟨hz2,by rintro (h | h) <;> omega⟩
  ·have h1:=NE.out k e
   have h2:=XX.out.size
   exact ⟨by omega,by rintro (h | h) <;> omega⟩
 case hρ =>
  rintro k (h | h)
  ·left;omega
  ·right;exact h
 case hI =>
  rintro i A B ⟨h1,aq,cq,h2,h3,h4⟩ k
  exact ⟨h1,aq,cq,(k.block _ (Array.getElem?_eq_some_iff.1 h2).1 (by omega)).trans h2,owns_same h3 (fun q e=>k.block q (h3.lt q e).2 (by have:=(h3.lt q e).1;omega)),Nat.le_trans h4 k.size⟩
 case h0=>exact ⟨Nat.zero_le _,none,0,b2,World.ownsRow_nil _ _ _ _,Nat.le_refl _⟩
 case hb =>
  rintro i x w1 W4 hx x1 hi4 hk4 hz4
  refine wpAt_of_in (n:=1) ?_
  gi_hideQ
  gi_wp2
  refine ⟨Ext.refl _,?_⟩
  rintro W6 k6 ⟨rr,hr6⟩ ⟨hi6,aq,cq,b6,o6,hz6⟩
  have hxl:=(List.getElem?_eq_some_iff.1 hx).1
  have hT:(upto (hasW ws) (ws.length * 64)).length≤ws.length * 64:=by
   have:=List.length_filter_le (hasW ws) (List.range (ws.length * 64))
   rwa [List.length_range] at this
  have hz7:W2.heap.size+2≤W6.heap.size:=by have:=k6.size;omega
  have c6:=cell_of_one b6
  have f6:=free_of_one b6
  have l6:=(Array.getElem?_eq_some_iff.1 b6).1
  have O6:=Lib.hid o6
  have B6:=Lib.hid b6
  have HX:=Lib.hid hx
  clear hi4 hk4 k6 hr6 o6 b6 hx
  refine wpAt_of_in (n:=1) ?_
  gi_wp2_with (refine wpListIn_append_lies _ rfl _ _ 36 rfl (W2.heap.size+2) 3 iI _ 1 8 Tryz.underlying36 hiI zI0 zI1 zI2 rfl (by omega) (.slice aq i cq) i _ rfl (O6.out.alloc _) ⟨W6.heap.size,0,none⟩ 1 1 [.int .i64 (x:Int)] rfl rfl (World.news_of_block (cs:=#[.int .i64 (x:Int)]) (t:=3) (fr:=(0,0)) (heap_alloc_new W6 _)) (by simp [Value.oneCell']) (by omega) (by unfold maxLen;omega) (by omega) (by simp;omega) _ rfl ?_;intro g7 c7 W7 ho7 hg7 ha7 hl7;have k7:Keep (fun k=>W2.heap.size+2≤k) W6 W7:=(Keep.of_ext (Ext.alloc W6 _):Keep (fun k=>W2.heap.size+2≤k) W6 _).trans (Keep.grown hg7 (fun k e=>(O6.out.lt k e).1)) (fun _ _ h=>h);have b7:=(k7.block (bs+1) l6 (by omega)).trans B6.out;have c8:=cell_of_one b7;have f8:=free_of_one b7;have l8:=(Array.getElem?_eq_some_iff.1 b7).1;have K7:=Lib.hid k7;have B7:=Lib.hid b7;have O7:=Lib.hid ho7;clear k7 b7 ho7 hg7 ha7)
  have ks:=Keep.setCell (fun k=>k=bs+1) W7 ⟨bs+1,0,none⟩ (.slice (some ⟨g7,0,none⟩) (i+1) c7) rfl
  refine ⟨⟨by omega,some ⟨g7,0,none⟩,c7,heap_set_cells B7.out 0 _,?_,?_⟩,(K7.out.mono (S':=fun k=>k=bs+1∨W2.heap.size+2≤k) (fun k h=>Or.inr h)).trans (ks.mono (S':=fun k=>k=bs+1∨W2.heap.size+2≤k) (fun k h=>Or.inl h)) (fun _ _ h=>h)⟩
  ·rw [List.take_add_one,HX.out,List.map_append]
   exact owns_same O7.out (fun q e=>ks.block q (O7.out.lt q e).2 (by have:=(O7.out.lt q e).1;omega))
  ·have h1:=K7.out.size
   have h2:=ks.size
   omega
 case hend =>
  rintro W3 ⟨_,aq,cq,b3,o3,hz3⟩ hk hd
  have c3:=cell_of_one b3
  have O3:=Lib.hid o3
  have HD:=Lib.hid hd
  have XF:=Lib.hid (Keep.toExt ((Keep.of_ext XX.out:Keep (fun k=>W.heap.size≤k) W W2).trans hk (fun q _ h=>by have:=XX.out.size;omega)) (fun q h=>h))
  have lo:bs+1<W2.heap.size:=by have:=X2.out.size;omega
  have B3:=Lib.hid b3
  clear hk hd b3
  refine wpAt_of_wp ?_
  go_wp2
  refine leaves_mark (v:=.slice aq (upto (hasW ws) (ws.length * 64)).length cq) HD.out (fun w' k5=>by simp [results,Tryz.results84,go_sem]) (fun w' k5=>?_)
  have o3:=O3.out
  rw [List.take_of_length_le (Nat.le_refl _)] at o3
  refine ⟨_,ws.length * 64,rfl,fun n hn=>?_,?_,?_⟩
  ·rcases Nat.lt_or_ge n (ws.length * 64) with h | h
   ·exact h
   ·rw [hasW_out (by omega)] at hn;cases hn
  ·have h2:=XX.out.size
   exact owns_base (owns_same o3 (fun q e=>k5.block q (o3.lt q e).2 (by have:=(o3.lt q e).1;show ¬ q=W2.heap.size;omega))) (by omega)
  ·exact Keep.toExt ((Keep.of_ext XF.out:Keep (fun k=>W.heap.size≤k) W W3).trans k5 (fun q _ (e:q=W2.heap.size)=>by have:=XX.out.size;omega)) (fun q h=>h)
end Go.Proofs.YtligiddaampneaaGreat
