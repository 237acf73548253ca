/- A part of the proof, joined of several texts: mdcheck: choices, fits, pairs, spills, the whole check. No condition. -/
import Derived.Test.YtligiddaampneaaGreatMgE
import Derived.BigGuardIn
import Derived.BigFrameIn
set_option maxRecDepth 100000
set_option maxHeartbeats 4000000
section
namespace Go.Proofs.YtligiddaampneaaGreat
open Go.RowKit
attribute [local go_sem] Oper.semAt_some
variable {W : World} {n1 bc : Nat} {V : MV} {M : Mach} {N : List ByteArray} {L : List Pl}
def OprOK (M:Mach) (N:List ByteArray) (o:Opr):Prop := ∃ (k:Nat) (c:Cls),clsIx M o.cls=(k:Int)∧M.classes[k]?=some c∧∀ r∈c.regs,0≤idx N r
def regsOf (M:Mach) (o:Opr):List ByteArray:=match M.classes[(clsIx M o.cls).toNat]? with
 | some c=>c.regs
 | none=>[]
theorem regsOf_eq {o:Opr} {k:Nat} {c:Cls} (hk:clsIx M o.cls=(k:Int)) (hc:M.classes[k]?=some c):regsOf M o=c.regs:=by
 unfold regsOf;rw [hk,Int.toNat_natCast,hc]
def mayO (M:Mach) (N:List ByteArray) (L:List Pl) (o:Opr):List Pl:=mayS N L o.fix (regsOf M o)
def choicesS (M:Mach) (N:List ByteArray) (L:List Pl):List Opr→List (List Pl)
 | []=>[]
 | [u]=>(mayO M N L u).map fun p=>[p]
 | u :: t :: _=>(mayO M N L u).flatMap fun p=>((mayO M N L t).filter fun q=>!lapS p q).map fun q=>[p,q]
def encL (W:World) (l:List Pl) (v:Value) (W1:World):Prop := ∃ b,v=.slice (some ⟨b,0,none⟩) l.length l.length∧W.heap.size≤b∧W1.heap[b]?=some (.cells (plCells l).toArray 88 (0,0))
theorem mayO_in (h:CkIn W n1 bc V M N L) {bx bo:Nat} (o:Opr) (ho:OprOK M N o) (cx:W.cell? ⟨bx,0,none⟩=some (.pointer (some ⟨bc,0,none⟩))) (co0:W.cell? ⟨bo,0,none⟩=some (.string o.cls)) (co1:W.cell? ⟨bo,1,none⟩=some (.string o.fix)) :
  Searches Tryz.prog 165 #[.pointer (some ⟨bx,0,none⟩),.pointer (some ⟨bo,0,none⟩)] (fun p v _=>v=Pl.val p) (mayO M N L o) (fun k=>k<n1∨k=bx∨k=bo) W:=by
 obtain ⟨k,c,hk,hc,hr⟩:=ho
 unfold mayO
 rw [regsOf_eq hk hc]
 exact may1_in h o cx co0 co1 hk hc hr
theorem mayO_fit (h:CkIn W n1 bc V M N L) {o:Opr} (ho:OprOK M N o) {p:Pl} (hp:p∈mayO M N L o):p.fit:=by
 obtain ⟨k,c,hk,hc,hr⟩:=ho
 unfold mayO at hp
 rw [regsOf_eq hk hc] at hp
 exact mayS_fit h hr hp
theorem RoundIn.inRound {F:Fence} {n:Nat} {P:Program} {l:Nat} {f:FuncId} {tmps:Array Value} {assign body:Code} {w:World} {R:Ending→World→Prop} (q:Nat) (h:RoundIn F n P l f tmps assign body w R):RoundIn (F.inRound q) n P l f tmps assign body w R:=h
theorem choices_any (o:Opn) (vU vK:Value) (W:World):Calls Tryz.prog 154 #[.pointer (some ⟨bc,0,none⟩),.agg #[.string o.name,.string o.dfn.cls,.string o.dfn.fix,vU,.int .i64 o.tie,vK]] W fun e W' =>
  e=.returned (.func (.func 163) #[] #[.pointer (some ⟨W.heap.size,0,none⟩),.pointer (some ⟨W.heap.size+1,0,none⟩)])∧Ext W W'∧W.heap.size+1<W'.heap.size ∧
   W'.cell? ⟨W.heap.size,0,none⟩=some (.pointer (some ⟨bc,0,none⟩))∧W'.cell? ⟨W.heap.size+1,3,none⟩=some vU:=by
 go_enter Tryz.func154,Tryz.ntmps154
 go_wp2
 go_ret
 have x1:=Ext.alloc W (.cells #[.pointer (some ⟨bc,0,none⟩)] 119)
 have x2:=Ext.alloc (W.alloc (.cells #[.pointer (some ⟨bc,0,none⟩)] 119)) (.cells #[.string o.name,.string o.dfn.cls,.string o.dfn.fix,vU,.int .i64 o.tie,vK] 60)
 obtain ⟨c1,c2⟩:=cells_two W [.pointer (some ⟨bc,0,none⟩)] [.string o.name,.string o.dfn.cls,.string o.dfn.fix,vU,.int .i64 o.tie,vK] 119 60
 exact ⟨rfl,x1.trans x2,by simp,c1 0 _ rfl,c2 3 _ rfl⟩
theorem choices1_one (h:CkIn W n1 bc V M N L) {bx bo:Nat} {vU:Value} (u:Opr) (cx:W.cell? ⟨bx,0,none⟩=some (.pointer (some ⟨bc,0,none⟩))) (co3:W.cell? ⟨bo,3,none⟩=some vU) (hU:OprsIn W n1 vU [u]) (ho:OprOK M N u) :
  Searches Tryz.prog 163 #[.pointer (some ⟨bx,0,none⟩),.pointer (some ⟨bo,0,none⟩)] (encL W) (choicesS M N L [u]) (fun k=>k<n1∨k=bx∨k=bo) W:=by
 intro Ll n ρ I J stop hρ hI hJ hY h0
 refine callsIn_wide.2 ?_
 obtain ⟨ub,uoff,ucap,eu,hu1,hu2,hub,g0,g1⟩:=hU.at (i:=0) (o:=u) rfl
 subst eu
 simp only [Nat.zero_mul,Nat.add_zero] at g0 g1
 have H:=qh h
 have HY:=qh hY
 have HI:=qh hI
 have HJ:=qh hJ
 have HP:=qh hρ
 have H0:=qh h0
 have HO:=qh ho
 clear h hY hI hJ hρ h0 hU ho
 refine calls_of_wpAt Tryz.func163 rfl ?_
 simp only [Tryz.ntmps163,List.size_toArray,List.length_cons,List.length_nil,Nat.reduceAdd,Nat.reduceSub,Array.replicate_succ,Array.replicate_zero,List.push_toArray,List.append_toArray,List.nil_append,List.cons_append]
 have X0:=qh (Ext.alloc W (.cells #[.func (.yield Ll) #[] #[]] 184))
 have y0:=cells_one W [.func (.yield Ll) #[] #[]] 184 0 _ rfl
 have cx1:=X0.out.cell cx
 have co31:=X0.out.cell co3
 have g01:=X0.out.cell g0
 have g11:=X0.out.cell g1
 refine wpAt_seq (wpAt_of_wp (wp_hide (fun Q1 hQ1=>?_)))
 go_wp2
 generalize W.alloc (.cells #[.func (.yield Ll) #[] #[]] 184)=W1 at X0 y0 cx1 co31 g01 g11 ⊢
 obtain ⟨by0,hby⟩:∃ b,b=W.heap.size:=⟨_,rfl⟩
 rw [← hby] at y0 ⊢
 have HBY:=qh hby
 clear hby
 refine wpAt_seq (wpAt_of_wp (wp_noPanic ?_))
 refine wp_region_M (fun w'=>Ext W1 w') 5 (by kernel_rfl) (Ext.drew _) (fun hS=>?_)
 refine' tk 0 hS ?_ ?_;rotate_left;·intro w hSw;have p0:=xc hSw cx1;go_simp;try rfl
 refine' tk 1 hS ?_ ?_;rotate_left;·intros;go_simp;try rfl
 refine' tk 2 hS ?_ ?_;rotate_left;·intro w hSw;have p1:=xc hSw co31;go_simp;try rfl
 try simp only [tD]
 refine' tk 3 hS ?_ ?_;rotate_left;·intros;go_simp;try rfl
 refine' tk 4 hS ?_ ?_;rotate_left;·intro w hSw;have p2:=xc hSw g01;have p3:=xc hSw g11;go_simp;try rfl
 try simp only [tD]
 generalize W1.drew=W2 at hS ⊢
 refine rl 5 fun K hK=>?_
 go_simp
 refine ((may_any u W2)).mono ?_
 rintro e W3 ⟨rfl,hx2,hz2,m0,m1,m2⟩
 refine hK.out _ _ ?_
 try simp only [tD]
 clear hK K
 refine wpAnyM_done (by kernel_rfl) ?_ _
 show wpAt _ _ _ _ _ _ _
 refine wpAt_block ?_
 have XX:=qh (X0.out.trans (hS.trans hx2))
 have y3:=xc (hS.trans hx2) y0
 have o3:=xc (hS.trans hx2) co31
 have hle:W.heap.size≤W3.heap.size:=XX.out.size
 have hby1:W.heap.size≤by0∧by0≤W.heap.size:=by have:=HBY.out;omega
 have lbo:bo<W3.heap.size:=World.block_lt_of_cell? _ _ o3
 have hbyl:by0<W3.heap.size:=World.block_lt_of_cell? _ _ y3
 have hle2:W.heap.size≤W2.heap.size:=Nat.le_trans X0.out.size hS.size
 have HP3:∀ k,ρ k→k<W3.heap.size∧¬ (k<n1∨k=W2.heap.size∨k=W2.heap.size+1):=fun k hk=>by
  have h1:=HP.out k hk
  refine ⟨by omega,?_⟩
  rintro (h | h | h)
  ·exact h1.2 (Or.inl h)
  ·omega
  ·omega
 have HP3:=qh HP3
 have hn1:n1≤W.heap.size:=H.out.le
 clear hS hx2 y0 co31 cx1 g01 g11
 refine wpAt_search (gf:=165) (lb:=#[.pointer (some ⟨W2.heap.size,0,none⟩),.pointer (some ⟨W2.heap.size+1,0,none⟩)]) Tryz.func163 rfl (enters_of Tryz.func165 (by kernel_rfl) rfl)
  (fun _ p v _=>v=Pl.val p) ρ (fun W'=>I W'∧Keep (fun k=>ρ k∨W3.heap.size≤k) W3 W') J (fun p=>stop [p])
  (fun w1 x=>mayO_in ((H.out.ext XX.out).ext x) u HO.out (x.cell m0) (x.cell m1) (x.cell m2)) rfl ?hD HP3.out ?hI ?hJ ?h0 ?hb ?hend ?hret
 case hD =>
  rintro k (h | rfl | rfl)
  ·omega
  ·omega
  ·omega
 case hI=>exact fun A B h hz k=>⟨HI.out A B h.1 (Nat.le_trans hle hz) (k.mono (fun q h=>Nat.le_trans hle h)),h.2.trans (k.mono (S':=fun k=>ρ k∨W3.heap.size≤k) (fun q h=>Or.inr h)) (fun _ _ h=>h)⟩
 case hJ=>exact fun A B h hz k=>HJ.out A B h (Nat.le_trans hle hz) (k.mono (fun q h=>Nat.le_trans hle h))
 case h0=>exact ⟨HI.out W W3 H0.out (Nat.le_refl _) (Keep.of_ext XX.out),Keep.refl _ _⟩
 case hb =>
  rintro q p _ w1 W4 hp hx1 hqz rfl hz rfl hi hk
  unfold Pl.val
  have hz:W3.heap.size+1<W4.heap.size:=by omega
  clear hx1 hqz
  refine wpAt_of_in (n:=1) ?_
  gi_hideQ
  gi_wp2
  refine ⟨Ext.alloc _ _,?_⟩
  rintro W6 k6 ⟨rr,hr6⟩ ⟨hi6,hk6⟩
  have d0:=k6.cell (cell_new W4 #[.int .i64 p.root,.int .i64 p.beg,.int .i64 p.width] 88 0) (fun (e:W4.heap.size=W3.heap.size+1)=>by omega)
  have d1:=k6.cell (cell_new W4 #[.int .i64 p.root,.int .i64 p.beg,.int .i64 p.width] 88 1) (fun (e:W4.heap.size=W3.heap.size+1)=>by omega)
  have d2:=k6.cell (cell_new W4 #[.int .i64 p.root,.int .i64 p.beg,.int .i64 p.width] 88 2) (fun (e:W4.heap.size=W3.heap.size+1)=>by omega)
  have y6:=hk6.cell y3 (fun h=>h.elim (fun h=>by have:=(HP.out by0 h).1;omega) (fun (e:W3.heap.size≤by0)=>by omega))
  have o6:=hk6.cell o3 (fun h=>h.elim (fun h=>(HP.out bo h).2 (Or.inr (Or.inr rfl))) (fun (e:W3.heap.size≤bo)=>by omega))
  generalize W4.heap.size=bp at d0 d1 d2 ⊢
  have HI6:=qh hi6
  have HK6:=qh hk6
  have hz6:W3.heap.size≤W6.heap.size:=hk6.size
  clear k6 hi6 hk6 hk hi hr6
  have mem:[p]∈choicesS M N L [u]:=List.mem_map.2 ⟨p,hp,rfl⟩
  have x7:Ext W6 (W6.alloc (.cells #[.int .i64 p.root,.int .i64 p.beg,.int .i64 p.width] 88)):=Ext.alloc _ _
  have hy:=HY.out 0 (W6.alloc (.cells #[.int .i64 p.root,.int .i64 p.beg,.int .i64 p.width] 88)) [p] (.slice (some ⟨W6.heap.size,0,none⟩) 1 1) mem ⟨W6.heap.size,rfl,Nat.le_trans hle hz6,heap_alloc_new W6 _⟩ (Nat.le_trans (Nat.le_trans hle hz6) x7.size) (HI.out W6 _ HI6.out (Nat.le_trans hle hz6) (Keep.of_ext x7))
  have X7:=qh x7
  clear x7
  refine wpAt_of_in (n:=1) ?_
  cases hst:stop [p] with
  | true =>
   rw [hst] at hy
   obtain ⟨fn,tm,asg,bdy,hyr,hR⟩:=hy
   have hR:=qh hR
   have ST:=qh hst
   clear hst HY
   gi_wp2_with (refine RoundIn.mono (RoundIn.inRound _ hR.out) ?_;clear hR;rintro e W8 ⟨k8,rfl,hij⟩;rw [if_pos rfl] at hij;have J8:=qh hij;have K8:=qh k8;clear hij k8)
   exact ⟨ST.out,J8.out,(Keep.of_ext X7.out:Keep ρ W6 _).trans K8.out (fun _ _ h=>h)⟩
  | false =>
   rw [hst] at hy
   obtain ⟨fn,tm,asg,bdy,hyr,hR⟩:=hy
   have hR:=qh hR
   have ST:=qh hst
   clear hst HY
   gi_wp2_with (refine RoundIn.mono (RoundIn.inRound _ hR.out) ?_;clear hR;rintro e W8 ⟨k8,rfl,hij⟩;simp only [Bool.false_eq_true,if_false] at hij;have J8:=qh hij;have K8:=qh k8;clear hij k8)
   have k68:=(Keep.of_ext X7.out:Keep ρ W6 _).trans K8.out (fun _ _ h=>h)
   exact ⟨ST.out,⟨J8.out,HK6.out.trans (k68.mono (S':=fun k=>ρ k∨W3.heap.size≤k) (fun q h=>Or.inl h)) (fun _ _ h=>h)⟩,k68⟩
 case hend =>
  intro hany W4 hi hk hd
  have HAN:(choicesS M N L [u]).any stop=false:=by
   unfold choicesS;rw [List.any_map];exact hany
  show LeavesInM Fence.wide 1 Tryz.prog Tryz.f163 _ _ _ _ _
  refine leaves_mark (v:=.tuple #[]) hd (fun w' _=>results_none rfl _ _ _) (fun w' k5=>?_)
  have k6:=((Keep.of_ext XX.out:Keep ρ W W3).trans hk (fun _ _ h=>h)).trans k5 (fun q h (e:q=W3.heap.size)=>by omega)
  exact SearchEnd.all HAN k6 (HI.out W4 w' hi.1 (Nat.le_trans hle hk.size) (k5.mono (fun q (e:q=W3.heap.size)=>by omega)))
 case hret =>
  intro hany W4 hj hk hd
  have HAN:(choicesS M N L [u]).any stop=true:=by
   unfold choicesS;rw [List.any_map];exact hany
  show LeavesInM Fence.wide 1 Tryz.prog Tryz.f163 _ _ _ _ _
  refine leaves_mark (v:=.tuple #[]) hd (fun w' _=>results_none rfl _ _ _) (fun w' k5=>?_)
  have k6:=((Keep.of_ext XX.out:Keep ρ W W3).trans hk (fun _ _ h=>h)).trans k5 (fun q h (e:q=W3.heap.size)=>by omega)
  exact SearchEnd.stopped HAN k6 (HJ.out W4 w' hj (Nat.le_trans hle hk.size) (k5.mono (fun q (e:q=W3.heap.size)=>by omega)))
end Go.Proofs.YtligiddaampneaaGreat
end
section
namespace Go.Proofs.YtligiddaampneaaGreat
open Go.RowKit
attribute [local go_sem] Oper.semAt_some
variable {W : World} {n1 bc : Nat} {V : MV} {M : Mach} {N : List ByteArray} {L : List Pl}
theorem wpIn_noPanic {F:Fence} {n:Nat} {P:Program} {c:Code} {Q:Exit→Act→World→Prop} {a:Act} {w:World} (h:c.wpIn F n P (noPanic Q) a w):c.wpIn F n P Q a w :=
 wpIn_mono h fun e _ _ hq=>by cases e <;> first | exact hq | exact hq.elim
theorem choicesS_two (u t:Opr) (l:List Opr) (stop:List Pl→Bool):(choicesS M N L (u :: t :: l)).any stop=(mayO M N L u).any fun p=>(mayO M N L t).any fun q=>!lapS p q && stop [p,q]:=by
 unfold choicesS
 rw [List.any_flatMap]
 congr 1
 funext p
 rw [List.any_map,List.any_filter]
 rfl
theorem choices1_two (h:CkIn W n1 bc V M N L) {bx bo:Nat} {vU:Value} (u t:Opr) (cx:W.cell? ⟨bx,0,none⟩=some (.pointer (some ⟨bc,0,none⟩))) (co3:W.cell? ⟨bo,3,none⟩=some vU) (hU:OprsIn W n1 vU [u,t]) (ho:OprOK M N u) (ht:OprOK M N t) :
  Searches Tryz.prog 163 #[.pointer (some ⟨bx,0,none⟩),.pointer (some ⟨bo,0,none⟩)] (encL W) (choicesS M N L [u,t]) (fun k=>k<n1∨k=bx∨k=bo) W:=by
 intro Ll n ρ I J stop hρ hI hJ hY h0
 refine callsIn_wide.2 ?_
 obtain ⟨ub,uoff,ucap,eu,hu1,hu2,hub,g0,g1⟩:=hU.at (i:=0) (o:=u) rfl
 subst eu
 obtain ⟨_,_,_,eu2,_,_,_,g2,g3⟩:=hU.at (i:=1) (o:=t) rfl
 cases eu2
 simp only [Nat.zero_mul,Nat.add_zero,Nat.one_mul] at g0 g1 g2 g3
 have H:=qh h
 have HY:=qh hY
 have HI:=qh hI
 have HJ:=qh hJ
 have HP:=qh hρ
 have H0:=qh h0
 have HO:=qh ho
 have HT:=qh ht
 clear h hY hI hJ hρ h0 hU ho ht
 refine calls_of_wpAt Tryz.func163 rfl ?_
 simp only [Tryz.ntmps163,List.size_toArray,List.length_cons,List.length_nil,Nat.reduceAdd,Nat.reduceSub,Array.replicate_succ,Array.replicate_zero,List.push_toArray,List.append_toArray,List.nil_append,List.cons_append]
 have X0:=qh (Ext.alloc W (.cells #[.func (.yield Ll) #[] #[]] 184))
 have y0:=cells_one W [.func (.yield Ll) #[] #[]] 184 0 _ rfl
 have cx1:=X0.out.cell cx
 have co31:=X0.out.cell co3
 have g01:=X0.out.cell g0
 have g11:=X0.out.cell g1
 refine wpAt_seq (wpAt_of_wp (wp_hide (fun Q1 hQ1=>?_)))
 go_wp2
 generalize W.alloc (.cells #[.func (.yield Ll) #[] #[]] 184)=W1 at X0 y0 cx1 co31 g01 g11 ⊢
 obtain ⟨by0,hby⟩:∃ b,b=W.heap.size:=⟨_,rfl⟩
 rw [← hby] at y0 ⊢
 have HBY:=qh hby
 clear hby
 refine wpAt_seq (wpAt_of_wp (wp_noPanic ?_))
 refine wp_region_M (fun w'=>Ext W1 w') 5 (by kernel_rfl) (Ext.drew _) (fun hS=>?_)
 refine' tk 0 hS ?_ ?_;rotate_left;·intro w hSw;have p0:=xc hSw cx1;go_simp;try rfl
 refine' tk 1 hS ?_ ?_;rotate_left;·intros;go_simp;try rfl
 refine' tk 2 hS ?_ ?_;rotate_left;·intro w hSw;have p1:=xc hSw co31;go_simp;try rfl
 try simp only [tD]
 refine' tk 3 hS ?_ ?_;rotate_left;·intros;go_simp;try rfl
 refine' tk 4 hS ?_ ?_;rotate_left;·intro w hSw;have p2:=xc hSw g01;have p3:=xc hSw g11;go_simp;try rfl
 try simp only [tD]
 generalize W1.drew=W2 at hS ⊢
 refine rl 5 fun K hK=>?_
 go_simp
 refine ((may_any u W2)).mono ?_
 rintro e W3 ⟨rfl,hx2,hz2,m0,m1,m2⟩
 refine hK.out _ _ ?_
 try simp only [tD]
 clear hK K
 refine wpAnyM_done (by kernel_rfl) ?_ _
 show wpAt _ _ _ _ _ _ _
 refine wpAt_block ?_
 have XX:=qh (X0.out.trans (hS.trans hx2))
 have y3:=xc (hS.trans hx2) y0
 have o3:=xc (hS.trans hx2) co31
 have t2:=XX.out.cell g2
 have t3:=XX.out.cell g3
 have cx3:=XX.out.cell cx
 have hle:W.heap.size≤W3.heap.size:=XX.out.size
 have hby1:W.heap.size≤by0∧by0≤W.heap.size:=by have:=HBY.out;omega
 have lbo:bo<W3.heap.size:=World.block_lt_of_cell? _ _ o3
 have lub:ub<W3.heap.size:=World.block_lt_of_cell? _ _ t2
 have lbx:bx<W3.heap.size:=World.block_lt_of_cell? _ _ cx3
 have hbyl:by0<W3.heap.size:=World.block_lt_of_cell? _ _ y3
 have hle2:W.heap.size≤W2.heap.size:=Nat.le_trans X0.out.size hS.size
 have HP3:∀ k,ρ k→k<W3.heap.size∧¬ (k<n1∨k=W2.heap.size∨k=W2.heap.size+1):=fun k hk=>by
  have h1:=HP.out k hk
  refine ⟨by omega,?_⟩
  rintro (h | h | h)
  ·exact h1.2 (Or.inl h)
  ·omega
  ·omega
 have HP3:=qh HP3
 have hn1:n1≤W.heap.size:=H.out.le
 clear hS hx2 y0 co31 cx1 g01 g11
 refine wpAt_search (gf:=165) (lb:=#[.pointer (some ⟨W2.heap.size,0,none⟩),.pointer (some ⟨W2.heap.size+1,0,none⟩)]) Tryz.func163 rfl (enters_of Tryz.func165 (by kernel_rfl) rfl)
  (fun _ p v _=>v=Pl.val p) ρ (fun W'=>I W'∧Keep (fun k=>ρ k∨W3.heap.size≤k) W3 W') J (fun p=>(mayO M N L t).any fun q=>!lapS p q && stop [p,q])
  (fun w1 x=>mayO_in ((H.out.ext XX.out).ext x) u HO.out (x.cell m0) (x.cell m1) (x.cell m2)) rfl ?hD HP3.out ?hI ?hJ ?h0 ?hb ?hend ?hret
 case hD =>
  rintro k (h | rfl | rfl)
  ·omega
  ·omega
  ·omega
 case hI=>exact fun A B h hz k=>⟨HI.out A B h.1 (Nat.le_trans hle hz) (k.mono (fun q h=>Nat.le_trans hle h)),h.2.trans (k.mono (S':=fun k=>ρ k∨W3.heap.size≤k) (fun q h=>Or.inr h)) (fun _ _ h=>h)⟩
 case hJ=>exact fun A B h hz k=>HJ.out A B h (Nat.le_trans hle hz) (k.mono (fun q h=>Nat.le_trans hle h))
 case h0=>exact ⟨HI.out W W3 H0.out (Nat.le_refl _) (Keep.of_ext XX.out),Keep.refl _ _⟩
 case hb =>
  rintro q p _ w1 W4 hp hx1 hqz rfl hz rfl hi hk
  unfold Pl.val
  have hz:W3.heap.size+1<W4.heap.size:=by omega
  clear hx1 hqz
  refine wpAt_of_in (n:=1) ?_
  gi_hideQ
  gi_wp2
  refine ⟨Ext.alloc _ _,?_⟩
  rintro W6 k6 ⟨rr,hr6⟩ ⟨hi6,hk6⟩
  have d0:=k6.cell (cell_new W4 #[.int .i64 p.root,.int .i64 p.beg,.int .i64 p.width] 88 0) (fun (e:W4.heap.size=W3.heap.size+1)=>by omega)
  have d1:=k6.cell (cell_new W4 #[.int .i64 p.root,.int .i64 p.beg,.int .i64 p.width] 88 1) (fun (e:W4.heap.size=W3.heap.size+1)=>by omega)
  have d2:=k6.cell (cell_new W4 #[.int .i64 p.root,.int .i64 p.beg,.int .i64 p.width] 88 2) (fun (e:W4.heap.size=W3.heap.size+1)=>by omega)
  have y6:=hk6.cell y3 (fun h=>h.elim (fun h=>by have:=(HP.out by0 h).1;omega) (fun (e:W3.heap.size≤by0)=>by omega))
  have o6:=hk6.cell o3 (fun h=>h.elim (fun h=>(HP.out bo h).2 (Or.inr (Or.inr rfl))) (fun (e:W3.heap.size≤bo)=>by omega))
  have hbp:W3.heap.size≤W4.heap.size:=by omega
  generalize W4.heap.size=bp at hbp d0 d1 d2 ⊢
  have HI6:=qh hi6
  have HK6:=qh hk6
  have hz6:W3.heap.size≤W6.heap.size:=hk6.size
  have hk6c:∀ {a:Addr} {v:Value},W3.cell? a=some v→(¬ ρ a.block)→a.block<W3.heap.size→W6.cell? a=some v:=fun hc h1 h2=>HK6.out.cell hc (fun h=>h.elim h1 (fun e=>Nat.not_le.2 h2 e))
  have HL6:Hid (∃ r,W6.heap[W3.heap.size+1]?=some (.loop r)):=qh ⟨rr,hr6⟩
  clear k6 hi6 hk6 hk hi hr6
  have t26:=hk6c t2 (fun h=>(HP.out ub h).2 (Or.inl hub)) (by omega)
  have t36:=hk6c t3 (fun h=>(HP.out ub h).2 (Or.inl hub)) (by omega)
  have cx6:=hk6c cx3 (fun h=>(HP.out bx h).2 (Or.inr (Or.inl rfl))) (by omega)
  have CK6:=qh ((H.out.ext XX.out).keep HK6.out.size (fun k hk=>HK6.out.block k (by omega) (fun h=>h.elim (fun h=>(HP.out k h).2 (Or.inl hk)) (fun (e:W3.heap.size≤k)=>by omega))))
  clear hk6c
  refine wpAt_block ?_
  refine wpAt_seq (wpAt_of_in (n:=1) (wpIn_hide (fun Q4 hQ4=>?_)))
  gi_wp2
  refine wpAt_seq (wpAt_of_in (n:=1) (wpIn_noPanic ?_))
  refine wpIn_region_X (fun w'=>Ext W6 w') 5 (by kernel_rfl) (Ext.drew _) (fun hS=>?_)
  refine' tkx 0 hS ?_ ?_;rotate_left;·intro w hSw;have q0:=xc hSw cx6;go_simp;try rfl
  refine' tkx 1 hS ?_ ?_;rotate_left;·intros;go_simp;try rfl
  refine' tkx 2 hS ?_ ?_;rotate_left;·intro w hSw;have q1:=xc hSw o6;go_simp;try rfl
  try simp only [tD]
  refine' tkx 3 hS ?_ ?_;rotate_left;·intros;go_simp;try rfl
  refine' tkx 4 hS ?_ ?_;rotate_left;·intro w hSw;have q2:=xc hSw t26;have q3:=xc hSw t36;go_simp;try rfl
  try simp only [tD]
  generalize W6.drew=W7' at hS ⊢
  refine rlx 5 fun K hK=>?_
  go_simp
  (try refine ⟨trivial,?_⟩);(try refine ⟨(fun h=>by cases h),?_⟩)
  refine ((callsIn_wide.2 (may_any t W7'))).mono ?_
  rintro e W7 ⟨rfl,hx7,hz7,n0,n1',n2⟩
  refine hK.out _ _ ?_
  try simp only [tD]
  clear hK K
  refine wpAnyX_done (by kernel_rfl) ?_ _
  show wpAt _ _ _ _ _ _ _
  refine wpAt_block ?_
  have X7:=qh (hS.trans hx7)
  have hz7s:=qh hS.size
  clear hS hx7
  have lbp:bp<W6.heap.size:=World.block_lt_of_cell? _ _ d0
  have hz67:W6.heap.size≤W7.heap.size:=X7.out.size
  have hzz:W6.heap.size≤W7'.heap.size:=hz7s.out
  have d0:=X7.out.cell d0
  have d1:=X7.out.cell d1
  have d2:=X7.out.cell d2
  have y7:=X7.out.cell y6
  have HL7:∃ r,W7.heap[W3.heap.size+1]?=some (.loop r):=by obtain ⟨r,hr⟩:=HL6.out;exact ⟨r,X7.out.block hr⟩
  obtain ⟨r7,hr7⟩:=HL7
  have I7:I W7:=HI.out W6 W7 HI6.out (Nat.le_trans hle hz6) (Keep.of_ext X7.out)
  have HI7:=qh I7
  have pf:=mayO_fit H.out HO.out hp
  have HP7:∀ k,ρ k→k<W7.heap.size∧¬ (k<n1∨k=W7'.heap.size∨k=W7'.heap.size+1):=fun k hk=>by
   have h1:=HP.out k hk
   refine ⟨by omega,?_⟩
   rintro (h | h | h)
   ·exact h1.2 (Or.inl h)
   ·omega
   ·omega
  clear t26 t36 cx6 o6 I7 y6
  refine wpAt_searchIn (gf:=165) (lb:=#[.pointer (some ⟨W7'.heap.size,0,none⟩),.pointer (some ⟨W7'.heap.size+1,0,none⟩)]) Tryz.func163 hr7 rfl (enters_of Tryz.func165 (by kernel_rfl) rfl)
   (fun _ p v _=>v=Pl.val p) ρ (fun W'=>I W'∧Keep (fun k=>ρ k∨W7.heap.size≤k) W7 W') J (fun q=>!lapS p q && stop [p,q])
   (fun w1 x=>mayO_in ((CK6.out.ext X7.out).ext x) t HT.out (x.cell n0) (x.cell n1') (x.cell n2)) rfl ?hD2 HP7 ?hI2 ?hJ2 ⟨HI7.out,Keep.refl _ _⟩ ?hb2 ?hend2 ?hret2
  case hD2 =>
   rintro k (h | rfl | rfl)
   ·omega
   ·omega
   ·omega
  case hI2=>exact fun A B h hz k=>⟨HI.out A B h.1 (by omega) (k.mono (fun q h=>by omega)),h.2.trans (k.mono (S':=fun k=>ρ k∨W7.heap.size≤k) (fun q h=>Or.inr h)) (fun _ _ h=>h)⟩
  case hJ2=>exact fun A B h hz k=>HJ.out A B h (by omega) (k.mono (fun q h=>by omega))
  case hb2 =>
   rintro _ q _ w8 W8 hq hx8 hqz8 rfl hz8 rfl hi8 hk8
   unfold Pl.val
   have hz8:W7.heap.size<W8.heap.size:=by omega
   clear hx8 hqz8
   refine wpAt_of_in (n:=1) ?_
   gi_hideQ
   gi_wp2
   refine ⟨Ext.alloc _ _,?_⟩
   rintro W9 k9 ⟨rr9,hr9⟩ ⟨hi9,hk9⟩
   have e0:=k9.cell (cell_new W8 #[.int .i64 q.root,.int .i64 q.beg,.int .i64 q.width] 88 0) (fun (e:W8.heap.size=W7.heap.size)=>by omega)
   have e1:=k9.cell (cell_new W8 #[.int .i64 q.root,.int .i64 q.beg,.int .i64 q.width] 88 1) (fun (e:W8.heap.size=W7.heap.size)=>by omega)
   have e2:=k9.cell (cell_new W8 #[.int .i64 q.root,.int .i64 q.beg,.int .i64 q.width] 88 2) (fun (e:W8.heap.size=W7.heap.size)=>by omega)
   have y9:=hk9.cell y7 (fun h=>h.elim (fun h=>by have:=(HP.out by0 h).1;omega) (fun (e:W7.heap.size≤by0)=>by omega))
   have d0:=hk9.cell d0 (fun h=>h.elim (fun h=>by have:=(HP.out bp h).1;omega) (fun (e:W7.heap.size≤bp)=>by omega))
   have d1:=hk9.cell d1 (fun h=>h.elim (fun h=>by have:=(HP.out bp h).1;omega) (fun (e:W7.heap.size≤bp)=>by omega))
   have d2:=hk9.cell d2 (fun h=>h.elim (fun h=>by have:=(HP.out bp h).1;omega) (fun (e:W7.heap.size≤bp)=>by omega))
   have HI9:=qh hi9
   have HK9:=qh hk9
   have hz9:W7.heap.size≤W9.heap.size:=hk9.size
   have qf:=mayO_fit H.out HT.out hq
   generalize W8.heap.size=bq at e0 e1 e2 ⊢
   clear k9 hi9 hk9 hk8 hi8 hr9 n0 n1' n2 y7
   have HLP:=qh (fun (W':World)=>lap_any p q W' pf qf)
   refine wpAt_of_in (n:=1) ?_
   cases hlp:lapS p q with
   | true =>
    rw [hlp] at HLP
    have LP:=qh hlp
    clear hlp
    gi_wp2_with (first | ((try refine ⟨trivial,?_⟩);(try refine ⟨(fun h=>by cases h),?_⟩);gi_at_call 109;refine (CallsIn.inRound _ (callsIn_wide.2 (HLP.out _))).mono ?_;rintro e W10 ⟨rfl,x10⟩))
    rename_i heq
    clear heq
    refine ⟨fun _ _=>trivial,?_⟩
    gi_wp2_with fail
    have X10:Ext W9 W10:=x10
    exact ⟨by simp [LP.out],⟨HI.out W9 W10 HI9.out (by omega) (Keep.of_ext X10),HK9.out.trans (Keep.of_ext X10:Keep (fun k=>ρ k∨W7.heap.size≤k) W9 W10) (fun _ _ h=>h)⟩,Keep.of_ext X10⟩
   | false =>
    rw [hlp] at HLP
    have LP:=qh hlp
    have mem:[p,q]∈choicesS M N L [u,t]:=List.mem_flatMap.2 ⟨p,hp,List.mem_map.2 ⟨q,List.mem_filter.2 ⟨hq,by rw [hlp];rfl⟩,rfl⟩⟩
    clear hlp
    cases hst:stop [p,q] with
    | true =>
     have hst':=qh hst
     clear hst
     gi_wp2_with (first
      | ((try refine ⟨trivial,?_⟩);(try refine ⟨(fun h=>by cases h),?_⟩);gi_at_call 109;refine (CallsIn.inRound _ (callsIn_wide.2 (HLP.out _))).mono ?_;rintro e W10 ⟨rfl,x10⟩;have X10:Ext W9 W10:=x10;clear x10;have x11:Ext W10 (W10.alloc (.cells #[.int .i64 p.root,.int .i64 p.beg,.int .i64 p.width,.int .i64 q.root,.int .i64 q.beg,.int .i64 q.width] 88)):=Ext.alloc _ _;have hy:=HY.out 0 (W10.alloc (.cells #[.int .i64 p.root,.int .i64 p.beg,.int .i64 p.width,.int .i64 q.root,.int .i64 q.beg,.int .i64 q.width] 88)) [p,q] (.slice (some ⟨W10.heap.size,0,none⟩) 2 2) mem ⟨W10.heap.size,rfl,Nat.le_trans (by omega) X10.size,heap_alloc_new W10 _⟩ (Nat.le_trans (by omega) (X10.trans x11).size) (HI.out W9 _ HI9.out (by omega) (Keep.of_ext (X10.trans x11)));rw [hst'.out] at hy;obtain ⟨fn,tm,asg,bdy,hyr,hRR⟩:=hy;have hR:=qh hRR;have X11:=qh (X10.trans x11);have y10:=X10.cell y9;have d0:=X10.cell d0;have d1:=X10.cell d1;have d2:=X10.cell d2;have e0:=X10.cell e0;have e1:=X10.cell e1;have e2:=X10.cell e2;clear hRR x11 X10)
      | (refine RoundIn.mono (RoundIn.inRound _ hR.out) ?_;clear hR;rintro e W12 ⟨k12,rfl,hij⟩;(first | rw [if_pos rfl] at hij | rw [if_pos trivial] at hij);have J12:=qh hij;have K12:=qh k12;clear hij k12))
     exact ⟨by simp [LP.out,hst'.out],J12.out,(Keep.of_ext X11.out:Keep ρ W9 _).trans K12.out (fun _ _ h=>h)⟩
    | false =>
     have hst':=qh hst
     clear hst
     gi_wp2_with (first
      | ((try refine ⟨trivial,?_⟩);(try refine ⟨(fun h=>by cases h),?_⟩);gi_at_call 109;refine (CallsIn.inRound _ (callsIn_wide.2 (HLP.out _))).mono ?_;rintro e W10 ⟨rfl,x10⟩;have X10:Ext W9 W10:=x10;clear x10;have x11:Ext W10 (W10.alloc (.cells #[.int .i64 p.root,.int .i64 p.beg,.int .i64 p.width,.int .i64 q.root,.int .i64 q.beg,.int .i64 q.width] 88)):=Ext.alloc _ _;have hy:=HY.out 0 (W10.alloc (.cells #[.int .i64 p.root,.int .i64 p.beg,.int .i64 p.width,.int .i64 q.root,.int .i64 q.beg,.int .i64 q.width] 88)) [p,q] (.slice (some ⟨W10.heap.size,0,none⟩) 2 2) mem ⟨W10.heap.size,rfl,Nat.le_trans (by omega) X10.size,heap_alloc_new W10 _⟩ (Nat.le_trans (by omega) (X10.trans x11).size) (HI.out W9 _ HI9.out (by omega) (Keep.of_ext (X10.trans x11)));rw [hst'.out] at hy;obtain ⟨fn,tm,asg,bdy,hyr,hRR⟩:=hy;have hR:=qh hRR;have X11:=qh (X10.trans x11);have y10:=X10.cell y9;have d0:=X10.cell d0;have d1:=X10.cell d1;have d2:=X10.cell d2;have e0:=X10.cell e0;have e1:=X10.cell e1;have e2:=X10.cell e2;clear hRR x11 X10)
      | (refine RoundIn.mono (RoundIn.inRound _ hR.out) ?_;clear hR;rintro e W12 ⟨k12,rfl,hij⟩;simp only [Bool.false_eq_true,if_false] at hij;have J12:=qh hij;have K12:=qh k12;clear hij k12))
     have k912:=(Keep.of_ext X11.out:Keep ρ W9 _).trans K12.out (fun _ _ h=>h)
     exact ⟨by simp [hst'.out],⟨J12.out,HK9.out.trans (k912.mono (S':=fun k=>ρ k∨W7.heap.size≤k) (fun _ h=>Or.inl h)) (fun _ _ h=>h)⟩,k912⟩
  case hend2 =>
   intro hany W' hi hk
   have k6:=(Keep.of_ext X7.out:Keep ρ W6 W7).trans hk (fun _ _ h=>h)
   exact ⟨hany,⟨hi.1,HK6.out.trans (k6.mono (S':=fun k=>ρ k∨W3.heap.size≤k) (fun _ h=>Or.inl h)) (fun _ _ h=>h)⟩,k6⟩
  case hret2 =>
   intro hany W' hj hk
   exact ⟨hany,hj,(Keep.of_ext X7.out:Keep ρ W6 W7).trans hk (fun _ _ h=>h)⟩
 case hend =>
  intro hany W4 hi hk hd
  have HAN:(choicesS M N L [u,t]).any stop=false:=by
   rw [choicesS_two];exact hany
  show LeavesInM Fence.wide 1 Tryz.prog Tryz.f163 _ _ _ _ _
  refine leaves_mark (v:=.tuple #[]) hd (fun w' _=>results_none rfl _ _ _) (fun w' k5=>?_)
  have k6:=((Keep.of_ext XX.out:Keep ρ W W3).trans hk (fun _ _ h=>h)).trans k5 (fun q h (e:q=W3.heap.size)=>by omega)
  exact SearchEnd.all HAN k6 (HI.out W4 w' hi.1 (Nat.le_trans hle hk.size) (k5.mono (fun q (e:q=W3.heap.size)=>by omega)))
 case hret =>
  intro hany W4 hj hk hd
  have HAN:(choicesS M N L [u,t]).any stop=true:=by
   rw [choicesS_two];exact hany
  show LeavesInM Fence.wide 1 Tryz.prog Tryz.f163 _ _ _ _ _
  refine leaves_mark (v:=.tuple #[]) hd (fun w' _=>results_none rfl _ _ _) (fun w' k5=>?_)
  have k6:=((Keep.of_ext XX.out:Keep ρ W W3).trans hk (fun _ _ h=>h)).trans k5 (fun q h (e:q=W3.heap.size)=>by omega)
  exact SearchEnd.stopped HAN k6 (HJ.out W4 w' hj (Nat.le_trans hle hk.size) (k5.mono (fun q (e:q=W3.heap.size)=>by omega)))
end Go.Proofs.YtligiddaampneaaGreat
end
section
namespace Go.Proofs.YtligiddaampneaaGreat
open Go.RowKit
attribute [local go_sem] Oper.semAt_some
variable {W : World} {n1 bc : Nat} {V : MV} {M : Mach} {N : List ByteArray} {L : List Pl}
structure OpnOK (M:Mach) (N:List ByteArray) (o:Opn):Prop where
 dfn:OprOK M N o.dfn
 uses:∀ u∈o.uses,OprOK M N u
 len:o.uses.length=1∨o.uses.length=2
 tie:o.tie<o.uses.length
 clob:∀ r∈o.clob,0≤idx N r
def fitsS (M:Mach) (N:List ByteArray) (L:List Pl) (o:Opn):Bool:=(choicesS M N L o.uses).any (definedS N L o (regsOf M o.dfn))
theorem choices1_in (h:CkIn W n1 bc V M N L) {bx bo:Nat} {vU:Value} (us:List Opr) (cx:W.cell? ⟨bx,0,none⟩=some (.pointer (some ⟨bc,0,none⟩))) (co3:W.cell? ⟨bo,3,none⟩=some vU) (hU:OprsIn W n1 vU us) (ho:∀ u∈us,OprOK M N u) (hl:us.length=1∨us.length=2) :
  Searches Tryz.prog 163 #[.pointer (some ⟨bx,0,none⟩),.pointer (some ⟨bo,0,none⟩)] (encL W) (choicesS M N L us) (fun k=>k<n1∨k=bx∨k=bo) W:=by
 match us,hl with
 | [u],_=>exact choices1_one h u cx co3 hU (ho u (by simp))
 | [u,t],_=>exact choices1_two h u t cx co3 hU (ho u (by simp)) (ho t (by simp))
 | [],hl=>simp at hl
 | _ :: _ :: _ :: _,hl=>simp at hl
theorem choicesS_len {us:List Opr} {l:List Pl} (hl:l∈choicesS M N L us) (h12:us.length=1∨us.length=2):l.length=us.length:=by
 match us,h12 with
 | [u],_=>obtain ⟨p,_,rfl⟩:=List.mem_map.1 hl;rfl
 | [u,t],_ =>
  obtain ⟨p,_,hq⟩:=List.mem_flatMap.1 hl
  obtain ⟨q,_,rfl⟩:=List.mem_map.1 hq;rfl
 | [],h12=>simp at h12
 | _ :: _ :: _ :: _,h12=>simp at h12
theorem choicesS_fit (h:CkIn W n1 bc V M N L) {us:List Opr} {l:List Pl} (hl:l∈choicesS M N L us) (ho:∀ u∈us,OprOK M N u) (h12:us.length=1∨us.length=2):∀ p∈l,p.fit:=by
 match us,h12 with
 | [u],_ =>
  obtain ⟨p,hp,rfl⟩:=List.mem_map.1 hl
  intro x hx
  obtain rfl:=List.mem_singleton.1 hx
  exact mayO_fit h (ho u (by simp)) hp
 | [u,t],_ =>
  obtain ⟨p,hp,hq⟩:=List.mem_flatMap.1 hl
  obtain ⟨q,hqm,rfl⟩:=List.mem_map.1 hq
  intro x hx
  rcases List.mem_cons.1 hx with rfl | hx
  ·exact mayO_fit h (ho u (by simp)) hp
  ·obtain rfl:=List.mem_singleton.1 hx
   exact mayO_fit h (ho t (by simp)) (List.mem_filter.1 hqm).1
 | [],h12=>simp at h12
 | _ :: _ :: _ :: _,h12=>simp at h12
theorem PlsIn.of_block {W:World} {b:Nat} {l:List Pl} {t:TypeId} {fz:Nat × Nat} (h:W.heap[b]?=some (.cells (plCells l).toArray t fz)) (hn:l.length≤maxLen):PlsIn W (b+1) (.slice (some ⟨b,0,none⟩) l.length l.length) l:=by
 have hfl:((l.map Pl.cells).flatten)=plCells l:=by unfold plCells;rw [← List.flatMap_def]
 have hlen:∀ l:List Pl,(plCells l).length=l.length * 3:=fun l=>by
  induction l with
  | nil=>rfl
  | cons a l ih=>unfold plCells at *;simp only [List.flatMap_cons,List.length_append,ih,List.length_cons];simp [Pl.cells];omega
 have key:Row W 3 (.slice (some ⟨b,0,none⟩) l.length l.length) l.length (plCells l):=⟨hlen l,Or.inr ⟨⟨b,0,none⟩,l.length,rfl,Nat.le_refl _,hn,fun j u hj=>World.news_of_block h j u (by simpa using hj)⟩⟩
 refine ⟨?_,fun r hr=>?_,fun k e _=>by cases e;exact Nat.lt_succ_self _⟩
 ·rw [hfl,List.length_map];exact key
 ·obtain ⟨q,_,rfl⟩:=List.mem_map.1 hr
  rfl
theorem definedM (h:CkIn W n1 bc V M N L) (o:Opn) (vU vK vl:Value) (hcl:StrsIn W n1 vK o.clob) (ho:OpnOK M N o) {n2:Nat} {l:List Pl} (hl:PlsIn W n2 vl l) (hfit:∀ p∈l,p.fit) (hlen:l.length=o.uses.length) :
  Calls Tryz.prog 155 #[.pointer (some ⟨bc,0,none⟩),.agg #[.string o.name,.string o.dfn.cls,.string o.dfn.fix,vU,.int .i64 o.tie,vK],vl] W
   fun e W'=>e=.returned (.bool (definedS N L o (regsOf M o.dfn) l))∧Ext W W':=by
 obtain ⟨k,c,hk,hc,hr⟩:=ho.dfn
 by_cases ht:0≤o.tie
 ·exact definedM_tied h o vU vK vl hcl ho.clob _ hl hfit ht (by have:=ho.tie;rw [hlen];exact this)
 ·rw [regsOf_eq hk hc]
  exact definedM_free h o vU vK vl hcl ho.clob l (by omega) hk hc hr
theorem fitsM (h:CkIn W n1 bc V M N L) (o:Opn) (vU vK:Value) (hU:OprsIn W n1 vU o.uses) (hcl:StrsIn W n1 vK o.clob) (ho:OpnOK M N o) :
  Calls Tryz.prog 134 #[.pointer (some ⟨bc,0,none⟩),.agg #[.string o.name,.string o.dfn.cls,.string o.dfn.fix,vU,.int .i64 o.tie,vK]] W
   fun e W'=>e=.returned (.bool (fitsS M N L o))∧Ext W W':=by
 generalize hres:fitsS M N L o=res
 obtain ⟨c1,c2,blk⟩:=cells_three W [.pointer (some ⟨bc,0,none⟩)] [.string o.name,.string o.dfn.cls,.string o.dfn.fix,vU,.int .i64 o.tie,vK] [.bool false] 119 60 4
 have a0:=c1 0 _ rfl
 have b0:=c2 0 _ rfl
 have b1:=c2 1 _ rfl
 have b2:=c2 2 _ rfl
 have b3:=c2 3 _ rfl
 have b4:=c2 4 _ rfl
 have b5:=c2 5 _ rfl
 have hsp:=qh (fun (W':World) (x:CkIn W' n1 bc V M N L) (y:StrsIn W' n1 vK o.clob) (vl:Value) (n2:Nat) (l:List Pl) (hl:PlsIn W' n2 vl l) (hf:∀ p∈l,p.fit) (hn:l.length=o.uses.length)=>definedM x o vU vK vl y ho hl hf hn)
 have X0:Ext W (((W.alloc (.cells #[.pointer (some ⟨bc,0,none⟩)] 119)).alloc (.cells #[.string o.name,.string o.dfn.cls,.string o.dfn.fix,vU,.int .i64 o.tie,vK] 60)).alloc (.cells #[.bool false] 4)):=((Ext.alloc _ _).trans (Ext.alloc _ _)).trans (Ext.alloc _ _)
 have X0:=qh X0
 have HRES:=qh hres
 have H:=qh h
 have HK:=qh hcl
 have HU:=qh hU
 have HO:=qh ho
 obtain ⟨ua,uc,eu,hu1,hu2⟩:=hU.form
 obtain ⟨ka,kc,ek,hk1,hk2⟩:=hcl.form
 subst eu ek
 clear c1 c2 hcl h hres ho hU
 refine calls_of_wpAt Tryz.func134 rfl ?_
 simp only [Tryz.ntmps134,List.size_toArray,List.length_cons,List.length_nil,Nat.reduceAdd,Nat.reduceSub,Array.replicate_succ,Array.replicate_zero,List.push_toArray,List.append_toArray,List.nil_append,List.cons_append]
 refine wpAt_seq (wpAt_of_wp (wp_hide (fun Q1 hQ1=>?_)))
 go_wp2
 simp only [Nat.add_assoc,Nat.reduceAdd]
 generalize ((W.alloc (.cells #[.pointer (some ⟨bc,0,none⟩)] 119)).alloc (.cells #[.string o.name,.string o.dfn.cls,.string o.dfn.fix,.slice ua o.uses.length uc,.int .i64 o.tie,.slice ka o.clob.length kc] 60)).alloc (.cells #[.bool false] 4)=W1 at X0 a0 b0 b1 b2 b3 b4 b5 blk ⊢
 have blkk:=qh blk
 obtain ⟨bo,hbo⟩:∃ b,b=W.heap.size:=⟨_,rfl⟩
 rw [← hbo] at a0 b0 b1 b2 b3 b4 b5 blk blkk ⊢
 have HBO:=qh hbo
 clear hbo
 refine wpAt_seq (wpAt_seq (wpAt_of_wp (wp_hide (fun Q3 hQ3=>?_))))
 go_wp2_with (go_at_call 154;refine (choices_any o _ _ W1).mono ?_;rintro e W2 ⟨rfl,hx2,hz2,m0,m3⟩;have X2:=qh hx2;have a0:=hx2.cell a0;have b0:=hx2.cell b0;have b1:=hx2.cell b1;have b2:=hx2.cell b2;have b3:=hx2.cell b3;have b4:=hx2.cell b4;have b5:=hx2.cell b5;have blk:=Ext.block hx2 blk;clear hx2)
 refine wpAt_block ?_
 have lb2:bo+2<W1.heap.size:=by
  rcases Nat.lt_or_ge (bo+2) W1.heap.size with h | h
  ·exact h
  ·exfalso
   have h2:=(Array.getElem?_eq_some_iff.1 blkk.out).1
   omega
 have hn1:n1≤bo:=by have:=H.out.le;rw [HBO.out];exact this
 have XX:=qh (X0.out.trans X2.out)
 refine wpAt_search (gf:=163) (lb:=#[.pointer (some ⟨W1.heap.size,0,none⟩),.pointer (some ⟨W1.heap.size+1,0,none⟩)]) Tryz.func134 rfl (enters_of Tryz.func163 (by kernel_rfl) rfl)
  encL (fun k=>k=bo+2) (Keep (fun k=>W2.heap.size≤k) W2) (fun W'=>Keep (fun k=>k=bo+2∨W2.heap.size≤k) W2 W'∧W'.heap[bo+2]?=some (.cells #[.bool true] 4 (0,0))) (definedS N L o (regsOf M o.dfn))
  (fun w1 x=>choices1_in ((H.out.ext XX.out).ext x) o.uses (x.cell m0) (x.cell m3) (Tab.same HU.out (fun k hk=>(Below.block (XX.out.trans x) k (Nat.lt_of_lt_of_le hk H.out.le)))) HO.out.uses HO.out.len) rfl ?hD ?hρ ?hI ?hJ (Keep.refl _ _) ?hb ?hend ?hret
 case hD =>
  rintro k (h | rfl | rfl)
  ·have:=HBO.out;omega
  ·omega
  ·omega
 case hρ =>
  rintro k rfl
  exact ⟨by omega,by rintro (h | h | h) <;> omega⟩
 case hI=>exact fun W1 W2 h _ k=>h.trans k (fun _ _ h=>h)
 case hJ=>exact fun W1' W2' h hz k=>⟨h.1.trans (k.mono (fun q h=>Or.inr h)) (fun _ _ h=>h),(k.block _ (Nat.lt_of_lt_of_le (by omega) hz) (by show ¬ _≤_;omega)).trans h.2⟩
 case hb =>
  rintro _ l _ w1 W3 hl hx1 hqz ⟨bl,rfl,hbl,hblk⟩ hz rfl hi hk
  have hz:W2.heap.size+1<W3.heap.size:=by omega
  have hbl1:W2.heap.size+1<bl:=by omega
  clear hx1 hqz hbl
  refine wpAt_of_in (n:=1) ?_
  gi_hideQ
  gi_wp2
  refine ⟨Ext.refl _,?_⟩
  rintro W5 k5 ⟨rr,hr5⟩ hi5
  have hlb:bl<W3.heap.size:=(Array.getElem?_eq_some_iff.1 hblk).1
  have hblk5:=(k5.block bl hlb (by show ¬ _=_;omega)).trans hblk
  have s2:bo+2<W2.heap.size:=by omega
  have a0:=hi5.cell a0 (fun (e:W2.heap.size≤bo)=>by omega)
  have b0:=hi5.cell b0 (fun (e:W2.heap.size≤bo+1)=>by omega)
  have b1:=hi5.cell b1 (fun (e:W2.heap.size≤bo+1)=>by omega)
  have b2:=hi5.cell b2 (fun (e:W2.heap.size≤bo+1)=>by omega)
  have b3:=hi5.cell b3 (fun (e:W2.heap.size≤bo+1)=>by omega)
  have b4:=hi5.cell b4 (fun (e:W2.heap.size≤bo+1)=>by omega)
  have b5:=hi5.cell b5 (fun (e:W2.heap.size≤bo+1)=>by omega)
  have blk5:=(hi5.block (bo+2) s2 (by show ¬ _≤_;omega)).trans blk
  have CK5:=((H.out.ext XX.out).keep hi5.size (fun k hk=>hi5.block k (Nat.lt_of_lt_of_le hk (H.out.ext XX.out).le) (by have:=(H.out.ext XX.out).le;show ¬ _≤_;omega)))
  have HK5:StrsIn W5 n1 _ o.clob:=Tab.same (HK.out.ext H.out.le XX.out) (fun k hk=>hi5.block k (Nat.lt_of_lt_of_le hk (H.out.ext XX.out).le) (by have:=(H.out.ext XX.out).le;show ¬ _≤_;omega))
  have hlen:=choicesS_len hl HO.out.len
  have hl2:l.length≤maxLen:=by rcases HO.out.len with h | h <;> (rw [hlen,h];decide)
  have hcall:=qh (hsp.out W5 CK5 HK5 _ _ l (PlsIn.of_block hblk5 hl2) (choicesS_fit H.out hl HO.out.uses HO.out.len) hlen)
  have HI5:=qh hi5
  clear k5 hi5 hk CK5 HK5 hr5 blk hblk hblk5 hlen hl2
  refine wpAt_of_in (n:=1) ?_
  cases hst:definedS N L o (regsOf M o.dfn) l with
  | true =>
   rw [hst] at hcall
   have ST:=qh hst
   clear hst
   gi_wp2_with ((try refine ⟨trivial,?_⟩);(try refine ⟨(fun h=>by cases h),?_⟩);gi_at_call 155;refine (CallsIn.inRound _ (callsIn_wide.2 hcall.out)).mono ?_;rintro e W6 ⟨rfl,x6⟩;have X6:=qh x6;have blk6:=Ext.block x6 blk5;have c6:=cell_of_one blk6;have f6:=free_of_one blk6;clear x6 blk5)
   have k7:=Keep.setCell (fun k=>k=bo+2) W6 ⟨bo+2,0,none⟩ (.bool true) rfl
   exact ⟨ST.out,⟨((HI5.out.mono (S':=fun k=>k=bo+2∨W2.heap.size≤k) (fun q h=>Or.inr h)).trans (Keep.of_ext X6.out:Keep (fun k=>k=bo+2∨W2.heap.size≤k) W5 W6) (fun _ _ h=>h)).trans (k7.mono (S':=fun k=>k=bo+2∨W2.heap.size≤k) (fun q h=>Or.inl h)) (fun _ _ h=>h),heap_set_cells blk6 0 _⟩,
    (Keep.of_ext X6.out:Keep (fun k=>k=bo+2) W5 W6).trans k7 (fun _ _ h=>h)⟩
  | false =>
   rw [hst] at hcall
   have ST:=qh hst
   clear hst
   gi_wp2_with ((try refine ⟨trivial,?_⟩);(try refine ⟨(fun h=>by cases h),?_⟩);gi_at_call 155;refine (CallsIn.inRound _ (callsIn_wide.2 hcall.out)).mono ?_;rintro e W6 ⟨rfl,x6⟩;have X6:=qh x6;clear x6)
   exact ⟨ST.out,HI5.out.trans (Keep.of_ext X6.out:Keep (fun k=>W2.heap.size≤k) W5 W6) (fun _ _ h=>h),Keep.of_ext X6.out⟩
 case hend =>
  intro hany W3 hi hk hd
  have blk3:=(hi.block (bo+2) (by omega) (by show ¬ _≤_;omega)).trans blk
  have c3:=cell_of_one blk3
  have f3:=free_of_one blk3
  have HD:=qh hd
  have RF:res=false:=HRES.out.symm.trans hany
  have XF:=qh (Keep.toExt ((Keep.of_ext XX.out:Keep (fun k=>W2.heap.size≤k) W W2).trans hi (fun _ _ h=>h)) (fun q h=>Nat.le_trans XX.out.size h))
  clear hi hk hd hany
  refine wpAt_of_wp ?_
  go_wp2
  have k4:=Keep.setCell (fun k=>k=bo+2) W3 ⟨bo+2,0,none⟩ (.bool false) rfl
  have s3:W2.heap.size<W3.heap.size:=(Array.getElem?_eq_some_iff.1 HD.out).1
  have blk4:=heap_set_cells blk3 0 (.bool false)
  subst RF
  refine leaves_mark (v:=.bool false) ((k4.block W2.heap.size s3 (by show ¬ _=_;omega)).trans HD.out) (fun w' k5=>?_) (fun w' k5=>⟨rfl,?_⟩)
  ·have c5:=k5.cell (cell_of_one blk4) (fun (e:bo+2=W2.heap.size)=>by omega)
   simp [results,Tryz.results134,go_sem,c5]
  ·have:=HBO.out
   exact Keep.toExt (((Keep.of_ext XF.out:Keep (fun k=>W.heap.size≤k) W W3).trans k4 (fun q h e=>by omega)).trans k5 (fun q h e=>by omega)) (fun _ h=>h)
 case hret =>
  intro hany W3 hj hk hd
  have RF:res=true:=HRES.out.symm.trans hany
  have s3:W2.heap.size<W3.heap.size:=(Array.getElem?_eq_some_iff.1 hd).1
  have XF:Keep (fun k=>W.heap.size≤k) W W3:=(Keep.of_ext XX.out:Keep (fun k=>W.heap.size≤k) W W2).trans hk (fun q h (e:q=bo+2)=>by have:=HBO.out;omega)
  subst RF
  show LeavesInM Fence.wide 1 Tryz.prog Tryz.f134 _ _ _ _ _
  refine leaves_mark (v:=.bool true) hd (fun w' k5=>?_) (fun w' k5=>⟨rfl,?_⟩)
  ·have c5:=k5.cell (cell_of_one hj.2) (fun (e:bo+2=W2.heap.size)=>by omega)
   simp [results,Tryz.results134,go_sem,c5]
  ·exact Keep.toExt (XF.trans k5 (fun q h (e:q=W2.heap.size)=>by have:=XX.out.size;omega)) (fun _ h=>h)
end Go.Proofs.YtligiddaampneaaGreat
end
section
namespace Go.Proofs.YtligiddaampneaaGreat
open Go.RowKit
attribute [local go_sem] Oper.semAt_some
variable {W : World} {n1 bc : Nat} {V : MV} {M : Mach} {N : List ByteArray} {L : List Pl}
def pairS (M:Mach) (N:List ByteArray) (L:List Pl) (A B:ByteArray):Bool:=(mayO M N L ⟨A,⟨#[]⟩⟩).any fun p=>(mayO M N L ⟨B,⟨#[]⟩⟩).any fun q=>!lapS p q
theorem pairM (h:CkIn W n1 bc V M N L) {a b:Nat} {ca cb:Cls} (hca:M.classes[a]?=some ca) (hcb:M.classes[b]?=some cb) (hA:OprOK M N ⟨ca.name,⟨#[]⟩⟩) (hB:OprOK M N ⟨cb.name,⟨#[]⟩⟩) :
  Calls Tryz.prog 135 #[.pointer (some ⟨bc,0,none⟩),.int .i64 (a:Int),.int .i64 (b:Int)] W
   fun e W'=>e=.returned (.bool (pairS M N L ca.name cb.name))∧Ext W W':=by
 generalize hres:pairS M N L ca.name cb.name=res
 obtain ⟨c1,c2,blk⟩:=cells_three W [.pointer (some ⟨bc,0,none⟩)] [.int .i64 (b:Int)] [.bool false] 119 3 4
 have a0:=c1 0 _ rfl
 have b0:=c2 0 _ rfl
 have X0:Ext W (((W.alloc (.cells #[.pointer (some ⟨bc,0,none⟩)] 119)).alloc (.cells #[.int .i64 (b:Int)] 3)).alloc (.cells #[.bool false] 4)):=((Ext.alloc _ _).trans (Ext.alloc _ _)).trans (Ext.alloc _ _)
 have X0:=qh X0
 have HRES:=qh hres
 have H:=qh h
 have HA:=qh hA
 have HB:=qh hB
 have e2:=h.cells 2 _ rfl
 obtain ⟨cb0,coff,ccap,ua,ev,hl1,hl2,hcb0,g0,_,_⟩:=h.m.cls.at hca
 obtain ⟨_,_,_,ub,ev2,_,_,_,g1,_,_⟩:=h.m.cls.at hcb
 have haz:(a:Int)<(M.classes.length:Int):=by have:=(List.getElem?_eq_some_iff.1 hca).1;omega
 have hbz:(b:Int)<(M.classes.length:Int):=by have:=(List.getElem?_eq_some_iff.1 hcb).1;omega
 rw [ev] at ev2
 cases ev2
 obtain ⟨vR,vC,vO,vA,vS,vN,vP⟩:=V
 dsimp only at e2 ev
 subst ev
 unfold maxLen at hl2
 generalize M.classes.length=nc at *
 have e21:=X0.out.cell e2
 have g01:=X0.out.cell g0
 have g11:=X0.out.cell g1
 clear c1 c2 h hres hca hcb hA hB e2 g0 g1
 refine calls_of_wpAt Tryz.func135 rfl ?_
 simp only [Tryz.ntmps135,List.size_toArray,List.length_cons,List.length_nil,Nat.reduceAdd,Nat.reduceSub,Array.replicate_succ,Array.replicate_zero,List.push_toArray,List.append_toArray,List.nil_append,List.cons_append]
 refine wpAt_seq (wpAt_of_wp (wp_hide (fun Q1 hQ1=>?_)))
 go_wp2
 simp only [Nat.add_assoc,Nat.reduceAdd]
 generalize ((W.alloc (.cells #[.pointer (some ⟨bc,0,none⟩)] 119)).alloc (.cells #[.int .i64 (b:Int)] 3)).alloc (.cells #[.bool false] 4)=W1 at X0 a0 b0 blk e21 g01 g11 ⊢
 have blkk:=qh blk
 obtain ⟨bo,hbo⟩:∃ b,b=W.heap.size:=⟨_,rfl⟩
 rw [← hbo] at a0 b0 blk blkk ⊢
 have HBO:=qh hbo
 clear hbo
 refine wpAt_seq (wpAt_seq (wpAt_of_wp (wp_noPanic ?_)))
 refine wp_region_M (fun w'=>Ext W1 w') 11 (by kernel_rfl) (Ext.drew _) (fun hS=>?_)
 refine' tk 0 hS ?_ ?_;rotate_left;·intro w hSw;have p0:=xc hSw a0;go_simp;try rfl
 refine' tk 1 hS ?_ ?_;rotate_left;·intro w hSw;have p0:=xc hSw a0;go_simp;try rfl
 refine' tk 2 hS ?_ ?_;rotate_left;·intros;go_simp;try rfl
 try simp only [tD]
 refine' tk 3 hS ?_ ?_;rotate_left;·intros;go_simp;try rfl
 refine' tk 4 hS ?_ ?_;rotate_left;·intros;go_simp;try rfl
 refine' tk 5 hS ?_ ?_;rotate_left;·intro w hSw;have p2:=xc hSw e21;go_simp;try rfl
 try simp only [tD]
 refine' tk 6 hS ?_ ?_;rotate_left;·intros;go_simp;try rfl
 refine' tk 7 hS ?_ ?_;rotate_left;·intros;go_simp;try rfl
 refine' tk 8 hS ?_ ?_;rotate_left;·intros;go_simp;try rfl
 try simp only [tD]
 refine' tk 9 hS ?_ ?_;rotate_left;·intro w hSw;have p3:=xc hSw g01;go_simp;try rfl
 refine' tk 10 hS ?_ ?_;rotate_left;·intros;go_simp;try rfl
 try simp only [tD]
 generalize W1.drew=W2 at hS ⊢
 refine rl 11 fun K hK=>?_
 go_simp
 refine ((may_any ⟨ca.name,⟨#[]⟩⟩ W2)).mono ?_
 rintro e W3 ⟨rfl,hx2,hz2,m0,m1,m2⟩
 refine hK.out _ _ ?_
 try simp only [tD]
 clear hK K
 refine wpAnyM_done (by kernel_rfl) ?_ _
 show wpAt _ _ _ _ _ _ _
 refine wpAt_block ?_
 have XX:=qh (X0.out.trans (hS.trans hx2))
 have a3:=xc (hS.trans hx2) a0
 have b3:=xc (hS.trans hx2) b0
 have e23:=xc (hS.trans hx2) e21
 have g13:=xc (hS.trans hx2) g11
 have blk3:=Ext.block (hS.trans hx2) blk
 have hle2:W1.heap.size≤W2.heap.size:=hS.size
 have lb2:bo+2<W1.heap.size:=(Array.getElem?_eq_some_iff.1 blkk.out).1
 have hn1:n1≤bo:=by have:=H.out.le;rw [HBO.out];exact this
 have hle:W.heap.size≤bo:=by rw [HBO.out];exact Nat.le_refl _
 clear hS hx2 a0 b0 e21 g01 g11 blk
 refine wpAt_search (gf:=165) (lb:=#[.pointer (some ⟨W2.heap.size,0,none⟩),.pointer (some ⟨W2.heap.size+1,0,none⟩)]) Tryz.func135 rfl (enters_of Tryz.func165 (by kernel_rfl) rfl)
  (fun _ p v _=>v=Pl.val p) (fun k=>k=bo+2) (Keep (fun k=>W3.heap.size≤k) W3) (fun W'=>Keep (fun k=>k=bo+2∨W3.heap.size≤k) W3 W'∧W'.heap[bo+2]?=some (.cells #[.bool true] 4 (0,0))) (fun p=>(mayO M N L ⟨cb.name,⟨#[]⟩⟩).any fun q=>!lapS p q)
  (fun w1 x=>mayO_in ((H.out.ext XX.out).ext x) ⟨ca.name,⟨#[]⟩⟩ HA.out (x.cell m0) (x.cell m1) (x.cell m2)) rfl ?hD ?hρ ?hI ?hJ (Keep.refl _ _) ?hb ?hend ?hret
 case hD =>
  rintro k (h | rfl | rfl)
  ·omega
  ·omega
  ·omega
 case hρ =>
  rintro k rfl
  exact ⟨by omega,by rintro (h | h | h) <;> omega⟩
 case hI=>exact fun A B h _ k=>h.trans k (fun _ _ h=>h)
 case hJ=>exact fun A B h hz k=>⟨h.1.trans (k.mono (fun q h=>Or.inr h)) (fun _ _ h=>h),(k.block _ (Nat.lt_of_lt_of_le (by omega) hz) (by show ¬ _≤_;omega)).trans h.2⟩
 case hb =>
  rintro q p _ w1 W4 hp hx1 hqz rfl hz rfl hi hk
  unfold Pl.val
  have hz:W3.heap.size+1<W4.heap.size:=by omega
  clear hx1 hqz
  refine wpAt_of_in (n:=1) ?_
  gi_hideQ
  gi_wp2
  refine ⟨Ext.alloc _ _,?_⟩
  rintro W6 k6 rr hr6 hk6
  have d0:=k6.cell (cell_new W4 #[.int .i64 p.root,.int .i64 p.beg,.int .i64 p.width] 88 0) (fun (e:W4.heap.size=W3.heap.size+1)=>by omega)
  have d1:=k6.cell (cell_new W4 #[.int .i64 p.root,.int .i64 p.beg,.int .i64 p.width] 88 1) (fun (e:W4.heap.size=W3.heap.size+1)=>by omega)
  have d2:=k6.cell (cell_new W4 #[.int .i64 p.root,.int .i64 p.beg,.int .i64 p.width] 88 2) (fun (e:W4.heap.size=W3.heap.size+1)=>by omega)
  have hkc:∀ {x:Addr} {v:Value},W3.cell? x=some v→W6.cell? x=some v:=fun hc=>hk6.cell hc (fun e=>by have:=World.block_lt_of_cell? _ _ hc;exact Nat.not_le.2 this e)
  have a6:=hkc a3
  have b6:=hkc b3
  have e26:=hkc e23
  have g16:=hkc g13
  have s3:bo+2<W3.heap.size:=by omega
  have blk6:=(hk6.block (bo+2) s3 (by show ¬ _≤_;omega)).trans blk3
  have hbp:W3.heap.size≤W4.heap.size:=by omega
  generalize W4.heap.size=bp at hbp d0 d1 d2 ⊢
  have HK6:=qh hk6
  have hz6:W3.heap.size≤W6.heap.size:=hk6.size
  have HL6:Hid (∃ r,W6.heap[W3.heap.size+1]?=some (.loop r)):=qh ⟨rr,hr6⟩
  have CK6:=qh ((H.out.ext XX.out).keep HK6.out.size (fun k hk=>HK6.out.block k (by omega) (fun (e:W3.heap.size≤k)=>by omega)))
  clear k6 hk6 hk hi hr6 hkc
  refine wpAt_block ?_
  refine wpAt_seq (wpAt_of_in (n:=1) (wpIn_noPanic ?_))
  refine wpIn_region_X (fun w'=>Ext W6 w') 11 (by kernel_rfl) (Ext.drew _) (fun hS=>?_)
  refine' tkx 0 hS ?_ ?_;rotate_left;·intro w hSw;have q0:=xc hSw a6;go_simp;try rfl
  refine' tkx 1 hS ?_ ?_;rotate_left;·intro w hSw;have q0:=xc hSw a6;go_simp;try rfl
  refine' tkx 2 hS ?_ ?_;rotate_left;·intros;go_simp;try rfl
  try simp only [tD]
  refine' tkx 3 hS ?_ ?_;rotate_left;·intros;go_simp;try rfl
  refine' tkx 4 hS ?_ ?_;rotate_left;·intros;go_simp;try rfl
  refine' tkx 5 hS ?_ ?_;rotate_left;·intro w hSw;have q2:=xc hSw e26;go_simp;try rfl
  try simp only [tD]
  refine' tkx 6 hS ?_ ?_;rotate_left;·intro w hSw;have q1:=xc hSw b6;go_simp;try rfl
  refine' tkx 7 hS ?_ ?_;rotate_left;·intros;go_simp;try rfl
  refine' tkx 8 hS ?_ ?_;rotate_left;·intros;go_simp;try rfl
  try simp only [tD]
  refine' tkx 9 hS ?_ ?_;rotate_left;·intro w hSw;have q3:=xc hSw g16;go_simp;try rfl
  refine' tkx 10 hS ?_ ?_;rotate_left;·intros;go_simp;try rfl
  try simp only [tD]
  generalize W6.drew=W7' at hS ⊢
  refine rlx 11 fun K hK=>?_
  go_simp
  (try refine ⟨trivial,?_⟩);(try refine ⟨(fun h=>by cases h),?_⟩)
  refine ((callsIn_wide.2 (may_any ⟨cb.name,⟨#[]⟩⟩ W7'))).mono ?_
  rintro e W7 ⟨rfl,hx7,hz7,n0,n1',n2⟩
  refine hK.out _ _ ?_
  try simp only [tD]
  clear hK K
  refine wpAnyX_done (by kernel_rfl) ?_ _
  show wpAt _ _ _ _ _ _ _
  refine wpAt_block ?_
  have X7:=qh (hS.trans hx7)
  have hzz:W6.heap.size≤W7'.heap.size:=hS.size
  clear hS hx7
  have lbp:bp<W6.heap.size:=World.block_lt_of_cell? _ _ d0
  have hz67:W6.heap.size≤W7.heap.size:=X7.out.size
  have d0:=X7.out.cell d0
  have d1:=X7.out.cell d1
  have d2:=X7.out.cell d2
  have blk7:=X7.out.block blk6
  have HL7:∃ r,W7.heap[W3.heap.size+1]?=some (.loop r):=by obtain ⟨r,hr⟩:=HL6.out;exact ⟨r,X7.out.block hr⟩
  obtain ⟨r7,hr7⟩:=HL7
  have pf:=mayO_fit H.out HA.out hp
  clear a6 b6 e26 g16 blk6
  refine wpAt_searchIn (gf:=165) (lb:=#[.pointer (some ⟨W7'.heap.size,0,none⟩),.pointer (some ⟨W7'.heap.size+1,0,none⟩)]) Tryz.func135 hr7 rfl (enters_of Tryz.func165 (by kernel_rfl) rfl)
   (fun _ p v _=>v=Pl.val p) (fun k=>k=bo+2) (Keep (fun k=>W7.heap.size≤k) W7) (fun W'=>Keep (fun k=>k=bo+2∨W3.heap.size≤k) W3 W'∧W'.heap[bo+2]?=some (.cells #[.bool true] 4 (0,0))) (fun q=>!lapS p q)
   (fun w1 x=>mayO_in ((CK6.out.ext X7.out).ext x) ⟨cb.name,⟨#[]⟩⟩ HB.out (x.cell n0) (x.cell n1') (x.cell n2)) rfl ?hD2 ?hρ2 ?hI2 ?hJ2 (Keep.refl _ _) ?hb2 ?hend2 ?hret2
  case hD2 =>
   rintro k (h | rfl | rfl)
   ·omega
   ·omega
   ·omega
  case hρ2 =>
   rintro k rfl
   exact ⟨by omega,by rintro (h | h | h) <;> omega⟩
  case hI2=>exact fun A B h hz k=>h.trans k (fun _ _ h=>h)
  case hJ2=>exact fun A B h hz k=>⟨h.1.trans (k.mono (fun q h=>Or.inr (by omega))) (fun _ _ h=>h),(k.block _ (by omega) (by show ¬ _≤_;omega)).trans h.2⟩
  case hb2 =>
   rintro _ q _ w8 W8 hq hx8 hqz8 rfl hz8 rfl hi8 hk8
   unfold Pl.val
   have hz8:W7.heap.size<W8.heap.size:=by omega
   clear hx8 hqz8
   refine wpAt_of_in (n:=1) ?_
   gi_hideQ
   gi_wp2
   refine ⟨Ext.alloc _ _,?_⟩
   rintro W9 k9 rr9 hr9 hk9
   have e0:=k9.cell (cell_new W8 #[.int .i64 q.root,.int .i64 q.beg,.int .i64 q.width] 88 0) (fun (e:W8.heap.size=W7.heap.size)=>by omega)
   have e1:=k9.cell (cell_new W8 #[.int .i64 q.root,.int .i64 q.beg,.int .i64 q.width] 88 1) (fun (e:W8.heap.size=W7.heap.size)=>by omega)
   have e2:=k9.cell (cell_new W8 #[.int .i64 q.root,.int .i64 q.beg,.int .i64 q.width] 88 2) (fun (e:W8.heap.size=W7.heap.size)=>by omega)
   have d0:=hk9.cell d0 (fun (e:W7.heap.size≤bp)=>by omega)
   have d1:=hk9.cell d1 (fun (e:W7.heap.size≤bp)=>by omega)
   have d2:=hk9.cell d2 (fun (e:W7.heap.size≤bp)=>by omega)
   have blk9:=(hk9.block (bo+2) (by omega) (by show ¬ _≤_;omega)).trans blk7
   have HK9:=qh hk9
   have qf:=mayO_fit H.out HB.out hq
   generalize W8.heap.size=bq at e0 e1 e2 ⊢
   clear k9 hk9 hk8 hi8 hr9 n0 n1' n2 blk7
   have HLP:=qh (fun (W':World)=>lap_any p q W' pf qf)
   refine wpAt_of_in (n:=1) ?_
   cases hlp:lapS p q with
   | true =>
    rw [hlp] at HLP
    have LP:=qh hlp
    clear hlp
    gi_wp2_with ((try refine ⟨trivial,?_⟩);(try refine ⟨(fun h=>by cases h),?_⟩);gi_at_call 109;refine (CallsIn.inRound _ (callsIn_wide.2 (HLP.out _))).mono ?_;rintro e W10 ⟨rfl,x10⟩)
    have X10:Ext W9 W10:=x10
    exact ⟨by simp [LP.out],HK9.out.trans (Keep.of_ext X10:Keep (fun k=>W7.heap.size≤k) W9 W10) (fun _ _ h=>h),Keep.of_ext X10⟩
   | false =>
    rw [hlp] at HLP
    have LP:=qh hlp
    clear hlp
    gi_wp2_with ((try refine ⟨trivial,?_⟩);(try refine ⟨(fun h=>by cases h),?_⟩);gi_at_call 109;refine (CallsIn.inRound _ (callsIn_wide.2 (HLP.out _))).mono ?_;rintro e W10 ⟨rfl,x10⟩;have X10:=qh x10;have blk10:=Ext.block x10 blk9;have c10:=cell_of_one blk10;have f10:=free_of_one blk10;clear x10 blk9)
    have X10':Ext W9 W10:=X10.out
    have k11:=Keep.setCell (fun k=>k=bo+2) W10 ⟨bo+2,0,none⟩ (.bool true) rfl
    have kA:=(HK6.out.mono (S':=fun k=>k=bo+2∨W3.heap.size≤k) (fun q h=>Or.inr h)).trans (Keep.of_ext X7.out:Keep (fun k=>k=bo+2∨W3.heap.size≤k) W6 W7) (fun _ _ h=>h)
    have kB:=kA.trans (HK9.out.mono (S':=fun k=>k=bo+2∨W3.heap.size≤k) (fun q (h:W7.heap.size≤q)=>Or.inr (by omega))) (fun _ _ h=>h)
    have kC:=kB.trans (Keep.of_ext X10':Keep (fun k=>k=bo+2∨W3.heap.size≤k) W9 W10) (fun _ _ h=>h)
    have kD:=kC.trans (k11.mono (S':=fun k=>k=bo+2∨W3.heap.size≤k) (fun q h=>Or.inl h)) (fun _ _ h=>h)
    exact ⟨by simp [LP.out],⟨kD,heap_set_cells blk10 0 _⟩,(Keep.of_ext X10':Keep (fun k=>k=bo+2) W9 W10).trans k11 (fun _ _ h=>h)⟩
  case hend2 =>
   intro hany W' hi hk
   have kA:=(HK6.out.trans (Keep.of_ext X7.out:Keep (fun k=>W3.heap.size≤k) W6 W7) (fun _ _ h=>h)).trans (hi.mono (S':=fun k=>W3.heap.size≤k) (fun q (h:W7.heap.size≤q)=>by omega)) (fun _ _ h=>h)
   exact ⟨hany,kA,(Keep.of_ext X7.out:Keep (fun k=>k=bo+2) W6 W7).trans hk (fun _ _ h=>h)⟩
  case hret2 =>
   intro hany W' hj hk
   exact ⟨hany,hj,(Keep.of_ext X7.out:Keep (fun k=>k=bo+2) W6 W7).trans hk (fun _ _ h=>h)⟩
 case hend =>
  intro hany W5 hi hk hd
  have blkQ:=(hi.block (bo+2) (by omega) (by show ¬ _≤_;omega)).trans blk3
  have c3:=cell_of_one blkQ
  have f3:=free_of_one blkQ
  have HD:=qh hd
  have RF:res=false:=HRES.out.symm.trans hany
  have XF:=qh (Keep.toExt ((Keep.of_ext XX.out:Keep (fun k=>W3.heap.size≤k) W W3).trans hi (fun _ _ h=>h)) (fun q h=>Nat.le_trans XX.out.size h))
  clear hi hk hd hany
  refine wpAt_of_wp ?_
  go_wp2
  have k4:=Keep.setCell (fun k=>k=bo+2) W5 ⟨bo+2,0,none⟩ (.bool false) rfl
  have s3:W3.heap.size<W5.heap.size:=(Array.getElem?_eq_some_iff.1 HD.out).1
  have blk4:=heap_set_cells blkQ 0 (.bool false)
  subst RF
  refine leaves_mark (v:=.bool false) ((k4.block W3.heap.size s3 (by show ¬ _=_;omega)).trans HD.out) (fun w' k5=>?_) (fun w' k5=>⟨rfl,?_⟩)
  ·have c5:=k5.cell (cell_of_one blk4) (fun (e:bo+2=W3.heap.size)=>by omega)
   simp [results,Tryz.results135,go_sem,c5]
  ·have:=HBO.out
   exact Keep.toExt (((Keep.of_ext XF.out:Keep (fun k=>W.heap.size≤k) W W5).trans k4 (fun q h e=>by omega)).trans k5 (fun q h e=>by omega)) (fun _ h=>h)
 case hret =>
  intro hany W5 hj hk hd
  have RF:res=true:=HRES.out.symm.trans hany
  have s3:W3.heap.size<W5.heap.size:=(Array.getElem?_eq_some_iff.1 hd).1
  have XF:Keep (fun k=>W.heap.size≤k) W W5:=(Keep.of_ext XX.out:Keep (fun k=>W.heap.size≤k) W W3).trans hk (fun q h (e:q=bo+2)=>by have:=HBO.out;omega)
  subst RF
  show LeavesInM Fence.wide 1 Tryz.prog Tryz.f135 _ _ _ _ _
  refine leaves_mark (v:=.bool true) hd (fun w' k5=>?_) (fun w' k5=>⟨rfl,?_⟩)
  ·have c5:=k5.cell (cell_of_one hj.2) (fun (e:bo+2=W3.heap.size)=>by omega)
   simp [results,Tryz.results135,go_sem,c5]
  ·exact Keep.toExt (XF.trans k5 (fun q h (e:q=W3.heap.size)=>by have:=XX.out.size;omega)) (fun _ h=>h)
end Go.Proofs.YtligiddaampneaaGreat
end
section
namespace Go.Proofs.YtligiddaampneaaGreat
open Go.RowKit
attribute [local go_sem] Oper.semAt_some
variable {W : World} {n1 bc : Nat} {V : MV} {M : Mach} {N : List ByteArray} {L : List Pl}
structure Valid (M:Mach) (N:List ByteArray):Prop where
 cls:∀ (k:Nat) (c:Cls),M.classes[k]?=some c→clsIx M c.name=(k:Int)∧∀ r∈c.regs,0≤idx N r
 ops:∀ o∈M.ops,OpnOK M N o
theorem Valid.opr (h:Valid M N) {k:Nat} {c:Cls} (hc:M.classes[k]?=some c):OprOK M N ⟨c.name,⟨#[]⟩⟩:=⟨k,c,(h.cls k c hc).1,hc,(h.cls k c hc).2⟩
def spillO (M:Mach) (N:List ByteArray) (L:List Pl) (_:Nat) (o:Opn):Except Int Unit:=if fitsS M N L o=true then .ok () else .error 11
def spillP (M:Mach) (N:List ByteArray) (L:List Pl) (A:ByteArray) (_:Nat) (c:Cls):Except Int Unit:=if pairS M N L A c.name=true then .ok () else .error 11
def spillC (M:Mach) (N:List ByteArray) (L:List Pl) (a:Nat) (c:Cls):Except Int Unit:=goS (spillP M N L c.name) 0 (M.classes.take (a+1))
def spillsS (M:Mach) (N:List ByteArray) (L:List Pl):Except Int Unit:=match goS (spillO M N L) 0 M.ops with
 | .error x=>.error x
 | .ok _=>goS (spillC M N L) 0 M.classes
theorem spillsM (h:CkIn W n1 bc V M N L) (hv:Valid M N) :
  Calls Tryz.prog 104 #[.pointer (some ⟨bc,0,none⟩)] W fun e W'=>e=endOf unitV (spillsS M N L)∧Ext W W':=by
 generalize hres:spillsS M N L=res
 unfold spillsS at hres
 have c3:=h.cells 3 _ rfl
 have H:=qh h
 have HV:=qh hv
 obtain ⟨aO,cO,eO,hO1,hO2⟩:=h.m.ops.form
 obtain ⟨aC,cC,eC,hC1,hC2⟩:=h.m.cls.form
 obtain ⟨vR,vC,vO,vA,vS,vN,vP⟩:=V
 dsimp only at c3 eO eC
 subst eO eC
 unfold maxLen at hO2 hC2
 clear h hv
 have start:Hid (Ext W W∧(match goS (spillO M N L) 0 (M.ops.drop 0) with
  | .error x=>.error x
  | .ok _=>goS (spillC M N L) 0 M.classes)=res):=qh ⟨Ext.refl W,hres⟩
 clear hres
 go_enter Tryz.func104,Tryz.ntmps104
 go_wp2
 go_loopw [12] (fun i wr=>∃ j:Nat,j≤M.ops.length∧i=.int .i64 j∧Hid (Ext W wr∧(match goS (spillO M N L) j (M.ops.drop j) with
  | .error x=>.error x
  | .ok _=>goS (spillC M N L) 0 M.classes)=res)) (fun i _=>M.ops.length - (intOf i).toNat)
 case atStart=>exact ⟨0,by omega,rfl,start⟩
 case round =>
  clear start
  obtain ⟨j,hj,rfl,hin⟩:=hrel
  have CK:=qh (H.out.ext hin.out.1)
  have X1:=qh hin.out.1
  have RES:=qh hin.out.2
  clear hin
  by_cases hjl:j<M.ops.length
  ·have hjz:(j:Int)<(M.ops.length:Int):=by omega
   obtain ⟨o,ho⟩:∃ o,M.ops[j]?=some o:=⟨_,lE hjl⟩
   obtain ⟨ob,ooff,ocap,vU,vK,eo,_,_,hob,o0,o1,o2,o3,o4,o5,hU,hK,_⟩:=CK.out.m.ops.at ho
   dsimp only at eo
   cases eo
   have hok:=HV.out.ops o (List.mem_of_getElem? ho)
   rw [goS_at ho] at RES
   unfold spillO at RES
   have x2:Ext wr (wr.alloc (.cells #[.string o.name,.string o.dfn.cls,.string o.dfn.fix,vU,.int .i64 o.tie,vK] 60)):=Ext.alloc _ _
   have hcall:=qh (fitsM (CK.out.ext x2) o vU vK (Tab.same hU (fun k hk=>Below.block x2 k (Nat.lt_of_lt_of_le hk CK.out.le))) (hK.ext CK.out.le x2) hok)
   have X2:=qh x2
   obtain ⟨ua,uc,eu,_,_⟩:=hU.form
   obtain ⟨ka,kc,ek,_,_⟩:=hK.form
   subst eu ek
   clear ho hU hK hok x2
   cases hf:fitsS M N L o with
   | true =>
    rw [hf] at hcall
    rw [if_pos hf] at RES
    clear hf
    go_wp2_with (first
     | (go_at_call 134;refine hcall.out.mono ?_;rintro e W3 ⟨rfl,x3⟩;have X3:=qh x3;clear x3)
     | (go_at_call 123;with_reducible refine (needM_ok _ _).mono ?_;rintro e w' ⟨rfl,rfl⟩))
    go_roundw
    case rel=>exact ⟨j+1,by omega,by go_num,qh ⟨X1.out.trans (X2.out.trans X3.out),RES.out⟩⟩
    case measure=>simp [intOf];omega
   | false =>
    rw [hf] at hcall
    rw [if_neg (by rw [hf];simp)] at RES
    clear hf
    go_wp2_with (first
     | (go_at_call 134;refine hcall.out.mono ?_;rintro e W3 ⟨rfl,x3⟩;have X3:=qh x3;clear x3)
     | (go_at_call 123;with_reducible refine (needM_no _ _).mono ?_;rintro e w' ⟨he,rfl⟩;unfold stopM at he;subst he))
    exact ⟨rfl,by rw [← RES.out];rfl,X1.out.trans (X2.out.trans X3.out)⟩
  ·have hjz:¬ (j:Int)<(M.ops.length:Int):=by omega
   obtain rfl:j=M.ops.length:=by omega
   rw [goS_end] at RES
   have c2:=CK.out.cells 2 _ rfl
   dsimp only at c2
   have start:Hid (Ext W wr∧goS (spillC M N L) 0 (M.classes.drop 0)=res):=qh ⟨X1.out,RES.out⟩
   clear RES CK X1
   go_wp2
   go_loopw [27] (fun i w2=>∃ a:Nat,a≤M.classes.length∧i=.int .i64 a∧Hid (Ext W w2∧goS (spillC M N L) a (M.classes.drop a)=res)) (fun i _=>M.classes.length - (intOf i).toNat)
   case atStart=>exact ⟨0,by omega,rfl,start⟩
   case round =>
    clear start
    obtain ⟨a,ha,rfl,hin⟩:=hrel
    have CK:=qh (H.out.ext hin.out.1)
    have X1:=qh hin.out.1
    have RES:=qh hin.out.2
    clear hin
    by_cases hal:a<M.classes.length
    ·have haz:(a:Int)<(M.classes.length:Int):=by omega
     obtain ⟨ca,hca⟩:∃ c,M.classes[a]?=some c:=⟨_,lE hal⟩
     have c2:=CK.out.cells 2 _ rfl
     dsimp only at c2
     have hlt:(M.classes.take (a+1)).length=a+1:=by rw [List.length_take];omega
     rw [goS_at hca] at RES
     unfold spillC at RES
     have start:Hid (Ext W wr∧(match goS (spillP M N L ca.name) 0 ((M.classes.take (a+1)).drop 0) with
      | .ok _=>goS (spillC M N L) (a+1) (M.classes.drop (a+1))
      | .error x=>.error x)=res):=qh ⟨X1.out,RES.out⟩
     have haz1:(a:Int)+1≤(cC:Int):=by omega
     have haz0:(0:Int)≤(a:Int)+1:=by omega
     have HL:=qh hlt
     have HCA:=qh hca
     clear RES CK X1 hlt hca
     go_wp2
     go_loopw [39] (fun i w3=>∃ b:Nat,b≤a+1∧i=.int .i64 b∧Hid (Ext W w3∧(match goS (spillP M N L ca.name) b ((M.classes.take (a+1)).drop b) with
      | .ok _=>goS (spillC M N L) (a+1) (M.classes.drop (a+1))
      | .error x=>.error x)=res)) (fun i _=>a+1 - (intOf i).toNat)
     case atStart=>exact ⟨0,by omega,rfl,start⟩
     case round =>
      clear start
      obtain ⟨b,hb,rfl,hin⟩:=hrel
      have CK:=qh (H.out.ext hin.out.1)
      have X1:=qh hin.out.1
      have RES:=qh hin.out.2
      clear hin
      by_cases hbl:b<a+1
      ·have hbz:(b:Int)<(a:Int)+1:=by omega
       obtain ⟨cb,hcb⟩:∃ c,(M.classes.take (a+1))[b]?=some c:=⟨_,lE (by rw [HL.out];exact hbl)⟩
       have hcb':M.classes[b]?=some cb:=by rw [List.getElem?_take,if_pos hbl] at hcb;exact hcb
       rw [goS_at hcb] at RES
       unfold spillP at RES
       have hcall:=qh (pairM CK.out HCA.out hcb' (HV.out.opr HCA.out) (HV.out.opr hcb'))
       clear hcb hcb'
       cases hf:pairS M N L ca.name cb.name with
       | true =>
        rw [hf] at hcall
        rw [if_pos hf] at RES
        clear hf
        go_wp2_with (first
         | (go_at_call 135;refine hcall.out.mono ?_;rintro e W3 ⟨rfl,x3⟩;have X3:=qh x3;clear x3)
         | (go_at_call 123;with_reducible refine (needM_ok _ _).mono ?_;rintro e w' ⟨rfl,rfl⟩))
        go_roundw
        case rel=>exact ⟨b+1,by omega,by go_num,qh ⟨X1.out.trans X3.out,RES.out⟩⟩
        case measure=>simp [intOf];omega
       | false =>
        rw [hf] at hcall
        rw [if_neg (by rw [hf];simp)] at RES
        clear hf
        go_wp2_with (first
         | (go_at_call 135;refine hcall.out.mono ?_;rintro e W3 ⟨rfl,x3⟩;have X3:=qh x3;clear x3)
         | (go_at_call 123;with_reducible refine (needM_no _ _).mono ?_;rintro e w' ⟨he,rfl⟩;unfold stopM at he;subst he))
        exact ⟨rfl,by rw [← RES.out];rfl,X1.out.trans X3.out⟩
      ·have hbz:¬ (b:Int)<(a:Int)+1:=by omega
       obtain rfl:b=a+1:=by omega
       have RES:=qh (by have:=RES.out;rw [List.drop_of_length_le (by rw [HL.out];exact Nat.le_refl _)] at this;exact this:goS (spillC M N L) (a+1) (M.classes.drop (a+1))=res)
       go_wp2
       go_roundw
       case rel=>exact ⟨a+1,by omega,by go_num,qh ⟨X1.out,RES.out⟩⟩
       case measure=>simp [intOf];omega
    ·have haz:¬ (a:Int)<(M.classes.length:Int):=by omega
     obtain rfl:a=M.classes.length:=by omega
     rw [goS_end] at RES
     go_wp2
     go_end0
     exact ⟨by rw [← RES.out];rfl,X1.out⟩
end Go.Proofs.YtligiddaampneaaGreat
end
section
namespace Go.Proofs.YtligiddaampneaaGreat
open Go.RowKit
attribute [local go_sem] Oper.semAt_some
variable {W : World} {n1 bc : Nat} {V : MV} {M : Mach} {N : List ByteArray} {L : List Pl}
theorem goS_ok {α:Type} {f:Nat→α→Except Int Unit} {l:List α} {j:Nat} (h:goS f j l=.ok ()):∀ (i:Nat) (x:α),l[i]?=some x→f (j+i) x=.ok ():=by
 induction l generalizing j with
 | nil=>intro i x hx;simp at hx
 | cons a l ih =>
  simp only [goS] at h
  split at h
  ·rename_i u hu
   intro i x hx
   cases i with
   | zero=>simp at hx;subst hx;exact hu
   | succ i =>
    have:=ih h i x (by simpa using hx)
    rw [show j+(i+1)=j+1+i by omega];exact this
  ·cases h
theorem regS_idx {s:ByteArray} {x n:Int} (h:regS N s x=.ok n):0≤idx N s:=by
 obtain ⟨j,_,e,_⟩:=regS_ok h
 rw [e];omega
theorem classOK_of {i:Nat} {c:Cls} (h:classOK M N L i c=.ok ()):clsIx M c.name=(i:Int)∧(1≤c.regs.length∧c.regs.length≤64)∧∀ r∈c.regs,0≤idx N r:=by
 unfold classOK at h
 split at h
 ·rename_i h1
  split at h
  ·rename_i h2
   refine ⟨h1.2.1,h2,fun r hr=>?_⟩
   obtain ⟨n,hn⟩:=List.getElem?_of_mem hr
   have:=goS_ok h n r hn
   unfold regOK at this
   split at this
   ·cases this
   ·rename_i p hp
    exact regS_idx hp
  ·cases h
 ·cases h
theorem classesS_of (h:classesS M N L=.ok ()):∀ (k:Nat) (c:Cls),M.classes[k]?=some c→clsIx M c.name=(k:Int)∧(1≤c.regs.length∧c.regs.length≤64)∧∀ r∈c.regs,0≤idx N r:=by
 unfold classesS at h
 split at h
 ·intro k c hc
  have:=goS_ok h k c hc
  rw [Nat.zero_add] at this
  exact classOK_of this
 ·cases h
theorem operS_of (hc:classesS M N L=.ok ()) {o:Opr} {d:Int} (h:operS M o=.ok d):OprOK M N o:=by
 unfold operS at h
 by_cases h0:0≤clsIx M o.cls
 ·obtain ⟨k,c,e,hk,_⟩:=fidx_ok h0
  exact ⟨k,c,e,hk,(classesS_of hc k c hk).2.2⟩
 ·rw [if_neg h0] at h;cases h
theorem arityOf_12 (l:List UInt8) (h:0<arityOf l):arityOf l=1∨arityOf l=2:=by
 unfold arityOf at h ⊢
 cases ho:opOf l with
 | none=>rw [ho] at h;simp at h
 | some o=>cases o <;> simp
theorem opS_of (hc:classesS M N L=.ok ()) {i:Nat} {o:Opn} (h:opS M N L i o=.ok ()):OpnOK M N o:=by
 unfold opS at h
 split at h
 ·rename_i h1
  split at h
  ·rename_i h2
   unfold usesS at h
   split at h
   ·cases h
   ·rename_i d hd
    split at h
    ·cases h
    ·rename_i u hu
     have hdfn:=operS_of hc hd
     have huses:∀ x∈o.uses,OprOK M N x:=fun x hx=>by
      obtain ⟨n,hn⟩:=List.getElem?_of_mem hx
      have:=goS_ok hu n x hn
      unfold useOK at this
      split at this
      ·cases this
      ·rename_i k hk
       exact operS_of hc hk
     unfold tailS at h
     split at h
     ·cases h
     ·rename_i v hv
      have htie:o.tie<o.uses.length:=by
       unfold tieS at hv
       split at hv
       ·rename_i ht;exact ht.2
       ·cases hv
      have hclob:∀ r∈o.clob,0≤idx N r:=fun r hr=>by
       unfold clobS at h
       split at h
       ·obtain ⟨n,hn⟩:=List.getElem?_of_mem hr
        have:=goS_ok h n r hn
        unfold clobOK at this
        split at this
        ·cases this
        ·rename_i k hk
         exact regS_idx hk
       ·cases h
      refine ⟨hdfn,huses,?_,htie,hclob⟩
      rcases arityOf_12 _ h1.1 with e | e
      ·left;rw [e] at h2;omega
      ·right;rw [e] at h2;omega
  ·cases h
 ·cases h
theorem valid_of (hc:classesS M N L=.ok ()) (ho:opsS M N L=.ok ()):Valid M N:=by
 refine ⟨fun k c hk=>⟨(classesS_of hc k c hk).1,(classesS_of hc k c hk).2.2⟩,fun o hm=>?_⟩
 unfold opsS at ho
 split at ho
 ·obtain ⟨n,hn⟩:=List.getElem?_of_mem hm
  exact opS_of hc (goS_ok ho n o hn)
 ·cases ho
theorem regs_of (hc:classesS M N L=.ok ()):∀ c∈M.classes,c.regs≠[]:=by
 intro c hm e
 obtain ⟨n,hn⟩:=List.getElem?_of_mem hm
 have:=(classesS_of hc n c hn).2.1.1
 rw [e] at this;simp at this
def checkS (M:Mach):Except Int Unit:=match headS M with
 | .error x=>.error x
 | .ok (N,L)=>match classesS M N L with
  | .error x=>.error x
  | .ok _=>match opsS M N L with
   | .error x=>.error x
   | .ok _=>match convS M N L with
    | .error x=>.error x
    | .ok _=>spillsS M N L
def CkAt (W:World) (n0 bc:Nat) (V:MV) (M:Mach) (j:Nat) (W':World):Prop :=
 Keep (fun k=>k=bc) W W'∧(j=0→Ck0 W' n0 bc V M)∧(1≤j→∃ N L vN vP,headS M=.ok (N,L)∧CkIn W' W'.heap.size bc { V with vN:=vN,vP:=vP } M N L ∧
  (2≤j→classesS M N L=.ok ())∧(3≤j→opsS M N L=.ok ())∧(4≤j→convS M N L=.ok ())∧(5≤j→spillsS M N L=.ok ()))
theorem CkIn.up {W:World} {n1 n2 bc:Nat} {V:MV} {M:Mach} {N:List ByteArray} {L:List Pl} (h:CkIn W n1 bc V M N L) (hn:n1≤n2) (h2:n2≤W.heap.size):CkIn W n2 bc V M N L :=
 ⟨h.cells,Nat.lt_of_lt_of_le h.lt hn,h2,h.m.up hn,Tab.up h.nm hn,Tab.up h.pl hn,h.fit,h.len⟩
theorem check_done {W':World} (h:CkAt W n1 bc V M 5 W'):checkS M=.ok ():=by
 obtain ⟨N,L,_,_,h1,_,h2,h3,h4,h5⟩:=h.2.2 (by omega)
 unfold checkS
 rw [h1];dsimp only
 rw [h2 (by omega)];dsimp only
 rw [h3 (by omega)];dsimp only
 rw [h4 (by omega)];dsimp only
 exact h5 (by omega)
theorem check1M {n0 b0:Nat} (h:Ck0 W n0 bc V M) (hb:W.cell? ⟨b0,0,none⟩=some (.pointer (some ⟨bc,0,none⟩))) :
  Calls Tryz.prog 99 #[.pointer (some ⟨b0,0,none⟩)] W fun e W'=>e=endOf unitV (checkS M)∧Keep (fun k=>k=bc) W W':=by
 generalize hres:checkS M=res
 have RES:=qh hres
 have hlt:bc<W.heap.size:=(Array.getElem?_eq_some_iff.1 h.blk).1
 have X0:Ext W (W.alloc (.cells #[.func (.func 100) #[.pointer (some ⟨bc,0,none⟩)] #[],.func (.func 101) #[.pointer (some ⟨bc,0,none⟩)] #[],.func (.func 102) #[.pointer (some ⟨bc,0,none⟩)] #[],.func (.func 103) #[.pointer (some ⟨bc,0,none⟩)] #[],.func (.func 104) #[.pointer (some ⟨bc,0,none⟩)] #[]] 1)):=Ext.alloc _ _
 have hc:=cells_one W [.func (.func 100) #[.pointer (some ⟨bc,0,none⟩)] #[],.func (.func 101) #[.pointer (some ⟨bc,0,none⟩)] #[],.func (.func 102) #[.pointer (some ⟨bc,0,none⟩)] #[],.func (.func 103) #[.pointer (some ⟨bc,0,none⟩)] #[],.func (.func 104) #[.pointer (some ⟨bc,0,none⟩)] #[]] 1
 have f0:=hc 0 _ rfl
 have f1:=hc 1 _ rfl
 have f2:=hc 2 _ rfl
 have f3:=hc 3 _ rfl
 have f4:=hc 4 _ rfl
 have H:=qh (h.ext X0)
 clear h hres hc
 go_enter Tryz.func99,Tryz.ntmps99
 go_wp2
 generalize W.alloc (.cells #[.func (.func 100) #[.pointer (some ⟨bc,0,none⟩)] #[],.func (.func 101) #[.pointer (some ⟨bc,0,none⟩)] #[],.func (.func 102) #[.pointer (some ⟨bc,0,none⟩)] #[],.func (.func 103) #[.pointer (some ⟨bc,0,none⟩)] #[],.func (.func 104) #[.pointer (some ⟨bc,0,none⟩)] #[]] 1)=W1 at X0 f0 f1 f2 f3 f4 H ⊢
 have hbs:¬ W.heap.size=bc:=by omega
 have X1:=qh X0
 generalize W.heap.size=bs at hbs f0 f1 f2 f3 f4 ⊢
 have start:Hid (CkAt W1 n0 bc V M 0 W1):=qh ⟨Keep.refl _ _,fun _=>H.out,fun h=>by omega⟩
 clear X0 H
 go_loopw [15] (fun i wr=>∃ j:Nat,j≤5∧i=.int .i64 j∧Hid (CkAt W1 n0 bc V M j wr)) (fun i _=>5 - (intOf i).toNat)
 case atStart=>exact ⟨0,by omega,rfl,start⟩
 case round =>
  clear start
  obtain ⟨j,hj,rfl,hat⟩:=hrel
  have f0:=hat.out.1.cell f0 hbs
  have f1:=hat.out.1.cell f1 hbs
  have f2:=hat.out.1.cell f2 hbs
  have f3:=hat.out.1.cell f3 hbs
  have f4:=hat.out.1.cell f4 hbs
  have KA:Hid (Keep (fun k=>k=bc) W wr):=qh ((Keep.of_ext X1.out).trans hat.out.1 (fun _ _ h=>h))
  match j,hj,hat with
  | 0,_,hat =>
   have hcall:=qh (headM_any (hat.out.2.1 rfl))
   cases hs:headS M with
   | error x =>
    rw [hs] at hcall
    have HS:=qh hs
    clear hs
    go_wp2_with (go_at_call 100;refine hcall.out.mono ?_;rintro e w' ⟨k2,he⟩;dsimp only at he;unfold stopM at he;subst he)
    exact ⟨rfl,by rw [← RES.out];unfold checkS;rw [HS.out];rfl,KA.out.trans k2 (fun _ _ h=>h)⟩
   | ok q =>
    obtain ⟨N,L⟩:=q
    rw [hs] at hcall
    have HS:=qh hs
    clear hs
    go_wp2_with (go_at_call 100;refine hcall.out.mono ?_;rintro e W3 ⟨k2,rfl,vN,vP,hck⟩;have K2:=qh k2;have CK:=qh hck;clear k2 hck)
    go_roundw
    case rel=>exact ⟨1,by omega,rfl,qh ⟨hat.out.1.trans K2.out (fun _ _ h=>h),fun h=>by omega,fun _=>⟨N,L,vN,vP,HS.out,CK.out,fun h=>by omega,fun h=>by omega,fun h=>by omega,fun h=>by omega⟩⟩⟩
    case measure=>simp [intOf]
  | 1,_,hat =>
   obtain ⟨N,L,vN,vP,q1,q2,q3,q4,q5,q6⟩:=hat.out.2.2 (by omega)
   have hcall:=qh (classesM_any q2)
   have Q:=qh (And.intro q1 (And.intro q2 (And.intro q3 (And.intro q4 (And.intro q5 q6)))))
   clear q1 q2 q3 q4 q5 q6
   cases hs:classesS M N L with
   | error x =>
    rw [hs] at hcall
    have HS:=qh hs
    clear hs
    go_wp2_with (go_at_call 101;refine hcall.out.mono ?_;rintro e w' ⟨he,x2⟩;unfold endOf stopM at he;subst he)
    obtain ⟨q1,q2,q3,q4,q5,q6⟩:=Q.out
    exact ⟨rfl,by rw [← RES.out];unfold checkS;rw [q1];dsimp only;rw [HS.out];rfl,KA.out.trans (Keep.of_ext x2:Keep (fun k=>k=bc) wr w') (fun _ _ h=>h)⟩
   | ok u =>
    rw [hs] at hcall
    have HS:=qh hs
    clear hs
    go_wp2_with (go_at_call 101;refine hcall.out.mono ?_;rintro e W3 ⟨he,x2⟩;unfold endOf unitV at he;subst he;have X3:=qh x2;clear x2)
    obtain ⟨q1,q2,q3,q4,q5,q6⟩:=Q.out
    go_roundw
    case rel=>exact ⟨2,by omega,rfl,qh ⟨hat.out.1.trans (Keep.of_ext X3.out:Keep (fun k=>k=bc) wr W3) (fun _ _ h=>h),fun h=>by omega,fun _=>⟨N,L,vN,vP,q1,(q2.ext X3.out).up X3.out.size (Nat.le_refl _),fun _=>HS.out,fun h=>by omega,fun h=>by omega,fun h=>by omega⟩⟩⟩
    case measure=>simp [intOf]
  | 2,_,hat =>
   obtain ⟨N,L,vN,vP,q1,q2,q3,q4,q5,q6⟩:=hat.out.2.2 (by omega)
   have hcall:=qh (opsM_any q2 (regs_of (q3 (by omega))))
   have Q:=qh (And.intro q1 (And.intro q2 (And.intro q3 (And.intro q4 (And.intro q5 q6)))))
   clear q1 q2 q3 q4 q5 q6
   cases hs:opsS M N L with
   | error x =>
    rw [hs] at hcall
    have HS:=qh hs
    clear hs
    go_wp2_with (go_at_call 102;refine hcall.out.mono ?_;rintro e w' ⟨he,x2⟩;unfold endOf stopM at he;subst he)
    obtain ⟨q1,q2,q3,q4,q5,q6⟩:=Q.out
    exact ⟨rfl,by rw [← RES.out];unfold checkS;rw [q1];dsimp only;rw [q3 (by omega)];dsimp only;rw [HS.out];rfl,KA.out.trans (Keep.of_ext x2:Keep (fun k=>k=bc) wr w') (fun _ _ h=>h)⟩
   | ok u =>
    rw [hs] at hcall
    have HS:=qh hs
    clear hs
    go_wp2_with (go_at_call 102;refine hcall.out.mono ?_;rintro e W3 ⟨he,x2⟩;unfold endOf unitV at he;subst he;have X3:=qh x2;clear x2)
    obtain ⟨q1,q2,q3,q4,q5,q6⟩:=Q.out
    go_roundw
    case rel=>exact ⟨3,by omega,rfl,qh ⟨hat.out.1.trans (Keep.of_ext X3.out:Keep (fun k=>k=bc) wr W3) (fun _ _ h=>h),fun h=>by omega,fun _=>⟨N,L,vN,vP,q1,(q2.ext X3.out).up X3.out.size (Nat.le_refl _),fun _=>q3 (by omega),fun _=>HS.out,fun h=>by omega,fun h=>by omega⟩⟩⟩
    case measure=>simp [intOf]
  | 3,_,hat =>
   obtain ⟨N,L,vN,vP,q1,q2,q3,q4,q5,q6⟩:=hat.out.2.2 (by omega)
   have hcall:=qh (conventionM_any q2)
   have Q:=qh (And.intro q1 (And.intro q2 (And.intro q3 (And.intro q4 (And.intro q5 q6)))))
   clear q1 q2 q3 q4 q5 q6
   cases hs:convS M N L with
   | error x =>
    rw [hs] at hcall
    have HS:=qh hs
    clear hs
    go_wp2_with (go_at_call 103;refine hcall.out.mono ?_;rintro e w' ⟨he,x2⟩;unfold endOf stopM at he;subst he)
    obtain ⟨q1,q2,q3,q4,q5,q6⟩:=Q.out
    exact ⟨rfl,by rw [← RES.out];unfold checkS;rw [q1];dsimp only;rw [q3 (by omega)];dsimp only;rw [q4 (by omega)];dsimp only;rw [HS.out];rfl,KA.out.trans (Keep.of_ext x2:Keep (fun k=>k=bc) wr w') (fun _ _ h=>h)⟩
   | ok u =>
    rw [hs] at hcall
    have HS:=qh hs
    clear hs
    go_wp2_with (go_at_call 103;refine hcall.out.mono ?_;rintro e W3 ⟨he,x2⟩;unfold endOf unitV at he;subst he;have X3:=qh x2;clear x2)
    obtain ⟨q1,q2,q3,q4,q5,q6⟩:=Q.out
    go_roundw
    case rel=>exact ⟨4,by omega,rfl,qh ⟨hat.out.1.trans (Keep.of_ext X3.out:Keep (fun k=>k=bc) wr W3) (fun _ _ h=>h),fun h=>by omega,fun _=>⟨N,L,vN,vP,q1,(q2.ext X3.out).up X3.out.size (Nat.le_refl _),fun _=>q3 (by omega),fun _=>q4 (by omega),fun _=>HS.out,fun h=>by omega⟩⟩⟩
    case measure=>simp [intOf]
  | 4,_,hat =>
   obtain ⟨N,L,vN,vP,q1,q2,q3,q4,q5,q6⟩:=hat.out.2.2 (by omega)
   have hcall:=qh (spillsM q2 (valid_of (q3 (by omega)) (q4 (by omega))))
   have Q:=qh (And.intro q1 (And.intro q2 (And.intro q3 (And.intro q4 (And.intro q5 q6)))))
   clear q1 q2 q3 q4 q5 q6
   cases hs:spillsS M N L with
   | error x =>
    rw [hs] at hcall
    have HS:=qh hs
    clear hs
    go_wp2_with (go_at_call 104;refine hcall.out.mono ?_;rintro e w' ⟨he,x2⟩;unfold endOf stopM at he;subst he)
    obtain ⟨q1,q2,q3,q4,q5,q6⟩:=Q.out
    exact ⟨rfl,by rw [← RES.out];unfold checkS;rw [q1];dsimp only;rw [q3 (by omega)];dsimp only;rw [q4 (by omega)];dsimp only;rw [q5 (by omega)];dsimp only;rw [HS.out];rfl,KA.out.trans (Keep.of_ext x2:Keep (fun k=>k=bc) wr w') (fun _ _ h=>h)⟩
   | ok u =>
    rw [hs] at hcall
    have HS:=qh hs
    clear hs
    go_wp2_with (go_at_call 104;refine hcall.out.mono ?_;rintro e W3 ⟨he,x2⟩;unfold endOf unitV at he;subst he;have X3:=qh x2;clear x2)
    obtain ⟨q1,q2,q3,q4,q5,q6⟩:=Q.out
    go_roundw
    case rel=>exact ⟨5,by omega,rfl,qh ⟨hat.out.1.trans (Keep.of_ext X3.out:Keep (fun k=>k=bc) wr W3) (fun _ _ h=>h),fun h=>by omega,fun _=>⟨N,L,vN,vP,q1,(q2.ext X3.out).up X3.out.size (Nat.le_refl _),fun _=>q3 (by omega),fun _=>q4 (by omega),fun _=>q5 (by omega),fun _=>HS.out⟩⟩⟩
    case measure=>simp [intOf]
  | 5,_,hat =>
   have D:=qh (check_done hat.out)
   go_wp2
   go_end0
   exact ⟨by rw [← RES.out,D.out];rfl,KA.out⟩
theorem checkM {n0:Nat} {vR vC vO vA vS:Value} (hm:MachIn W n0 vR vC vO vA vS M) (hn:n0≤W.heap.size) :
  Calls Tryz.prog 76 #[.agg #[.string M.name,vR,vC,vO,vA,.string M.result,vS,.int .i64 M.slots]] W fun e W'=>e=.returned (.int .i64 (codeOf (checkS M)))∧Ext W W':=by
 obtain ⟨aR,nR,cR,rfl⟩:∃ a n c,vR=.slice a n c:=by
  cases hm.regs with
  | mk vs hl hrow hb hw hs=>obtain ⟨a,c,e,_,_⟩:=hrow.shape;exact ⟨a,_,c,e⟩
 obtain ⟨aC,cC,rfl,_,_⟩:=hm.cls.form
 obtain ⟨aO,cO,rfl,_,_⟩:=hm.ops.form
 obtain ⟨aA,cA,rfl,_,_⟩:=hm.args.form
 obtain ⟨aS,cS,rfl,_,_⟩:=hm.saved.form
 have HM:=qh hm
 have hr:=qh hm.regs
 obtain ⟨c1,c2,c3⟩:=cells_three W [.string M.name,.slice aR nR cR,.slice aC M.classes.length cC,.slice aO M.ops.length cO,.slice aA M.args.length cA,.string M.result,.slice aS M.saved.length cS,.int .i64 M.slots]
  [.string M.name,.slice aR nR cR,.slice aC M.classes.length cC,.slice aO M.ops.length cO,.slice aA M.args.length cA,.string M.result,.slice aS M.saved.length cS,.int .i64 M.slots,.slice none 0 0,.slice none 0 0] [.pointer (some ⟨W.heap.size+1,0,none⟩)] 27 121 119
 have X0:Ext W (((W.alloc (.cells #[.string M.name,.slice aR nR cR,.slice aC M.classes.length cC,.slice aO M.ops.length cO,.slice aA M.args.length cA,.string M.result,.slice aS M.saved.length cS,.int .i64 M.slots] 27)).alloc (.cells #[.string M.name,.slice aR nR cR,.slice aC M.classes.length cC,.slice aO M.ops.length cO,.slice aA M.args.length cA,.string M.result,.slice aS M.saved.length cS,.int .i64 M.slots,.slice none 0 0,.slice none 0 0] 121)).alloc (.cells #[.pointer (some ⟨W.heap.size+1,0,none⟩)] 119)):=((Ext.alloc _ _).trans (Ext.alloc _ _)).trans (Ext.alloc _ _)
 have blk:(((W.alloc (.cells #[.string M.name,.slice aR nR cR,.slice aC M.classes.length cC,.slice aO M.ops.length cO,.slice aA M.args.length cA,.string M.result,.slice aS M.saved.length cS,.int .i64 M.slots] 27)).alloc (.cells #[.string M.name,.slice aR nR cR,.slice aC M.classes.length cC,.slice aO M.ops.length cO,.slice aA M.args.length cA,.string M.result,.slice aS M.saved.length cS,.int .i64 M.slots,.slice none 0 0,.slice none 0 0] 121)).alloc (.cells #[.pointer (some ⟨W.heap.size+1,0,none⟩)] 119)).heap[W.heap.size+1]?=some (.cells #[.string M.name,.slice aR nR cR,.slice aC M.classes.length cC,.slice aO M.ops.length cO,.slice aA M.args.length cA,.string M.result,.slice aS M.saved.length cS,.int .i64 M.slots,.slice none 0 0,.slice none 0 0] 121 (0,0)):=by
  refine (Ext.alloc _ _).block ?_
  have:=heap_alloc_new (W.alloc (.cells #[.string M.name,.slice aR nR cR,.slice aC M.classes.length cC,.slice aO M.ops.length cO,.slice aA M.args.length cA,.string M.result,.slice aS M.saved.length cS,.int .i64 M.slots] 27)) (.cells #[.string M.name,.slice aR nR cR,.slice aC M.classes.length cC,.slice aO M.ops.length cO,.slice aA M.args.length cA,.string M.result,.slice aS M.saved.length cS,.int .i64 M.slots,.slice none 0 0,.slice none 0 0] 121)
  rw [show (W.alloc (.cells #[.string M.name,.slice aR nR cR,.slice aC M.classes.length cC,.slice aO M.ops.length cO,.slice aA M.args.length cA,.string M.result,.slice aS M.saved.length cS,.int .i64 M.slots] 27)).heap.size=W.heap.size+1 by simp] at this
  exact this
 have p0:=cell_of_one c3
 have X1:=qh X0
 have B1:=qh blk
 have P1:=qh p0
 clear hm c1 c2 c3 X0 blk p0
 go_enter Tryz.func76,Tryz.ntmps76
 go_wp2_with fail
 simp only [Nat.add_assoc,Nat.reduceAdd]
 generalize ((W.alloc (.cells #[.string M.name,.slice aR nR cR,.slice aC M.classes.length cC,.slice aO M.ops.length cO,.slice aA M.args.length cA,.string M.result,.slice aS M.saved.length cS,.int .i64 M.slots] 27)).alloc (.cells #[.string M.name,.slice aR nR cR,.slice aC M.classes.length cC,.slice aO M.ops.length cO,.slice aA M.args.length cA,.string M.result,.slice aS M.saved.length cS,.int .i64 M.slots,.slice none 0 0,.slice none 0 0] 121)).alloc (.cells #[.pointer (some ⟨W.heap.size+1,0,none⟩)] 119)=W1 at X1 B1 P1 ⊢
 have CK0:Ck0 W1 n0 (W.heap.size+1) ⟨.slice aR nR cR,.slice aC M.classes.length cC,.slice aO M.ops.length cO,.slice aA M.args.length cA,.slice aS M.saved.length cS,.slice none 0 0,.slice none 0 0⟩ M :=
  ⟨B1.out,by omega,HM.out.same (fun k hk=>Below.block X1.out k (Nat.lt_of_lt_of_le hk hn))⟩
 have hl1:W.heap.size+1<W1.heap.size:=(Array.getElem?_eq_some_iff.1 B1.out).1
 refine (askedM (g:=99) (lb:=#[.pointer (some ⟨W.heap.size+2,0,none⟩)]) unitV (fun W' r w1=>r=checkS M∧Keep (fun k=>k=W.heap.size+1) W' w1) (fun args w=>by kernel_rfl) (fun W' r w1 h=>h.2.mono (fun k e=>by omega))
  (fun W' x=>(check1M (CK0.ext x) (x.cell P1.out)).mono (fun e w1 h=>⟨_,h.1,rfl,h.2⟩))).mono ?_
 rintro e w2 ⟨r,W',w1,rfl,x2,⟨rfl,k2⟩,k3⟩
 have KF:Keep (fun k=>W.heap.size≤k) W w2:=(((Keep.of_ext X1.out).trans (Keep.of_ext x2:Keep (fun k=>W.heap.size≤k) W1 W') (fun _ _ h=>h)).trans (k2.mono (S':=fun k=>W.heap.size≤k) (fun k e=>by omega)) (fun _ _ h=>h)).trans (k3.mono (S':=fun k=>W.heap.size≤k) (fun k (e:W1.heap.size≤k)=>by omega)) (fun _ _ h=>h)
 have XF:=qh (Keep.toExt KF (fun _ h=>h))
 clear KF k2 k3 x2 CK0
 go_wp2
 go_ret
 exact ⟨rfl,XF.out⟩
end Go.Proofs.YtligiddaampneaaGreat
end
