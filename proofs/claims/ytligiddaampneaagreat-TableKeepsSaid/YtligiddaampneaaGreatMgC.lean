/- A part of the proof, joined of several texts: mdcheck: classes, operands, operations. No condition. -/
import Derived.Test.YtligiddaampneaaGreatMgB
import Derived.WalkKit
import Derived.Test.YtligiddaampneaaGreatProg
import Derived.Test.YtligiddaampneaaGreatMgA
import Derived.WalkSpells
import Derived.WalkLawsBesides
set_option maxRecDepth 100000
set_option maxHeartbeats 4000000
section
namespace Go.Proofs.YtligiddaampneaaGreat
open Go.RowKit
attribute [local go_sem] Oper.semAt_some
def stopM (e:Int):Ending:=.panicked [{ v:=.iface 151 (.agg #[.int .i64 e]),recovered:=false }]
def endOf {α:Type} (val:α→Value):Except Int α→Ending
 | .ok x=>.returned (val x)
 | .error x=>stopM x
theorem needM_ok (e:Int) (w:World):Calls Tryz.prog 123 #[.bool true,.int .i64 e] w fun r w'=>r=.returned (.tuple #[])∧w=w':=by
 go_enter Tryz.func123,Tryz.ntmps123
 go_wp2
 go_end0
 exact ⟨rfl,rfl⟩
theorem needM_no (e:Int) (w:World):Calls Tryz.prog 123 #[.bool false,.int .i64 e] w fun r w'=>r=stopM e∧w=w':=by
 go_enter Tryz.func123,Tryz.ntmps123
 go_wp2
 exact ⟨rfl,rfl,rfl⟩
structure MV where
 vR:Value
 vC:Value
 vO:Value
 vA:Value
 vS:Value
 vN:Value
 vP:Value
structure CkIn (W:World) (n1 bc:Nat) (V:MV) (M:Mach) (N:List ByteArray) (L:List Pl):Prop where
 cells:∀ j v,(machCells M V.vR V.vC V.vO V.vA V.vS ++ [V.vN,V.vP])[j]?=some v→W.cell? ⟨bc,j,none⟩=some v
 lt:bc<n1
 le:n1≤W.heap.size
 m:MachIn W n1 V.vR V.vC V.vO V.vA V.vS M
 nm:StrsIn W n1 V.vN N
 pl:PlsIn W n1 V.vP L
 fit:∀ p∈L,p.fit
 len:L.length=N.length
theorem CkIn.ext {W W':World} {n1 bc:Nat} {V:MV} {M:Mach} {N:List ByteArray} {L:List Pl} (h:CkIn W n1 bc V M N L) (x:Ext W W'):CkIn W' n1 bc V M N L:=by
 have hk:∀ k,k<n1→W'.heap[k]?=W.heap[k]?:=fun k hk=>Below.block x k (Nat.lt_of_lt_of_le hk h.le)
 exact ⟨fun j v hj=>x.cell (h.cells j v hj),h.lt,Nat.le_trans h.le x.size,h.m.same hk,Tab.same h.nm hk,Tab.same h.pl hk,h.fit,h.len⟩
def regS (N:List ByteArray) (s:ByteArray) (e:Int):Except Int Int:=if 0≤idx N s then .ok (idx N s) else .error e
theorem regM_any {W:World} {n1 bc:Nat} {V:MV} {M:Mach} {N:List ByteArray} {L:List Pl} (h:CkIn W n1 bc V M N L) (s:ByteArray) (x:Int) :
  Calls Tryz.prog 127 #[.pointer (some ⟨bc,0,none⟩),.string s,.int .i64 x] W fun e W'=>e=endOf (Value.int .i64) (regS N s x)∧W=W':=by
 have c8:=h.cells 8 _ rfl
 have hv:=h.nm.slice
 obtain ⟨a,cap,e,_,_⟩:=h.nm.form
 obtain ⟨vR,vC,vO,vA,vS,vN,vP⟩:=V
 dsimp only at c8 hv e
 subst e
 clear h
 unfold regS
 by_cases hi:0≤idx N s
 ·rw [if_pos hi]
  go_enter Tryz.func127,Tryz.ntmps127
  go_wp2_with (first
   | (go_at_call 128;refine (index_any _ N s _ hv).mono ?_;rintro e w' ⟨rfl,rfl⟩)
   | (go_at_call 123;with_reducible refine (needM_ok x _).mono ?_;rintro e w' ⟨rfl,rfl⟩))
  go_ret
  exact ⟨rfl,rfl⟩
 ·rw [if_neg hi]
  have hd:decide (0≤idx N s)=false:=by simpa using hi
  clear hi
  go_enter Tryz.func127,Tryz.ntmps127
  go_wp2_with (first
   | (go_at_call 128;refine (index_any _ N s _ hv).mono ?_;rintro e w' ⟨rfl,rfl⟩)
   | (go_at_call 123;with_reducible refine (needM_no x _).mono ?_;rintro e w' ⟨he,rfl⟩;unfold stopM at he;subst he))
  exact ⟨rfl,rfl,rfl⟩
end Go.Proofs.YtligiddaampneaaGreat
end
section
namespace Go.Proofs.YtligiddaampneaaGreat
open Go.RowKit
attribute [local go_sem] Oper.semAt_some
def fidx {α:Type} (p:α→Bool) (l:List α):Int:=match l.findIdx? p with | some i=>i | none=>-1
theorem fidx_hit {α:Type} {p:α→Bool} {l:List α} {j:Nat} {c:α} (hc:l[j]?=some c) (hp:p c=true) (hA:∀ q c,q<j→l[q]?=some c→p c=false):fidx p l=j:=by
 have hlt:=(List.getElem?_eq_some_iff.1 hc).1
 have:l.findIdx? p=some j:=by
  rw [List.findIdx?_eq_some_iff_getElem]
  refine ⟨hlt,?_,fun q hq=>?_⟩
  ·rw [(List.getElem?_eq_some_iff.1 hc).2];exact hp
  ·rw [hA q l[q] hq (lE _)];simp
 unfold fidx;rw [this]
theorem fidx_miss {α:Type} {p:α→Bool} {l:List α} (hA:∀ q c,q<l.length→l[q]?=some c→p c=false):fidx p l = -1:=by
 have:l.findIdx? p=none:=by
  rw [List.findIdx?_eq_none_iff]
  intro x hx
  obtain ⟨q,hq,rfl⟩:=List.getElem_of_mem hx
  exact hA q _ hq (lE _)
 unfold fidx;rw [this]
theorem indexFuncC {w:World} {n0:Nat} {v:Value} {l:List Cls} (hv:ClsIn w n0 v l) (hn:n0≤w.heap.size) (g:Nat) (lb:Array Value) (p:Cls→Bool) (eg:∀ args w,(callFunc g args).run Tryz.prog w=.ok (.enter g args) w)
  (hp:∀ (W':World) (c:Cls) (u:Value),Ext w W'→StrsIn W' n0 u c.regs→Calls Tryz.prog g (#[.agg #[.string c.name,u]] ++ lb) W' fun e W''=>e=.returned (.bool (p c))∧Ext W' W'') :
  Calls Tryz.prog 153 #[v,.func (.func g) #[] lb] w fun e w'=>e=.returned (.int .i64 (fidx p l))∧Ext w w':=by
 obtain ⟨a,cap,rfl,_,_⟩:=hv.form
 have hbig:l.length≤9223372036854775807:=by unfold maxLen at *;omega
 have HV:=qh hv
 have HP:=qh hp
 have HN:=qh hn
 clear hv hp hn
 go_enter Tryz.func153,Tryz.ntmps153
 go_wp2
 go_loopw [8] (fun i wr=>∃ j:Nat,j≤l.length∧i=.int .i64 j∧Hid (Ext w wr)∧Hid (∀ q c,q<j→l[q]?=some c→p c=false)) (fun i _=>l.length - (intOf i).toNat)
 case atStart=>exact ⟨0,by omega,rfl,qh (Ext.refl w),qh (fun q c h=>by omega)⟩
 case round =>
  obtain ⟨j,hj,rfl,hx,hA⟩:=hrel
  by_cases hlt:j<l.length
  ·obtain ⟨c,hc⟩:∃ c,l[j]?=some c:=⟨l[j],lE hlt⟩
   have hvr:ClsIn wr n0 (.slice a l.length cap) l:=HV.out.same (fun k hk=>Below.block hx.out k (Nat.lt_of_lt_of_le hk HN.out))
   obtain ⟨b,off,cap',u,e,_,_,hb,c0,c1,hs⟩:=hvr.at hc
   cases e
   have hcall:=HP.out wr c u hx.out hs
   have hltz:(j:Int)<(l.length:Int):=by omega
   have C:=qh hc
   obtain ⟨ua,uc,rfl,_,_⟩:=hs.form
   clear hvr hc HP
   cases hq:p c with
   | true =>
    rw [hq] at hcall
    have Q:=qh hq
    clear hq
    go_wp2_with (go_at_fn g;refine hcall.mono ?_;rintro e w' ⟨rfl,hx'⟩)
    go_ret
    exact ⟨by rw [fidx_hit C.out Q.out hA.out];rfl,hx.out.trans hx'⟩
   | false =>
    rw [hq] at hcall
    have Q:=qh hq
    clear hq
    go_wp2_with (go_at_fn g;refine hcall.mono ?_;rintro e w' ⟨rfl,hx'⟩)
    go_roundw
    case rel =>
     refine ⟨j+1,by omega,by go_num,qh (hx.out.trans hx'),qh (fun q d hq hd=>?_)⟩
     by_cases e:q=j
     ·subst e;rw [C.out] at hd;cases hd;exact Q.out
     ·exact hA.out q d (by omega) hd
    case measure=>simp [intOf];omega
  ·have hltz:¬ (j:Int)<(l.length:Int):=by omega
   obtain rfl:j=l.length:=by omega
   go_wp2
   go_ret
   exact ⟨by rw [fidx_miss hA.out];rfl,hx.out⟩
theorem nameC (W:World) (c:Cls) (u:Value):Calls Tryz.prog 148 #[.agg #[.string c.name,u]] W fun e W'=>e=.returned (.string c.name)∧Ext W W':=by
 go_enter Tryz.func148,Tryz.ntmps148
 go_wp2
 go_ret
 exact ⟨rfl,below1 _ _⟩
theorem sameC (W:World) (c:Cls) (u:Value) (s:ByteArray) (bo bn:Nat) (ho:W.cell? ⟨bo,0,none⟩=some (.func (.func 148) #[] #[])) (hn:W.cell? ⟨bn,0,none⟩=some (.string s)) :
  Calls Tryz.prog 160 #[.agg #[.string c.name,u],.pointer (some ⟨bo,0,none⟩),.pointer (some ⟨bn,0,none⟩)] W fun e W'=>e=.returned (.bool (c.name == s))∧Ext W W':=by
 have hob:bo<W.heap.size:=World.block_lt_of_cell? W _ ho
 have hnb:bn<W.heap.size:=World.block_lt_of_cell? W _ hn
 go_enter Tryz.func160,Tryz.ntmps160
 go_wp2_with fail
 rename_i K1 hK1
 have hK1:=qh hK1
 have x0:Ext W (W.alloc (.cells #[.string c.name,u] 51)):=Ext.alloc _ _
 have k0:=x0.cell ho
 have k1:=x0.cell hn
 have n0:(W.alloc (.cells #[.string c.name,u] 51)).cell? ⟨W.heap.size,0,none⟩=some (.string c.name):=cell_new W _ _ 0
 have n1:(W.alloc (.cells #[.string c.name,u] 51)).cell? ⟨W.heap.size,1,none⟩=some (u):=cell_new W _ _ 1
 obtain ⟨b3,hb3⟩:∃ b,b=W.heap.size:=⟨_,rfl⟩
 generalize hW1:W.alloc (.cells #[.string c.name,u] 51)=W1 at x0 k0 k1 n0 n1 ⊢
 clear hW1
 rw [← hb3] at n0 n1 ⊢
 clear hb3
 refine wp_region_M (fun w'=>Ext W1 w') 5 (by kernel_rfl) (Ext.drew _) (fun hS=>?_)
 refine' tk 0 hS ?_ ?_;rotate_left;·intro w hSw;have q0:=xc hSw k0;go_simp;try rfl
 refine' tk 1 hS ?_ ?_;rotate_left;·intro w hSw;have p0:=xc hSw n0;have p1:=xc hSw n1;go_simp;try rfl
 refine' tk 3 hS ?_ ?_;rotate_left;·intro w hSw;have q1:=xc hSw k1;go_simp;try rfl
 try simp only [tD]
 have xd:Ext W W1.drew:=x0.trans (Ext.drew _)
 generalize W1.drew=W2 at xd hS ⊢
 refine rc 2 fun K hK=>?_
 go_simp
 refine (nameC W2 c u).mono ?_
 rintro e W3 ⟨rfl,x3⟩
 have x4:=xd.trans x3
 refine hK.out _ _ (Ext.trans hS x3) ?_
 try simp only [tD]
 clear hK K
 have hS:=Ext.trans hS x3
 refine' tk 4 hS ?_ ?_;rotate_left;·intros;go_simp;try rfl
 try simp only [tD]
 refine rl 5 fun K hK=>?_
 go_simp
 refine hK.out _ _ ?_
 try simp only [tD]
 refine wpAnyM_done (by kernel_rfl) ?_ _
 refine hK1.out _ _ ?_
 go_wp2
 go_ret
 exact ⟨ret_bool (by rw [BEq.comm,str_beq]),x4⟩
theorem indexC {w:World} {n0:Nat} {v:Value} {l:List Cls} (hv:ClsIn w n0 v l) (hn:n0≤w.heap.size) (s:ByteArray) :
  Calls Tryz.prog 147 #[v,.string s,.func (.func 148) #[] #[]] w fun e w'=>e=.returned (.int .i64 (fidx (fun c=>c.name == s) l))∧Ext w w':=by
 obtain ⟨a,cap,rfl,_,_⟩:=hv.form
 have x2:Ext w ((w.alloc (.cells #[.string s] 9)).alloc (.cells #[.func (.func 148) #[] #[]] 170)):=(Ext.alloc _ _).trans (Ext.alloc _ _)
 have hv2:=hv.same (fun k hk=>Below.block x2 k (Nat.lt_of_lt_of_le hk hn))
 have c1:((w.alloc (.cells #[.string s] 9)).alloc (.cells #[.func (.func 148) #[] #[]] 170)).cell? ⟨w.heap.size,0,none⟩=some (.string s):=(Ext.alloc _ _).cell (cell_new w _ _ 0)
 have c2:((w.alloc (.cells #[.string s] 9)).alloc (.cells #[.func (.func 148) #[] #[]] 170)).cell? ⟨w.heap.size+1,0,none⟩=some (.func (.func 148) #[] #[]):=by
  have:=cell_new (w.alloc (.cells #[.string s] 9)) #[.func (.func 148) #[] #[]] 170 0
  rw [show (w.alloc (.cells #[.string s] 9)).heap.size=w.heap.size+1 by simp] at this
  exact this
 have HC:=qh (indexFuncC hv2 (Nat.le_trans hn x2.size) 160 #[.pointer (some ⟨w.heap.size+1,0,none⟩),.pointer (some ⟨w.heap.size,0,none⟩)] (fun c=>c.name == s) (fun args w=>by kernel_rfl)
  (fun W' c u hx _=>sameC W' c u s (w.heap.size+1) w.heap.size (hx.cell c2) (hx.cell c1)))
 have X2:=qh x2
 clear hv hv2 c1 c2 x2
 go_enter Tryz.func147,Tryz.ntmps147
 go_wp2_with (go_at_call 153;refine HC.out.mono ?_;rintro e w' ⟨rfl,hx⟩)
 go_ret
 exact ⟨rfl,X2.out.trans hx⟩
theorem indexFuncO {w:World} {n0:Nat} {v:Value} {l:List Opn} (hv:OpsIn w n0 v l) (hn:n0≤w.heap.size) (g:Nat) (lb:Array Value) (p:Opn→Bool) (eg:∀ args w,(callFunc g args).run Tryz.prog w=.ok (.enter g args) w)
  (hp:∀ (W':World) (c:Opn) (u z:Value),Ext w W'→OprsIn W' n0 u c.uses→StrsIn W' n0 z c.clob→Calls Tryz.prog g (#[.agg #[.string c.name,.string c.dfn.cls,.string c.dfn.fix,u,.int .i64 c.tie,z]] ++ lb) W' fun e W''=>e=.returned (.bool (p c))∧Ext W' W'') :
  Calls Tryz.prog 161 #[v,.func (.func g) #[] lb] w fun e w'=>e=.returned (.int .i64 (fidx p l))∧Ext w w':=by
 obtain ⟨a,cap,rfl,_,_⟩:=hv.form
 have hbig:l.length≤9223372036854775807:=by unfold maxLen at *;omega
 have HV:=qh hv
 have HP:=qh hp
 have HN:=qh hn
 clear hv hp hn
 go_enter Tryz.func161,Tryz.ntmps161
 go_wp2
 go_loopw [8] (fun i wr=>∃ j:Nat,j≤l.length∧i=.int .i64 j∧Hid (Ext w wr)∧Hid (∀ q c,q<j→l[q]?=some c→p c=false)) (fun i _=>l.length - (intOf i).toNat)
 case atStart=>exact ⟨0,by omega,rfl,qh (Ext.refl w),qh (fun q c h=>by omega)⟩
 case round =>
  obtain ⟨j,hj,rfl,hx,hA⟩:=hrel
  by_cases hlt:j<l.length
  ·obtain ⟨c,hc⟩:∃ c,l[j]?=some c:=⟨l[j],lE hlt⟩
   have hvr:OpsIn wr n0 (.slice a l.length cap) l:=HV.out.same (fun k hk=>Below.block hx.out k (Nat.lt_of_lt_of_le hk HN.out))
   obtain ⟨b,off,cap',u,z,e,_,_,hb,c0,c1,c2,c3,c4,c5,hs,hz,_⟩:=hvr.at hc
   cases e
   have hcall:=HP.out wr c u z hx.out hs hz
   have hltz:(j:Int)<(l.length:Int):=by omega
   have C:=qh hc
   obtain ⟨ua,uc,rfl,_,_⟩:=hs.form;obtain ⟨za,zc,rfl,_,_⟩:=hz.form
   clear hvr hc HP
   cases hq:p c with
   | true =>
    rw [hq] at hcall
    have Q:=qh hq
    clear hq
    go_wp2_with (go_at_fn g;refine hcall.mono ?_;rintro e w' ⟨rfl,hx'⟩)
    go_ret
    exact ⟨by rw [fidx_hit C.out Q.out hA.out];rfl,hx.out.trans hx'⟩
   | false =>
    rw [hq] at hcall
    have Q:=qh hq
    clear hq
    go_wp2_with (go_at_fn g;refine hcall.mono ?_;rintro e w' ⟨rfl,hx'⟩)
    go_roundw
    case rel =>
     refine ⟨j+1,by omega,by go_num,qh (hx.out.trans hx'),qh (fun q d hq hd=>?_)⟩
     by_cases e:q=j
     ·subst e;rw [C.out] at hd;cases hd;exact Q.out
     ·exact hA.out q d (by omega) hd
    case measure=>simp [intOf];omega
  ·have hltz:¬ (j:Int)<(l.length:Int):=by omega
   obtain rfl:j=l.length:=by omega
   go_wp2
   go_ret
   exact ⟨by rw [fidx_miss hA.out];rfl,hx.out⟩
theorem nameO (W:World) (c:Opn) (u z:Value):Calls Tryz.prog 151 #[.agg #[.string c.name,.string c.dfn.cls,.string c.dfn.fix,u,.int .i64 c.tie,z]] W fun e W'=>e=.returned (.string c.name)∧Ext W W':=by
 go_enter Tryz.func151,Tryz.ntmps151
 go_wp2
 go_ret
 exact ⟨rfl,below1 _ _⟩
theorem sameO (W:World) (c:Opn) (u z:Value) (s:ByteArray) (bo bn:Nat) (ho:W.cell? ⟨bo,0,none⟩=some (.func (.func 151) #[] #[])) (hn:W.cell? ⟨bn,0,none⟩=some (.string s)) :
  Calls Tryz.prog 162 #[.agg #[.string c.name,.string c.dfn.cls,.string c.dfn.fix,u,.int .i64 c.tie,z],.pointer (some ⟨bo,0,none⟩),.pointer (some ⟨bn,0,none⟩)] W fun e W'=>e=.returned (.bool (c.name == s))∧Ext W W':=by
 have hob:bo<W.heap.size:=World.block_lt_of_cell? W _ ho
 have hnb:bn<W.heap.size:=World.block_lt_of_cell? W _ hn
 go_enter Tryz.func162,Tryz.ntmps162
 go_wp2_with fail
 rename_i K1 hK1
 have hK1:=qh hK1
 have x0:Ext W (W.alloc (.cells #[.string c.name,.string c.dfn.cls,.string c.dfn.fix,u,.int .i64 c.tie,z] 60)):=Ext.alloc _ _
 have k0:=x0.cell ho
 have k1:=x0.cell hn
 have n0:(W.alloc (.cells #[.string c.name,.string c.dfn.cls,.string c.dfn.fix,u,.int .i64 c.tie,z] 60)).cell? ⟨W.heap.size,0,none⟩=some (.string c.name):=cell_new W _ _ 0
 have n1:(W.alloc (.cells #[.string c.name,.string c.dfn.cls,.string c.dfn.fix,u,.int .i64 c.tie,z] 60)).cell? ⟨W.heap.size,1,none⟩=some (.string c.dfn.cls):=cell_new W _ _ 1
 have n2:(W.alloc (.cells #[.string c.name,.string c.dfn.cls,.string c.dfn.fix,u,.int .i64 c.tie,z] 60)).cell? ⟨W.heap.size,2,none⟩=some (.string c.dfn.fix):=cell_new W _ _ 2
 have n3:(W.alloc (.cells #[.string c.name,.string c.dfn.cls,.string c.dfn.fix,u,.int .i64 c.tie,z] 60)).cell? ⟨W.heap.size,3,none⟩=some (u):=cell_new W _ _ 3
 have n4:(W.alloc (.cells #[.string c.name,.string c.dfn.cls,.string c.dfn.fix,u,.int .i64 c.tie,z] 60)).cell? ⟨W.heap.size,4,none⟩=some (.int .i64 c.tie):=cell_new W _ _ 4
 have n5:(W.alloc (.cells #[.string c.name,.string c.dfn.cls,.string c.dfn.fix,u,.int .i64 c.tie,z] 60)).cell? ⟨W.heap.size,5,none⟩=some (z):=cell_new W _ _ 5
 obtain ⟨b3,hb3⟩:∃ b,b=W.heap.size:=⟨_,rfl⟩
 generalize hW1:W.alloc (.cells #[.string c.name,.string c.dfn.cls,.string c.dfn.fix,u,.int .i64 c.tie,z] 60)=W1 at x0 k0 k1 n0 n1 n2 n3 n4 n5 ⊢
 clear hW1
 rw [← hb3] at n0 n1 n2 n3 n4 n5 ⊢
 clear hb3
 refine wp_region_M (fun w'=>Ext W1 w') 5 (by kernel_rfl) (Ext.drew _) (fun hS=>?_)
 refine' tk 0 hS ?_ ?_;rotate_left;·intro w hSw;have q0:=xc hSw k0;go_simp;try rfl
 refine' tk 1 hS ?_ ?_;rotate_left;·intro w hSw;have p0:=xc hSw n0;have p1:=xc hSw n1;have p2:=xc hSw n2;have p3:=xc hSw n3;have p4:=xc hSw n4;have p5:=xc hSw n5;go_simp;try rfl
 refine' tk 3 hS ?_ ?_;rotate_left;·intro w hSw;have q1:=xc hSw k1;go_simp;try rfl
 try simp only [tD]
 have xd:Ext W W1.drew:=x0.trans (Ext.drew _)
 generalize W1.drew=W2 at xd hS ⊢
 refine rc 2 fun K hK=>?_
 go_simp
 refine (nameO W2 c u z).mono ?_
 rintro e W3 ⟨rfl,x3⟩
 have x4:=xd.trans x3
 refine hK.out _ _ (Ext.trans hS x3) ?_
 try simp only [tD]
 clear hK K
 have hS:=Ext.trans hS x3
 refine' tk 4 hS ?_ ?_;rotate_left;·intros;go_simp;try rfl
 try simp only [tD]
 refine rl 5 fun K hK=>?_
 go_simp
 refine hK.out _ _ ?_
 try simp only [tD]
 refine wpAnyM_done (by kernel_rfl) ?_ _
 refine hK1.out _ _ ?_
 go_wp2
 go_ret
 exact ⟨ret_bool (by rw [BEq.comm,str_beq]),x4⟩
theorem indexO {w:World} {n0:Nat} {v:Value} {l:List Opn} (hv:OpsIn w n0 v l) (hn:n0≤w.heap.size) (s:ByteArray) :
  Calls Tryz.prog 150 #[v,.string s,.func (.func 151) #[] #[]] w fun e w'=>e=.returned (.int .i64 (fidx (fun c=>c.name == s) l))∧Ext w w':=by
 obtain ⟨a,cap,rfl,_,_⟩:=hv.form
 have x2:Ext w ((w.alloc (.cells #[.string s] 9)).alloc (.cells #[.func (.func 151) #[] #[]] 172)):=(Ext.alloc _ _).trans (Ext.alloc _ _)
 have hv2:=hv.same (fun k hk=>Below.block x2 k (Nat.lt_of_lt_of_le hk hn))
 have c1:((w.alloc (.cells #[.string s] 9)).alloc (.cells #[.func (.func 151) #[] #[]] 172)).cell? ⟨w.heap.size,0,none⟩=some (.string s):=(Ext.alloc _ _).cell (cell_new w _ _ 0)
 have c2:((w.alloc (.cells #[.string s] 9)).alloc (.cells #[.func (.func 151) #[] #[]] 172)).cell? ⟨w.heap.size+1,0,none⟩=some (.func (.func 151) #[] #[]):=by
  have:=cell_new (w.alloc (.cells #[.string s] 9)) #[.func (.func 151) #[] #[]] 172 0
  rw [show (w.alloc (.cells #[.string s] 9)).heap.size=w.heap.size+1 by simp] at this
  exact this
 have HC:=qh (indexFuncO hv2 (Nat.le_trans hn x2.size) 162 #[.pointer (some ⟨w.heap.size+1,0,none⟩),.pointer (some ⟨w.heap.size,0,none⟩)] (fun c=>c.name == s) (fun args w=>by kernel_rfl)
  (fun W' c u z hx _ _=>sameO W' c u z s (w.heap.size+1) w.heap.size (hx.cell c2) (hx.cell c1)))
 have X2:=qh x2
 clear hv hv2 c1 c2 x2
 go_enter Tryz.func150,Tryz.ntmps150
 go_wp2_with (go_at_call 161;refine HC.out.mono ?_;rintro e w' ⟨rfl,hx⟩)
 go_ret
 exact ⟨rfl,X2.out.trans hx⟩
end Go.Proofs.YtligiddaampneaaGreat
end
section
namespace Go.Proofs.YtligiddaampneaaGreat
open Go.RowKit
attribute [local go_sem] Oper.semAt_some
variable {W : World} {n1 bc : Nat} {V : MV} {M : Mach} {N : List ByteArray} {L : List Pl}
def clsIx (M:Mach) (s:ByteArray):Int:=fidx (fun c=>c.name == s) M.classes
theorem classM_any (h:CkIn W n1 bc V M N L) (s:ByteArray) :
  Calls Tryz.prog 125 #[.pointer (some ⟨bc,0,none⟩),.string s] W fun e W'=>e=.returned (.int .i64 (clsIx M s))∧Ext W W':=by
 have c2:=h.cells 2 _ rfl
 have hc:=qh (indexC h.m.cls h.le s)
 obtain ⟨a,cap,e,_,_⟩:=h.m.cls.form
 obtain ⟨vR,vC,vO,vA,vS,vN,vP⟩:=V
 dsimp only at c2 hc e
 subst e
 clear h
 go_enter Tryz.func125,Tryz.ntmps125
 go_wp2_with (go_at_call 147;refine hc.out.mono ?_;rintro e w' ⟨rfl,hx⟩)
 go_ret
 exact ⟨rfl,hx⟩
def plAt (L:List Pl) (n:Int):Pl:=L.getD n.toNat ⟨0,0,0⟩
theorem regS_ok {s:ByteArray} {x n:Int} (h:regS N s x=.ok n):∃ j:Nat,n=j∧idx N s=j∧j<N.length:=by
 unfold regS at h
 split at h
 ·rename_i h0
  cases h
  unfold idx at h0 ⊢
  cases hf:N.findIdx? (fun x=>x == s) with
  | none=>rw [hf] at h0;simp at h0
  | some i =>
   refine ⟨i,rfl,rfl,?_⟩
   rw [List.findIdx?_eq_some_iff_getElem] at hf
   exact hf.1
 ·cases h
theorem plAt_ok (h:CkIn W n1 bc V M N L) {s:ByteArray} {x n:Int} (hr:regS N s x=.ok n):∃ (j:Nat) (p:Pl),n=j∧L[j]?=some p∧plAt L n=p∧p.fit:=by
 obtain ⟨j,rfl,_,hj⟩:=regS_ok hr
 have hj':j<L.length:=by rw [h.len];exact hj
 refine ⟨j,L[j],rfl,lE hj',?_,h.fit _ (List.getElem_mem _)⟩
 unfold plAt
 simp [List.getD,lE hj']
def widthS (N:List ByteArray) (L:List Pl) (c:Cls):Except Int Int:=match regS N (c.regs.headD ⟨#[]⟩) 8 with
 | .ok n=>.ok (plAt L n).width
 | .error e=>.error e
theorem widthM_any (h:CkIn W n1 bc V M N L) {k:Nat} {c:Cls} (hk:M.classes[k]?=some c) (hne:c.regs≠[]) :
  Calls Tryz.prog 129 #[.pointer (some ⟨bc,0,none⟩),.int .i64 (k:Int)] W fun e W'=>e=endOf (Value.int .i64) (widthS N L c)∧Ext W W':=by
 obtain ⟨r,rs,hrs⟩:∃ r rs,c.regs=r :: rs:=by
  cases hc:c.regs with
  | nil=>exact absurd hc hne
  | cons a b=>exact ⟨a,b,rfl⟩
 have hw:widthS N L c=match regS N r 8 with
  | .ok n=>.ok (plAt L n).width
  | .error e=>.error e:=by unfold widthS;rw [hrs];rfl
 generalize hres:widthS N L c=res at hw ⊢
 have RES:=qh hw
 have c2:=h.cells 2 _ rfl
 have c9:=h.cells 9 _ rfl
 have hcall:=qh (fun (W':World) (x:Ext W W')=>regM_any (h.ext x) r 8)
 have hpl:=h.pl
 have H:=qh h
 obtain ⟨b,off,cap,u,ev,hl1,hl2,hb,k0,k1,hu⟩:=h.m.cls.at hk
 have hklt:k<M.classes.length:=(List.getElem?_eq_some_iff.1 hk).1
 obtain ⟨ub,uoff,ucap,eu,hul1,hul2,hub,g0⟩:=hu.at (i:=0) (s:=r) (by rw [hrs];rfl)
 rw [Nat.add_zero] at g0
 have hpos:0<c.regs.length:=by rw [hrs];simp
 generalize c.regs.length=nr at eu hul1 hul2 hpos
 obtain ⟨vR,vC,vO,vA,vS,vN,vP⟩:=V
 dsimp only at c2 c9 hpl ev
 subst ev eu
 obtain ⟨pa,pc,ep,hp1,hp2⟩:=hpl.form
 subst ep
 unfold maxLen at hl2 hul2 hp2
 have hkz:(k:Int)<(M.classes.length:Int):=by omega
 have hnz:(0:Int)<(nr:Int):=by omega
 clear hres hw hrs hne hu hpl h hk
 generalize M.classes.length=nc at *
 go_enter Tryz.func129,Tryz.ntmps129
 go_wp2_with fail
 rename_i K1 hK1
 have hK1:=qh hK1
 refine wp_region_M (fun w'=>Ext W w') 20 (by kernel_rfl) (Ext.drew _) (fun hS=>?_)
 refine' tk 0 hS ?_ ?_;rotate_left;·intros;go_simp;try rfl
 refine' tk 1 hS ?_ ?_;rotate_left;·intros;go_simp;try rfl
 refine' tk 2 hS ?_ ?_;rotate_left;·intros;go_simp;try rfl
 try simp only [tD]
 refine' tk 3 hS ?_ ?_;rotate_left;·intro w hSw;have q9:=xc hSw c9;go_simp;try rfl
 refine' tk 4 hS ?_ ?_;rotate_left;·intros;go_simp;try rfl
 refine' tk 5 hS ?_ ?_;rotate_left;·intros;go_simp;try rfl
 try simp only [tD]
 refine' tk 6 hS ?_ ?_;rotate_left;·intros;go_simp;try rfl
 refine' tk 7 hS ?_ ?_;rotate_left;·intros;go_simp;try rfl
 refine' tk 8 hS ?_ ?_;rotate_left;·intros;go_simp;try rfl
 try simp only [tD]
 refine' tk 9 hS ?_ ?_;rotate_left;·intro w hSw;have q2:=xc hSw c2;go_simp;try rfl
 refine' tk 10 hS ?_ ?_;rotate_left;·intros;go_simp;try rfl
 refine' tk 11 hS ?_ ?_;rotate_left;·intros;go_simp;try rfl
 try simp only [tD]
 refine' tk 12 hS ?_ ?_;rotate_left;·intros;go_simp;try rfl
 refine' tk 13 hS ?_ ?_;rotate_left;·intro w hSw;have p1:=xc hSw k1;go_simp;try rfl
 refine' tk 14 hS ?_ ?_;rotate_left;·intros;go_simp;try rfl
 try simp only [tD]
 refine' tk 15 hS ?_ ?_;rotate_left;·intro w hSw;have p2:=xc hSw g0;go_simp;try rfl
 try simp only [tD]
 generalize W.drew=W2 at hS ⊢
 refine rc 16 fun K hK=>?_
 go_simp
 refine (hcall.out W2 hS).mono ?_
 rintro e W3 ⟨he,rfl⟩
 cases hr:regS N r 8 with
 | error x =>
  rw [hr] at he
  unfold endOf stopM at he
  subst he
  exact ⟨rfl,by rw [RES.out,hr];rfl,hS⟩
 | ok n =>
  obtain ⟨j,p,rfl,hj,hp,_⟩:=plAt_ok H.out hr
  rw [hr] at he
  unfold endOf at he
  subst he
  refine hK.out _ _ hS ?_
  try simp only [tD]
  clear hK K
  obtain ⟨pb,poff,pcap,ep,_,_,_,d0,d1,d2⟩:=PlsIn.at H.out.pl hj
  have hjz:(j:Int)<(L.length:Int):=by have:=(List.getElem?_eq_some_iff.1 hj).1;omega
  cases ep
  have HE:=qh (And.intro hr hp)
  clear hj hp hr
  refine' tk 17 hS ?_ ?_;rotate_left;·intros;go_simp;try rfl
  refine' tk 18 hS ?_ ?_;rotate_left;·intros;go_simp;try rfl
  refine' tk 19 hS ?_ ?_;rotate_left;·intro w hSw;have p0:=xc hSw d2;go_simp;try rfl
  try simp only [tD]
  refine rl 20 fun K hK=>?_
  go_simp
  refine hK.out _ _ ?_
  try simp only [tD]
  refine wpAnyM_done (by kernel_rfl) ?_ _
  refine hK1.out _ _ ?_
  go_wp2
  go_ret
  exact ⟨by rw [RES.out,HE.out.1];simp only [endOf];rw [HE.out.2];rfl,hS⟩
def operS (M:Mach) (o:Opr):Except Int Int :=
 if 0≤clsIx M o.cls then
  (if (o.fix == ⟨#[]⟩)=true∨0≤idx (match M.classes[(clsIx M o.cls).toNat]? with | some c=>c.regs | none=>[]) o.fix then .ok (clsIx M o.cls) else .error 9)
 else .error 9
theorem fidx_ok {α:Type} {p:α→Bool} {l:List α} (h:0≤fidx p l):∃ (j:Nat) (c:α),fidx p l=j∧l[j]?=some c∧p c=true:=by
 unfold fidx at h ⊢
 cases hf:l.findIdx? p with
 | none=>rw [hf] at h;simp at h
 | some i =>
  rw [List.findIdx?_eq_some_iff_getElem] at hf
  obtain ⟨h1,h2,_⟩:=hf
  exact ⟨i,l[i],rfl,lE h1,h2⟩
theorem operM_any (h:CkIn W n1 bc V M N L) (o:Opr) :
  Calls Tryz.prog 152 #[.pointer (some ⟨bc,0,none⟩),.agg #[.string o.cls,.string o.fix]] W fun e W'=>e=endOf (Value.int .i64) (operS M o)∧Ext W W':=by
 generalize hres:operS M o=res
 have RES:=qh hres
 have c2:=h.cells 2 _ rfl
 have x0:Ext W (W.alloc (.cells #[.string o.cls,.string o.fix] 57)):=Ext.alloc _ _
 have n0:(W.alloc (.cells #[.string o.cls,.string o.fix] 57)).cell? ⟨W.heap.size,0,none⟩=some (.string o.cls):=cell_new W _ _ 0
 have n1':(W.alloc (.cells #[.string o.cls,.string o.fix] 57)).cell? ⟨W.heap.size,1,none⟩=some (.string o.fix):=cell_new W _ _ 1
 have H:=qh h
 clear hres h
 unfold operS at RES
 by_cases hk:0≤clsIx M o.cls
 ·obtain ⟨k,c,ek,hc,_⟩:=fidx_ok hk
  have ek':clsIx M o.cls=(k:Int):=ek
  have hcall:=qh (fun (W':World) (x:Ext W W')=>classM_any (H.out.ext x) o.cls)
  rw [if_pos hk,ek',Int.toNat_natCast,hc] at RES
  rw [ek'] at hcall
  clear ek ek' hk
  have hkz:(0:Int)≤(k:Int):=by omega
  go_enter Tryz.func152,Tryz.ntmps152
  go_wp2_with (first
   | (go_at_call 125;refine (hcall.out _ x0).mono ?_;rintro e W2 ⟨rfl,x2⟩;have X2:=qh (x0.trans x2);have m0:=x2.cell n0;have m1:=x2.cell n1')
   | (go_at_call 123;with_reducible refine (needM_ok _ _).mono ?_;rintro e w' ⟨rfl,rfl⟩))
  rename_i K1 hK1
  have hK1:=qh hK1
  obtain ⟨oc,fx⟩:=o
  dsimp only at m0 m1 RES
  have q2:=X2.out.cell c2
  obtain ⟨bo,hbo⟩:∃ b,b=W.heap.size:=⟨_,rfl⟩
  rw [← hbo] at m0 m1 ⊢
  have CK:=qh (H.out.ext X2.out)
  clear n0 n1' x0 x2 c2 hcall hbo
  refine wp_region_M (fun w'=>Ext W2 w') 17 (by kernel_rfl) (Ext.drew _) (fun hS=>?_)
  by_cases hf:fx=⟨#[]⟩
  ·subst hf
   refine' tk 0 hS ?_ ?_;rotate_left;·intros;go_simp;try rfl
   refine' tk 1 hS ?_ ?_;rotate_left;·intro w hSw;have p1:=xc hSw m1;go_simp;try rfl
   refine' tk 2 hS ?_ ?_;rotate_left;·intros;go_simp;try rfl
   try simp only [tD]
   refine' tk 3 hS ?_ ?_;rotate_left;·intros;go_simp;try rfl
   try simp only [tD]
   refine sk 4 hS ?_
   try simp only [tD]
   refine sk 5 hS ?_
   try simp only [tD]
   refine sk 6 hS ?_
   try simp only [tD]
   refine sk 7 hS ?_
   try simp only [tD]
   refine sk 8 hS ?_
   try simp only [tD]
   refine sk 9 hS ?_
   try simp only [tD]
   refine sk 10 hS ?_
   try simp only [tD]
   refine sk 11 hS ?_
   try simp only [tD]
   refine sk 12 hS ?_
   try simp only [tD]
   refine sk 13 hS ?_
   try simp only [tD]
   refine sk 14 hS ?_
   try simp only [tD]
   refine sk 15 hS ?_
   try simp only [tD]
   refine' tk 16 hS ?_ ?_;rotate_left;·intros;go_simp;try rfl
   try simp only [tD]
   have xs:=X2.out.trans hS
   generalize W2.drew=W3 at hS xs ⊢
   refine rl 17 fun K hK=>?_
   go_simp
   with_reducible refine (needM_ok _ _).mono ?_
   rintro e w' ⟨rfl,rfl⟩
   refine hK.out _ _ ?_
   try simp only [tD]
   refine wpAnyM_done (by kernel_rfl) ?_ _
   refine hK1.out _ _ ?_
   go_wp2
   go_ret
   have hr:res=.ok (k:Int):=RES.out.symm.trans (if_pos (Or.inl (by rw [← str_beq];exact beq_self_eq_true _)))
   exact ⟨by rw [hr];rfl,xs⟩
  ·have hf1:(fx.toList == [])=false:=by
    rw [Bool.eq_false_iff];intro e
    apply hf
    have e':fx.data.toList=[]:=by rw [← ByteArray.toList_eq];simpa using e
    cases fx with | mk d=>simp at e';rw [e']
   have hf2:¬ (fx == ⟨#[]⟩)=true:=by
    intro e
    rw [← str_beq,ByteArray.toList_eq] at e
    apply hf
    cases fx with | mk d=>rw [ByteArray.toList_eq] at e;simp at e;rw [e]
   obtain ⟨b,off,cap,u,ev,hl1,hl2,hb,k0,k1,hu⟩:=CK.out.m.cls.at hc
   have hcon:=qh (fun (W':World) (x:Ext W2 W')=>contains_any u c.regs fx W' ((hu.slice).below x))
   obtain ⟨ua,uc,eu,_,_⟩:=hu.form
   have hklt:(k:Int)<(M.classes.length:Int):=by have:=(List.getElem?_eq_some_iff.1 hc).1;omega
   obtain ⟨vR,vC,vO,vA,vS,vN,vP⟩:=V
   dsimp only at q2 ev
   subst ev eu
   unfold maxLen at hl2
   generalize M.classes.length=nc at *
   clear hu
   refine' tk 0 hS ?_ ?_;rotate_left;·intros;go_simp;try rfl
   refine' tk 1 hS ?_ ?_;rotate_left;·intro w hSw;have p1:=xc hSw m1;go_simp;try rfl
   refine' tk 2 hS ?_ ?_;rotate_left;·intros;go_simp;try rfl
   try simp only [tD]
   refine' tk 3 hS ?_ ?_;rotate_left;·intros;go_simp;try rfl
   refine' tk 4 hS ?_ ?_;rotate_left;·intros;go_simp;try rfl
   refine' tk 5 hS ?_ ?_;rotate_left;·intros;go_simp;try rfl
   try simp only [tD]
   refine' tk 6 hS ?_ ?_;rotate_left;·intros;go_simp;try rfl
   refine' tk 7 hS ?_ ?_;rotate_left;·intros;go_simp;try rfl
   refine' tk 8 hS ?_ ?_;rotate_left;·intro w hSw;have p2:=xc hSw q2;go_simp;try rfl
   try simp only [tD]
   refine' tk 9 hS ?_ ?_;rotate_left;·intros;go_simp;try rfl
   refine' tk 10 hS ?_ ?_;rotate_left;·intros;go_simp;try rfl
   refine' tk 11 hS ?_ ?_;rotate_left;·intros;go_simp;try rfl
   try simp only [tD]
   refine' tk 12 hS ?_ ?_;rotate_left;·intro w hSw;have p3:=xc hSw k1;go_simp;try rfl
   refine' tk 13 hS ?_ ?_;rotate_left;·intros;go_simp;try rfl
   refine' tk 14 hS ?_ ?_;rotate_left;·intro w hSw;have p1:=xc hSw m1;go_simp;try rfl
   try simp only [tD]
   have xs:=X2.out.trans hS
   generalize W2.drew=W3 at hS xs ⊢
   refine rc 15 fun K hK=>?_
   go_simp
   refine (hcon.out W3 hS).mono ?_
   rintro e w' ⟨rfl,rfl⟩
   refine hK.out _ _ hS ?_
   try simp only [tD]
   clear hK K
   cases hi:decide (0≤idx c.regs fx) with
   | true =>
    have hi':0≤idx c.regs fx:=by simpa using hi
    refine' tk 16 hS ?_ ?_;rotate_left;·intros;go_simp;try rfl
    try simp only [tD]
    refine rl 17 fun K hK=>?_
    go_simp
    with_reducible refine (needM_ok _ _).mono ?_
    rintro e w' ⟨rfl,rfl⟩
    refine hK.out _ _ ?_
    try simp only [tD]
    refine wpAnyM_done (by kernel_rfl) ?_ _
    refine hK1.out _ _ ?_
    go_wp2
    go_ret
    have hr:res=.ok (k:Int):=RES.out.symm.trans (if_pos (Or.inr hi'))
    exact ⟨by rw [hr];rfl,xs⟩
   | false =>
    have hi':¬ 0≤idx c.regs fx:=by simpa using hi
    refine' tk 16 hS ?_ ?_;rotate_left;·intros;go_simp;try rfl
    try simp only [tD]
    refine rl 17 fun K hK=>?_
    go_simp
    with_reducible refine (needM_no _ _).mono ?_
    rintro e w' ⟨he,rfl⟩
    unfold stopM at he
    subst he
    have hr:res=.error 9:=RES.out.symm.trans (if_neg (fun h=>h.elim hf2 hi'))
    exact ⟨rfl,by rw [hr];rfl,xs⟩
 ·have hcall:=qh (fun (W':World) (x:Ext W W')=>classM_any (H.out.ext x) o.cls)
  rw [if_neg hk] at RES
  have hd:decide (0≤clsIx M o.cls)=false:=by simpa using hk
  clear hk
  go_enter Tryz.func152,Tryz.ntmps152
  go_wp2_with (first
   | (go_at_call 125;refine (hcall.out _ x0).mono ?_;rintro e W2 ⟨rfl,x2⟩;have X2:=qh (x0.trans x2))
   | (go_at_call 123;with_reducible refine (needM_no _ _).mono ?_;rintro e w' ⟨he,rfl⟩;unfold stopM at he;subst he))
  exact ⟨rfl,by rw [← RES.out];rfl,X2.out⟩
end Go.Proofs.YtligiddaampneaaGreat
end
section
namespace Go.Proofs.YtligiddaampneaaGreat
open Go.RowKit
inductive OpN where
 | add | sub | mul | and | or | xor | shl | shr | div | rem | lt | eq | not
 deriving DecidableEq
def OpN.bytes:OpN→List UInt8
 | .add=>[97,100,100]
 | .sub=>[115,117,98]
 | .mul=>[109,117,108]
 | .and=>[97,110,100]
 | .or=>[111,114]
 | .xor=>[120,111,114]
 | .shl=>[115,104,108]
 | .shr=>[115,104,114]
 | .div=>[100,105,118]
 | .rem=>[114,101,109]
 | .lt=>[108,116]
 | .eq=>[101,113]
 | .not=>[110,111,116]
def OpN.all:List OpN:=[.add,.sub,.mul,.and,.or,.xor,.shl,.shr,.div,.rem,.lt,.eq,.not]
def opOf (s:List UInt8):Option OpN:=OpN.all.find? (fun o=>o.bytes == s)
def arityOf (s:List UInt8):Int:=match opOf s with | none=>0 | some .not=>1 | some _=>2
theorem opOf_some {s:List UInt8} {o:OpN} (h:opOf s=some o):s=o.bytes:=by
 have:=List.find?_some h
 simpa using (beq_iff_eq.1 this).symm
theorem mem_all (o:OpN):o∈OpN.all:=by cases o <;> simp [OpN.all]
theorem opOf_none {s:List UInt8} (h:opOf s=none) (o:OpN):s≠o.bytes:=by
 have:=List.find?_eq_none.1 h o (mem_all o)
 intro e;rw [e] at this;simp at this
theorem bytes_eq {s:ByteArray} {l:List UInt8} (h:s.data.toList=l):s=⟨l.toArray⟩:=by
 cases s with | mk d=>simp only at h;subst h;simp
end Go.Proofs.YtligiddaampneaaGreat
end
section
namespace Go.Proofs.YtligiddaampneaaGreat
open Go.RowKit
theorem noOp {s:ByteArray} (h:opOf s.data.toList=none) (o:OpN):(s.toList == o.bytes)=false:=by
 rw [ByteArray.toList_eq];simpa using opOf_none h o
theorem arityM_any (s:ByteArray) (w:World):Calls Tryz.prog 149 #[.string s] w fun e w'=>e=.returned (.int .i64 (arityOf s.data.toList))∧w=w':=by
 unfold arityOf
 cases h:opOf s.data.toList with
 | none =>
  have f_add:(s.toList == [97,100,100])=false:=noOp h .add
  have f_sub:(s.toList == [115,117,98])=false:=noOp h .sub
  have f_mul:(s.toList == [109,117,108])=false:=noOp h .mul
  have f_and:(s.toList == [97,110,100])=false:=noOp h .and
  have f_or:(s.toList == [111,114])=false:=noOp h .or
  have f_xor:(s.toList == [120,111,114])=false:=noOp h .xor
  have f_shl:(s.toList == [115,104,108])=false:=noOp h .shl
  have f_shr:(s.toList == [115,104,114])=false:=noOp h .shr
  have f_div:(s.toList == [100,105,118])=false:=noOp h .div
  have f_rem:(s.toList == [114,101,109])=false:=noOp h .rem
  have f_lt:(s.toList == [108,116])=false:=noOp h .lt
  have f_eq:(s.toList == [101,113])=false:=noOp h .eq
  have f_not:(s.toList == [110,111,116])=false:=noOp h .not
  clear h
  go_enter Tryz.func149,Tryz.ntmps149
  go_wp2
  go_ret
  exact ⟨rfl,rfl⟩
 | some o =>
  have hs:=bytes_eq (opOf_some h)
  clear h
  subst hs
  cases o
  all_goals
   simp only [OpN.bytes]
   go_enter Tryz.func149,Tryz.ntmps149
   go_wp2
   go_ret
   exact ⟨rfl,rfl⟩
end Go.Proofs.YtligiddaampneaaGreat
end
section
namespace Go.Proofs.YtligiddaampneaaGreat
open Go.RowKit
attribute [local go_sem] Oper.semAt_some
variable {W : World} {n1 bc : Nat} {V : MV} {M : Mach} {N : List ByteArray} {L : List Pl}
def goS {α:Type} (f:Nat→α→Except Int Unit):Nat→List α→Except Int Unit
 | _,[]=>.ok ()
 | j,x :: l=>match f j x with
  | .ok _=>goS f (j+1) l
  | .error e=>.error e
theorem goS_at {α:Type} {f:Nat→α→Except Int Unit} {l:List α} {j:Nat} {x:α} (h:l[j]?=some x):goS f j (l.drop j)=match f j x with
  | .ok _=>goS f (j+1) (l.drop (j+1))
  | .error e=>.error e:=by
 obtain ⟨hlt,e⟩:=List.getElem?_eq_some_iff.1 h
 rw [List.drop_eq_getElem_cons hlt,e];rfl
theorem goS_end {α:Type} {f:Nat→α→Except Int Unit} {l:List α}:goS f l.length (l.drop l.length)=.ok ():=by rw [List.drop_length];rfl
def regOK (N:List ByteArray) (L:List Pl) (c:Cls) (n:Nat) (r:ByteArray):Except Int Unit:=match regS N r 8 with
 | .error e=>.error e
 | .ok p=>if idx c.regs r=n then (match widthS N L c with
  | .error e=>.error e
  | .ok w=>if (plAt L p).width=w then .ok () else .error 8) else .error 8
def classOK (M:Mach) (N:List ByteArray) (L:List Pl) (i:Nat) (c:Cls):Except Int Unit :=
 if namedS c.name=true∧clsIx M c.name=i∧¬ (0≤idx N c.name) then
  (if 1≤c.regs.length∧c.regs.length≤64 then goS (regOK N L c) 0 c.regs else .error 8)
 else .error 5
def classesS (M:Mach) (N:List ByteArray) (L:List Pl):Except Int Unit:=if M.classes.length≤64 then goS (classOK M N L) 0 M.classes else .error 2
def unitV (_:Unit):Value:=.tuple #[]
theorem classesM_any (h:CkIn W n1 bc V M N L) :
  Calls Tryz.prog 101 #[.pointer (some ⟨bc,0,none⟩)] W fun e W'=>e=endOf unitV (classesS M N L)∧Ext W W':=by
 generalize hres:classesS M N L=res
 have c2:=h.cells 2 _ rfl
 have H:=qh h
 obtain ⟨a,cap,ev,hl1,hl2⟩:=h.m.cls.form
 obtain ⟨vR,vC,vO,vA,vS,vN,vP⟩:=V
 dsimp only at c2 ev
 subst ev
 unfold maxLen at hl2
 clear h
 unfold classesS at hres
 by_cases hlen:M.classes.length≤64
 ·rw [if_pos hlen] at hres
  have hlz:(M.classes.length:Int)≤64:=by omega
  have start:Hid (Ext W W∧goS (classOK M N L) 0 (M.classes.drop 0)=res):=qh ⟨Ext.refl W,hres⟩
  clear hres hlen
  go_enter Tryz.func101,Tryz.ntmps101
  go_wp2_with (go_at_call 123;with_reducible refine (needM_ok _ _).mono ?_;rintro e w' ⟨rfl,rfl⟩)
  go_loopw [21] (fun i wr=>∃ j:Nat,j≤M.classes.length∧i=.int .i64 j∧Hid (Ext W wr∧goS (classOK M N L) j (M.classes.drop j)=res)) (fun i _=>M.classes.length - (intOf i).toNat)
  case atStart=>exact ⟨0,by omega,rfl,start⟩
  case round =>
   clear start
   obtain ⟨j,hj,rfl,hin⟩:=hrel
   by_cases hlt:j<M.classes.length
   ·obtain ⟨c,hc⟩:∃ c,M.classes[j]?=some c:=⟨_,lE hlt⟩
    have hltz:(j:Int)<(M.classes.length:Int):=by omega
    have CK:=qh (H.out.ext hin.out.1)
    obtain ⟨b,off,cap',u,ev,_,_,hb,k0,k1,hu⟩:=CK.out.m.cls.at hc
    cases ev
    obtain ⟨ua,uc,eu,hu1,hu2⟩:=hu.form
    subst eu
    unfold maxLen at hu2
    have HC:=qh hc
    have HU:=qh hu
    clear hc hu
    go_wp2_with fail
    rename_i K1 hK1
    have hK1:=qh hK1
    have x1:Ext wr (wr.alloc (.cells #[.string c.name,.slice ua c.regs.length uc] 51)):=Ext.alloc _ _
    have m0:(wr.alloc (.cells #[.string c.name,.slice ua c.regs.length uc] 51)).cell? ⟨wr.heap.size,0,none⟩=some (.string c.name):=cell_new wr _ _ 0
    have m1:(wr.alloc (.cells #[.string c.name,.slice ua c.regs.length uc] 51)).cell? ⟨wr.heap.size,1,none⟩=some (.slice ua c.regs.length uc):=cell_new wr _ _ 1
    have CK:=qh (CK.out.ext x1)
    have HU:=qh (Tab.same HU.out (fun k hk=>Below.block x1 k (Nat.lt_of_lt_of_le hk (H.out.ext hin.out.1).le)))
    have X1:=qh (hin.out.1.trans x1)
    obtain ⟨bo,hbo⟩:∃ b,b=wr.heap.size:=⟨_,rfl⟩
    rw [← hbo] at m0 m1 ⊢
    clear hbo k0 k1
    generalize wr.alloc (.cells #[.string c.name,.slice ua c.regs.length uc] 51)=W1 at x1 m0 m1 CK HU X1 ⊢
    have RES:=qh (hin.out.2.symm.trans (goS_at HC.out))
    clear hin x1
    have e8:=CK.out.cells 8 _ rfl
    dsimp only at e8
    obtain ⟨na,nc,en,_,_⟩:=CK.out.nm.form
    dsimp only at en
    refine wp_region_M (fun w'=>Ext W1 w') 21 (by kernel_rfl) (Ext.drew _) (fun hS=>?_)
    refine' tk 0 hS ?_ ?_;rotate_left;·intros;go_simp;try rfl
    refine' tk 1 hS ?_ ?_;rotate_left;·intro w hSw;have p0:=xc hSw m0;go_simp;try rfl
    try simp only [tD]
    generalize W1.drew=W2 at hS ⊢
    refine rc 2 fun K hK=>?_
    go_simp
    refine (named_any c.name W2).mono ?_
    rintro e W3 ⟨rfl,x3⟩
    have hS:=Ext.trans hS x3
    refine hK.out _ _ hS ?_
    try simp only [tD]
    clear hK K x3
    cases hnm:namedS c.name with
    | false =>
     refine' tk 3 hS ?_ ?_;rotate_left;·intros;go_simp;try rfl
     try simp only [tD]
     refine sk 4 hS ?_
     try simp only [tD]
     refine sk 5 hS ?_
     try simp only [tD]
     refine sk 6 hS ?_
     try simp only [tD]
     refine sk 7 hS ?_
     try simp only [tD]
     refine sk 8 hS ?_
     try simp only [tD]
     refine sk 9 hS ?_
     try simp only [tD]
     refine' tk 10 hS ?_ ?_;rotate_left;·intros;go_simp;try rfl
     refine' tk 11 hS ?_ ?_;rotate_left;·intros;go_simp;try rfl
     try simp only [tD]
     refine sk 12 hS ?_
     try simp only [tD]
     refine sk 13 hS ?_
     try simp only [tD]
     refine sk 14 hS ?_
     try simp only [tD]
     refine sk 15 hS ?_
     try simp only [tD]
     refine sk 16 hS ?_
     try simp only [tD]
     refine sk 17 hS ?_
     try simp only [tD]
     refine sk 18 hS ?_
     try simp only [tD]
     refine sk 19 hS ?_
     try simp only [tD]
     refine' tk 20 hS ?_ ?_;rotate_left;·intros;go_simp;try rfl
     try simp only [tD]
     refine rl 21 fun K hK=>?_
     go_simp
     with_reducible refine (needM_no _ _).mono ?_
     rintro e w' ⟨he,rfl⟩
     unfold stopM at he
     subst he
     refine ⟨rfl,?_,X1.out.trans hS⟩
     rw [RES.out,classOK,if_neg (fun h=>by rw [hnm] at h;cases h.1)];rfl
    | true =>
     refine' tk 3 hS ?_ ?_;rotate_left;·intros;go_simp;try rfl
     refine' tk 4 hS ?_ ?_;rotate_left;·intros;go_simp;try rfl
     refine' tk 5 hS ?_ ?_;rotate_left;·intros;go_simp;try rfl
     try simp only [tD]
     refine' tk 6 hS ?_ ?_;rotate_left;·intro w hSw;have p0:=xc hSw m0;go_simp;try rfl
     refine' tk 8 hS ?_ ?_;rotate_left;·intros;go_simp;try rfl
     try simp only [tD]
     refine rc 7 fun K hK=>?_
     go_simp
     refine (classM_any (CK.out.ext hS) c.name).mono ?_
     rintro e W4 ⟨rfl,x4⟩
     have hS:=Ext.trans hS x4
     refine hK.out _ _ hS ?_
     try simp only [tD]
     clear hK K x4
     refine' tk 9 hS ?_ ?_;rotate_left;·intros;go_simp;try rfl
     try simp only [tD]
     cases hix:clsIx M c.name == (j:Int) with
     | false =>
      refine' tk 10 hS ?_ ?_;rotate_left;·intros;go_simp;try rfl
      refine' tk 11 hS ?_ ?_;rotate_left;·intros;go_simp;try rfl
      try simp only [tD]
      refine sk 12 hS ?_
      try simp only [tD]
      refine sk 13 hS ?_
      try simp only [tD]
      refine sk 14 hS ?_
      try simp only [tD]
      refine sk 15 hS ?_
      try simp only [tD]
      refine sk 16 hS ?_
      try simp only [tD]
      refine sk 17 hS ?_
      try simp only [tD]
      refine sk 18 hS ?_
      try simp only [tD]
      refine sk 19 hS ?_
      try simp only [tD]
      refine' tk 20 hS ?_ ?_;rotate_left;·intros;go_simp;try rfl
      try simp only [tD]
      refine rl 21 fun K hK=>?_
      go_simp
      with_reducible refine (needM_no _ _).mono ?_
      rintro e w' ⟨he,rfl⟩
      unfold stopM at he
      subst he
      refine ⟨rfl,?_,X1.out.trans hS⟩
      rw [RES.out,classOK,if_neg (fun h=>by rw [h.2.1] at hix;simp at hix)];rfl
     | true =>
      have hcon:=qh (contains_any _ N c.name W4 (CK.out.ext hS).nm.slice)
      rw [en] at hcon e8
      dsimp only at hcon
      refine' tk 10 hS ?_ ?_;rotate_left;·intros;go_simp;try rfl
      refine' tk 11 hS ?_ ?_;rotate_left;·intros;go_simp;try rfl
      refine' tk 12 hS ?_ ?_;rotate_left;·intros;go_simp;try rfl
      try simp only [tD]
      refine' tk 13 hS ?_ ?_;rotate_left;·intros;go_simp;try rfl
      refine' tk 14 hS ?_ ?_;rotate_left;·intros;go_simp;try rfl
      refine' tk 15 hS ?_ ?_;rotate_left;·intro w hSw;have p8:=xc hSw e8;go_simp;try rfl
      try simp only [tD]
      refine' tk 16 hS ?_ ?_;rotate_left;·intros;go_simp;try rfl
      refine' tk 17 hS ?_ ?_;rotate_left;·intro w hSw;have p0:=xc hSw m0;go_simp;try rfl
      try simp only [tD]
      refine rc 18 fun K hK=>?_
      go_simp
      refine hcon.out.mono ?_
      rintro e W5 ⟨rfl,rfl⟩
      refine hK.out _ _ hS ?_
      try simp only [tD]
      clear hK K hcon
      cases hcn:decide (0≤idx N c.name) with
      | true =>
       refine' tk 19 hS ?_ ?_;rotate_left;·intros;go_simp;try rfl
       refine' tk 20 hS ?_ ?_;rotate_left;·intros;go_simp;try rfl
       try simp only [tD]
       refine rl 21 fun K hK=>?_
       go_simp
       with_reducible refine (needM_no _ _).mono ?_
       rintro e w' ⟨he,rfl⟩
       unfold stopM at he
       subst he
       refine ⟨rfl,?_,X1.out.trans hS⟩
       rw [RES.out,classOK,if_neg (fun h=>by simp at hcn;exact h.2.2 hcn)];rfl
      | false =>
       refine' tk 19 hS ?_ ?_;rotate_left;·intros;go_simp;try rfl
       refine' tk 20 hS ?_ ?_;rotate_left;·intros;go_simp;try rfl
       try simp only [tD]
       refine rl 21 fun K hK=>?_
       go_simp
       with_reducible refine (needM_ok _ _).mono ?_
       rintro e w' ⟨rfl,rfl⟩
       refine hK.out _ _ ?_
       try simp only [tD]
       refine wpAnyM_done (by kernel_rfl) ?_ _
       refine hK1.out _ _ ?_
       have hcond:namedS c.name=true∧clsIx M c.name=j∧¬ (0≤idx N c.name):=⟨hnm,by simpa using hix,by simpa using hcn⟩
       rw [classOK,if_pos hcond] at RES
       have CK:=qh (CK.out.ext hS)
       have HU:=qh (Tab.same HU.out (fun k hk=>Below.block hS k (Nat.lt_of_lt_of_le hk (H.out.ext X1.out).le)))
       have X1:=qh (X1.out.trans hS)
       have m0:=xc hS m0
       have m1:=xc hS m1
       clear hcond hcn hix hnm hS hK K hK1
       by_cases hlo:1≤c.regs.length
       ·have hloz:(1:Int)≤(c.regs.length:Int):=by omega
        by_cases hhi:c.regs.length≤64
        ·have hhiz:(c.regs.length:Int)≤64:=by omega
         have hne:c.regs≠[]:=fun e=>by rw [e] at hlo;simp at hlo
         rw [if_pos ⟨hlo,hhi⟩] at RES
         have start:Hid (Ext W W4∧res=match goS (regOK N L c) 0 (c.regs.drop 0) with
          | .ok _=>goS (classOK M N L) (j+1) (M.classes.drop (j+1))
          | .error e=>.error e):=qh ⟨X1.out,RES.out⟩
         clear RES
         go_wp2_with (go_at_call 123;with_reducible refine (needM_ok _ _).mono ?_;rintro e w' ⟨rfl,rfl⟩)
         go_loopw [62] (fun i wr2=>∃ n:Nat,n≤c.regs.length∧i=.int .i64 n∧Hid (Ext W4 wr2∧res=match goS (regOK N L c) n (c.regs.drop n) with
          | .ok _=>goS (classOK M N L) (j+1) (M.classes.drop (j+1))
          | .error e=>.error e)) (fun i _=>c.regs.length - (intOf i).toNat)
         case atStart=>exact ⟨0,by omega,rfl,qh ⟨Ext.refl W4,start.out.2⟩⟩
         case round =>
          clear start
          obtain ⟨n,hn,rfl,hin⟩:=hrel
          have CK:=qh (CK.out.ext hin.out.1)
          have HU:=qh (Tab.same HU.out (fun k hk=>Below.block hin.out.1 k (Nat.lt_of_lt_of_le hk (H.out.ext X1.out).le)))
          have X1:=qh (X1.out.trans hin.out.1)
          have m0:=xc hin.out.1 m0
          have m1:=xc hin.out.1 m1
          have RES:=qh hin.out.2
          have XI:=qh hin.out.1
          clear hin
          by_cases hnl:n<c.regs.length
          ·have hnz:(n:Int)<(c.regs.length:Int):=by omega
           obtain ⟨r,hr⟩:∃ r,c.regs[n]?=some r:=⟨_,lE hnl⟩
           obtain ⟨ub,uoff,ucap,eu,_,_,_,g0⟩:=StrsIn.at HU.out hr
           cases eu
           rw [goS_at hr,regOK] at RES
           have hcall:=qh (regM_any CK.out r 8)
           clear hr
           cases hrg:regS N r 8 with
           | error x =>
            rw [hrg] at RES hcall
            clear hrg
            go_wp2_with (go_at_call 127;refine hcall.out.mono ?_;rintro e w' ⟨he,rfl⟩;unfold endOf stopM at he;subst he)
            exact ⟨rfl,by rw [RES.out];rfl,X1.out⟩
           | ok p =>
            rw [hrg] at RES hcall
            obtain ⟨pj,pp,rfl,hpj,hpp,_⟩:=plAt_ok CK.out hrg
            have hpz:(pj:Int)<(L.length:Int):=by have:=(List.getElem?_eq_some_iff.1 hpj).1;omega
            obtain ⟨pb,poff,pcap,ep,_,_,_,d0,d1,d2⟩:=PlsIn.at CK.out.pl hpj
            dsimp only at ep
            have e9:=CK.out.cells 9 _ rfl
            dsimp only at e9
            rw [ep] at e9
            dsimp only at RES
            rw [hpp] at RES
            clear hrg hpj hpp ep
            go_wp2_with (first
             | (go_at_call 127;refine hcall.out.mono ?_;rintro e w' ⟨he,rfl⟩;unfold endOf at he;subst he)
             | fail)
            rename_i K1 hK1
            have hK1:=qh hK1
            have hidx:=qh (fun (W':World) (x:Ext wr W')=>index_any _ c.regs r W' ((StrsIn.slice HU.out).below x))
            have hwid:=qh (fun (W':World) (x:Ext wr W')=>widthM_any (CK.out.ext x) HC.out hne)
            refine wp_region_M (fun w'=>Ext wr w') 20 (by kernel_rfl) (Ext.drew _) (fun hS=>?_)
            refine' tk 0 hS ?_ ?_;rotate_left;·intros;go_simp;try rfl
            refine' tk 1 hS ?_ ?_;rotate_left;·intro w hSw;have p1:=xc hSw m1;go_simp;try rfl
            refine' tk 2 hS ?_ ?_;rotate_left;·intros;go_simp;try rfl
            try simp only [tD]
            refine' tk 4 hS ?_ ?_;rotate_left;·intros;go_simp;try rfl
            try simp only [tD]
            generalize wr.drew=W2 at hS ⊢
            refine rc 3 fun K hK=>?_
            go_simp
            refine (hidx.out W2 hS).mono ?_
            rintro e W3 ⟨rfl,rfl⟩
            refine hK.out _ _ hS ?_
            try simp only [tD]
            clear hK K hidx
            refine' tk 5 hS ?_ ?_;rotate_left;·intros;go_simp;try rfl
            try simp only [tD]
            cases hix:idx c.regs r == (n:Int) with
            | false =>
             refine' tk 6 hS ?_ ?_;rotate_left;·intros;go_simp;try rfl
             try simp only [tD]
             refine sk 7 hS ?_
             try simp only [tD]
             refine sk 8 hS ?_
             try simp only [tD]
             refine sk 9 hS ?_
             try simp only [tD]
             refine sk 10 hS ?_
             try simp only [tD]
             refine sk 11 hS ?_
             try simp only [tD]
             refine sk 12 hS ?_
             try simp only [tD]
             refine sk 13 hS ?_
             try simp only [tD]
             refine sk 14 hS ?_
             try simp only [tD]
             refine sk 15 hS ?_
             try simp only [tD]
             refine sk 16 hS ?_
             try simp only [tD]
             refine sk 17 hS ?_
             try simp only [tD]
             refine sk 18 hS ?_
             try simp only [tD]
             refine' tk 19 hS ?_ ?_;rotate_left;·intros;go_simp;try rfl
             try simp only [tD]
             refine rl 20 fun K hK=>?_
             go_simp
             with_reducible refine (needM_no _ _).mono ?_
             rintro e w' ⟨he,rfl⟩
             unfold stopM at he
             subst he
             refine ⟨rfl,?_,X1.out.trans hS⟩
             rw [RES.out,if_neg (fun h=>by rw [h] at hix;simp at hix)];rfl
            | true =>
             rw [if_pos (by simpa using hix)] at RES
             refine' tk 6 hS ?_ ?_;rotate_left;·intros;go_simp;try rfl
             refine' tk 7 hS ?_ ?_;rotate_left;·intros;go_simp;try rfl
             refine' tk 8 hS ?_ ?_;rotate_left;·intros;go_simp;try rfl
             try simp only [tD]
             refine' tk 9 hS ?_ ?_;rotate_left;·intros;go_simp;try rfl
             refine' tk 10 hS ?_ ?_;rotate_left;·intro w hSw;have p9:=xc hSw e9;go_simp;try rfl
             refine' tk 11 hS ?_ ?_;rotate_left;·intros;go_simp;try rfl
             try simp only [tD]
             refine' tk 12 hS ?_ ?_;rotate_left;·intros;go_simp;try rfl
             refine' tk 13 hS ?_ ?_;rotate_left;·intros;go_simp;try rfl
             refine' tk 14 hS ?_ ?_;rotate_left;·intro w hSw;have pd:=xc hSw d2;go_simp;try rfl
             try simp only [tD]
             refine' tk 15 hS ?_ ?_;rotate_left;·intros;go_simp;try rfl
             refine' tk 16 hS ?_ ?_;rotate_left;·intros;go_simp;try rfl
             try simp only [tD]
             refine rc 17 fun K hK=>?_
             go_simp
             refine (hwid.out W2 hS).mono ?_
             rintro e W4' ⟨he,x4⟩
             have hS:=Ext.trans hS x4
             cases hwd:widthS N L c with
             | error x =>
              rw [hwd] at RES he
              unfold endOf stopM at he
              subst he
              exact ⟨rfl,by rw [RES.out];rfl,X1.out.trans hS⟩
             | ok wd =>
              rw [hwd] at RES he
              unfold endOf at he
              subst he
              dsimp only at RES
              refine hK.out _ _ hS ?_
              try simp only [tD]
              clear hK K x4 hwid
              refine' tk 18 hS ?_ ?_;rotate_left;·intros;go_simp;try rfl
              try simp only [tD]
              cases hpw:pp.width == wd with
              | false =>
               refine' tk 19 hS ?_ ?_;rotate_left;·intros;go_simp;try rfl
               try simp only [tD]
               refine rl 20 fun K hK=>?_
               go_simp
               with_reducible refine (needM_no _ _).mono ?_
               rintro e w' ⟨he,rfl⟩
               unfold stopM at he
               subst he
               refine ⟨rfl,?_,X1.out.trans hS⟩
               rw [RES.out,if_neg (fun h=>by rw [h] at hpw;simp at hpw)];rfl
              | true =>
               rw [if_pos (by simpa using hpw)] at RES
               refine' tk 19 hS ?_ ?_;rotate_left;·intros;go_simp;try rfl
               try simp only [tD]
               refine rl 20 fun K hK=>?_
               go_simp
               with_reducible refine (needM_ok _ _).mono ?_
               rintro e w' ⟨rfl,rfl⟩
               refine hK.out _ _ ?_
               try simp only [tD]
               refine wpAnyM_done (by kernel_rfl) ?_ _
               refine hK1.out _ _ ?_
               have XF:=qh hS
               clear hS
               go_wp2
               go_roundw
               case rel=>exact ⟨n+1,by omega,by go_num,qh ⟨XI.out.trans XF.out,RES.out⟩⟩
               case measure=>simp [intOf];omega
          ·have hnz:¬ (n:Int)<(c.regs.length:Int):=by omega
           obtain rfl:n=c.regs.length:=by omega
           rw [goS_end] at RES
           go_wp2
           go_roundw
           case rel=>exact ⟨j+1,by omega,by go_num,qh ⟨X1.out,RES.out.symm⟩⟩
           case measure=>simp [intOf];omega
        ·have hhd:decide ((c.regs.length:Int)≤64)=false:=by simp;omega
         rw [if_neg (fun h=>hhi h.2)] at RES
         clear hhi
         go_wp2_with (go_at_call 123;with_reducible refine (needM_no _ _).mono ?_;rintro e w' ⟨he,rfl⟩;unfold stopM at he;subst he)
         exact ⟨rfl,by rw [RES.out];rfl,X1.out⟩
       ·have hld:decide ((1:Int)≤(c.regs.length:Int))=false:=by simp;omega
        have hld2:(c.regs.length:Int)=0:=by omega
        rw [if_neg (fun h=>hlo h.1)] at RES
        clear hlo
        go_wp2_with (go_at_call 123;with_reducible refine (needM_no _ _).mono ?_;rintro e w' ⟨he,rfl⟩;unfold stopM at he;subst he)
        exact ⟨rfl,by rw [RES.out];rfl,X1.out⟩
   ·have hltz:¬ (j:Int)<(M.classes.length:Int):=by omega
    obtain rfl:j=M.classes.length:=by omega
    go_wp2
    go_end0
    exact ⟨by rw [← hin.out.2,goS_end];rfl,hin.out.1⟩
 ·rw [if_neg hlen] at hres
  have hlz:¬ (M.classes.length:Int)≤64:=by omega
  have hd:decide ((M.classes.length:Int)≤64)=false:=by simpa using hlz
  have RES:=qh hres
  clear hres hlen hlz
  go_enter Tryz.func101,Tryz.ntmps101
  go_wp2_with (go_at_call 123;with_reducible refine (needM_no _ _).mono ?_;rintro e w' ⟨he,rfl⟩;unfold stopM at he;subst he)
  exact ⟨rfl,by rw [← RES.out];rfl,Ext.refl W⟩
end Go.Proofs.YtligiddaampneaaGreat
end
section
namespace Go.Proofs.YtligiddaampneaaGreat
open Go.RowKit
attribute [local go_sem] Oper.semAt_some
variable {W : World} {n1 bc : Nat} {V : MV} {M : Mach} {N : List ByteArray} {L : List Pl}
def wdS (M:Mach) (N:List ByteArray) (L:List Pl) (k:Int):Except Int Int:=match M.classes[k.toNat]? with
 | some c=>widthS N L c
 | none=>.error 0
def useOK (M:Mach) (N:List ByteArray) (L:List Pl) (d:Int) (_:Nat) (u:Opr):Except Int Unit:=match operS M u with
 | .error e=>.error e
 | .ok k=>match wdS M N L k with
  | .error e=>.error e
  | .ok w1=>match wdS M N L d with
   | .error e=>.error e
   | .ok w2=>if w1=w2 then .ok () else .error 9
def clobOK (N:List ByteArray) (o:Opn) (n:Nat) (r:ByteArray):Except Int Unit:=match regS N r 9 with
 | .error e=>.error e
 | .ok _=>if idx o.clob r=n then .ok () else .error 9
theorem operS_ok {M:Mach} {o:Opr} {d:Int} (h:operS M o=.ok d):∃ (k:Nat) (c:Cls),d=(k:Int)∧M.classes[k]?=some c:=by
 unfold operS at h
 by_cases h0:0≤clsIx M o.cls
 ·rw [if_pos h0] at h
  obtain ⟨k,c,e,hc,_⟩:=fidx_ok h0
  have this:∀ (P:Prop) [Decidable P] (q:Int),(if P then (Except.ok q:Except Int Int) else .error 9)=.ok d→q=d:=fun P _ q h=>by
   by_cases hP:P
   ·rw [if_pos hP] at h;injection h
   ·rw [if_neg hP] at h;cases h
  exact ⟨k,c,(this _ _ h).symm.trans e,hc⟩
 ·rw [if_neg h0] at h;cases h
theorem wdS_at {M:Mach} {N:List ByteArray} {L:List Pl} {k:Nat} {c:Cls} (h:M.classes[k]?=some c):wdS M N L (k:Int)=widthS N L c:=by
 unfold wdS;rw [Int.toNat_natCast,h]
def oprEq (a b:Opr):Bool:=a.cls == b.cls && a.fix == b.fix
def tieS (o:Opn):Except Int Unit :=
 if -1≤o.tie∧o.tie<o.uses.length then (if o.tie<0∨(match o.uses[o.tie.toNat]? with | some u=>oprEq o.dfn u | none=>false)=true then .ok () else .error 9) else .error 9
def clobS (N:List ByteArray) (o:Opn):Except Int Unit:=if o.clob.length≤64 then goS (clobOK N o) 0 o.clob else .error 9
def tailS (N:List ByteArray) (o:Opn):Except Int Unit:=match tieS o with
 | .error e=>.error e
 | .ok _=>clobS N o
def usesS (M:Mach) (N:List ByteArray) (L:List Pl) (o:Opn):Except Int Unit:=match operS M o.dfn with
 | .error e=>.error e
 | .ok d=>match goS (useOK M N L d) 0 o.uses with
  | .error e=>.error e
  | .ok _=>tailS N o
def opS (M:Mach) (N:List ByteArray) (L:List Pl) (i:Nat) (o:Opn):Except Int Unit :=
 if 0<arityOf o.name.data.toList∧fidx (fun x=>x.name == o.name) M.ops=i then
  (if (o.uses.length:Int)=arityOf o.name.data.toList then usesS M N L o else .error 9)
 else .error 5
theorem opM_any (h:CkIn W n1 bc V M N L) (hcl:∀ c∈M.classes,c.regs≠[]) {i:Nat} {o:Opn} (ho:M.ops[i]?=some o) :
  Calls Tryz.prog 130 #[.pointer (some ⟨bc,0,none⟩),.int .i64 (i:Int)] W fun e W'=>e=endOf unitV (opS M N L i o)∧Ext W W':=by
 generalize hres:opS M N L i o=res
 have c3:=h.cells 3 _ rfl
 have H:=qh h
 have HCL:=qh hcl
 have HO:=qh ho
 obtain ⟨b,off,cap,u,z,ev,hl1,hl2,hb,k0,k1,k2,k3,k4,k5,hu,hz,hti⟩:=h.m.ops.at ho
 have hiz:(i:Int)<(M.ops.length:Int):=by have:=(List.getElem?_eq_some_iff.1 ho).1;omega
 obtain ⟨vR,vC,vO,vA,vS,vN,vP⟩:=V
 dsimp only at c3 ev
 subst ev
 unfold maxLen at hl2
 obtain ⟨ua,uc,eu,hu1,hu2⟩:=hu.form
 obtain ⟨za,zc,ez,hz1,hz2⟩:=hz.form
 subst eu ez
 unfold maxLen at hu2 hz2
 have HU:=qh hu
 have HZ:=qh hz
 have RES:=qh hres
 clear hres h hcl ho hu hz
 unfold opS at RES
 go_enter Tryz.func130,Tryz.ntmps130
 go_wp2_with fail
 rename_i K1 hK1
 have hK1:=qh hK1
 have x1:Ext W (W.alloc (.cells #[.string o.name,.string o.dfn.cls,.string o.dfn.fix,.slice ua o.uses.length uc,.int .i64 o.tie,.slice za o.clob.length zc] 60)):=Ext.alloc _ _
 have m0:(W.alloc (.cells #[.string o.name,.string o.dfn.cls,.string o.dfn.fix,.slice ua o.uses.length uc,.int .i64 o.tie,.slice za o.clob.length zc] 60)).cell? ⟨W.heap.size,0,none⟩=some (.string o.name):=cell_new W _ _ 0
 have m1:(W.alloc (.cells #[.string o.name,.string o.dfn.cls,.string o.dfn.fix,.slice ua o.uses.length uc,.int .i64 o.tie,.slice za o.clob.length zc] 60)).cell? ⟨W.heap.size,1,none⟩=some (.string o.dfn.cls):=cell_new W _ _ 1
 have m2:(W.alloc (.cells #[.string o.name,.string o.dfn.cls,.string o.dfn.fix,.slice ua o.uses.length uc,.int .i64 o.tie,.slice za o.clob.length zc] 60)).cell? ⟨W.heap.size,2,none⟩=some (.string o.dfn.fix):=cell_new W _ _ 2
 have m3:(W.alloc (.cells #[.string o.name,.string o.dfn.cls,.string o.dfn.fix,.slice ua o.uses.length uc,.int .i64 o.tie,.slice za o.clob.length zc] 60)).cell? ⟨W.heap.size,3,none⟩=some (.slice ua o.uses.length uc):=cell_new W _ _ 3
 have m4:(W.alloc (.cells #[.string o.name,.string o.dfn.cls,.string o.dfn.fix,.slice ua o.uses.length uc,.int .i64 o.tie,.slice za o.clob.length zc] 60)).cell? ⟨W.heap.size,4,none⟩=some (.int .i64 o.tie):=cell_new W _ _ 4
 have m5:(W.alloc (.cells #[.string o.name,.string o.dfn.cls,.string o.dfn.fix,.slice ua o.uses.length uc,.int .i64 o.tie,.slice za o.clob.length zc] 60)).cell? ⟨W.heap.size,5,none⟩=some (.slice za o.clob.length zc):=cell_new W _ _ 5
 have CK:=qh (H.out.ext x1)
 have HU:=qh (Tab.same HU.out (fun k hk=>Below.block x1 k (Nat.lt_of_lt_of_le hk H.out.le)))
 have HZ:=qh (Tab.same HZ.out (fun k hk=>Below.block x1 k (Nat.lt_of_lt_of_le hk H.out.le)))
 obtain ⟨bo,hbo⟩:∃ b,b=W.heap.size:=⟨_,rfl⟩
 rw [← hbo] at m0 m1 m2 m3 m4 m5 ⊢
 clear hbo k0 k1 k2 k3 k4 k5
 have e3:=x1.cell c3
 generalize W.alloc (.cells #[.string o.name,.string o.dfn.cls,.string o.dfn.fix,.slice ua o.uses.length uc,.int .i64 o.tie,.slice za o.clob.length zc] 60)=W1 at x1 m0 m1 m2 m3 m4 m5 CK HU HZ e3 ⊢
 clear c3
 refine wp_region_M (fun w'=>Ext W1 w') 16 (by kernel_rfl) (Ext.drew _) (fun hS=>?_)
 refine' tk 0 hS ?_ ?_;rotate_left;·intros;go_simp;try rfl
 refine' tk 1 hS ?_ ?_;rotate_left;·intro w hSw;have p0:=xc hSw m0;go_simp;try rfl
 try simp only [tD]
 generalize W1.drew=W2 at hS ⊢
 refine rc 2 fun K hK=>?_
 go_simp
 refine (arityM_any o.name W2).mono ?_
 rintro e w' ⟨rfl,rfl⟩
 refine hK.out _ _ hS ?_
 try simp only [tD]
 clear hK K
 generalize har:arityOf o.name.data.toList=ar at RES ⊢
 have HAR:=qh har
 clear har
 by_cases hpos:0<ar
 case neg =>
  have hd:decide (0<ar)=false:=by simpa using hpos
  rw [if_neg (fun h=>hpos h.1)] at RES
  clear hpos
  refine' tk 3 hS ?_ ?_;rotate_left;·intros;go_simp;try rfl
  refine' tk 4 hS ?_ ?_;rotate_left;·intros;go_simp;try rfl
  try simp only [tD]
  refine sk 5 hS ?_
  try simp only [tD]
  refine sk 6 hS ?_
  try simp only [tD]
  refine sk 7 hS ?_
  try simp only [tD]
  refine sk 8 hS ?_
  try simp only [tD]
  refine sk 9 hS ?_
  try simp only [tD]
  refine sk 10 hS ?_
  try simp only [tD]
  refine sk 11 hS ?_
  try simp only [tD]
  refine sk 12 hS ?_
  try simp only [tD]
  refine sk 13 hS ?_
  try simp only [tD]
  refine sk 14 hS ?_
  try simp only [tD]
  refine' tk 15 hS ?_ ?_;rotate_left;·intros;go_simp;try rfl
  try simp only [tD]
  refine rl 16 fun K hK=>?_
  go_simp
  with_reducible refine (needM_no _ _).mono ?_
  rintro e w' ⟨he,rfl⟩
  unfold stopM at he
  subst he
  exact ⟨rfl,by rw [← RES.out];rfl,x1.trans hS⟩
 refine' tk 3 hS ?_ ?_;rotate_left;·intros;go_simp;try rfl
 refine' tk 4 hS ?_ ?_;rotate_left;·intros;go_simp;try rfl
 refine' tk 5 hS ?_ ?_;rotate_left;·intros;go_simp;try rfl
 try simp only [tD]
 refine' tk 6 hS ?_ ?_;rotate_left;·intros;go_simp;try rfl
 refine' tk 7 hS ?_ ?_;rotate_left;·intros;go_simp;try rfl
 refine' tk 8 hS ?_ ?_;rotate_left;·intros;go_simp;try rfl
 try simp only [tD]
 refine' tk 9 hS ?_ ?_;rotate_left;·intro w hSw;have p3:=xc hSw e3;go_simp;try rfl
 refine' tk 10 hS ?_ ?_;rotate_left;·intros;go_simp;try rfl
 refine' tk 11 hS ?_ ?_;rotate_left;·intro w hSw;have p0:=xc hSw m0;go_simp;try rfl
 try simp only [tD]
 refine' tk 13 hS ?_ ?_;rotate_left;·intros;go_simp;try rfl
 try simp only [tD]
 refine rc 12 fun K hK=>?_
 go_simp
 refine (indexO (CK.out.ext hS).m.ops (CK.out.ext hS).le o.name).mono ?_
 rintro e W3 ⟨rfl,x3⟩
 have hS:=Ext.trans hS x3
 refine hK.out _ _ hS ?_
 try simp only [tD]
 clear hK K x3
 refine' tk 14 hS ?_ ?_;rotate_left;·intros;go_simp;try rfl
 try simp only [tD]
 by_cases hix:fidx (fun x=>x.name == o.name) M.ops=(i:Int)
 case neg =>
  have hd:(fidx (fun x=>x.name == o.name) M.ops == (i:Int))=false:=by simpa using hix
  rw [if_neg (fun h=>hix h.2)] at RES
  clear hix
  refine' tk 15 hS ?_ ?_;rotate_left;·intros;go_simp;try rfl
  try simp only [tD]
  refine rl 16 fun K hK=>?_
  go_simp
  with_reducible refine (needM_no _ _).mono ?_
  rintro e w' ⟨he,rfl⟩
  unfold stopM at he
  subst he
  exact ⟨rfl,by rw [← RES.out];rfl,x1.trans hS⟩
 rw [if_pos ⟨hpos,hix⟩] at RES
 have hd:(fidx (fun x=>x.name == o.name) M.ops == (i:Int))=true:=by simpa using hix
 clear hix
 refine' tk 15 hS ?_ ?_;rotate_left;·intros;go_simp;try rfl
 try simp only [tD]
 refine rl 16 fun K hK=>?_
 go_simp
 with_reducible refine (needM_ok _ _).mono ?_
 rintro e w' ⟨rfl,rfl⟩
 refine hK.out _ _ ?_
 try simp only [tD]
 refine wpAnyM_done (by kernel_rfl) ?_ _
 refine hK1.out _ _ ?_
 have X1:=qh x1
 clear x1 hd hpos hK K hK1 e3
 have HU:=qh (Tab.same HU.out (fun k hk=>Below.block hS k (Nat.lt_of_lt_of_le hk CK.out.le)))
 have HZ:=qh (Tab.same HZ.out (fun k hk=>Below.block hS k (Nat.lt_of_lt_of_le hk CK.out.le)))
 have CK:=qh (CK.out.ext hS)
 have X1:=qh (X1.out.trans hS)
 have m0:=xc hS m0
 have m1:=xc hS m1
 have m2:=xc hS m2
 have m3:=xc hS m3
 have m4:=xc hS m4
 have m5:=xc hS m5
 clear hS
 go_wp2_with fail
 rename_i K1 hK1
 have hK1:=qh hK1
 refine wp_region_M (fun w'=>Ext W3 w') 7 (by kernel_rfl) (Ext.drew _) (fun hS=>?_)
 refine' tk 0 hS ?_ ?_;rotate_left;·intros;go_simp;try rfl
 refine' tk 1 hS ?_ ?_;rotate_left;·intro w hSw;have p3:=xc hSw m3;go_simp;try rfl
 refine' tk 2 hS ?_ ?_;rotate_left;·intros;go_simp;try rfl
 try simp only [tD]
 refine' tk 3 hS ?_ ?_;rotate_left;·intros;go_simp;try rfl
 refine' tk 4 hS ?_ ?_;rotate_left;·intro w hSw;have p0:=xc hSw m0;go_simp;try rfl
 try simp only [tD]
 generalize W3.drew=W4 at hS ⊢
 refine rc 5 fun K hK=>?_
 go_simp
 refine (arityM_any o.name W4).mono ?_
 rintro e w' ⟨he,rfl⟩
 rw [HAR.out] at he
 subst he
 refine hK.out _ _ hS ?_
 clear hK K
 refine' tk 6 hS ?_ ?_;rotate_left;·intros;go_simp;try rfl
 try simp only [tD]
 by_cases hix:(o.uses.length:Int)=ar
 case neg =>
  have hd:((o.uses.length:Int) == ar)=false:=by simpa using hix
  rw [if_neg hix] at RES
  clear hix
  refine rl 7 fun K hK=>?_
  go_simp
  with_reducible refine (needM_no _ _).mono ?_
  rintro e w' ⟨he,rfl⟩
  unfold stopM at he
  subst he
  exact ⟨rfl,by rw [← RES.out];rfl,X1.out.trans hS⟩
 rw [if_pos hix] at RES
 have hd:((o.uses.length:Int) == ar)=true:=by simpa using hix
 clear hix
 refine rl 7 fun K hK=>?_
 go_simp
 with_reducible refine (needM_ok _ _).mono ?_
 rintro e w' ⟨rfl,rfl⟩
 refine hK.out _ _ ?_
 try simp only [tD]
 refine wpAnyM_done (by kernel_rfl) ?_ _
 refine hK1.out _ _ ?_
 have HU:=qh (Tab.same HU.out (fun k hk=>Below.block hS k (Nat.lt_of_lt_of_le hk CK.out.le)))
 have HZ:=qh (Tab.same HZ.out (fun k hk=>Below.block hS k (Nat.lt_of_lt_of_le hk CK.out.le)))
 have CK:=qh (CK.out.ext hS)
 have X1:=qh (X1.out.trans hS)
 have m0:=xc hS m0
 have m1:=xc hS m1
 have m2:=xc hS m2
 have m3:=xc hS m3
 have m4:=xc hS m4
 have m5:=xc hS m5
 clear hS hd hK K hK1 HAR
 unfold usesS at RES
 have hoper:=qh (operM_any CK.out o.dfn)
 cases hop:operS M o.dfn
 case error x =>
  rw [hop] at RES hoper
  clear hop
  go_wp2_with (go_at_call 152;refine hoper.out.mono ?_;rintro e W5 ⟨he,x5⟩;unfold endOf stopM at he;subst he)
  exact ⟨rfl,by rw [← RES.out];rfl,X1.out.trans x5⟩
 rename_i d
 obtain ⟨kd,cd,rfl,hkd⟩:=operS_ok hop
 rw [hop] at RES hoper
 dsimp only at RES
 have HKD:=qh hkd
 clear hop hkd
 go_wp2_with (go_at_call 152;refine hoper.out.mono ?_;rintro e W5 ⟨he,x5⟩;unfold endOf at he;subst he;have m0:=xc x5 m0;have m1:=xc x5 m1;have m2:=xc x5 m2;have m3:=xc x5 m3;have m4:=xc x5 m4;have m5:=xc x5 m5;have X5:=qh x5;clear x5)
 have X5:=X5.out
 have HU:=qh (Tab.same HU.out (fun k hk=>Below.block X5 k (Nat.lt_of_lt_of_le hk CK.out.le)))
 have HZ:=qh (Tab.same HZ.out (fun k hk=>Below.block X5 k (Nat.lt_of_lt_of_le hk CK.out.le)))
 have CK:=qh (CK.out.ext X5)
 have X1:=qh (X1.out.trans X5)
 clear X5 hoper
 have CL:=qh (HCL.out cd (List.mem_of_getElem? HKD.out))
 have start:Hid (Ext W5 W5∧res=match goS (useOK M N L (kd:Int)) 0 (o.uses.drop 0) with
  | .ok _=>tailS N o
  | .error e=>.error e):=qh ⟨Ext.refl _,by rw [← RES.out,List.drop_zero];cases goS (useOK M N L (kd:Int)) 0 o.uses <;> rfl⟩
 clear RES
 go_loopw [50] (fun i wr=>∃ n:Nat,n≤o.uses.length∧i=.int .i64 n∧Hid (Ext W5 wr∧res=match goS (useOK M N L (kd:Int)) n (o.uses.drop n) with
  | .ok _=>tailS N o
  | .error e=>.error e)) (fun i _=>o.uses.length - (intOf i).toNat)
 case atStart=>exact ⟨0,by omega,rfl,start⟩
 case round =>
  clear start
  obtain ⟨n,hn,rfl,hin⟩:=hrel
  have RES:=qh hin.out.2
  have XI:=qh hin.out.1
  have HU:=qh (Tab.same HU.out (fun k hk=>Below.block hin.out.1 k (Nat.lt_of_lt_of_le hk CK.out.le)))
  have HZ:=qh (Tab.same HZ.out (fun k hk=>Below.block hin.out.1 k (Nat.lt_of_lt_of_le hk CK.out.le)))
  have CK:=qh (CK.out.ext hin.out.1)
  have X1:=qh (X1.out.trans hin.out.1)
  have m0:=xc hin.out.1 m0
  have m1:=xc hin.out.1 m1
  have m2:=xc hin.out.1 m2
  have m3:=xc hin.out.1 m3
  have m4:=xc hin.out.1 m4
  have m5:=xc hin.out.1 m5
  clear hin
  by_cases hnl:n<o.uses.length
  ·have hnz:(n:Int)<(o.uses.length:Int):=by omega
   obtain ⟨q,hq⟩:∃ r,o.uses[n]?=some r:=⟨_,lE hnl⟩
   obtain ⟨ub,uoff,ucap,eu,_,_,_,g0,g1⟩:=OprsIn.at HU.out hq
   cases eu
   rw [goS_at hq,useOK] at RES
   clear hq
   have x0:=Ext.alloc wr (.cells #[.string q.cls,.string q.fix] 57)
   have hop:=qh (operM_any (CK.out.ext x0) q)
   have hw2:=qh (fun (W':World) (x:Ext wr W')=>widthM_any (CK.out.ext x) HKD.out CL.out)
   rw [wdS_at HKD.out] at RES
   cases hoq:operS M q
   case error x =>
    rw [hoq] at RES hop
    clear hoq
    go_wp2_with (go_at_call 152;refine hop.out.mono ?_;rintro e W6 ⟨he,x6⟩;unfold endOf stopM at he;subst he)
    exact ⟨rfl,by rw [RES.out];rfl,(X1.out.trans x0).trans x6⟩
   rename_i d'
   obtain ⟨kq,cq,rfl,hkq⟩:=operS_ok hoq
   rw [hoq] at RES hop
   dsimp only at RES
   rw [wdS_at hkq] at RES
   have hw1:=qh (fun (W':World) (x:Ext wr W')=>widthM_any (CK.out.ext x) hkq (HCL.out cq (List.mem_of_getElem? hkq)))
   clear hoq hkq
   cases hwq:widthS N L cq
   case error x =>
    rw [hwq] at RES hw1
    clear hwq
    go_wp2_with (first
     | (go_at_call 129;refine (hw1.out _ x6).mono ?_;rintro e W7 ⟨he,x7⟩;unfold endOf stopM at he;subst he)
     | (go_at_call 152;refine hop.out.mono ?_;rintro e W6 ⟨he,x6⟩;unfold endOf at he;subst he;have x6:=x0.trans x6))
    exact ⟨rfl,by rw [RES.out];rfl,(X1.out.trans x6).trans x7⟩
   rename_i w1
   rw [hwq] at RES hw1
   dsimp only at RES
   clear hwq
   cases hwd:widthS N L cd
   case error x =>
    rw [hwd] at RES hw2
    clear hwd
    go_wp2_with (first
     | (go_at_call 129;refine (hw2.out _ x7).mono ?_;rintro e W8 ⟨he,x8⟩;unfold endOf stopM at he;subst he)
     | (go_at_call 129;refine (hw1.out _ x6).mono ?_;rintro e W7 ⟨he,x7⟩;unfold endOf at he;subst he;have x7:=x6.trans x7)
     | (go_at_call 152;refine hop.out.mono ?_;rintro e W6 ⟨he,x6⟩;unfold endOf at he;subst he;have x6:=x0.trans x6))
    exact ⟨rfl,by rw [RES.out];rfl,(X1.out.trans x7).trans x8⟩
   rename_i w2
   rw [hwd] at RES hw2
   dsimp only at RES
   clear hwd
   by_cases hww:w1=w2
   case neg =>
    have hd:(w1 == w2)=false:=by simpa using hww
    rw [if_neg hww] at RES
    clear hww
    go_wp2_with (first
     | (go_at_call 123;with_reducible refine (needM_no _ _).mono ?_;rintro e w' ⟨he,rfl⟩;unfold stopM at he;subst he)
     | (go_at_call 129;refine (hw2.out _ x7).mono ?_;rintro e W8 ⟨he,x8⟩;unfold endOf at he;subst he;have x8:=x7.trans x8)
     | (go_at_call 129;refine (hw1.out _ x6).mono ?_;rintro e W7 ⟨he,x7⟩;unfold endOf at he;subst he;have x7:=x6.trans x7)
     | (go_at_call 152;refine hop.out.mono ?_;rintro e W6 ⟨he,x6⟩;unfold endOf at he;subst he;have x6:=x0.trans x6))
    exact ⟨rfl,by rw [RES.out];rfl,X1.out.trans x8⟩
   rw [if_pos hww] at RES
   subst hww
   go_wp2_with (first
    | (go_at_call 123;with_reducible refine (needM_ok _ _).mono ?_;rintro e w' ⟨rfl,rfl⟩)
    | (go_at_call 129;refine (hw2.out _ x7).mono ?_;rintro e W8 ⟨he,x8⟩;unfold endOf at he;subst he;have x8:=x7.trans x8)
    | (go_at_call 129;refine (hw1.out _ x6).mono ?_;rintro e W7 ⟨he,x7⟩;unfold endOf at he;subst he;have x7:=x6.trans x7)
    | (go_at_call 152;refine hop.out.mono ?_;rintro e W6 ⟨he,x6⟩;unfold endOf at he;subst he;have x6:=x0.trans x6))
   go_roundw
   case rel=>exact ⟨n+1,by omega,by go_num,qh ⟨XI.out.trans x8,RES.out⟩⟩
   case measure=>simp [intOf];omega
  ·have hnz:¬ (n:Int)<(o.uses.length:Int):=by omega
   obtain rfl:n=o.uses.length:=by omega
   rw [goS_end] at RES
   dsimp only at RES
   unfold tailS tieS at RES
   clear XI hn hnl
   by_cases ht1:-1≤o.tie∧o.tie<o.uses.length
   case neg =>
    rw [if_neg ht1] at RES
    by_cases ht2:-1≤o.tie
    ·have ht3:¬ o.tie<(o.uses.length:Int):=fun h=>ht1 ⟨ht2,h⟩
     have hd:decide (o.tie<(o.uses.length:Int))=false:=by simpa using ht3
     clear ht1 ht3
     go_wp2_with (go_at_call 123;with_reducible refine (needM_no _ _).mono ?_;rintro e w' ⟨he,rfl⟩;unfold stopM at he;subst he)
     exact ⟨rfl,by rw [RES.out];rfl,X1.out⟩
    ·have hd:decide (-1≤o.tie)=false:=by simpa using ht2
     clear ht1 ht2
     go_wp2_with (go_at_call 123;with_reducible refine (needM_no _ _).mono ?_;rintro e w' ⟨he,rfl⟩;unfold stopM at he;subst he)
     exact ⟨rfl,by rw [RES.out];rfl,X1.out⟩
   rw [if_pos ht1] at RES
   obtain ⟨ht1,ht2⟩:=ht1
   go_wp2_with (go_at_call 123;with_reducible refine (needM_ok _ _).mono ?_;rintro e w' ⟨rfl,rfl⟩)
   rename_i K1 hK1
   have hK1:=qh hK1
   refine wp_region_M (fun w'=>Ext wr w') 14 (by kernel_rfl) (Ext.drew _) (fun hS=>?_)
   by_cases ht0:o.tie<0
   ·skip
    refine' tk 0 hS ?_ ?_;rotate_left;·intros;go_simp;try rfl
    refine' tk 1 hS ?_ ?_;rotate_left;·intro w hSw;have p4:=xc hSw m4;go_simp;try rfl
    refine' tk 2 hS ?_ ?_;rotate_left;·intros;go_simp;try rfl
    try simp only [tD]
    refine' tk 3 hS ?_ ?_;rotate_left;·intros;go_simp;try rfl
    try simp only [tD]
    refine sk 4 hS ?_
    try simp only [tD]
    refine sk 5 hS ?_
    try simp only [tD]
    refine sk 6 hS ?_
    try simp only [tD]
    refine sk 7 hS ?_
    try simp only [tD]
    refine sk 8 hS ?_
    try simp only [tD]
    refine sk 9 hS ?_
    try simp only [tD]
    refine sk 10 hS ?_
    try simp only [tD]
    refine sk 11 hS ?_
    try simp only [tD]
    refine sk 12 hS ?_
    try simp only [tD]
    refine' tk 13 hS ?_ ?_;rotate_left;·intros;go_simp;try rfl
    try simp only [tD]
    generalize wr.drew=W9 at hS ⊢
    rw [if_pos (Or.inl ht0)] at RES
    dsimp only at RES
    refine rl 14 fun K hK=>?_
    go_simp
    with_reducible refine (needM_ok _ _).mono ?_
    rintro e w' ⟨rfl,rfl⟩
    refine hK.out _ _ ?_
    try simp only [tD]
    refine wpAnyM_done (by kernel_rfl) ?_ _
    refine hK1.out _ _ ?_
    have HU:=qh (Tab.same HU.out (fun k hk=>Below.block hS k (Nat.lt_of_lt_of_le hk CK.out.le)))
    have HZ:=qh (Tab.same HZ.out (fun k hk=>Below.block hS k (Nat.lt_of_lt_of_le hk CK.out.le)))
    have CK:=qh (CK.out.ext hS)
    have X1:=qh (X1.out.trans hS)
    have m0:=xc hS m0
    have m1:=xc hS m1
    have m2:=xc hS m2
    have m3:=xc hS m3
    have m4:=xc hS m4
    have m5:=xc hS m5
    clear hS hK K hK1
    unfold clobS at RES
    by_cases hcl:o.clob.length≤64
    case neg =>
     have hd:decide ((o.clob.length:Int)≤64)=false:=by simp;omega
     rw [if_neg hcl] at RES
     clear hcl
     go_wp2_with (go_at_call 123;with_reducible refine (needM_no _ _).mono ?_;rintro e w' ⟨he,rfl⟩;unfold stopM at he;subst he)
     exact ⟨rfl,by rw [RES.out];rfl,X1.out⟩
    rw [if_pos hcl] at RES
    have hclz:(o.clob.length:Int)≤64:=by omega
    have start:Hid (Ext W9 W9∧res=goS (clobOK N o) 0 (o.clob.drop 0)):=qh ⟨Ext.refl _,RES.out⟩
    clear RES
    go_wp2_with (go_at_call 123;with_reducible refine (needM_ok _ _).mono ?_;rintro e w' ⟨rfl,rfl⟩)
    go_loopw [100] (fun i wr=>∃ n:Nat,n≤o.clob.length∧i=.int .i64 n∧Hid (Ext W9 wr∧res=goS (clobOK N o) n (o.clob.drop n))) (fun i _=>o.clob.length - (intOf i).toNat)
    case atStart=>exact ⟨0,by omega,rfl,start⟩
    case round =>
     clear start
     obtain ⟨n,hn,rfl,hin⟩:=hrel
     have RES:=qh hin.out.2
     have XI:=qh hin.out.1
     have HU:=qh (Tab.same HU.out (fun k hk=>Below.block hin.out.1 k (Nat.lt_of_lt_of_le hk CK.out.le)))
     have HZ:=qh (Tab.same HZ.out (fun k hk=>Below.block hin.out.1 k (Nat.lt_of_lt_of_le hk CK.out.le)))
     have CK:=qh (CK.out.ext hin.out.1)
     have X1:=qh (X1.out.trans hin.out.1)
     have m0:=xc hin.out.1 m0
     have m1:=xc hin.out.1 m1
     have m2:=xc hin.out.1 m2
     have m3:=xc hin.out.1 m3
     have m4:=xc hin.out.1 m4
     have m5:=xc hin.out.1 m5
     clear hin
     by_cases hnl:n<o.clob.length
     ·have hnz:(n:Int)<(o.clob.length:Int):=by omega
      obtain ⟨r,hr⟩:∃ r,o.clob[n]?=some r:=⟨_,lE hnl⟩
      obtain ⟨zb,zoff,zcap,ez,_,_,_,g0⟩:=StrsIn.at HZ.out hr
      cases ez
      rw [goS_at hr,clobOK] at RES
      clear hr
      have hreg:=qh (regM_any CK.out r 9)
      have hidx:=qh (index_any _ o.clob r _ (StrsIn.slice HZ.out))
      cases hrg:regS N r 9
      case error x =>
       rw [hrg] at RES hreg
       clear hrg
       go_wp2_with (go_at_call 127;refine hreg.out.mono ?_;rintro e w' ⟨he,rfl⟩;unfold endOf stopM at he;subst he)
       exact ⟨rfl,by rw [RES.out];rfl,X1.out⟩
      rename_i p
      rw [hrg] at RES hreg
      dsimp only at RES
      clear hrg
      by_cases hix:idx o.clob r=(n:Int)
      case neg =>
       have hd:(idx o.clob r == (n:Int))=false:=by simpa using hix
       rw [if_neg hix] at RES
       clear hix
       go_wp2_with (first
        | (go_at_call 127;refine hreg.out.mono ?_;rintro e w' ⟨he,rfl⟩;unfold endOf at he;subst he)
        | (go_at_call 128;refine hidx.out.mono ?_;rintro e w' ⟨rfl,rfl⟩)
        | (go_at_call 123;with_reducible refine (needM_no _ _).mono ?_;rintro e w' ⟨he,rfl⟩;unfold stopM at he;subst he))
       exact ⟨rfl,by rw [RES.out];rfl,X1.out⟩
      rw [if_pos hix] at RES
      have hd:(idx o.clob r == (n:Int))=true:=by simpa using hix
      clear hix
      go_wp2_with (first
       | (go_at_call 127;refine hreg.out.mono ?_;rintro e w' ⟨he,rfl⟩;unfold endOf at he;subst he)
       | (go_at_call 128;refine hidx.out.mono ?_;rintro e w' ⟨rfl,rfl⟩)
       | (go_at_call 123;with_reducible refine (needM_ok _ _).mono ?_;rintro e w' ⟨rfl,rfl⟩))
      go_roundw
      case rel=>exact ⟨n+1,by omega,by go_num,qh ⟨XI.out,RES.out⟩⟩
      case measure=>simp [intOf];omega
     ·have hnz:¬ (n:Int)<(o.clob.length:Int):=by omega
      obtain rfl:n=o.clob.length:=by omega
      rw [goS_end] at RES
      go_wp2
      go_end0
      exact ⟨by rw [RES.out];rfl,X1.out⟩
   ·obtain ⟨tj,htj⟩:∃ tj:Nat,o.tie=tj:=⟨o.tie.toNat,by omega⟩
    obtain ⟨q,hq⟩:∃ r,o.uses[tj]?=some r:=⟨_,lE (by omega)⟩
    obtain ⟨ub,uoff,ucap,eu,_,_,_,g0,g1⟩:=OprsIn.at HU.out hq
    cases eu
    rw [htj] at ht1 ht2 ht0 m4 RES ⊢
    rw [Int.toNat_natCast,hq] at RES
    dsimp only at RES
    have htz:¬ (tj:Int)<0:=by omega
    refine' tk 0 hS ?_ ?_;rotate_left;·intros;go_simp;try rfl
    refine' tk 1 hS ?_ ?_;rotate_left;·intro w hSw;have p4:=xc hSw m4;go_simp;try rfl
    refine' tk 2 hS ?_ ?_;rotate_left;·intros;go_simp;try rfl
    try simp only [tD]
    refine' tk 3 hS ?_ ?_;rotate_left;·intros;go_simp;try rfl
    refine' tk 4 hS ?_ ?_;rotate_left;·intros;go_simp;try rfl
    refine' tk 5 hS ?_ ?_;rotate_left;·intro w hSw;have p1:=xc hSw m1;have p2:=xc hSw m2;go_simp;try rfl
    try simp only [tD]
    refine' tk 6 hS ?_ ?_;rotate_left;·intros;go_simp;try rfl
    refine' tk 7 hS ?_ ?_;rotate_left;·intro w hSw;have p3:=xc hSw m3;go_simp;try rfl
    refine' tk 8 hS ?_ ?_;rotate_left;·intros;go_simp;try rfl
    try simp only [tD]
    refine' tk 9 hS ?_ ?_;rotate_left;·intro w hSw;have p4:=xc hSw m4;go_simp;try rfl
    refine' tk 10 hS ?_ ?_;rotate_left;·intros;go_simp;try rfl
    refine' tk 11 hS ?_ ?_;rotate_left;·intro w hSw;have p5:=xc hSw g0;have p6:=xc hSw g1;go_simp;try rfl
    try simp only [tD]
    generalize wr.drew=W9 at hS ⊢
    refine wpAnyM_take (v:=.bool (oprEq o.dfn q)) 12 rfl (by kernel_rfl) (fun _ _ _ h=>h) hS rfl ?_ ?_
    ·intro w hSw
     go_simp
     rw [oprEq,← str_beq,← str_beq,BEq.comm (a:=q.cls.toList),BEq.comm (a:=q.fix.toList)]
     by_cases h1:o.dfn.cls.toList=q.cls.toList <;> by_cases h2:o.dfn.fix.toList=q.fix.toList <;> simp [h1,h2]
    try simp only [tD]
    cases hoe:oprEq o.dfn q with
    | false =>
     rw [if_neg (fun h=>h.elim htz (fun h=>by rw [hoe] at h;cases h))] at RES
     refine' tk 13 hS ?_ ?_;rotate_left;·intros;go_simp;try rfl
     try simp only [tD]
     refine rl 14 fun K hK=>?_
     go_simp
     with_reducible refine (needM_no _ _).mono ?_
     rintro e w' ⟨he,rfl⟩
     unfold stopM at he
     subst he
     exact ⟨rfl,by rw [RES.out];rfl,X1.out.trans hS⟩
    | true =>
     rw [if_pos (Or.inr hoe)] at RES
     dsimp only at RES
     refine' tk 13 hS ?_ ?_;rotate_left;·intros;go_simp;try rfl
     try simp only [tD]
     refine rl 14 fun K hK=>?_
     go_simp
     with_reducible refine (needM_ok _ _).mono ?_
     rintro e w' ⟨rfl,rfl⟩
     refine hK.out _ _ ?_
     try simp only [tD]
     refine wpAnyM_done (by kernel_rfl) ?_ _
     refine hK1.out _ _ ?_
     have HU:=qh (Tab.same HU.out (fun k hk=>Below.block hS k (Nat.lt_of_lt_of_le hk CK.out.le)))
     have HZ:=qh (Tab.same HZ.out (fun k hk=>Below.block hS k (Nat.lt_of_lt_of_le hk CK.out.le)))
     have CK:=qh (CK.out.ext hS)
     have X1:=qh (X1.out.trans hS)
     have m0:=xc hS m0
     have m1:=xc hS m1
     have m2:=xc hS m2
     have m3:=xc hS m3
     have m4:=xc hS m4
     have m5:=xc hS m5
     clear hS hK K hK1
     unfold clobS at RES
     by_cases hcl:o.clob.length≤64
     case neg =>
      have hd:decide ((o.clob.length:Int)≤64)=false:=by simp;omega
      rw [if_neg hcl] at RES
      clear hcl
      go_wp2_with (go_at_call 123;with_reducible refine (needM_no _ _).mono ?_;rintro e w' ⟨he,rfl⟩;unfold stopM at he;subst he)
      exact ⟨rfl,by rw [RES.out];rfl,X1.out⟩
     rw [if_pos hcl] at RES
     have hclz:(o.clob.length:Int)≤64:=by omega
     have start:Hid (Ext W9 W9∧res=goS (clobOK N o) 0 (o.clob.drop 0)):=qh ⟨Ext.refl _,RES.out⟩
     clear RES
     go_wp2_with (go_at_call 123;with_reducible refine (needM_ok _ _).mono ?_;rintro e w' ⟨rfl,rfl⟩)
     go_loopw [100] (fun i wr=>∃ n:Nat,n≤o.clob.length∧i=.int .i64 n∧Hid (Ext W9 wr∧res=goS (clobOK N o) n (o.clob.drop n))) (fun i _=>o.clob.length - (intOf i).toNat)
     case atStart=>exact ⟨0,by omega,rfl,start⟩
     case round =>
      clear start
      obtain ⟨n,hn,rfl,hin⟩:=hrel
      have RES:=qh hin.out.2
      have XI:=qh hin.out.1
      have HU:=qh (Tab.same HU.out (fun k hk=>Below.block hin.out.1 k (Nat.lt_of_lt_of_le hk CK.out.le)))
      have HZ:=qh (Tab.same HZ.out (fun k hk=>Below.block hin.out.1 k (Nat.lt_of_lt_of_le hk CK.out.le)))
      have CK:=qh (CK.out.ext hin.out.1)
      have X1:=qh (X1.out.trans hin.out.1)
      have m0:=xc hin.out.1 m0
      have m1:=xc hin.out.1 m1
      have m2:=xc hin.out.1 m2
      have m3:=xc hin.out.1 m3
      have m4:=xc hin.out.1 m4
      have m5:=xc hin.out.1 m5
      clear hin
      by_cases hnl:n<o.clob.length
      ·have hnz:(n:Int)<(o.clob.length:Int):=by omega
       obtain ⟨r,hr⟩:∃ r,o.clob[n]?=some r:=⟨_,lE hnl⟩
       obtain ⟨zb,zoff,zcap,ez,_,_,_,g0⟩:=StrsIn.at HZ.out hr
       cases ez
       rw [goS_at hr,clobOK] at RES
       clear hr
       have hreg:=qh (regM_any CK.out r 9)
       have hidx:=qh (index_any _ o.clob r _ (StrsIn.slice HZ.out))
       cases hrg:regS N r 9
       case error x =>
        rw [hrg] at RES hreg
        clear hrg
        go_wp2_with (go_at_call 127;refine hreg.out.mono ?_;rintro e w' ⟨he,rfl⟩;unfold endOf stopM at he;subst he)
        exact ⟨rfl,by rw [RES.out];rfl,X1.out⟩
       rename_i p
       rw [hrg] at RES hreg
       dsimp only at RES
       clear hrg
       by_cases hix:idx o.clob r=(n:Int)
       case neg =>
        have hd:(idx o.clob r == (n:Int))=false:=by simpa using hix
        rw [if_neg hix] at RES
        clear hix
        go_wp2_with (first
         | (go_at_call 127;refine hreg.out.mono ?_;rintro e w' ⟨he,rfl⟩;unfold endOf at he;subst he)
         | (go_at_call 128;refine hidx.out.mono ?_;rintro e w' ⟨rfl,rfl⟩)
         | (go_at_call 123;with_reducible refine (needM_no _ _).mono ?_;rintro e w' ⟨he,rfl⟩;unfold stopM at he;subst he))
        exact ⟨rfl,by rw [RES.out];rfl,X1.out⟩
       rw [if_pos hix] at RES
       have hd:(idx o.clob r == (n:Int))=true:=by simpa using hix
       clear hix
       go_wp2_with (first
        | (go_at_call 127;refine hreg.out.mono ?_;rintro e w' ⟨he,rfl⟩;unfold endOf at he;subst he)
        | (go_at_call 128;refine hidx.out.mono ?_;rintro e w' ⟨rfl,rfl⟩)
        | (go_at_call 123;with_reducible refine (needM_ok _ _).mono ?_;rintro e w' ⟨rfl,rfl⟩))
       go_roundw
       case rel=>exact ⟨n+1,by omega,by go_num,qh ⟨XI.out,RES.out⟩⟩
       case measure=>simp [intOf];omega
      ·have hnz:¬ (n:Int)<(o.clob.length:Int):=by omega
       obtain rfl:n=o.clob.length:=by omega
       rw [goS_end] at RES
       go_wp2
       go_end0
       exact ⟨by rw [RES.out];rfl,X1.out⟩
end Go.Proofs.YtligiddaampneaaGreat
end
