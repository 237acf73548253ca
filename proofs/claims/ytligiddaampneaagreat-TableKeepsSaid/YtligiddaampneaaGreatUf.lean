/- What a table tells of registers. -/
import Derived.Test.YtligiddaampneaaGreatUa
set_option maxRecDepth 100000
set_option maxHeartbeats 4000000
namespace Go.Proofs.YtligiddaampneaaGreat
open Go.RowKit
attribute [local go_sem] Oper.semAt_some
theorem within_tight {a b:Pl} (ha:a.tight) (hb:b.tight):withinS a b=(decide (a.root=b.root) && (decide (b.beg≤a.beg) && decide (a.beg+a.width≤b.beg+b.width))):=by
 obtain ⟨_,a1,a2,a3⟩:=ha
 obtain ⟨_,b1,b2,b3⟩:=hb
 unfold withinS
 rw [Bool.eq_iff_iff]
 simp only [Bool.and_eq_true,Bool.or_eq_true,decide_eq_true_eq]
 omega
theorem withinR_any (a b:Pl) (w:World) (ha:a.tight) (hb:b.tight) :
  Calls Tryz.prog 93 #[.agg a.cells.toArray,.agg b.cells.toArray] w fun e w'=>e=.returned (.bool (withinS a b))∧Ext w w':=by
 rw [within_tight ha hb]
 obtain ⟨ar,aa,aw⟩:=a
 obtain ⟨br,ba,bw⟩:=b
 obtain ⟨_,a1,a2,a3⟩:=ha
 obtain ⟨_,b1,b2,b3⟩:=hb
 simp only [Pl.cells] at *
 have e1:IntKind.i64.wrap (ba+bw)=ba+bw:=IntWalk.i64_in _ (by omega)
 have e2:IntKind.i64.wrap (aa+aw)=aa+aw:=IntWalk.i64_in _ (by omega)
 have p1:¬ aw<(1:Int):=by omega
 by_cases h1:ar=br
 ·have t1:(ar == br)=true:=by simp [h1]
  rw [decide_eq_true h1,Bool.true_and]
  clear h1
  by_cases h2:ba≤aa
  ·rw [decide_eq_true h2,Bool.true_and]
   cases h3:decide (aa+aw≤ba+bw)
   all_goals
    go_enter Tryz.func93,Tryz.ntmps93
    go_wp2
    go_ret
    exact ⟨rfl,below2 _ _ _⟩
  ·have h3:=decide_eq_false h2
   rw [h3,Bool.false_and]
   go_enter Tryz.func93,Tryz.ntmps93
   go_wp2
   go_ret
   exact ⟨rfl,below2 _ _ _⟩
 ·have t1:(ar == br)=false:=by simp [h1]
  rw [decide_eq_false h1,Bool.false_and]
  clear h1
  go_enter Tryz.func93,Tryz.ntmps93
  go_wp2
  go_ret
  exact ⟨rfl,below2 _ _ _⟩
theorem Taken.named {M:Mach} {N:List ByteArray} {L:List Pl} (T:Taken M N L):∀ s∈N,s≠⟨#[]⟩:=by
 obtain ⟨σ,hp,rfl,_⟩:=T.pl
 refine downS_ind (R:=fun a b=>(∀ s∈a.names,s≠⟨#[]⟩)→∀ s∈b.names,s≠⟨#[]⟩) (fun _ h=>h) (fun _ _ _ h k x=>k (h x)) (fun σ σ' name w beg d h hs s hm=>?_) 7 1 M.regs wk0 σ hp (by simp [wk0])
 have hn:namedS name=true:=by
  unfold oneS at h
  by_cases h1:6<d
  ·rw [if_pos h1] at h;cases h
  rw [if_neg h1] at h
  by_cases h2:200≤σ.names.length
  ·rw [if_pos h2] at h;cases h
  rw [if_neg h2] at h
  by_cases h3:(namedS name && !(memB name σ.names))=false
  ·rw [if_pos h3] at h;cases h
  cases e:namedS name with
  | true=>rfl
  | false=>rw [e] at h3;simp at h3
 obtain ⟨_,_,_,p,roots,_,_,rfl⟩:=oneS_took h
 rcases List.mem_append.1 (show s∈σ.names ++ [name] from hm) with h4 | h4
 ·exact hs s h4
 ·rw [List.mem_singleton.1 h4]
  rintro rfl
  revert hn
  decide
section
variable {W : World} {bt : Nat} {V : TV} {M : Mach} {N : List ByteArray} {L : List Pl}
def nameV (N:List ByteArray) (r:Int):ByteArray:=if 0≤r then N[r.toNat]?.getD ⟨#[]⟩ else ⟨#[]⟩
def placeV (L:List Pl) (r:Int):Pl:=if 0≤r then L[r.toNat]?.getD ⟨0,0,0⟩ else ⟨0,0,0⟩
def survV (L:List Pl) (S:List Int) (r:Int):Bool:=decide (0≤r∧r<(L.length:Int)) && survB L S r.toNat
theorem troots_any (h:TblIn W bt V M N L):Calls Tryz.prog 60 #[.pointer (some ⟨bt,0,none⟩)] W fun e w'=>e=.returned (.int .i64 (M.regs.length:Int))∧W=w':=by
 obtain ⟨a,c,e,_,_⟩:=h.m.regs.form
 have c1:=blk_cell h.blk 1 _ rfl
 rw [e] at c1
 clear h
 go_enter Tryz.func60,Tryz.ntmps60
 go_wp2_with fail
 go_ret
 exact ⟨rfl,rfl⟩
theorem treg_any (h:TblIn W bt V M N L) (s:ByteArray):Calls Tryz.prog 62 #[.pointer (some ⟨bt,0,none⟩),.string s] W fun e w'=>e=.returned (.tuple #[.int .i64 (if 0≤idx N s then idx N s else 0),.bool (decide (0≤idx N s))])∧W=w':=by
 have c10:=blk_cell h.blk 10 _ rfl
 by_cases hs:0≤idx N s
 ·have hlk:=h.regs.look (s:=s) hs true
  rw [if_pos rfl] at hlk
  rw [if_pos hs,decide_eq_true hs]
  clear h
  go_enter Tryz.func62,Tryz.ntmps62
  go_wp2_with fail
  refine bodyPost_ret (v:=.tuple #[.int .i64 (idx N s),.bool true]) (by simp [results,Tryz.results62,go_sem]) rfl ?_
  exact ⟨rfl,rfl⟩
 ·have hlk:=h.regs.look_not (s:=s) hs
  rw [if_neg hs,decide_eq_false hs]
  clear h
  go_enter Tryz.func62,Tryz.ntmps62
  go_wp2_with fail
  refine bodyPost_ret (v:=.tuple #[.int .i64 0,.bool false]) (by simp [results,Tryz.results62,go_sem]) rfl ?_
  exact ⟨rfl,rfl⟩
theorem tname_any (h:TblIn W bt V M N L) (r:Int):Calls Tryz.prog 63 #[.pointer (some ⟨bt,0,none⟩),.int .i64 r] W fun e w'=>e=.returned (.string (nameV N r))∧W=w':=by
 obtain ⟨a,c,e,_,_⟩:=(Row.of_owns h.nm).shape
 have c8:=blk_cell h.blk 8 _ rfl
 rw [e] at c8
 have hat:=qh (atStr_any W a N.length c r)
 by_cases ha:0≤r∧r<(N.length:Int)
 ·rw [decide_eq_true ha] at hat
  obtain ⟨k,rfl⟩:∃ k:Nat,r=k:=⟨r.toNat,by omega⟩
  obtain ⟨s,hs⟩:∃ s,N[k]?=some s:=⟨_,lE (by omega)⟩
  obtain ⟨g,c2,e2,_,_⟩:=h.nm.form (by omega)
  rw [e] at e2
  cases e2
  have cs:W.cell? ⟨g,k,none⟩=some (.string s):=by
   have:=h.nm
   rw [e] at this
   rw [this.cellAt k (by omega),List.getElem?_map,hs];rfl
  have HV:Hid (nameV N (k:Int)=s):=qh (by unfold nameV;rw [if_pos ha.1,Int.toNat_natCast,hs];rfl)
  have hkz:(k:Int)<(N.length:Int):=ha.2
  rw [HV.out]
  clear h hs e
  go_enter Tryz.func63,Tryz.ntmps63
  go_wp2_with (go_at_call 91;refine hat.out.mono ?_;rintro e w' ⟨rfl,rfl⟩)
  go_ret
  exact ⟨rfl,rfl⟩
 ·rw [decide_eq_false ha] at hat
  have HV:Hid (nameV N r=⟨#[]⟩):=qh (by
   unfold nameV
   split
   ·rw [List.getElem?_eq_none (by omega)];rfl
   ·rfl)
  rw [HV.out]
  clear h e
  go_enter Tryz.func63,Tryz.ntmps63
  go_wp2_with (go_at_call 91;refine hat.out.mono ?_;rintro e w' ⟨rfl,rfl⟩)
  go_ret
  exact ⟨rfl,rfl⟩
theorem tplace_any (h:TblIn W bt V M N L) (r:Int):Calls Tryz.prog 64 #[.pointer (some ⟨bt,0,none⟩),.int .i64 r] W fun e w'=>e=.returned (.agg (placeV L r).cells.toArray)∧Ext W w':=by
 have hP:=PlsIn.of_owns h.pl rfl
 obtain ⟨a,c,e,_,_⟩:=hP.form
 have c9:=blk_cell h.blk 9 _ rfl
 rw [e] at c9
 have hat:=qh (fun w=>atPl_any w a L.length c r)
 have x1:Ext W (W.alloc (.cells #[.int .i64 0,.int .i64 0,.int .i64 0] 88)):=Ext.alloc _ _
 have hcc:=cells_one W [.int .i64 0,.int .i64 0,.int .i64 0] 88
 have s0:=hcc 0 _ rfl
 have s1:=hcc 1 _ rfl
 have s2:=hcc 2 _ rfl
 by_cases ha:0≤r∧r<(L.length:Int)
 ·rw [decide_eq_true ha] at hat
  obtain ⟨k,rfl⟩:∃ k:Nat,r=k:=⟨r.toNat,by omega⟩
  obtain ⟨p,hp⟩:∃ s,L[k]?=some s:=⟨_,lE (by omega)⟩
  obtain ⟨b,off,cap,e2,_,_,_,r0,r1,r2⟩:=hP.at hp
  rw [e] at e2
  cases e2
  have HV:Hid (placeV L (k:Int)=p):=qh (by unfold placeV;rw [if_pos ha.1,Int.toNat_natCast,hp];rfl)
  have hkz:(k:Int)<(L.length:Int):=ha.2
  rw [HV.out]
  obtain ⟨pr,pb,pw⟩:=p
  simp only [Pl.cells] at *
  have c9:=xc x1 c9
  have r0:=xc x1 r0
  have r1:=xc x1 r1
  have r2:=xc x1 r2
  clear h hP hp e hcc
  go_enter Tryz.func64,Tryz.ntmps64
  go_wp2_with (go_at_call 92;refine (hat.out _).mono ?_;rintro e w' ⟨rfl,rfl⟩)
  refine bodyPost_ret (results_cell_row rfl _ _ W.heap.size 88 #[.int .i64 pr,.int .i64 pb,.int .i64 pw] (0,0) _ rfl (heap_alloc_new W _) Tryz.underlying88 rfl (by kernel_rfl)) rfl ?_
  exact ⟨rfl,Ext.alloc _ _⟩
 ·rw [decide_eq_false ha] at hat
  have HV:Hid (placeV L r=⟨0,0,0⟩):=qh (by
   unfold placeV
   split
   ·rw [List.getElem?_eq_none (by omega)];rfl
   ·rfl)
  rw [HV.out]
  have c9:=xc x1 c9
  clear h e hP hcc
  go_enter Tryz.func64,Tryz.ntmps64
  go_wp2_with (go_at_call 92;refine (hat.out _).mono ?_;rintro e w' ⟨rfl,rfl⟩)
  refine bodyPost_ret (results_cell_row rfl _ _ W.heap.size 88 #[.int .i64 0,.int .i64 0,.int .i64 0] (0,0) _ rfl (heap_alloc_new W _) Tryz.underlying88 rfl (by kernel_rfl)) rfl ?_
  exact ⟨rfl,Ext.alloc _ _⟩
theorem tsurv_any (h:TblIn W bt V M N L) (hl:L.length≤200) (r:Int) (hr:fits64 r):Calls Tryz.prog 65 #[.pointer (some ⟨bt,0,none⟩),.int .i64 r] W fun e w'=>e=.returned (.bool (survV L (M.saved.map (idx N)) r))∧Ext W w':=by
 have hset:=h.keeps
 have c20:=blk_cell h.blk 20 _ rfl
 have hhas:=has_set hset r hr
 have HV:(decide (0≤r) && inL (rowOf (survB L (M.saved.map (idx N))) L.length) r.toNat)=survV L (M.saved.map (idx N)) r:=by
  unfold survV inL
  by_cases h0:0≤r
  ·obtain ⟨k,rfl⟩:∃ k:Nat,r=k:=⟨r.toNat,by omega⟩
   rw [decide_eq_true h0,Bool.true_and,Int.toNat_natCast,Bool.eq_iff_iff]
   simp only [Bool.and_eq_true,decide_eq_true_eq]
   rw [rowOf_mem]
   constructor
   ·intro hh;exact ⟨⟨by omega,by omega⟩,hh.2.2⟩
   ·intro hh;exact ⟨by omega,by omega,hh.2⟩
  ·rw [decide_eq_false h0,decide_eq_false (fun hh:0≤r∧r<(L.length:Int)=>h0 hh.1),Bool.false_and,Bool.false_and]
 rw [HV] at hhas
 have HH:=qh hhas
 obtain ⟨a2,n2,c2,e⟩:=hset.form
 rw [e] at c20 HH
 generalize survV L (M.saved.map (idx N)) r=res at HH ⊢
 clear h hset hhas HV e
 go_enter Tryz.func65,Tryz.ntmps65
 go_wp2_with (go_at_call 50;refine HH.out.mono ?_;rintro e w2 ⟨rfl,hx2⟩)
 go_ret
 exact ⟨rfl,hx2⟩
end
theorem savedU_any {W:World} {n1 bt:Nat} {V:MV} {vK:Value} {M:Mach} {N:List ByteArray} {L:List Pl} {C:List (List Int)} (h:TabIn W n1 bt V vK M N L C) (hl:M.saved.length≤1000):Calls Tryz.prog 18 #[.pointer (some ⟨bt,0,none⟩)] W fun e w'=>∃ u,e=.returned u∧w'.ownsRow W.heap.size 3 1 u (listS N M.saved).length ((listS N M.saved).map (Value.int .i64))∧Ext W w':=by
 have c6:=h.ck.cells 6 _ rfl
 have hr:=qh (listT_any h h.ck.m.saved hl)
 obtain ⟨a,cap,ev,_,_⟩:=h.ck.m.saved.form
 rw [ev] at c6 hr
 clear h
 go_enter Tryz.func18,Tryz.ntmps18
 go_wp2_with (go_at_call 53;refine hr.out.mono ?_;rintro e w' ⟨u,rfl,ho,hx⟩)
 go_ret
 exact ⟨u,rfl,ho,hx⟩
section
variable {W : World} {n1 bt : Nat} {V : MV} {vK : Value} {M : Mach} {N : List ByteArray} {L : List Pl} {C : List (List Int)}
theorem rootsR_any (h:TabIn W n1 bt V vK M N L C):Calls Tryz.prog 61 #[.pointer (some ⟨bt,0,none⟩)] W fun e w'=>e=.returned (.int .i64 (M.regs.length:Int))∧W=w':=by
 have c1:=h.ck.cells 1 _ rfl
 obtain ⟨a,cap,ev,_,_⟩:=h.ck.m.regs.form
 rw [ev] at c1
 clear h
 go_enter Tryz.func61,Tryz.ntmps61
 go_wp2_with fail
 go_ret
 exact ⟨rfl,rfl⟩
theorem survR_any (h:TabIn W n1 bt V vK M N L C) (T:Taken M N L) (r:Int) :
  Calls Tryz.prog 66 #[.pointer (some ⟨bt,0,none⟩),.int .i64 r] W fun e w'=>e=.returned (.bool (survV L (M.saved.map (idx N)) r))∧Ext W w':=by
 have c9:=h.cells.2
 obtain ⟨aP,cP,ev,hl1,hl2⟩:=h.ck.pl.form
 rw [ev] at c9
 unfold maxLen at hl2
 by_cases ha:0≤r∧r<(L.length:Int)
 ·obtain ⟨k,rfl⟩:∃ k:Nat,r=k:=⟨r.toNat,by omega⟩
  have hkz:(k:Int)<(L.length:Int):=ha.2
  have hky:¬ (L.length:Int)≤(k:Int):=by omega
  have hk0:¬ (k:Int)<0:=by omega
  obtain ⟨p,hp⟩:∃ s,L[k]?=some s:=⟨_,lE (by omega)⟩
  have hsv:=savedU_any h T.small.saved
  rw [listS_all T.known.saved] at hsv
  have HV:survV L (M.saved.map (idx N)) (k:Int)=(M.saved.map (idx N)).any fun s=>withinS p (plAt L s):=by
   unfold survV survB
   rw [decide_eq_true ha,Bool.true_and,Int.toNat_natCast,List.getD_eq_getElem?_getD,hp]
   rfl
  rw [HV]
  have HB:Hid (∀ n∈M.saved.map (idx N),0≤n∧n<(L.length:Int)):=qh (fun n hn=>by
   obtain ⟨s,hs,rfl⟩:=List.mem_map.1 hn
   exact idx_in T.len (T.known.saved s hs))
  have HT:=qh h
  have HSV:=qh hsv
  have hpt:=HT.out.tight p (List.mem_of_getElem? hp)
  have HPT:=qh hpt
  obtain ⟨b1,o1,k1,e1,_,_,_,s0,s1,s2⟩:=HT.out.ck.pl.at hp
  rw [ev] at e1
  cases e1
  generalize M.saved.map (idx N)=S at HSV HB ⊢
  obtain ⟨res,hres⟩:∃ x,(S.any fun s=>withinS p (plAt L s))=x:=⟨_,rfl⟩
  rw [hres]
  have RES:=qh hres
  clear h hsv hpt HV hres T hp ha
  go_enter Tryz.func66,Tryz.ntmps66
  go_upto_region 4 with (go_at_call 18;refine HSV.out.mono ?_;rintro e w1 ⟨u,rfl,hown,hx⟩)
  have hsl:SliceInts w1 u S:=Row.of_owns hown
  obtain ⟨aD,cD,eu,hc1,hc2⟩:=hsl.shape
  subst eu
  unfold maxLen at hc2
  have HSL:=qh hsl
  have X1:=qh hx
  have c9:=hx.cell c9
  have s0:=hx.cell s0
  have s1:=hx.cell s1
  have s2:=hx.cell s2
  clear hown hx hsl HSV
  go_wp2_with fail
  go_loopw [6] (fun i wr=>∃ m:Nat,m≤S.length∧i=.int .i64 m∧Hid (Ext w1 wr∧∀ j n,j<m→S[j]?=some n→withinS p (plAt L n)=false)) (fun i _=>S.length - (intOf i).toNat)
  case atStart=>exact ⟨0,by omega,rfl,qh ⟨Ext.refl _,fun j n hj=>by omega⟩⟩
  case round =>
   obtain ⟨m,hm,rfl,hin⟩:=hrel
   rename World=>w2
   by_cases hlt:m<S.length
   ·have hmz:(m:Int)<(S.length:Int):=by omega
    obtain ⟨n,hn⟩:∃ x,S[m]?=some x:=⟨_,lE hlt⟩
    obtain ⟨b,off,cap,e,_,_,_,hcell⟩:=Row.at (HSL.out.below hin.out.1) (fun e=>by rw [List.map_eq_nil_iff] at e;rw [e] at hlt;simp at hlt)
    cases e
    have c0:=hcell m (.int .i64 n) (by simp [hn])
    have hnb:=HB.out n (List.mem_of_getElem? hn)
    obtain ⟨kn,rfl⟩:∃ k:Nat,n=k:=⟨n.toNat,by omega⟩
    have hknz:(kn:Int)<(L.length:Int):=hnb.2
    obtain ⟨q,hq⟩:∃ s,L[kn]?=some s:=⟨_,lE (by omega)⟩
    have hpl:plAt L (kn:Int)=q:=by rw [plAt_some (by omega)];rw [lE (by omega)] at hq;exact Option.some.inj hq
    have hcall:=qh (fun (w:World)=>withinR_any p q w HPT.out (HT.out.tight q (List.mem_of_getElem? hq)))
    have HNN:=qh (And.intro hn hpl)
    obtain ⟨_,_,_,e2,_,_,_,u0,u1,u2⟩:=(HT.out.ext (X1.out.trans hin.out.1)).ck.pl.at hq
    rw [ev] at e2
    cases e2
    obtain ⟨bb,hbb⟩:∃ y,withinS p q=y:=⟨_,rfl⟩
    rw [hbb] at hcall
    have HBB:=qh hbb
    have c9:=hin.out.1.cell c9
    have s0:=hin.out.1.cell s0
    have s1:=hin.out.1.cell s1
    have s2:=hin.out.1.cell s2
    clear hbb hn hcell hq hpl
    go_upto_region 7 with (fail)
    rename_i K1 hK1
    have hK1:=qh hK1
    refine wp_region_M (fun w'=>Ext w2 w') 17 (by kernel_rfl) (Ext.drew _) (fun hS=>?_)
    refine' tk 0 hS ?_ ?_;rotate_left;·intros;go_simp;try rfl
    refine' tk 1 hS ?_ ?_;rotate_left;·intros;go_simp;try rfl
    refine' tk 2 hS ?_ ?_;rotate_left;·intros;go_simp;try rfl
    try simp only [tD]
    refine' tk 3 hS ?_ ?_;rotate_left;·intro w hSw;have a9:=xc hSw c9;go_simp;try rfl
    refine' tk 4 hS ?_ ?_;rotate_left;·intros;go_simp;try rfl
    refine' tk 5 hS ?_ ?_;rotate_left;·intros;go_simp;try rfl
    try simp only [tD]
    refine' tk 6 hS ?_ ?_;rotate_left;·intro w hSw;have t0:=xc hSw s0;have t1:=xc hSw s1;have t2:=xc hSw s2;go_simp;try rfl
    refine' tk 7 hS ?_ ?_;rotate_left;·intros;go_simp;try rfl
    refine' tk 8 hS ?_ ?_;rotate_left;·intros;go_simp;try rfl
    try simp only [tD]
    refine' tk 9 hS ?_ ?_;rotate_left;·intros;go_simp;try rfl
    refine' tk 10 hS ?_ ?_;rotate_left;·intro w hSw;have a9:=xc hSw c9;go_simp;try rfl
    refine' tk 11 hS ?_ ?_;rotate_left;·intros;go_simp;try rfl
    try simp only [tD]
    refine' tk 12 hS ?_ ?_;rotate_left;·intros;go_simp;try rfl
    refine' tk 13 hS ?_ ?_;rotate_left;·intros;go_simp;try rfl
    refine' tk 14 hS ?_ ?_;rotate_left;·intro w hSw;have t6:=xc hSw c0;go_simp;try rfl
    try simp only [tD]
    refine' tk 15 hS ?_ ?_;rotate_left;·intros;go_simp;try rfl
    refine' tk 16 hS ?_ ?_;rotate_left;·intro w hSw;have t3:=xc hSw u0;have t4:=xc hSw u1;have t5:=xc hSw u2;go_simp;try rfl
    try simp only [tD]
    generalize w2.drew=w3 at hS ⊢
    refine rl 17 fun K hK=>?_
    go_simp
    refine ((hcall.out w3)).mono ?_
    rintro e w4 ⟨rfl,x4⟩
    have hS0:=hS
    have hS:=Ext.trans hS x4
    refine hK.out _ _ ?_
    try simp only [tD]
    clear hK K
    refine' tw 18 ?_ ?_;rotate_left;·intros;go_simp;try rfl
    try simp only [tD]
    refine wpAnyM_done (by kernel_rfl) ?_ _
    refine hK1.out _ _ ?_
    have HS9:=qh hS
    clear hS hS0
    cases bb with
    | true =>
     have hbad:Hid (res=true):=qh (by
      rw [← RES.out,List.any_eq_true]
      exact ⟨(kn:Int),List.mem_of_getElem? HNN.out.1,by rw [HNN.out.2];exact HBB.out⟩)
     go_wp2_with fail
     go_ret
     exact ⟨by rw [hbad.out];rfl,X1.out.trans (hin.out.1.trans HS9.out)⟩
    | false =>
     have hst:∀ j y,j<m+1→S[j]?=some y→withinS p (plAt L y)=false:=fun j y hj hy=>by
      by_cases e:j=m
      ·subst e;rw [HNN.out.1] at hy;cases hy;rw [HNN.out.2];exact HBB.out
      ·exact hin.out.2 j y (by omega) hy
     have HST:=qh hst
     clear hst
     go_wp2_with fail
     go_roundw
     case rel=>exact ⟨m+1,by omega,by go_num,qh ⟨hin.out.1.trans HS9.out,HST.out⟩⟩
     case measure=>simp [intOf];omega
   ·have hgood:Hid (res=false):=qh (by
     rw [← RES.out,List.any_eq_false]
     intro n hn
     obtain ⟨j,hj⟩:=List.getElem?_of_mem hn
     rw [hin.out.2 j n (by have:=(List.getElem?_eq_some_iff.1 hj).1;omega) hj]
     simp)
    have hmz:¬ (m:Int)<(S.length:Int):=by omega
    go_wp2_with fail
    go_ret
    exact ⟨by rw [hgood.out];rfl,X1.out.trans hin.out.1⟩
 ·have HV:Hid (survV L (M.saved.map (idx N)) r=false):=qh (by unfold survV;rw [decide_eq_false ha,Bool.false_and])
  rw [HV.out]
  by_cases h0:r<0
  ·clear h T HV
   go_enter Tryz.func66,Tryz.ntmps66
   go_wp2_with fail
   go_ret
   exact ⟨rfl,Ext.refl _⟩
  ·have h1:(L.length:Int)≤r:=by omega
   clear h T HV
   go_enter Tryz.func66,Tryz.ntmps66
   go_wp2_with fail
   go_ret
   exact ⟨rfl,Ext.refl _⟩
end
end Go.Proofs.YtligiddaampneaaGreat
