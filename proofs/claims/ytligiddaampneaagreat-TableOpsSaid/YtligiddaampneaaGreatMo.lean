/- Several texts joined. No condition. -/
import Derived.Test.YtligiddaampneaaGreatMu
namespace Go.Proofs.YtligiddaampneaaGreat
open Go.RowKit
attribute [local go_sem] Oper.semAt_some
theorem NumIn.look_not {W:World} {r:Nat} {l:List ByteArray} (h:NumIn W r l) {s:ByteArray} (hs:¬ 0≤idx l s) :
  (Instr.lookup 80 (.map (some r)) (.string s) true).run Tryz.prog W=.ok (.tuple #[.int .i64 0,.bool false]) W:=by
 have e:=entry_num l 0 s
 rw [if_neg hs] at e
 exact run_lookup_not 80 9 3 Tryz.underlying80 Tryz.underlying9 true h (numFrom_keys _ _) e (by kernel_rfl)
theorem ints_oneC (l:List Int):∀ u∈l.map (Value.int .i64),u.oneCell'=true:=fun u hu=>by
 obtain ⟨n,_,rfl⟩:=List.mem_map.1 hu;rfl
section
variable {W : World} {bt : Nat} {V : TV} {M : Mach} {N : List ByteArray} {L : List Pl}
theorem tclass_any (h:TblIn W bt V M N L) (s:ByteArray):Calls Tryz.prog 24 #[.pointer (some ⟨bt,0,none⟩),.string s] W fun e w'=>e=.returned (.tuple #[.int .i64 (if 0≤clsIx M s then clsIx M s else 0),.bool (decide (0≤clsIx M s))])∧W=w':=by
 have c11:=blk_cell h.blk 11 _ rfl
 by_cases hs:0≤clsIx M s
 ·have hlk:=h.cls.look (s:=s) (by rw [clsIx_idx];exact hs) true
  rw [if_pos rfl,clsIx_idx] at hlk
  rw [if_pos hs,decide_eq_true hs]
  clear h
  go_enter Tryz.func24,Tryz.ntmps24
  go_wp2_with fail
  refine bodyPost_ret (v:=.tuple #[.int .i64 (clsIx M s),.bool true]) (by simp [results,Tryz.results24,go_sem]) rfl ?_
  exact ⟨rfl,rfl⟩
 ·have hlk:=h.cls.look_not (s:=s) (by rw [clsIx_idx];exact hs)
  rw [if_neg hs,decide_eq_false hs]
  clear h
  go_enter Tryz.func24,Tryz.ntmps24
  go_wp2_with fail
  refine bodyPost_ret (v:=.tuple #[.int .i64 0,.bool false]) (by simp [results,Tryz.results24,go_sem]) rfl ?_
  exact ⟨rfl,rfl⟩
def ofL (C:List (List Int)) (c:Int):List Int:=if 0≤c then (match C[c.toNat]? with | some l=>l | none=>[]) else []
theorem numsC_len (N:List ByteArray) (l:List Cls):(numsC N l).length=l.length:=by unfold numsC;rw [List.length_map]
theorem nums_small (hs:SmallM M):∀ c∈numsC N M.classes,c.length≤1000:=fun c hc=>by
 unfold numsC at hc
 obtain ⟨x,hx,rfl⟩:=List.mem_map.1 hc
 rw [List.length_map]
 exact hs.cls x hx
theorem tof_any (h:TblIn W bt V M N L) (hs:SmallM M) (c:Int):Calls Tryz.prog 26 #[.pointer (some ⟨bt,0,none⟩),.int .i64 c] W fun e w'=>∃ v,e=.returned v∧w'.ownsRow W.heap.size 3 1 v (ofL (numsC N M.classes) c).length ((ofL (numsC N M.classes) c).map (Value.int .i64))∧Ext W w':=by
 obtain ⟨us,hk⟩:=h.of
 obtain ⟨aK,cK,eK,_,_⟩:=(Row.of_owns hk.own).shape
 have c14:=blk_cell h.blk 14 _ rfl
 rw [eK] at c14
 have HSM:=Lib.hid (nums_small (N:=N) hs)
 generalize numsC N M.classes=C at hk c14 eK HSM ⊢
 have hat:=Lib.hid (atInts_any W aK C.length cK c)
 by_cases ha:0≤c∧c<(C.length:Int)
 ·rw [decide_eq_true ha] at hat
  obtain ⟨k,rfl⟩:∃ k:Nat,c=k:=⟨c.toNat,by omega⟩
  have hkl:k<C.length:=by omega
  obtain ⟨l,hl⟩:∃ l,C[k]?=some l:=⟨_,List.getElem?_eq_getElem hkl⟩
  obtain ⟨u,hu⟩:∃ u,us[k]?=some u:=⟨_,List.getElem?_eq_getElem (by rw [hk.len];exact hkl)⟩
  have hrow:=hk.rows k l u hl hu
  obtain ⟨g,cg,e2,_,_⟩:=hk.own.form (by omega)
  rw [eK] at e2
  cases e2
  have cu:W.cell? ⟨g,k,none⟩=some u:=by
   have:=hk.own
   rw [eK] at this
   rw [this.cellAt k (by omega)];exact hu
  obtain ⟨a2,c2,e3,_,_⟩:=(Row.of_owns hrow).shape
  subst e3
  have hcl:=Lib.hid (cloneInt_any (Row.of_owns hrow) (ints_oneC _) (by have:=HSM.out l (List.mem_of_getElem? hl);omega))
  have HO:Hid (ofL C (k:Int)=l):=Lib.hid (by unfold ofL;rw [if_pos ha.1,Int.toNat_natCast,hl])
  have hkz:(k:Int)<(C.length:Int):=ha.2
  clear hk hrow hl hu h eK
  go_enter Tryz.func26,Tryz.ntmps26
  go_wp2_with (first
   | (go_at_call 58;refine hat.out.mono ?_;rintro e w' ⟨rfl,rfl⟩)
   | (go_at_call 52;refine hcl.out.mono ?_;rintro e w2 ⟨v,rfl,ho,hx⟩))
  go_ret
  exact ⟨v,rfl,by rw [HO.out];exact ho,hx⟩
 ·rw [decide_eq_false ha] at hat
  have HO:Hid (ofL C c=[]):=Lib.hid (by
   unfold ofL
   split
   ·rw [List.getElem?_eq_none (by omega)]
   ·rfl)
  clear hk h
  go_enter Tryz.func26,Tryz.ntmps26
  go_wp2_with (go_at_call 58;refine hat.out.mono ?_;rintro e w' ⟨rfl,rfl⟩)
  go_ret
  exact ⟨_,rfl,by rw [HO.out];exact World.ownsRow_nil _ _ _ _,Ext.refl _⟩
set_option maxRecDepth 100000 in
theorem inI_inL {C:List (List Int)} (hC:∀ c∈C,∀ n∈c,0≤n∧n<(L.length:Int)) (hl:L.length≤200) {k:Nat} (hk:k<C.length) (r:Int):(decide (0≤r) && inL (C.getD k []) r.toNat)=inI C (k:Int) r:=by
 unfold inI inL
 rw [if_pos (by omega),Int.toNat_natCast,List.getD_eq_getElem?_getD,List.getElem?_eq_getElem hk]
 dsimp only [Option.getD]
 by_cases hr:0≤r
 ·obtain ⟨m,rfl⟩:∃ m:Nat,r=m:=⟨r.toNat,by omega⟩
  rw [decide_eq_true hr,Bool.true_and,Int.toNat_natCast,Bool.eq_iff_iff,decide_eq_true_eq,decide_eq_true_eq]
  exact ⟨fun h=>h.2,fun h=>⟨by have:=hC _ (List.getElem_mem hk) _ h;omega,h⟩⟩
 ·rw [decide_eq_false hr,Bool.false_and]
  symm
  exact decide_eq_false (fun h=>by have:=hC _ (List.getElem_mem hk) _ h;omega)
theorem inI_out {C:List (List Int)} {c r:Int} (h:¬ (0≤c∧c<(C.length:Int))):inI C c r=false:=by
 unfold inI
 split
 ·rw [List.getElem?_eq_none (by omega)]
 ·rfl
set_option maxRecDepth 100000 in
theorem tin_any (h:TblIn W bt V M N L) (hC:∀ c∈numsC N M.classes,∀ n∈c,0≤n∧n<(L.length:Int)) (hl:L.length≤200) (c r:Int) (hr:fits64 r):Calls Tryz.prog 29 #[.pointer (some ⟨bt,0,none⟩),.int .i64 c,.int .i64 r] W fun e w'=>e=.returned (.bool (inI (numsC N M.classes) c r))∧Ext W w':=by
 obtain ⟨us,hu,hs⟩:=h.ins
 obtain ⟨aL,cL,eL,_,_⟩:=(Row.of_owns hs.own).shape
 have c15:=blk_cell h.blk 15 _ rfl
 rw [eL] at c15
 have hul:us.length=(numsC N M.classes).length:=by rw [numsC_len];exact hu
 generalize numsC N M.classes=C at hs hC hul ⊢
 rw [hul] at c15
 have hat:=Lib.hid (atSet_any W aL C.length cL c)
 by_cases ha:0≤c∧c<(C.length:Int)
 ·rw [decide_eq_true ha] at hat
  obtain ⟨k,rfl⟩:∃ k:Nat,c=k:=⟨c.toNat,by omega⟩
  have hk:k<us.length:=by omega
  obtain ⟨u,huk⟩:∃ u,us[k]?=some u:=⟨_,List.getElem?_eq_getElem hk⟩
  have hset:=hs.sets k u huk
  obtain ⟨g,cg,e2,_,_⟩:=hs.own.form (by omega)
  rw [eL] at e2
  cases e2
  have cu:W.cell? ⟨g,k,none⟩=some u:=by
   have:=hs.own
   rw [eL] at this
   rw [this.cellAt k (by omega)];exact huk
  obtain ⟨a2,n2,c2,rfl⟩:=hset.form
  have hset2:SetIn W (.slice a2 n2 c2) (inL (C.getD k [])):=hset
  have hhas0:=has_set hset2 r hr
  have hin:=inI_inL (C:=C) (L:=L) hC hl (k:=k) (by omega) r
  rw [hin] at hhas0
  have hhas:=Lib.hid hhas0
  clear hset2 hhas0 hin
  have hkz:(k:Int)<(C.length:Int):=ha.2
  clear hset hs huk h eL hul hu hk
  go_enter Tryz.func29,Tryz.ntmps29
  go_wp2_with (first
   | (go_at_call 49;refine hat.out.mono ?_;rintro e w' ⟨rfl,rfl⟩)
   | (go_at_call 50;refine hhas.out.mono ?_;rintro e w2 ⟨rfl,hx2⟩))
  go_ret
  exact ⟨rfl,hx2⟩
 ·rw [decide_eq_false ha] at hat
  rw [inI_out ha]
  clear hs h hul hu
  go_enter Tryz.func29,Tryz.ntmps29
  go_wp2_with (go_at_call 49;refine hat.out.mono ?_;rintro e w' ⟨rfl,rfl⟩)
  go_ret
  exact ⟨rfl,Ext.refl _⟩
set_option maxRecDepth 100000 in
set_option maxHeartbeats 4000000 in
theorem twidth_any (h:TblIn W bt V M N L) (hC:∀ c∈numsC N M.classes,∀ n∈c,0≤n∧n<(L.length:Int)) (hne:∀ c∈numsC N M.classes,c≠[]) (c:Int):Calls Tryz.prog 27 #[.pointer (some ⟨bt,0,none⟩),.int .i64 c] W fun e w'=>e=.returned (.int .i64 (widI L (numsC N M.classes) c))∧Ext W w':=by
 obtain ⟨us,hk⟩:=h.of
 obtain ⟨aK,cK,eK,_,_⟩:=(Row.of_owns hk.own).shape
 obtain ⟨aP,cP,eP,_,_⟩:=(Row.of_owns h.pl).shape
 have c14:=blk_cell h.blk 14 _ rfl
 have c9:=blk_cell h.blk 9 _ rfl
 rw [eK] at c14
 rw [eP] at c9
 have hpl:=h.pl
 rw [eP] at hpl
 generalize numsC N M.classes=C at hk c14 eK hC hne ⊢
 have hat:=Lib.hid (atInts_any W aK C.length cK c)
 by_cases ha:0≤c∧c<(C.length:Int)
 ·rw [decide_eq_true ha] at hat
  obtain ⟨k,rfl⟩:∃ k:Nat,c=k:=⟨c.toNat,by omega⟩
  have hkl:k<C.length:=by omega
  obtain ⟨l,hl⟩:∃ l,C[k]?=some l:=⟨_,List.getElem?_eq_getElem hkl⟩
  obtain ⟨u,hu⟩:∃ u,us[k]?=some u:=⟨_,List.getElem?_eq_getElem (by rw [hk.len];exact hkl)⟩
  have hrow:=hk.rows k l u hl hu
  obtain ⟨g,cg,e2,_,_⟩:=hk.own.form (by omega)
  rw [eK] at e2
  cases e2
  have cu:W.cell? ⟨g,k,none⟩=some u:=by
   have:=hk.own
   rw [eK] at this
   rw [this.cellAt k (by omega)];exact hu
  obtain ⟨n,l2,rfl⟩:∃ n l2,l=n :: l2:=by
   cases l with
   | nil=>exact absurd rfl (hne _ (List.mem_of_getElem? hl))
   | cons n l2=>exact ⟨n,l2,rfl⟩
  have hnb:=hC _ (List.mem_of_getElem? hl) n (by simp)
  obtain ⟨m,rfl⟩:∃ m:Nat,n=m:=⟨n.toNat,by omega⟩
  obtain ⟨p,hp⟩:∃ p,L[m]?=some p:=⟨_,List.getElem?_eq_getElem (by omega)⟩
  obtain ⟨b5,o5,k5,e5,_,_,_,p0,p1,p2⟩:=(PlsIn.of_owns hpl rfl).at hp
  cases e5
  obtain ⟨g2,c2,e3,_,_⟩:=hrow.form (by simp)
  subst e3
  have cn:W.cell? ⟨g2,0,none⟩=some (.int .i64 (m:Int)):=by rw [hrow.cellAt 0 (by simp)];rfl
  have HW:Hid (widI L C (k:Int)=p.width):=Lib.hid (by unfold widI;rw [if_pos ha.1,Int.toNat_natCast,hl];dsimp only;rw [Int.toNat_natCast,hp])
  have hkz:(k:Int)<(C.length:Int):=ha.2
  have hmz:(m:Int)<(L.length:Int):=hnb.2
  have hlz:(0:Int)<(l2.length:Int)+1:=by omega
  have hlz2:(0:Int)<(((m:Int) :: l2).length:Int):=by rw [List.length_cons];omega
  clear hk hrow hl hu h eK eP hpl hp hnb
  rw [HW.out]
  go_enter Tryz.func27,Tryz.ntmps27
  go_upto_region 3 with (go_at_call 58;refine hat.out.mono ?_;rintro e w' ⟨rfl,rfl⟩)
  go_quiet (fail)
  have xq:=Ext.drewN W nq
  go_wp2_with fail
  go_ret
  exact ⟨rfl,xq⟩
 ·rw [decide_eq_false ha] at hat
  have HW:Hid (widI L C c=0):=Lib.hid (by
   unfold widI
   split
   ·rw [List.getElem?_eq_none (by omega)]
   ·rfl)
  rw [HW.out]
  clear hk h
  go_enter Tryz.func27,Tryz.ntmps27
  go_wp2_with (go_at_call 58;refine hat.out.mono ?_;rintro e w' ⟨rfl,rfl⟩)
  go_ret
  exact ⟨rfl,Ext.refl _⟩
end
end Go.Proofs.YtligiddaampneaaGreat
namespace Go.Proofs.YtligiddaampneaaGreat
open Go.RowKit
attribute [local go_sem] Oper.semAt_some
section
variable {W : World} {bt : Nat} {V : TV} {M : Mach} {N : List ByteArray} {L : List Pl}
theorem topn_any (h:TblIn W bt V M N L) (s:ByteArray):Calls Tryz.prog 32 #[.pointer (some ⟨bt,0,none⟩),.string s] W fun e w'=>e=.returned (.tuple #[.int .i64 (if 0≤opIxT M s then opIxT M s else 0),.bool (decide (0≤opIxT M s))])∧W=w':=by
 have c12:=blk_cell h.blk 12 _ rfl
 by_cases hs:0≤opIxT M s
 ·have hlk:=h.ops.look (s:=s) (by rw [opIx_idx];exact hs) true
  rw [if_pos rfl,opIx_idx] at hlk
  rw [if_pos hs,decide_eq_true hs]
  clear h
  go_enter Tryz.func32,Tryz.ntmps32
  go_wp2_with fail
  refine bodyPost_ret (v:=.tuple #[.int .i64 (opIxT M s),.bool true]) (by simp [results,Tryz.results32,go_sem]) rfl ?_
  exact ⟨rfl,rfl⟩
 ·have hlk:=h.ops.look_not (s:=s) (by rw [opIx_idx];exact hs)
  rw [if_neg hs,decide_eq_false hs]
  clear h
  go_enter Tryz.func32,Tryz.ntmps32
  go_wp2_with fail
  refine bodyPost_ret (v:=.tuple #[.int .i64 0,.bool false]) (by simp [results,Tryz.results32,go_sem]) rfl ?_
  exact ⟨rfl,rfl⟩
/-- What a table tells of an operand. -/
def mayV (M:Mach) (N:List ByteArray) (L:List Pl) (C:List (List Int)) (op k r:Int):Bool:=if 0≤op∧op<(M.ops.length:Int)∧0≤k∧k<(mayLen M op.toNat:Int) then decide (0≤r) && mayB M N L C op.toNat k.toNat r.toNat else false
set_option maxRecDepth 100000 in
set_option maxHeartbeats 4000000 in
theorem tmay_any (h:TblIn W bt V M N L) (op k r:Int) (hr:fits64 r):Calls Tryz.prog 34 #[.pointer (some ⟨bt,0,none⟩),.int .i64 op,.int .i64 k,.int .i64 r] W fun e w'=>e=.returned (.bool (mayV M N L (numsC N M.classes) op k r))∧Ext W w':=by
 obtain ⟨ms,hml,hg⟩:=h.may
 obtain ⟨aM,cM,eM,_,_⟩:=(Row.of_owns hg.own).shape
 have c16:=blk_cell h.blk 16 _ rfl
 rw [eM,hml] at c16
 generalize numsC N M.classes=C at hg ⊢
 have hat:=Lib.hid (atSets_any W aM M.ops.length cM op)
 by_cases ha:0≤op∧op<(M.ops.length:Int)
 ·rw [decide_eq_true ha] at hat
  obtain ⟨i,rfl⟩:∃ i:Nat,op=i:=⟨op.toNat,by omega⟩
  have hi:i<ms.length:=by omega
  obtain ⟨u,hu⟩:∃ u,ms[i]?=some u:=⟨_,List.getElem?_eq_getElem hi⟩
  obtain ⟨us,hs,hul⟩:=hg.rows i u hu
  obtain ⟨g,c,e2,_,_⟩:=hg.own.form (by omega)
  rw [eM] at e2
  cases e2
  have cu:W.cell? ⟨g,i,none⟩=some u:=by
   have:=hg.own
   rw [eM] at this
   rw [this.cellAt i (by omega)];exact hu
  obtain ⟨aU,cU,eU,_,_⟩:=(Row.of_owns hs.own).shape
  subst eU
  have hiz:(i:Int)<(M.ops.length:Int):=ha.2
  have hatk:=Lib.hid (fun (w:World)=>atSet_any w aU us.length cU k)
  by_cases hk:0≤k∧k<(us.length:Int)
  ·rw [decide_eq_true hk] at hatk
   obtain ⟨q,rfl⟩:∃ q:Nat,k=q:=⟨k.toNat,by omega⟩
   have hq:q<us.length:=by omega
   obtain ⟨x,hx⟩:∃ x,us[q]?=some x:=⟨_,List.getElem?_eq_getElem hq⟩
   have hset:=hs.sets q x hx
   obtain ⟨g2,cg2,e3,_,_⟩:=hs.own.form (by omega)
   cases e3
   have cx:W.cell? ⟨g2,q,none⟩=some x:=by rw [hs.own.cellAt q (by omega)];exact hx
   obtain ⟨a2,n2,c2,rfl⟩:=hset.form
   have hset2:SetIn W (.slice a2 n2 c2) (mayB M N L C i q):=hset
   have HV:Hid (mayV M N L C (i:Int) (q:Int) r=(decide (0≤r) && mayB M N L C i q r.toNat)):=Lib.hid (by unfold mayV;rw [if_pos ⟨ha.1,ha.2,hk.1,by rw [Int.toNat_natCast,← hul];exact hk.2⟩,Int.toNat_natCast,Int.toNat_natCast])
   have hhas:=Lib.hid (has_set hset2 r hr)
   rw [HV.out]
   obtain ⟨res,hres⟩:∃ z,(decide (0≤r) && mayB M N L C i q r.toNat)=z:=⟨_,rfl⟩
   rw [hres] at hhas ⊢
   have hqz:(q:Int)<(us.length:Int):=hk.2
   clear hset hset2 hs hx hu hg h eM hres HV hul hml hi
   go_enter Tryz.func34,Tryz.ntmps34
   go_wp2_with (first
    | (go_at_call 67;refine hat.out.mono ?_;rintro e w' ⟨rfl,rfl⟩)
    | (go_at_call 49;refine (hatk.out W).mono ?_;rintro e w' ⟨rfl,rfl⟩)
    | (go_at_call 50;refine hhas.out.mono ?_;rintro e w2 ⟨rfl,hx2⟩))
   go_ret
   exact ⟨rfl,hx2⟩
  ·rw [decide_eq_false hk] at hatk
   have HV:Hid (mayV M N L C (i:Int) k r=false):=Lib.hid (by unfold mayV;rw [if_neg (fun hh=>hk ⟨hh.2.2.1,by rw [hul];have:=hh.2.2.2;rwa [Int.toNat_natCast] at this⟩)])
   rw [HV.out]
   clear hs hu hg h eM HV hul hml hi
   go_enter Tryz.func34,Tryz.ntmps34
   go_wp2_with (first
    | (go_at_call 67;refine hat.out.mono ?_;rintro e w' ⟨rfl,rfl⟩)
    | (go_at_call 49;refine (hatk.out W).mono ?_;rintro e w' ⟨rfl,rfl⟩))
   go_ret
   exact ⟨rfl,Ext.refl _⟩
 ·rw [decide_eq_false ha] at hat
  have HV:Hid (mayV M N L C op k r=false):=Lib.hid (by unfold mayV;rw [if_neg (fun hh=>ha ⟨hh.1,hh.2.1⟩)])
  rw [HV.out]
  clear hg h
  go_enter Tryz.func34,Tryz.ntmps34
  go_wp2_with (go_at_call 67;refine hat.out.mono ?_;rintro e w' ⟨rfl,rfl⟩)
  go_ret
  exact ⟨rfl,Ext.refl _⟩
def tieV (M:Mach) (op:Int):Int:=if 0≤op then (match M.ops[op.toNat]? with | some o=>o.tie | none=>-1) else -1
theorem ttie_any (h:TblIn W bt V M N L) (op:Int):Calls Tryz.prog 36 #[.pointer (some ⟨bt,0,none⟩),.int .i64 op] W fun e w'=>e=.returned (.int .i64 (tieV M op))∧W=w':=by
 have c3:=blk_cell h.blk 3 _ rfl
 obtain ⟨aO,cO,eO,hO1,hO2⟩:=h.m.ops.form
 rw [eO] at c3
 unfold maxLen at hO2
 have hat:=Lib.hid (atOp_any W aO M.ops.length cO op)
 by_cases ha:0≤op∧op<(M.ops.length:Int)
 ·rw [decide_eq_true ha] at hat
  obtain ⟨i,rfl⟩:∃ i:Nat,op=i:=⟨op.toNat,by omega⟩
  obtain ⟨o,ho⟩:∃ o,M.ops[i]?=some o:=⟨_,List.getElem?_eq_getElem (by omega)⟩
  obtain ⟨b,off,cap,u,c,e,_,_,_,_,_,_,_,o4,_,_,_,_⟩:=h.m.ops.at ho
  rw [eO] at e
  cases e
  have HV:Hid (tieV M (i:Int)=o.tie):=Lib.hid (by unfold tieV;rw [if_pos ha.1,Int.toNat_natCast,ho])
  have hiz:(i:Int)<(M.ops.length:Int):=ha.2
  rw [HV.out]
  clear h ho eO
  go_enter Tryz.func36,Tryz.ntmps36
  go_wp2_with (go_at_call 70;refine hat.out.mono ?_;rintro e w' ⟨rfl,rfl⟩)
  go_ret
  exact ⟨rfl,rfl⟩
 ·rw [decide_eq_false ha] at hat
  have HV:Hid (tieV M op = -1):=Lib.hid (by
   unfold tieV
   split
   ·rw [List.getElem?_eq_none (by omega)]
   ·rfl)
  rw [HV.out]
  clear h eO
  go_enter Tryz.func36,Tryz.ntmps36
  go_wp2_with (go_at_call 70;refine hat.out.mono ?_;rintro e w' ⟨rfl,rfl⟩)
  go_ret
  exact ⟨rfl,rfl⟩
theorem tclob_any (h:TblIn W bt V M N L) (hs:SmallM M) (c:Int):Calls Tryz.prog 37 #[.pointer (some ⟨bt,0,none⟩),.int .i64 c] W fun e w'=>∃ v,e=.returned v∧w'.ownsRow W.heap.size 3 1 v (ofL (M.ops.map fun o=>o.clob.map (idx N)) c).length ((ofL (M.ops.map fun o=>o.clob.map (idx N)) c).map (Value.int .i64))∧Ext W w':=by
 obtain ⟨us,hk⟩:=h.clob
 obtain ⟨aK,cK,eK,_,_⟩:=(Row.of_owns hk.own).shape
 have c17:=blk_cell h.blk 17 _ rfl
 rw [eK] at c17
 have HSM:Hid (∀ l∈(M.ops.map fun o=>o.clob.map (idx N)),l.length≤1000):=Lib.hid (fun l hl=>by
  obtain ⟨o,ho,rfl⟩:=List.mem_map.1 hl
  rw [List.length_map]
  exact hs.clob o ho)
 generalize (M.ops.map fun o=>o.clob.map (idx N))=C at hk c17 eK HSM ⊢
 have hat:=Lib.hid (atInts_any W aK C.length cK c)
 by_cases ha:0≤c∧c<(C.length:Int)
 ·rw [decide_eq_true ha] at hat
  obtain ⟨k,rfl⟩:∃ k:Nat,c=k:=⟨c.toNat,by omega⟩
  have hkl:k<C.length:=by omega
  obtain ⟨l,hl⟩:∃ l,C[k]?=some l:=⟨_,List.getElem?_eq_getElem hkl⟩
  obtain ⟨u,hu⟩:∃ u,us[k]?=some u:=⟨_,List.getElem?_eq_getElem (by rw [hk.len];exact hkl)⟩
  have hrow:=hk.rows k l u hl hu
  obtain ⟨g,cg,e2,_,_⟩:=hk.own.form (by omega)
  rw [eK] at e2
  cases e2
  have cu:W.cell? ⟨g,k,none⟩=some u:=by
   have:=hk.own
   rw [eK] at this
   rw [this.cellAt k (by omega)];exact hu
  obtain ⟨a2,c2,e3,_,_⟩:=(Row.of_owns hrow).shape
  subst e3
  have hcl:=Lib.hid (cloneInt_any (Row.of_owns hrow) (ints_oneC _) (by have:=HSM.out l (List.mem_of_getElem? hl);omega))
  have HO:Hid (ofL C (k:Int)=l):=Lib.hid (by unfold ofL;rw [if_pos ha.1,Int.toNat_natCast,hl])
  have hkz:(k:Int)<(C.length:Int):=ha.2
  clear hk hrow hl hu h eK
  go_enter Tryz.func37,Tryz.ntmps37
  go_wp2_with (first
   | (go_at_call 58;refine hat.out.mono ?_;rintro e w' ⟨rfl,rfl⟩)
   | (go_at_call 52;refine hcl.out.mono ?_;rintro e w2 ⟨v,rfl,ho,hx⟩))
  go_ret
  exact ⟨v,rfl,by rw [HO.out];exact ho,hx⟩
 ·rw [decide_eq_false ha] at hat
  have HO:Hid (ofL C c=[]):=Lib.hid (by
   unfold ofL
   split
   ·rw [List.getElem?_eq_none (by omega)]
   ·rfl)
  clear hk h
  go_enter Tryz.func37,Tryz.ntmps37
  go_wp2_with (go_at_call 58;refine hat.out.mono ?_;rintro e w' ⟨rfl,rfl⟩)
  go_ret
  exact ⟨_,rfl,by rw [HO.out];exact World.ownsRow_nil _ _ _ _,Ext.refl _⟩
end
section
variable {M : Mach} {N : List ByteArray} {L : List Pl} {C : List (List Int)}
theorem cho_eq (hC:∀ c∈C,∀ n∈c,0≤n∧n<(L.length:Int)) (hl:L.length≤200) (hN:N.length≤200) {u:Opr} (h0:0≤clsIx M u.cls) (hf:u.fix=⟨#[]⟩∨0≤idx N u.fix) (r:Int):(decide (0≤r) && choB M N C u r.toNat)=decide (r∈choI M N C u):=by
 have key:∀ l:List Int,(∀ n∈l,0≤n∧n<65535)→(decide (0≤r) && inL l r.toNat)=decide (r∈l):=fun l hlb=>by
  unfold inL
  by_cases hr:0≤r
  ·obtain ⟨m,rfl⟩:∃ m:Nat,r=m:=⟨r.toNat,by omega⟩
   rw [decide_eq_true hr,Bool.true_and,Int.toNat_natCast,Bool.eq_iff_iff,decide_eq_true_eq,decide_eq_true_eq]
   exact ⟨fun h=>h.2,fun h=>⟨by have:=hlb _ h;omega,h⟩⟩
  ·rw [decide_eq_false hr,Bool.false_and]
   symm
   exact decide_eq_false (fun h=>by have:=hlb _ h;omega)
 unfold choB choI
 rw [if_pos h0]
 by_cases he:(u.fix == ⟨#[]⟩)=true
 ·rw [if_pos he,if_pos he]
  rw [key]
  ·rw [List.getD_eq_getElem?_getD]
   cases hc:C[(clsIx M u.cls).toNat]? with
   | none=>rfl
   | some l=>rfl
  ·intro n hn
   rw [List.getD_eq_getElem?_getD] at hn
   cases hc:C[(clsIx M u.cls).toNat]? with
   | none=>rw [hc] at hn;cases hn
   | some l =>
    rw [hc] at hn
    have:=hC l (List.mem_of_getElem? hc) n hn
    omega
 ·rw [if_neg he,if_neg he]
  have hi:0≤idx N u.fix:=by
   rcases hf with e | e
   ·exact absurd ((ba_beq _ _).2 e) he
   ·exact e
  rw [listS_all (by intro s hs;rw [List.mem_singleton.1 hs];exact hi)]
  refine key _ (fun n hn=>?_)
  have hn2:n=idx N u.fix:=by simpa using hn
  have:=idx_lt hi
  omega
end
end Go.Proofs.YtligiddaampneaaGreat
namespace Go.Proofs.YtligiddaampneaaGreat
open Go.RowKit
attribute [local go_sem] Oper.semAt_some
section
variable {M : Mach} {N : List ByteArray} {L : List Pl}
theorem mayV_ref0 (T:Taken M N L) {i:Nat} {o:Opn} (ho:M.ops[i]?=some o) (r:Int):(decide (r∈choI M N (numsC N M.classes) o.dfn) && clearB N L o r)=mayV M N L (numsC N M.classes) (i:Int) 0 r:=by
 have hom:=List.mem_of_getElem? ho
 have hil:=(List.getElem?_eq_some_iff.1 ho).1
 have hl2:L.length≤200:=by rw [T.len];exact T.le
 have hnum:=T.good.nums T.len
 obtain ⟨k1,k2⟩:=T.known.oper o hom o.dfn (by simp)
 have e1:mayV M N L (numsC N M.classes) (i:Int) 0 r=(decide (0≤r) && (choB M N (numsC N M.classes) o.dfn r.toNat && o.clob.all fun s=>!inL (lapRow L (plAt L (idx N s)) L.length) r.toNat)):=by
  unfold mayV
  rw [if_pos ⟨by omega,by omega,by omega,by unfold mayLen;rw [Int.toNat_natCast,ho];dsimp only;omega⟩,Int.toNat_natCast]
  unfold mayB
  rw [ho]
  rfl
 rw [e1,← Bool.and_assoc,cho_eq hnum hl2 T.le k1 k2]
 by_cases hm:r∈choI M N (numsC N M.classes) o.dfn
 ·rw [decide_eq_true hm,Bool.true_and,Bool.true_and]
  have hb:=(T.fine o hom).dfn.num T.len hm
  unfold clearB
  rw [listS_all (T.known.clob o hom),List.all_map]
  rw [Bool.eq_iff_iff,List.all_eq_true,List.all_eq_true]
  have key:∀ s∈o.clob,lapI L (idx N s) r=inL (lapRow L (plAt L (idx N s)) L.length) r.toNat:=fun s hs=>by
   have h0:=T.known.clob o hom s hs
   have h1:=idx_lt h0
   obtain ⟨p,hp⟩:∃ p:Nat,idx N s=p:=⟨(idx N s).toNat,by omega⟩
   have hpl:p<L.length:=by have:=T.len;omega
   rw [hp,← lapI_inL (by omega) hpl r,decide_eq_true hb.1,Bool.true_and]
   congr 2
  constructor
  ·intro h s hs
   have:=h s hs
   simp only [Function.comp] at this
   rw [key s hs] at this
   exact this
  ·intro h s hs
   simp only [Function.comp]
   rw [key s hs]
   exact h s hs
 ·rw [decide_eq_false hm,Bool.false_and,Bool.false_and]
theorem mayV_refk (T:Taken M N L) {i k:Nat} {o:Opn} {u:Opr} (ho:M.ops[i]?=some o) (hu:o.uses[k]?=some u) (r:Int):decide (r∈choI M N (numsC N M.classes) u)=mayV M N L (numsC N M.classes) (i:Int) ((k:Int)+1) r:=by
 have hom:=List.mem_of_getElem? ho
 have hil:=(List.getElem?_eq_some_iff.1 ho).1
 have hkl:=(List.getElem?_eq_some_iff.1 hu).1
 have hl2:L.length≤200:=by rw [T.len];exact T.le
 obtain ⟨k1,k2⟩:=T.known.oper o hom u (List.mem_cons_of_mem _ (List.mem_of_getElem? hu))
 rw [← cho_eq (T.good.nums T.len) hl2 T.le k1 k2]
 unfold mayV
 rw [if_pos ⟨by omega,by omega,by omega,by unfold mayLen;rw [Int.toNat_natCast,ho];dsimp only;omega⟩,Int.toNat_natCast,show ((k:Int)+1).toNat=k+1 by omega]
 congr 1
 unfold mayB
 rw [ho]
 dsimp only
 unfold operB2
 rw [List.getElem?_cons_succ,hu]
 dsimp only
 rw [if_neg (by omega)]
end
section
variable {W : World} {n1 bt : Nat} {V : MV} {vK : Value} {M : Mach} {N : List ByteArray} {L : List Pl}
set_option maxRecDepth 100000 in
set_option maxHeartbeats 4000000 in
theorem mayR_any (h:TabIn W n1 bt V vK M N L (numsC N M.classes)) (T:Taken M N L) (op k r:Int) (hr:fits64 r) (hk64:fits64 k) :
  Calls Tryz.prog 35 #[.pointer (some ⟨bt,0,none⟩),.int .i64 op,.int .i64 k,.int .i64 r] W fun e w'=>e=.returned (.bool (mayV M N L (numsC N M.classes) op k r))∧Ext W w':=by
 have hlt:∀ s,clsIx M s<(numsC N M.classes).length:=fun s=>by
  rw [numsC_len]
  by_cases h0:0≤clsIx M s
  ·obtain ⟨j,c,e,hc⟩:=cls_at h0
   have:=(List.getElem?_eq_some_iff.1 hc).1
   omega
  ·omega
 by_cases ha:0≤op∧op<(M.ops.length:Int)
 ·obtain ⟨i,rfl⟩:∃ i:Nat,op=i:=⟨op.toNat,by omega⟩
  obtain ⟨o,ho⟩:∃ o,M.ops[i]?=some o:=⟨_,List.getElem?_eq_getElem (by omega)⟩
  have hom:=List.mem_of_getElem? ho
  by_cases h0:k=0
  ·subst h0
   rw [← mayV_ref0 T ho r]
   exact mayT0_any h ho (T.small.clob o hom) (by have:=T.le;omega) (hlt _) r hr
  ·have c3:=h.ck.cells 3 _ rfl
   obtain ⟨b,off,cap,uu,cc,e,hl1,hl2,hb,o0,o1,o2,o3,o4,o5,hU,hK,_⟩:=h.ck.m.ops.at ho
   obtain ⟨ua,uc,eu,_,hu2⟩:=hU.form
   have hiz:(i:Int)<(M.ops.length:Int):=ha.2
   have hiy:¬ (M.ops.length:Int)≤(i:Int):=by omega
   have hix:decide (M.ops.length≤i)=false:=decide_eq_false (by omega)
   have hi0:¬ (i:Int)<0:=by omega
   unfold maxLen at hl2 hu2
   by_cases hkk:0≤k∧k≤(o.uses.length:Int)
   ·obtain ⟨q,rfl⟩:∃ q:Nat,k=(q:Int)+1:=⟨(k - 1).toNat,by omega⟩
    obtain ⟨u,hu⟩:∃ u,o.uses[q]?=some u:=⟨_,List.getElem?_eq_getElem (by omega)⟩
    obtain ⟨b2,off2,cap2,e2,_,_,_,y0,y1⟩:=hU.at hu
    rw [← mayV_refk T ho hu r]
    have hcho:=Lib.hid (choicesT_any h u (hlt _))
    obtain ⟨D,hD⟩:∃ x,choI M N (numsC N M.classes) u=x:=⟨_,rfl⟩
    rw [hD] at hcho ⊢
    have hqz:(q:Int)<(o.uses.length:Int):=by omega
    have hq1:¬ (o.uses.length:Int)<(q:Int)+1:=by omega
    have hq2:¬ (q:Int)+1<0:=by omega
    have hq3:(0:Int)<(q:Int)+1:=by omega
    have hq4:(q:Int)+1 - 1=(q:Int):=by omega
    obtain ⟨vR,vC,vO,vA,vS,vN,vP⟩:=V
    dsimp only at c3 e
    subst e
    rw [eu] at e2 o3
    cases e2
    clear h ho hU hK hu hD eu T
    go_enter Tryz.func35,Tryz.ntmps35
    go_wp2_with (first
     | (go_at_call 68;refine hcho.out.mono ?_;rintro e w1 ⟨v,rfl,hs,hx⟩;have hin:=Lib.hid (inR_any v D r w1 hs);have X1:=Lib.hid hx;obtain ⟨_,_,ev,_,_⟩:=hs.shape;subst ev;clear hs hx)
     | (go_at_call 59;refine hin.out.mono ?_;rintro e w' ⟨rfl,rfl⟩))
    go_ret
    exact ⟨rfl,X1.out⟩
   ·have HV:Hid (mayV M N L (numsC N M.classes) (i:Int) k r=false):=Lib.hid (by
     unfold mayV
     refine if_neg (fun hh=>hkk ⟨hh.2.2.1,?_⟩)
     have:=hh.2.2.2
     unfold mayLen at this
     rw [Int.toNat_natCast,ho] at this
     dsimp only at this
     omega)
    rw [HV.out]
    obtain ⟨vR,vC,vO,vA,vS,vN,vP⟩:=V
    dsimp only at c3 e
    subst e eu
    by_cases hk0:k<0
    ·clear h ho hU hK T HV
     go_enter Tryz.func35,Tryz.ntmps35
     go_wp2_with fail
     go_ret
     exact ⟨rfl,Ext.refl _⟩
    ·have hk1:(o.uses.length:Int)<k:=by omega
     clear h ho hU hK T HV
     go_enter Tryz.func35,Tryz.ntmps35
     go_wp2_with fail
     go_ret
     exact ⟨rfl,Ext.refl _⟩
 ·have HV:Hid (mayV M N L (numsC N M.classes) op k r=false):=Lib.hid (by unfold mayV;rw [if_neg (fun hh=>ha ⟨hh.1,hh.2.1⟩)])
  rw [HV.out]
  have c3:=h.ck.cells 3 _ rfl
  obtain ⟨aO,cO,eO,_,_⟩:=h.ck.m.ops.form
  obtain ⟨vR,vC,vO,vA,vS,vN,vP⟩:=V
  dsimp only at c3 eO
  subst eO
  by_cases h0:op<0
  ·clear h T HV
   go_enter Tryz.func35,Tryz.ntmps35
   go_wp2_with fail
   go_ret
   exact ⟨rfl,Ext.refl _⟩
  ·have h1:(M.ops.length:Int)≤op:=by omega
   clear h T HV
   go_enter Tryz.func35,Tryz.ntmps35
   go_wp2_with fail
   go_ret
   exact ⟨rfl,Ext.refl _⟩
theorem clobR_any (h:TabIn W n1 bt V vK M N L (numsC N M.classes)) (T:Taken M N L) (op:Int) :
  Calls Tryz.prog 38 #[.pointer (some ⟨bt,0,none⟩),.int .i64 op] W fun e w'=>∃ v,e=.returned v∧w'.ownsRow W.heap.size 3 1 v (ofL (M.ops.map fun o=>o.clob.map (idx N)) op).length ((ofL (M.ops.map fun o=>o.clob.map (idx N)) op).map (Value.int .i64))∧Ext W w':=by
 by_cases ha:0≤op∧op<(M.ops.length:Int)
 ·obtain ⟨i,rfl⟩:∃ i:Nat,op=i:=⟨op.toNat,by omega⟩
  obtain ⟨o,ho⟩:∃ o,M.ops[i]?=some o:=⟨_,List.getElem?_eq_getElem (by omega)⟩
  have:=clobT_any h ho (T.small.clob o (List.mem_of_getElem? ho))
  have e:ofL (M.ops.map fun o=>o.clob.map (idx N)) (i:Int)=o.clob.map (idx N):=by unfold ofL;rw [if_pos ha.1,Int.toNat_natCast,List.getElem?_map,ho];rfl
  rw [e]
  rw [listS_all (T.known.clob o (List.mem_of_getElem? ho))] at this
  exact this
 ·have HV:Hid (ofL (M.ops.map fun o=>o.clob.map (idx N)) op=[]):=Lib.hid (by
   unfold ofL
   split
   ·rw [List.getElem?_eq_none (by rw [List.length_map];omega)]
   ·rfl)
  have c3:=h.ck.cells 3 _ rfl
  obtain ⟨aO,cO,eO,_,_⟩:=h.ck.m.ops.form
  obtain ⟨vR,vC,vO,vA,vS,vN,vP⟩:=V
  dsimp only at c3 eO
  subst eO
  by_cases h0:op<0
  ·clear h T
   go_enter Tryz.func38,Tryz.ntmps38
   go_wp2_with fail
   go_ret
   exact ⟨_,rfl,by rw [HV.out];exact World.ownsRow_nil _ _ _ _,Ext.refl _⟩
  ·have h1:(M.ops.length:Int)≤op:=by omega
   clear h T
   go_enter Tryz.func38,Tryz.ntmps38
   go_wp2_with fail
   go_ret
   exact ⟨_,rfl,by rw [HV.out];exact World.ownsRow_nil _ _ _ _,Ext.refl _⟩
end
end Go.Proofs.YtligiddaampneaaGreat
