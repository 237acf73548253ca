/- What a table tells of classes. -/
import Derived.Test.YtligiddaampneaaGreatMu
namespace Go.Proofs.YtligiddaampneaaGreat
open Go.RowKit
attribute [local go_sem] Oper.semAt_some
theorem NumIn.look_not {W:World} {r:Nat} {l:List ByteArray} (h:NumIn W r l) {s:ByteArray} (hs:¬ 0≤idx l s) :
  (Instr.lookup 80 (.map (some r)) (.string s) true).run Tryz.prog W=.ok (.tuple #[.int .i64 0,.bool false]) W:=by
 have e:=entry_num l 0 s
 rw [if_neg hs] at e
 exact run_lookup_not 80 9 3 Tryz.underlying80 Tryz.underlying9 true h (numFrom_keys _ _) e (by kernel_rfl)
theorem ints_oneC (l:List Int):∀ u∈l.map (Value.int .i64),u.oneCell'=true:=fun u hu=>by
 obtain ⟨n,_,rfl⟩:=List.mem_map.1 hu;rfl
section
variable {W : World} {bt : Nat} {V : TV} {M : Mach} {N : List ByteArray} {L : List Pl}
theorem tclass_any (h:TblIn W bt V M N L) (s:ByteArray):Calls Tryz.prog 24 #[.pointer (some ⟨bt,0,none⟩),.string s] W fun e w'=>e=.returned (.tuple #[.int .i64 (if 0≤clsIx M s then clsIx M s else 0),.bool (decide (0≤clsIx M s))])∧W=w':=by
 have c11:=blk_cell h.blk 11 _ rfl
 by_cases hs:0≤clsIx M s
 ·have hlk:=h.cls.look (s:=s) (by rw [clsIx_idx];exact hs) true
  rw [if_pos rfl,clsIx_idx] at hlk
  rw [if_pos hs,decide_eq_true hs]
  clear h
  go_enter Tryz.func24,Tryz.ntmps24
  go_wp2_with fail
  refine bodyPost_ret (v:=.tuple #[.int .i64 (clsIx M s),.bool true]) (by simp [results,Tryz.results24,go_sem]) rfl ?_
  exact ⟨rfl,rfl⟩
 ·have hlk:=h.cls.look_not (s:=s) (by rw [clsIx_idx];exact hs)
  rw [if_neg hs,decide_eq_false hs]
  clear h
  go_enter Tryz.func24,Tryz.ntmps24
  go_wp2_with fail
  refine bodyPost_ret (v:=.tuple #[.int .i64 0,.bool false]) (by simp [results,Tryz.results24,go_sem]) rfl ?_
  exact ⟨rfl,rfl⟩
def ofL (C:List (List Int)) (c:Int):List Int:=if 0≤c then (match C[c.toNat]? with | some l=>l | none=>[]) else []
theorem numsC_len (N:List ByteArray) (l:List Cls):(numsC N l).length=l.length:=by unfold numsC;rw [List.length_map]
theorem nums_small (hs:SmallM M):∀ c∈numsC N M.classes,c.length≤1000:=fun c hc=>by
 unfold numsC at hc
 obtain ⟨x,hx,rfl⟩:=List.mem_map.1 hc
 rw [List.length_map]
 exact hs.cls x hx
theorem tof_any (h:TblIn W bt V M N L) (hs:SmallM M) (c:Int):Calls Tryz.prog 26 #[.pointer (some ⟨bt,0,none⟩),.int .i64 c] W fun e w'=>∃ v,e=.returned v∧w'.ownsRow W.heap.size 3 1 v (ofL (numsC N M.classes) c).length ((ofL (numsC N M.classes) c).map (Value.int .i64))∧Ext W w':=by
 obtain ⟨us,hk⟩:=h.of
 obtain ⟨aK,cK,eK,_,_⟩:=(Row.of_owns hk.own).shape
 have c14:=blk_cell h.blk 14 _ rfl
 rw [eK] at c14
 have HSM:=Lib.hid (nums_small (N:=N) hs)
 generalize numsC N M.classes=C at hk c14 eK HSM ⊢
 have hat:=Lib.hid (atInts_any W aK C.length cK c)
 by_cases ha:0≤c∧c<(C.length:Int)
 ·rw [decide_eq_true ha] at hat
  obtain ⟨k,rfl⟩:∃ k:Nat,c=k:=⟨c.toNat,by omega⟩
  have hkl:k<C.length:=by omega
  obtain ⟨l,hl⟩:∃ l,C[k]?=some l:=⟨_,List.getElem?_eq_getElem hkl⟩
  obtain ⟨u,hu⟩:∃ u,us[k]?=some u:=⟨_,List.getElem?_eq_getElem (by rw [hk.len];exact hkl)⟩
  have hrow:=hk.rows k l u hl hu
  obtain ⟨g,cg,e2,_,_⟩:=hk.own.form (by omega)
  rw [eK] at e2
  cases e2
  have cu:W.cell? ⟨g,k,none⟩=some u:=by
   have:=hk.own
   rw [eK] at this
   rw [this.cellAt k (by omega)];exact hu
  obtain ⟨a2,c2,e3,_,_⟩:=(Row.of_owns hrow).shape
  subst e3
  have hcl:=Lib.hid (cloneInt_any (Row.of_owns hrow) (ints_oneC _) (by have:=HSM.out l (List.mem_of_getElem? hl);omega))
  have HO:Hid (ofL C (k:Int)=l):=Lib.hid (by unfold ofL;rw [if_pos ha.1,Int.toNat_natCast,hl])
  have hkz:(k:Int)<(C.length:Int):=ha.2
  clear hk hrow hl hu h eK
  go_enter Tryz.func26,Tryz.ntmps26
  go_wp2_with (first
   | (go_at_call 58;refine hat.out.mono ?_;rintro e w' ⟨rfl,rfl⟩)
   | (go_at_call 52;refine hcl.out.mono ?_;rintro e w2 ⟨v,rfl,ho,hx⟩))
  go_ret
  exact ⟨v,rfl,by rw [HO.out];exact ho,hx⟩
 ·rw [decide_eq_false ha] at hat
  have HO:Hid (ofL C c=[]):=Lib.hid (by
   unfold ofL
   split
   ·rw [List.getElem?_eq_none (by omega)]
   ·rfl)
  clear hk h
  go_enter Tryz.func26,Tryz.ntmps26
  go_wp2_with (go_at_call 58;refine hat.out.mono ?_;rintro e w' ⟨rfl,rfl⟩)
  go_ret
  exact ⟨_,rfl,by rw [HO.out];exact World.ownsRow_nil _ _ _ _,Ext.refl _⟩
set_option maxRecDepth 100000 in
theorem inI_inL {C:List (List Int)} (hC:∀ c∈C,∀ n∈c,0≤n∧n<(L.length:Int)) (hl:L.length≤200) {k:Nat} (hk:k<C.length) (r:Int):(decide (0≤r) && inL (C.getD k []) r.toNat)=inI C (k:Int) r:=by
 unfold inI inL
 rw [if_pos (by omega),Int.toNat_natCast,List.getD_eq_getElem?_getD,List.getElem?_eq_getElem hk]
 dsimp only [Option.getD]
 by_cases hr:0≤r
 ·obtain ⟨m,rfl⟩:∃ m:Nat,r=m:=⟨r.toNat,by omega⟩
  rw [decide_eq_true hr,Bool.true_and,Int.toNat_natCast,Bool.eq_iff_iff,decide_eq_true_eq,decide_eq_true_eq]
  exact ⟨fun h=>h.2,fun h=>⟨by have:=hC _ (List.getElem_mem hk) _ h;omega,h⟩⟩
 ·rw [decide_eq_false hr,Bool.false_and]
  symm
  exact decide_eq_false (fun h=>by have:=hC _ (List.getElem_mem hk) _ h;omega)
theorem inI_out {C:List (List Int)} {c r:Int} (h:¬ (0≤c∧c<(C.length:Int))):inI C c r=false:=by
 unfold inI
 split
 ·rw [List.getElem?_eq_none (by omega)]
 ·rfl
set_option maxRecDepth 100000 in
theorem tin_any (h:TblIn W bt V M N L) (hC:∀ c∈numsC N M.classes,∀ n∈c,0≤n∧n<(L.length:Int)) (hl:L.length≤200) (c r:Int) (hr:fits64 r):Calls Tryz.prog 29 #[.pointer (some ⟨bt,0,none⟩),.int .i64 c,.int .i64 r] W fun e w'=>e=.returned (.bool (inI (numsC N M.classes) c r))∧Ext W w':=by
 obtain ⟨us,hu,hs⟩:=h.ins
 obtain ⟨aL,cL,eL,_,_⟩:=(Row.of_owns hs.own).shape
 have c15:=blk_cell h.blk 15 _ rfl
 rw [eL] at c15
 have hul:us.length=(numsC N M.classes).length:=by rw [numsC_len];exact hu
 generalize numsC N M.classes=C at hs hC hul ⊢
 rw [hul] at c15
 have hat:=Lib.hid (atSet_any W aL C.length cL c)
 by_cases ha:0≤c∧c<(C.length:Int)
 ·rw [decide_eq_true ha] at hat
  obtain ⟨k,rfl⟩:∃ k:Nat,c=k:=⟨c.toNat,by omega⟩
  have hk:k<us.length:=by omega
  obtain ⟨u,huk⟩:∃ u,us[k]?=some u:=⟨_,List.getElem?_eq_getElem hk⟩
  have hset:=hs.sets k u huk
  obtain ⟨g,cg,e2,_,_⟩:=hs.own.form (by omega)
  rw [eL] at e2
  cases e2
  have cu:W.cell? ⟨g,k,none⟩=some u:=by
   have:=hs.own
   rw [eL] at this
   rw [this.cellAt k (by omega)];exact huk
  obtain ⟨a2,n2,c2,rfl⟩:=hset.form
  have hset2:SetIn W (.slice a2 n2 c2) (inL (C.getD k [])):=hset
  have hhas0:=has_set hset2 r hr
  have hin:=inI_inL (C:=C) (L:=L) hC hl (k:=k) (by omega) r
  rw [hin] at hhas0
  have hhas:=Lib.hid hhas0
  clear hset2 hhas0 hin
  have hkz:(k:Int)<(C.length:Int):=ha.2
  clear hset hs huk h eL hul hu hk
  go_enter Tryz.func29,Tryz.ntmps29
  go_wp2_with (first
   | (go_at_call 49;refine hat.out.mono ?_;rintro e w' ⟨rfl,rfl⟩)
   | (go_at_call 50;refine hhas.out.mono ?_;rintro e w2 ⟨rfl,hx2⟩))
  go_ret
  exact ⟨rfl,hx2⟩
 ·rw [decide_eq_false ha] at hat
  rw [inI_out ha]
  clear hs h hul hu
  go_enter Tryz.func29,Tryz.ntmps29
  go_wp2_with (go_at_call 49;refine hat.out.mono ?_;rintro e w' ⟨rfl,rfl⟩)
  go_ret
  exact ⟨rfl,Ext.refl _⟩
set_option maxRecDepth 100000 in
set_option maxHeartbeats 4000000 in
theorem twidth_any (h:TblIn W bt V M N L) (hC:∀ c∈numsC N M.classes,∀ n∈c,0≤n∧n<(L.length:Int)) (hne:∀ c∈numsC N M.classes,c≠[]) (c:Int):Calls Tryz.prog 27 #[.pointer (some ⟨bt,0,none⟩),.int .i64 c] W fun e w'=>e=.returned (.int .i64 (widI L (numsC N M.classes) c))∧Ext W w':=by
 obtain ⟨us,hk⟩:=h.of
 obtain ⟨aK,cK,eK,_,_⟩:=(Row.of_owns hk.own).shape
 obtain ⟨aP,cP,eP,_,_⟩:=(Row.of_owns h.pl).shape
 have c14:=blk_cell h.blk 14 _ rfl
 have c9:=blk_cell h.blk 9 _ rfl
 rw [eK] at c14
 rw [eP] at c9
 have hpl:=h.pl
 rw [eP] at hpl
 generalize numsC N M.classes=C at hk c14 eK hC hne ⊢
 have hat:=Lib.hid (atInts_any W aK C.length cK c)
 by_cases ha:0≤c∧c<(C.length:Int)
 ·rw [decide_eq_true ha] at hat
  obtain ⟨k,rfl⟩:∃ k:Nat,c=k:=⟨c.toNat,by omega⟩
  have hkl:k<C.length:=by omega
  obtain ⟨l,hl⟩:∃ l,C[k]?=some l:=⟨_,List.getElem?_eq_getElem hkl⟩
  obtain ⟨u,hu⟩:∃ u,us[k]?=some u:=⟨_,List.getElem?_eq_getElem (by rw [hk.len];exact hkl)⟩
  have hrow:=hk.rows k l u hl hu
  obtain ⟨g,cg,e2,_,_⟩:=hk.own.form (by omega)
  rw [eK] at e2
  cases e2
  have cu:W.cell? ⟨g,k,none⟩=some u:=by
   have:=hk.own
   rw [eK] at this
   rw [this.cellAt k (by omega)];exact hu
  obtain ⟨n,l2,rfl⟩:∃ n l2,l=n :: l2:=by
   cases l with
   | nil=>exact absurd rfl (hne _ (List.mem_of_getElem? hl))
   | cons n l2=>exact ⟨n,l2,rfl⟩
  have hnb:=hC _ (List.mem_of_getElem? hl) n (by simp)
  obtain ⟨m,rfl⟩:∃ m:Nat,n=m:=⟨n.toNat,by omega⟩
  obtain ⟨p,hp⟩:∃ p,L[m]?=some p:=⟨_,List.getElem?_eq_getElem (by omega)⟩
  obtain ⟨b5,o5,k5,e5,_,_,_,p0,p1,p2⟩:=(PlsIn.of_owns hpl rfl).at hp
  cases e5
  obtain ⟨g2,c2,e3,_,_⟩:=hrow.form (by simp)
  subst e3
  have cn:W.cell? ⟨g2,0,none⟩=some (.int .i64 (m:Int)):=by rw [hrow.cellAt 0 (by simp)];rfl
  have HW:Hid (widI L C (k:Int)=p.width):=Lib.hid (by unfold widI;rw [if_pos ha.1,Int.toNat_natCast,hl];dsimp only;rw [Int.toNat_natCast,hp])
  have hkz:(k:Int)<(C.length:Int):=ha.2
  have hmz:(m:Int)<(L.length:Int):=hnb.2
  have hlz:(0:Int)<(l2.length:Int)+1:=by omega
  have hlz2:(0:Int)<(((m:Int) :: l2).length:Int):=by rw [List.length_cons];omega
  clear hk hrow hl hu h eK eP hpl hp hnb
  rw [HW.out]
  go_enter Tryz.func27,Tryz.ntmps27
  go_upto_region 3 with (go_at_call 58;refine hat.out.mono ?_;rintro e w' ⟨rfl,rfl⟩)
  go_quiet (fail)
  have xq:=Ext.drewN W nq
  go_wp2_with fail
  go_ret
  exact ⟨rfl,xq⟩
 ·rw [decide_eq_false ha] at hat
  have HW:Hid (widI L C c=0):=Lib.hid (by
   unfold widI
   split
   ·rw [List.getElem?_eq_none (by omega)]
   ·rfl)
  rw [HW.out]
  clear hk h
  go_enter Tryz.func27,Tryz.ntmps27
  go_wp2_with (go_at_call 58;refine hat.out.mono ?_;rintro e w' ⟨rfl,rfl⟩)
  go_ret
  exact ⟨rfl,Ext.refl _⟩
end
end Go.Proofs.YtligiddaampneaaGreat
