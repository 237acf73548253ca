/- Several texts joined. No condition. -/
import Derived.Test.YtligiddaampneaaGreatRefE
import Derived.Deep.QuietTactic
import Derived.BigQuiet
set_option maxRecDepth 100000
set_option maxHeartbeats 4000000
-- shrunk
namespace Go.Proofs.YtligiddaampneaaGreat
open Go.RowKit
attribute [local go_sem] Oper.semAt_some
def PlacesR (W:World) (r:Except Int Wk) (e:Ending) (W':World):Prop :=
 Ext W W'∧match r with
  | .error x=>e=.returned (.tuple #[.slice none 0 0,.slice none 0 0,.int .i64 x])
  | .ok σ=>∃ vN vP,e=.returned (.tuple #[vN,vP,.int .i64 0])∧W'.ownsRow W.heap.size 9 1 vN σ.names.length (σ.names.map Value.string)∧W'.ownsRow W.heap.size 88 3 vP σ.places.length (plCells σ.places)
theorem placesR_any {W:World} {n0:Nat} {v:Value} {l:List RegT} (hv:RegsIn W n0 v l) (hn:n0≤W.heap.size) :
  Calls Tryz.prog 95 #[v] W (PlacesR W (placesS l)):=by
 obtain ⟨a,cap,rfl,hl1,hl2⟩:=hv.form
 have X0:Ext W (W.alloc (.cells #[.slice none 0 0,.slice none 0 0,.int .i64 0] 147)):=Ext.alloc _ _
 have hb:=heap_alloc_new W (.cells #[.slice none 0 0,.slice none 0 0,.int .i64 0] 147)
 have hv1:RegsIn (W.alloc (.cells #[.slice none 0 0,.slice none 0 0,.int .i64 0] 147)) W.heap.size (.slice a l.length cap) l:=(hv.ext hn X0).up' hn
 have hcall:=qh (downR_any 7 1 l (.slice a l.length cap) wk0 _ 0 0 0 W.heap.size W.heap.size (.slice none 0 0) (.slice none 0 0) ⟨0,0,0⟩ rfl (by omega) (by omega) hv1 ⟨hb,World.ownsRow_nil _ _ _ _,World.ownsRow_nil _ _ _ _,Nat.le_refl _⟩ rfl (fun h=>by omega) (fun _=>rfl) ⟨by decide,by decide⟩ rfl)
 rw [show downS 7 1 l wk0=placesS l from rfl] at hcall
 have X1:=qh X0
 have hlb:W.heap.size<(W.alloc (.cells #[.slice none 0 0,.slice none 0 0,.int .i64 0] 147)).heap.size:=by simp
 clear hv hv1 hb X0
 go_enter Tryz.func95,Tryz.ntmps95
 cases hp:placesS l with
 | error x =>
  rw [hp] at hcall
  have hx0:=downS_ne0 7 1 l wk0 x hp
  clear hp
  go_upto_region 3 with (go_at_call 118;refine hcall.out.mono ?_;rintro e W2 ⟨rfl,k2,vN,vP,hb2⟩)
  have hx1:(x != 0)=true:=by simpa using hx0
  have g2:=blk_cell (l:=[vN,vP,.int .i64 x]) hb2 2 _ rfl
  have XF:Hid (Ext W W2):=qh (Keep.toExt ((Keep.of_ext X1.out:Keep (fun k=>W.heap.size≤k) W _).trans (k2.mono (fun i h=>by
   rcases h with h | h | h
   ·exact Nat.le_of_eq h.symm
   ·cases h
   ·cases h)) (fun _ _ h=>h)) (fun _ h=>h))
  clear k2 hb2 hcall
  go_upto_region 4 with (fail)
  go_quiet (fail)
  have xq:=qh (XF.out.trans (Ext.drewN W2 nq))
  go_wp2_with fail
  refine bodyPost_ret (v:=.tuple #[.slice none 0 0,.slice none 0 0,.int .i64 x]) (by simp [results,Tryz.results95,go_sem]) rfl ?_
  exact ⟨xq.out,rfl⟩
 | ok σ =>
  rw [hp] at hcall
  clear hp
  go_upto_region 3 with (go_at_call 118;refine hcall.out.mono ?_;rintro e W2 ⟨rfl,k2,vN,vP,hg,_,_⟩)
  obtain ⟨aN,cN,evN,_,_⟩:=(Row.of_owns hg.nm).shape
  obtain ⟨aP,cP,evP,_,_⟩:=(Row.of_owns hg.pl).shape
  subst evN evP
  have hb2:=hg.blk
  have g0:=blk_cell hb2 0 _ rfl
  have g1:=blk_cell hb2 1 _ rfl
  have g2:=blk_cell hb2 2 _ rfl
  have XF:Hid (Ext W W2):=qh (Keep.toExt ((Keep.of_ext X1.out:Keep (fun k=>W.heap.size≤k) W _).trans (k2.mono (fun i h=>by
   rcases h with h | h | h
   ·exact Nat.le_of_eq h.symm
   ·cases h
   ·cases h)) (fun _ _ h=>h)) (fun _ h=>h))
  have HG:=qh hg
  clear k2 hb2 hcall hg
  go_upto_region 5 with (fail)
  go_quiet (fail)
  have xq:=qh (Ext.drewN W2 nq)
  go_wp2_with fail
  refine bodyPost_ret (v:=.tuple #[.slice aN σ.names.length cN,.slice aP σ.places.length cP,.int .i64 0]) (by simp [results,Tryz.results95,go_sem]) rfl ?_
  exact ⟨XF.out.trans xq.out,_,_,rfl,owns_ext HG.out.nm xq.out,owns_ext HG.out.pl xq.out⟩
end Go.Proofs.YtligiddaampneaaGreat
set_option maxHeartbeats 1000000
-- shrunk
namespace Go.Proofs.YtligiddaampneaaGreat
open Go.RowKit
attribute [local go_sem] Oper.semAt_some
def IntsIn (W:World) (n0:Nat) (v:Value) (l:List Int):Prop:=Tab W n0 1 v (l.map fun n=>[.int .i64 n])
def KIn (W:World) (n0:Nat) (v:Value) (C:List (List Int)):Prop :=
 ∃ us:List Value,us.length=C.length∧Tab W n0 1 v (us.map fun u=>[u])∧∀ (i:Nat) (c:List Int) (u:Value),C[i]?=some c→us[i]?=some u→IntsIn W n0 u c
structure TabIn (W:World) (n1 bt:Nat) (V:MV) (vK:Value) (M:Mach) (N:List ByteArray) (L:List Pl) (C:List (List Int)):Prop where
 ck:CkIn W n1 bt V M N L
 cl:W.cell? ⟨bt,10,none⟩=some vK
 k:KIn W n1 vK C
 tight:∀ p∈L,p.tight
theorem IntsIn.slice {W:World} {n0:Nat} {v:Value} {l:List Int} (h:IntsIn W n0 v l):SliceInts W v l:=by
 have:=h.row
 have e:∀ l:List Int,((l.map fun n=>[Value.int .i64 n]).flatten)=l.map (Value.int .i64):=fun l=>by
  induction l with
  | nil=>rfl
  | cons x l ih=>simp [ih]
 unfold SliceInts
 rw [e] at this
 simpa using this
theorem KIn.same {W W':World} {n0:Nat} {v:Value} {C:List (List Int)} (h:KIn W n0 v C) (hk:∀ k,k<n0→W'.heap[k]?=W.heap[k]?):KIn W' n0 v C:=by
 obtain ⟨us,h1,h2,h3⟩:=h
 exact ⟨us,h1,h2.same hk,fun i c u hc hu=>Tab.same (h3 i c u hc hu) hk⟩
theorem TabIn.ext {W W':World} {n1 bt:Nat} {V:MV} {vK:Value} {M:Mach} {N:List ByteArray} {L:List Pl} {C:List (List Int)} (h:TabIn W n1 bt V vK M N L C) (x:Ext W W'):TabIn W' n1 bt V vK M N L C :=
 ⟨h.ck.ext x,x.cell h.cl,h.k.same fun k hk=>Below.block x k (Nat.lt_of_lt_of_le hk h.ck.le),h.tight⟩
theorem TabIn.cells {W:World} {n1 bt:Nat} {V:MV} {vK:Value} {M:Mach} {N:List ByteArray} {L:List Pl} {C:List (List Int)} (h:TabIn W n1 bt V vK M N L C):W.cell? ⟨bt,8,none⟩=some V.vN∧W.cell? ⟨bt,9,none⟩=some V.vP:=⟨h.ck.cells 8 _ rfl,h.ck.cells 9 _ rfl⟩
variable {W : World} {n1 bt : Nat} {V : MV} {vK : Value} {M : Mach} {N : List ByteArray} {L : List Pl} {C : List (List Int)}
theorem regT_any (h:TabIn W n1 bt V vK M N L C) (s:ByteArray):Calls Tryz.prog 54 #[.pointer (some ⟨bt,0,none⟩),.string s] W fun e w'=>e=.returned (.int .i64 (idx N s))∧W=w':=by
 have c8:=h.cells.1
 have hf:=qh (findR_any V.vN N s W (StrsIn.slice h.ck.nm))
 obtain ⟨a,cap,ev,_,_⟩:=h.ck.nm.form
 rw [ev] at c8 hf
 clear h
 go_enter Tryz.func54,Tryz.ntmps54
 go_wp2_with (go_at_call 85;refine hf.out.mono ?_;rintro e w' ⟨rfl,rfl⟩)
 go_ret
 exact ⟨rfl,rfl⟩
def opIxT (M:Mach) (s:ByteArray):Int:=fidx (fun c=>c.name == s) M.ops
theorem classOfT_any (h:TabIn W n1 bt V vK M N L C) (s:ByteArray):Calls Tryz.prog 25 #[.pointer (some ⟨bt,0,none⟩),.string s] W fun e w'=>e=.returned (.int .i64 (clsIx M s))∧W=w':=by
 have cc:=h.ck.cells 2 _ rfl
 have HT:=qh h
 obtain ⟨a,cap,ev,hl1,hl2⟩:=h.ck.m.cls.form
 obtain ⟨vR,vC,vO,vA,vS,vN,vP⟩:=V
 dsimp only at cc ev
 subst ev
 unfold maxLen at hl2
 obtain ⟨res,hres⟩:∃ x,clsIx M s=x:=⟨_,rfl⟩
 have RES:=qh hres
 rw [hres]
 clear h hres
 go_enter Tryz.func25,Tryz.ntmps25
 go_wp2
 go_loop [5] (fun i=>∃ k:Nat,k≤M.classes.length∧i=.int .i64 k∧Hid (∀ j x,j<k→M.classes[j]?=some x→(x.name == s)=false)) (fun i=>M.classes.length - (intOf i).toNat)
 case atStart=>exact ⟨0,by omega,rfl,qh (fun j _ hj=>by omega)⟩
 case round =>
  obtain ⟨k,hk,rfl,hok⟩:=hrel
  by_cases hlt:k<M.classes.length
  ·have hkz:(k:Int)<(M.classes.length:Int):=by omega
   obtain ⟨x,hx⟩:∃ x,M.classes[k]?=some x:=⟨_,lE hlt⟩
   obtain ⟨b,off,cap2,u,e,_,_,hb,c0,_,_⟩:=HT.out.ck.m.cls.at hx
   dsimp only at e
   cases e
   have HX:=qh hx
   have hbx:=str_beq s x.name
   clear hx
   cases he:(x.name == s) with
   | true =>
    rw [he] at hbx
    have hby:=str_beq x.name s
    rw [(ba_beq x.name s).1 he,(ba_beq s s).2 rfl] at hby
    have E:Hid (res=(k:Int)):=qh (by rw [← RES.out];exact fidx_at HX.out he (fun j y hj hy=>hok.out j y hj hy))
    have hxs:=(ba_beq x.name s).1 he
    rw [hxs] at c0 hbx
    clear he
    go_wp2
    go_ret
    exact ⟨by rw [E.out];rfl,rfl⟩
   | false =>
    rw [he] at hbx
    have hsx:(s == x.name)=false:=by
     cases hh:s == x.name with
     | false=>rfl
     | true=>rw [(ba_beq s x.name).1 hh,(ba_beq x.name x.name).2 rfl] at he;cases he
    have hby:=str_beq x.name s
    rw [hsx] at hby
    have hstep:=qh (show ∀ j y,j<k+1→M.classes[j]?=some y→(y.name == s)=false from fun j y hj hy=>by
     by_cases e:j=k
     ·subst e;rw [HX.out] at hy;cases hy;exact he
     ·exact hok.out j y (by omega) hy)
    clear he
    go_wp2
    go_round
    case rel=>exact ⟨k+1,by omega,by go_num,hstep⟩
    case measure=>simp [intOf];omega
  ·have E:Hid (res = -1):=qh (by
    rw [← RES.out]
    refine fidx_none fun x hx=>?_
    obtain ⟨j,hj⟩:=List.getElem?_of_mem hx
    exact hok.out j x (by have:=(List.getElem?_eq_some_iff.1 hj).1;omega) hj)
   have hkz:¬ (k:Int)<(M.classes.length:Int):=by omega
   go_wp2
   go_ret
   exact ⟨by rw [E.out];rfl,rfl⟩
theorem opOfT_any (h:TabIn W n1 bt V vK M N L C) (s:ByteArray):Calls Tryz.prog 33 #[.pointer (some ⟨bt,0,none⟩),.string s] W fun e w'=>e=.returned (.int .i64 (opIxT M s))∧W=w':=by
 have cc:=h.ck.cells 3 _ rfl
 have HT:=qh h
 obtain ⟨a,cap,ev,hl1,hl2⟩:=h.ck.m.ops.form
 obtain ⟨vR,vC,vO,vA,vS,vN,vP⟩:=V
 dsimp only at cc ev
 subst ev
 unfold maxLen at hl2
 obtain ⟨res,hres⟩:∃ x,opIxT M s=x:=⟨_,rfl⟩
 have RES:=qh hres
 rw [hres]
 clear h hres
 go_enter Tryz.func33,Tryz.ntmps33
 go_wp2
 go_loop [5] (fun i=>∃ k:Nat,k≤M.ops.length∧i=.int .i64 k∧Hid (∀ j x,j<k→M.ops[j]?=some x→(x.name == s)=false)) (fun i=>M.ops.length - (intOf i).toNat)
 case atStart=>exact ⟨0,by omega,rfl,qh (fun j _ hj=>by omega)⟩
 case round =>
  obtain ⟨k,hk,rfl,hok⟩:=hrel
  by_cases hlt:k<M.ops.length
  ·have hkz:(k:Int)<(M.ops.length:Int):=by omega
   obtain ⟨x,hx⟩:∃ x,M.ops[k]?=some x:=⟨_,lE hlt⟩
   obtain ⟨b,off,cap2,u,c,e,_,_,hb,c0,_,_,_,_,_,_⟩:=HT.out.ck.m.ops.at hx
   dsimp only at e
   cases e
   have HX:=qh hx
   have hbx:=str_beq s x.name
   clear hx
   cases he:(x.name == s) with
   | true =>
    rw [he] at hbx
    have hby:=str_beq x.name s
    rw [(ba_beq x.name s).1 he,(ba_beq s s).2 rfl] at hby
    have E:Hid (res=(k:Int)):=qh (by rw [← RES.out];exact fidx_at HX.out he (fun j y hj hy=>hok.out j y hj hy))
    have hxs:=(ba_beq x.name s).1 he
    rw [hxs] at c0 hbx
    clear he
    go_wp2
    go_ret
    exact ⟨by rw [E.out];rfl,rfl⟩
   | false =>
    rw [he] at hbx
    have hsx:(s == x.name)=false:=by
     cases hh:s == x.name with
     | false=>rfl
     | true=>rw [(ba_beq s x.name).1 hh,(ba_beq x.name x.name).2 rfl] at he;cases he
    have hby:=str_beq x.name s
    rw [hsx] at hby
    have hstep:=qh (show ∀ j y,j<k+1→M.ops[j]?=some y→(y.name == s)=false from fun j y hj hy=>by
     by_cases e:j=k
     ·subst e;rw [HX.out] at hy;cases hy;exact he
     ·exact hok.out j y (by omega) hy)
    clear he
    go_wp2
    go_round
    case rel=>exact ⟨k+1,by omega,by go_num,hstep⟩
    case measure=>simp [intOf];omega
  ·have E:Hid (res = -1):=qh (by
    rw [← RES.out]
    refine fidx_none fun x hx=>?_
    obtain ⟨j,hj⟩:=List.getElem?_of_mem hx
    exact hok.out j x (by have:=(List.getElem?_eq_some_iff.1 hj).1;omega) hj)
   have hkz:¬ (k:Int)<(M.ops.length:Int):=by omega
   go_wp2
   go_ret
   exact ⟨by rw [E.out];rfl,rfl⟩
end Go.Proofs.YtligiddaampneaaGreat
