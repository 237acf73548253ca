/- The reference's Places: it answers as the program's. For every list of registers that lies in memory. -/
import Derived.Test.YtligiddaampneaaGreatRefE
import Derived.Deep.QuietTactic
import Derived.BigQuiet
-- shrunk
namespace Go.Proofs.YtligiddaampneaaGreat
open Go.RowKit
attribute [local go_sem] Oper.semAt_some
def PlacesR (W:World) (r:Except Int Wk) (e:Ending) (W':World):Prop :=
 Ext W W'∧match r with
  | .error x=>e=.returned (.tuple #[.slice none 0 0,.slice none 0 0,.int .i64 x])
  | .ok σ=>∃ vN vP,e=.returned (.tuple #[vN,vP,.int .i64 0])∧W'.ownsRow W.heap.size 9 1 vN σ.names.length (σ.names.map Value.string)∧W'.ownsRow W.heap.size 88 3 vP σ.places.length (plCells σ.places)
set_option maxRecDepth 100000 in
set_option maxHeartbeats 4000000 in
theorem placesR_any {W:World} {n0:Nat} {v:Value} {l:List RegT} (hv:RegsIn W n0 v l) (hn:n0≤W.heap.size) :
  Calls Tryz.prog 95 #[v] W (PlacesR W (placesS l)):=by
 obtain ⟨a,cap,rfl,hl1,hl2⟩:=hv.form
 have X0:Ext W (W.alloc (.cells #[.slice none 0 0,.slice none 0 0,.int .i64 0] 147)):=Ext.alloc _ _
 have hb:=heap_alloc_new W (.cells #[.slice none 0 0,.slice none 0 0,.int .i64 0] 147)
 have hv1:RegsIn (W.alloc (.cells #[.slice none 0 0,.slice none 0 0,.int .i64 0] 147)) W.heap.size (.slice a l.length cap) l:=(hv.ext hn X0).up' hn
 have hcall:=Lib.hid (downR_any 7 1 l (.slice a l.length cap) wk0 _ 0 0 0 W.heap.size W.heap.size (.slice none 0 0) (.slice none 0 0) ⟨0,0,0⟩ rfl (by omega) (by omega) hv1 ⟨hb,World.ownsRow_nil _ _ _ _,World.ownsRow_nil _ _ _ _,Nat.le_refl _⟩ rfl (fun h=>by omega) (fun _=>rfl) ⟨by decide,by decide⟩ rfl)
 rw [show downS 7 1 l wk0=placesS l from rfl] at hcall
 have X1:=Lib.hid X0
 have hlb:W.heap.size<(W.alloc (.cells #[.slice none 0 0,.slice none 0 0,.int .i64 0] 147)).heap.size:=by simp
 clear hv hv1 hb X0
 go_enter Tryz.func95,Tryz.ntmps95
 cases hp:placesS l with
 | error x =>
  rw [hp] at hcall
  have hx0:=downS_ne0 7 1 l wk0 x hp
  clear hp
  go_upto_region 3 with (go_at_call 118;refine hcall.out.mono ?_;rintro e W2 ⟨rfl,k2,vN,vP,hb2⟩)
  have hx1:(x != 0)=true:=by simpa using hx0
  have g2:=blk_cell (l:=[vN,vP,.int .i64 x]) hb2 2 _ rfl
  have XF:Hid (Ext W W2):=Lib.hid (Keep.toExt ((Keep.of_ext X1.out:Keep (fun k=>W.heap.size≤k) W _).trans (k2.mono (fun i h=>by
   rcases h with h | h | h
   ·exact Nat.le_of_eq h.symm
   ·cases h
   ·cases h)) (fun _ _ h=>h)) (fun _ h=>h))
  clear k2 hb2 hcall
  go_upto_region 4 with (fail)
  go_quiet (fail)
  have xq:=Lib.hid (XF.out.trans (Ext.drewN W2 nq))
  go_wp2_with fail
  refine bodyPost_ret (v:=.tuple #[.slice none 0 0,.slice none 0 0,.int .i64 x]) (by simp [results,Tryz.results95,go_sem]) rfl ?_
  exact ⟨xq.out,rfl⟩
 | ok σ =>
  rw [hp] at hcall
  clear hp
  go_upto_region 3 with (go_at_call 118;refine hcall.out.mono ?_;rintro e W2 ⟨rfl,k2,vN,vP,hg,_,_⟩)
  obtain ⟨aN,cN,evN,_,_⟩:=(Row.of_owns hg.nm).shape
  obtain ⟨aP,cP,evP,_,_⟩:=(Row.of_owns hg.pl).shape
  subst evN evP
  have hb2:=hg.blk
  have g0:=blk_cell hb2 0 _ rfl
  have g1:=blk_cell hb2 1 _ rfl
  have g2:=blk_cell hb2 2 _ rfl
  have XF:Hid (Ext W W2):=Lib.hid (Keep.toExt ((Keep.of_ext X1.out:Keep (fun k=>W.heap.size≤k) W _).trans (k2.mono (fun i h=>by
   rcases h with h | h | h
   ·exact Nat.le_of_eq h.symm
   ·cases h
   ·cases h)) (fun _ _ h=>h)) (fun _ h=>h))
  have HG:=Lib.hid hg
  clear k2 hb2 hcall hg
  go_upto_region 5 with (fail)
  go_quiet (fail)
  have xq:=Lib.hid (Ext.drewN W2 nq)
  go_wp2_with fail
  refine bodyPost_ret (v:=.tuple #[.slice aN σ.names.length cN,.slice aP σ.places.length cP,.int .i64 0]) (by simp [results,Tryz.results95,go_sem]) rfl ?_
  exact ⟨XF.out.trans xq.out,_,_,rfl,owns_ext HG.out.nm xq.out,owns_ext HG.out.pl xq.out⟩
end Go.Proofs.YtligiddaampneaaGreat
