/- The reference's Begin. For every description that lies in memory. -/
import Derived.Test.YtligiddaampneaaGreatRefS
import Derived.Test.YtligiddaampneaaGreatRefV
set_option maxRecDepth 100000
set_option maxHeartbeats 16000000
-- shrunk
namespace Go.Proofs.YtligiddaampneaaGreat
open Go.RowKit
attribute [local go_sem] Oper.semAt_some
def BeginPost (W:World) (V:MV) (M:Mach) (r:Except Int (List ByteArray × List Pl)) (e:Ending) (W':World):Prop :=
 Ext W W'∧match r with
  | .error x=>e=.returned (.tuple #[.pointer none,.int .i64 x])
  | .ok (N,L)=>∃ bt vN vP vK,e=.returned (.tuple #[.pointer (some ⟨bt,0,none⟩),.int .i64 0])∧TabIn W' W'.heap.size bt { V with vN:=vN,vP:=vP } vK M N L (numsC N M.classes)∧Good M N L∧N.length≤200
def TabNew (W W':World) (n0 bt:Nat) (V:MV) (vK:Value) (M:Mach) (N:List ByteArray) (L:List Pl):Prop :=
 ∃ kb,TabG W' n0 bt kb V vK M N L (numsC N M.classes)∧W'.ownsRow W.heap.size 9 1 V.vN N.length (N.map Value.string)
theorem TabNew.ext {W W' W2:World} {n0 bt:Nat} {V:MV} {vK:Value} {M:Mach} {N:List ByteArray} {L:List Pl} (h:TabNew W W' n0 bt V vK M N L) (x:Ext W' W2):TabNew W W2 n0 bt V vK M N L:=by
 obtain ⟨kb,a,b⟩:=h
 exact ⟨kb,a.ext x,owns_ext b x⟩
theorem TabNew.base {W W0 W':World} {n0 bt:Nat} {V:MV} {vK:Value} {M:Mach} {N:List ByteArray} {L:List Pl} (h:TabNew W W' n0 bt V vK M N L) (x:W0.heap.size≤W.heap.size):TabNew W0 W' n0 bt V vK M N L:=by
 obtain ⟨kb,a,b⟩:=h
 exact ⟨kb,a,owns_base b x⟩
theorem TabNew.tab {W W':World} {n0 bt:Nat} {V:MV} {vK:Value} {M:Mach} {N:List ByteArray} {L:List Pl} (h:TabNew W W' n0 bt V vK M N L):TabIn W' W'.heap.size bt V vK M N L (numsC N M.classes):=by
 obtain ⟨kb,a,b⟩:=h
 exact a.tab
def BeginPost2 (W:World) (n0:Nat) (V:MV) (M:Mach) (r:Except Int (List ByteArray × List Pl)) (e:Ending) (W':World):Prop :=
 Ext W W'∧match r with
  | .error x=>e=.returned (.tuple #[.pointer none,.int .i64 x])
  | .ok (N,L)=>∃ bt vN vP vK,e=.returned (.tuple #[.pointer (some ⟨bt,0,none⟩),.int .i64 0])∧TabNew W W' n0 bt { V with vN:=vN,vP:=vP } vK M N L∧Good M N L∧N.length≤200
theorem beginT2_any {W:World} {M:Mach} {n0:Nat} {vR vC vO vA vS:Value} (hm:MachIn W n0 vR vC vO vA vS M) (hn:n0≤W.heap.size) (p:Int) :
  Calls Tryz.prog 71 #[.agg #[.string M.name,vR,vC,vO,vA,.string M.result,vS,.int .i64 M.slots],.int .i64 p] W (BeginPost2 W n0 ⟨vR,vC,vO,vA,vS,.slice none 0 0,.slice none 0 0⟩ M (beginS (decide (4≤p)) M)):=by
 obtain ⟨aR,cR,rfl,_,_⟩:=hm.regs.form
 obtain ⟨aC,cC,rfl,_,_⟩:=hm.cls.form
 obtain ⟨aO,cO,rfl,_,_⟩:=hm.ops.form
 obtain ⟨aA,cA,rfl,_,_⟩:=hm.args.form
 obtain ⟨aS,cS,rfl,_,_⟩:=hm.saved.form
 have HM:=qh hm
 obtain ⟨res,hres⟩:∃ x,beginS (decide (4≤p)) M=x:=⟨_,rfl⟩
 rw [hres]
 unfold beginS headS at hres
 have hcc:=cells_one W [.string M.name,.slice aR M.regs.length cR,.slice aC M.classes.length cC,.slice aO M.ops.length cO,.slice aA M.args.length cA,.string M.result,.slice aS M.saved.length cS,.int .i64 M.slots] 27
 have d0:=hcc 0 _ rfl
 have d1:=hcc 1 _ rfl
 have d2:=hcc 2 _ rfl
 have d3:=hcc 3 _ rfl
 have d4:=hcc 4 _ rfl
 have d5:=hcc 5 _ rfl
 have d6:=hcc 6 _ rfl
 have d7:=hcc 7 _ rfl
 have x0:Ext W (W.alloc (.cells #[.string M.name,.slice aR M.regs.length cR,.slice aC M.classes.length cC,.slice aO M.ops.length cO,.slice aA M.args.length cA,.string M.result,.slice aS M.saved.length cS,.int .i64 M.slots] 27)):=Ext.alloc _ _
 have HN:=qh hn
 clear hcc hm hn
 go_enter Tryz.func71,Tryz.ntmps71
 go_upto_region 1 with (fail)
 generalize W.alloc (.cells #[.string M.name,.slice aR M.regs.length cR,.slice aC M.classes.length cC,.slice aO M.ops.length cO,.slice aA M.args.length cA,.string M.result,.slice aS M.saved.length cS,.int .i64 M.slots] 27)=w1 at x0 d0 d1 d2 d3 d4 d5 d6 d7 ⊢
 generalize W.heap.size=b0 at d0 d1 d2 d3 d4 d5 d6 d7 ⊢
 have X0:=qh x0
 have hnm:=qh (namedR_any M.name w1)
 cases hn:namedS M.name with
 | false =>
  rw [hn] at hnm
  rw [hn,if_neg (by decide)] at hres
  dsimp only at hres
  subst hres
  clear hn x0
  go_wp2_with (go_at_call 94;refine hnm.out.mono ?_;rintro e w' ⟨rfl,rfl⟩)
  refine bodyPost_ret (v:=.tuple #[.pointer none,.int .i64 5]) (by simp [results,Tryz.results71,go_sem]) rfl ?_
  exact ⟨X0.out,rfl⟩
 | true =>
 rw [hn] at hnm
 rw [hn,if_pos rfl] at hres
 clear hn
 have hpl:=qh (placesR_any (v:=.slice aR M.regs.length cR) (HM.out.regs.ext HN.out x0) (Nat.le_trans HN.out x0.size))
 clear x0
 cases hp:placesS M.regs with
 | error x =>
  rw [hp] at hpl hres
  dsimp only at hres
  subst hres
  have hx0:=downS_ne0 7 1 M.regs wk0 x hp
  have hx1:(x != 0)=true:=by simpa using hx0
  clear hp hx0
  go_wp2_with (first
   | (go_at_call 94;refine hnm.out.mono ?_;rintro e w' ⟨rfl,rfl⟩)
   | (go_at_call 95;refine hpl.out.mono ?_;rintro e w2 ⟨hx2,rfl⟩;have X2:=qh hx2;clear hx2))
  refine bodyPost_ret (v:=.tuple #[.pointer none,.int .i64 x]) (by simp [results,Tryz.results71,go_sem]) rfl ?_
  exact ⟨X0.out.trans X2.out,rfl⟩
 | ok σ =>
 rw [hp] at hpl hres
 dsimp only at hres
 have hgd:=placesS_tight hp
 have HGD:=qh hgd
 clear hp hgd
 by_cases hz:σ.names.length=0
 ·rw [if_neg (by omega)] at hres
  dsimp only at hres
  subst hres
  go_upto_region 5 with (first
   | (go_at_call 94;refine hnm.out.mono ?_;rintro e w' ⟨rfl,rfl⟩)
   | (go_at_call 95;refine hpl.out.mono ?_;rintro e w2 ⟨hx2,vN,vP,rfl,hN,hP⟩;have X2:=qh hx2;have HNM:=qh hN;obtain ⟨aN,cN,eN,_,_⟩:=(Row.of_owns hN).shape;subst eN;clear hx2 hN hP))
  have hz1:((σ.names.length:Int) == 0)=true:=by simp [hz]
  go_wp2_with fail
  refine bodyPost_ret (v:=.tuple #[.pointer none,.int .i64 1]) (by simp [results,Tryz.results71,go_sem]) rfl ?_
  exact ⟨X0.out.trans X2.out,rfl⟩
 rw [if_pos (by omega)] at hres
 dsimp only at hres
 have hz1:((σ.names.length:Int) == 0)=false:=by simp [hz]
 go_upto_region 9 with (first
   | (go_at_call 94;refine hnm.out.mono ?_;rintro e w' ⟨rfl,rfl⟩)
   | (go_at_call 95;refine hpl.out.mono ?_;rintro e w2 ⟨hx2,vN,vP,rfl,hN,hP⟩;have X2:=qh hx2;have HNM:=qh hN;have HPL:=qh hP;obtain ⟨aN,cN,eN,_,_⟩:=(Row.of_owns hN).shape;obtain ⟨aP,cP,eP,_,_⟩:=(Row.of_owns hP).shape;subst eN eP;clear hx2 hN hP))
 have d0:=xc X2.out d0
 have d1:=xc X2.out d1
 have d2:=xc X2.out d2
 have d3:=xc X2.out d3
 have d4:=xc X2.out d4
 have d5:=xc X2.out d5
 have d6:=xc X2.out d6
 have d7:=xc X2.out d7
 have X02:=qh (X0.out.trans X2.out)
 have x3:Ext w2 (w2.alloc (.cells #[.string M.name,.slice aR M.regs.length cR,.slice aC M.classes.length cC,.slice aO M.ops.length cO,.slice aA M.args.length cA,.string M.result,.slice aS M.saved.length cS,.int .i64 M.slots,.slice aN σ.names.length cN,.slice aP σ.places.length cP,.slice none 0 0] 48)):=Ext.alloc _ _
 have hb3:=heap_alloc_new w2 (.cells #[.string M.name,.slice aR M.regs.length cR,.slice aC M.classes.length cC,.slice aO M.ops.length cO,.slice aA M.args.length cA,.string M.result,.slice aS M.saved.length cS,.int .i64 M.slots,.slice aN σ.names.length cN,.slice aP σ.places.length cP,.slice none 0 0] 48)
 go_upto_region 10 with (fail)
 generalize w2.alloc (.cells #[.string M.name,.slice aR M.regs.length cR,.slice aC M.classes.length cC,.slice aO M.ops.length cO,.slice aA M.args.length cA,.string M.result,.slice aS M.saved.length cS,.int .i64 M.slots,.slice aN σ.names.length cN,.slice aP σ.places.length cP,.slice none 0 0] 48)=w3 at x3 hb3 ⊢
 have TG:TabG w3 n0 w2.heap.size w3.heap.size ⟨.slice aR M.regs.length cR,.slice aC M.classes.length cC,.slice aO M.ops.length cO,.slice aA M.args.length cA,.slice aS M.saved.length cS,.slice aN σ.names.length cN,.slice aP σ.places.length cP⟩ (.slice none 0 0) M σ.names σ.places [] :=
  ⟨hb3,Nat.le_trans HN.out X02.out.size,Nat.le_trans HN.out (Nat.le_trans X02.out.size x3.size),HM.out.same fun k hk=>Below.block (X02.out.trans x3) k (Nat.lt_of_lt_of_le hk HN.out),
   owns_ext (owns_base HNM.out (Nat.zero_le _)) x3,owns_ext (owns_base HPL.out (Nat.zero_le _)) x3,HGD.out.2,HGD.out.1.lp,[],rfl,World.ownsRow_nil _ _ _ _,fun i c u hc=>by simp at hc⟩
 have hcl:=qh (classesT_any TG)
 have HN4:Hid (∀ w,Keep (fun k=>k=w2.heap.size) w3 w→w.ownsRow W.heap.size 9 1 (.slice aN σ.names.length cN) σ.names.length (σ.names.map Value.string)):=qh (fun w k=>owns_same (owns_ext (owns_base HNM.out X0.out.size) x3) (fun q e=>k.block q (Nat.lt_of_lt_of_le (HNM.out.lt q e).2 x3.size) (fun e2=>by have:=(HNM.out.lt q e).2;omega)))
 have X3:=qh (X02.out.trans x3)
 have hbt:Hid (W.heap.size≤w2.heap.size):=qh X02.out.size
 clear TG hb3 x3
 generalize w2.heap.size=bt at hcl hbt HN4 ⊢
 unfold coreC at hres
 obtain ⟨ce,hce⟩:∃ x,clssC M σ.names σ.places=x:=⟨_,rfl⟩
 rw [hce] at hcl hres
 have HCE:=qh hce
 clear hce
 have KX:Hid (∀ w,Keep (fun k=>k=bt) w3 w→Ext W w):=qh (fun w k=>Keep.toExt ((Keep.of_ext X3.out:Keep (fun k=>W.heap.size≤k) W w3).trans k (fun i hi e=>by have:=hbt.out;omega)) (fun _ h=>h))
 by_cases k1:ce=0
 case neg =>
  rw [if_neg k1,if_neg k1] at hres
  subst hres
  have k1a:(ce == 0)=false:=by simpa using k1
  have k1b:(ce != 0)=true:=by simpa using k1
  clear k1
  go_wp2_with (go_at_call 96;refine hcl.out.mono ?_;rintro e w4 ⟨rfl,hk4,_⟩;have K4:=qh hk4;clear hk4)
  refine bodyPost_ret (v:=.tuple #[.pointer none,.int .i64 ce]) (by simp [results,Tryz.results71,go_sem]) rfl ?_
  exact ⟨KX.out _ K4.out,rfl⟩
 case pos =>
 subst k1
 rw [if_pos rfl] at hres
 have HGO:=qh (classes_good (classes_zero HGD.out.1.lp HCE.out))
 go_upto_region 11 with (go_at_call 96;refine hcl.out.mono ?_;rintro e w4 ⟨rfl,hk4,ht4⟩;obtain ⟨vK,ht5⟩:=ht4 rfl;have K4:=qh hk4;have T4:=qh ht5.tab;have G4:=qh (And.intro ht5 (HN4.out _ hk4));clear hk4 ht4 ht5)
 have X4:=qh (KX.out _ K4.out)
 by_cases hp4:(4:Int)≤p
 case neg =>
  have hp4d:decide ((4:Int)≤p)=false:=decide_eq_false hp4
  rw [hp4d,if_neg (show ¬ (false=true) by decide),if_pos rfl] at hres
  subst hres
  go_wp2_with fail
  refine bodyPost_ret (v:=.tuple #[.pointer (some ⟨bt,0,none⟩),.int .i64 0]) (by simp [results,Tryz.results71,go_sem]) rfl ?_
  exact ⟨X4.out,bt,_,_,vK,rfl,⟨_,G4.out.1,G4.out.2⟩,HGO.out,HGD.out.1.ln⟩
 case pos =>
 have hp4d:decide ((4:Int)≤p)=true:=decide_eq_true hp4
 rw [hp4d,if_pos rfl] at hres
 have hop:=qh (opsT_any T4.out (HGO.out.nums HGD.out.1.lp))
 obtain ⟨oe,hoe⟩:∃ x,opsC M σ.names σ.places (numsC σ.names M.classes)=x:=⟨_,rfl⟩
 rw [hoe] at hop hres
 clear hoe
 by_cases k2:oe=0
 ·subst k2
  rw [if_pos rfl] at hres
  subst hres
  go_wp2_with (go_at_call 97;refine hop.out.mono ?_;rintro e w5 ⟨rfl,hx5⟩;have X5:=qh hx5;clear hx5)
  refine bodyPost_ret (v:=.tuple #[.pointer (some ⟨bt,0,none⟩),.int .i64 0]) (by simp [results,Tryz.results71,go_sem]) rfl ?_
  exact ⟨X4.out.trans X5.out,bt,_,_,vK,rfl,⟨_,G4.out.1.ext X5.out,owns_ext G4.out.2 X5.out⟩,HGO.out,HGD.out.1.ln⟩
 ·rw [if_neg k2] at hres
  subst hres
  have k2b:(oe != 0)=true:=by simpa using k2
  clear k2
  go_wp2_with (go_at_call 97;refine hop.out.mono ?_;rintro e w5 ⟨rfl,hx5⟩;have X5:=qh hx5;clear hx5)
  refine bodyPost_ret (v:=.tuple #[.pointer none,.int .i64 oe]) (by simp [results,Tryz.results71,go_sem]) rfl ?_
  exact ⟨X4.out.trans X5.out,rfl⟩
end Go.Proofs.YtligiddaampneaaGreat
