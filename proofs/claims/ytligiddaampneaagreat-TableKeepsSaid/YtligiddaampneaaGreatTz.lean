/- What a table tells of the convention. -/
import Derived.Test.YtligiddaampneaaGreatMu
import Derived.Test.YtligiddaampneaaGreatTy
set_option maxRecDepth 100000
set_option maxHeartbeats 4000000
namespace Go.Proofs.YtligiddaampneaaGreat
open Go.RowKit
attribute [local go_sem] Oper.semAt_some
section
variable {W : World} {bt : Nat} {V : TV} {M : Mach} {N : List ByteArray} {L : List Pl}
theorem tmachine_any (h:TblIn W bt V M N L) (hs:SmallM M):Calls Tryz.prog 23 #[.pointer (some ⟨bt,0,none⟩)] W fun e w'=>∃ uR uC uO uA uS,e=.returned (.agg #[.string M.name,uR,uC,uO,uA,.string M.result,uS,.int .i64 M.slots])∧MachIn w' w'.heap.size uR uC uO uA uS M∧Ext W w':=by
 have hbt:=h.lt
 have hmm:=h.m
 have hb:=h.blk
 obtain ⟨vR,vC,vO,vA,vS,vN,vP,vL,vOf,vI,vM,vK,vSv,vAr,vKp,r,rk,ro⟩:=V
 dsimp only at hmm
 obtain ⟨aR,cR,rfl,_,_⟩:=hmm.regs.form
 obtain ⟨aC,cC,rfl,_,_⟩:=hmm.cls.form
 obtain ⟨aO,cO,rfl,_,_⟩:=hmm.ops.form
 obtain ⟨aA,cA,rfl,_,_⟩:=hmm.args.form
 obtain ⟨aS,cS,rfl,_,_⟩:=hmm.saved.form
 have x1:Ext W (W.alloc (.cells #[.string ⟨#[]⟩,.slice none 0 0,.slice none 0 0,.slice none 0 0,.slice none 0 0,.string ⟨#[]⟩,.slice none 0 0,.int .i64 0] 27)):=Ext.alloc _ _
 have r0:=heap_alloc_new W (.cells #[.string ⟨#[]⟩,.slice none 0 0,.slice none 0 0,.slice none 0 0,.slice none 0 0,.string ⟨#[]⟩,.slice none 0 0,.int .i64 0] 27)
 have hb1:=x1.block hb
 have HCP:=qh (copied_any (hmm.same fun k hk=>Below.block x1 k (by omega)) (by have:=x1.size;omega) hs)
 have d0:=blk_cell hb1 0 _ rfl
 have d1:=blk_cell hb1 1 _ rfl
 have d2:=blk_cell hb1 2 _ rfl
 have d3:=blk_cell hb1 3 _ rfl
 have d4:=blk_cell hb1 4 _ rfl
 have d5:=blk_cell hb1 5 _ rfl
 have d6:=blk_cell hb1 6 _ rfl
 have d7:=blk_cell hb1 7 _ rfl
 clear h hmm hb hb1 hs
 go_enter Tryz.func23,Tryz.ntmps23
 go_upto_region 1 with (fail)
 generalize W.alloc (.cells #[.string ⟨#[]⟩,.slice none 0 0,.slice none 0 0,.slice none 0 0,.slice none 0 0,.string ⟨#[]⟩,.slice none 0 0,.int .i64 0] 27)=w1 at x1 r0 HCP d0 d1 d2 d3 d4 d5 d6 d7 ⊢
 generalize hb2:W.heap.size=b2 at r0 hbt ⊢
 have X1:=qh x1
 have R0:=qh r0
 have lr1:=(Array.getElem?_eq_some_iff.1 r0).1
 clear x1 r0
 have z:=fun (w:World) (hw:Ext w1 w) j v h=>blk_cell (l:=[.string ⟨#[]⟩,.slice none 0 0,.slice none 0 0,.slice none 0 0,.slice none 0 0,.string ⟨#[]⟩,.slice none 0 0,.int .i64 0]) (hw.block R0.out) j v h
 have y:=fun (w:World) (hw:Ext w1 w) j=>blk_free (l:=[.string ⟨#[]⟩,.slice none 0 0,.slice none 0 0,.slice none 0 0,.slice none 0 0,.string ⟨#[]⟩,.slice none 0 0,.int .i64 0]) (hw.block R0.out) j
 have Z:=qh z
 have Y:=qh y
 clear z y
 go_wp2_with (go_at_call 57;refine HCP.out.mono ?_;rintro e w2 ⟨uR,uC,uO,uA,uS,rfl,hmc,hx2⟩;have hmi:=hmc w2 (fun _ _ _=>rfl);obtain ⟨f1,g1,e1,_,_⟩:=hmi.regs.form;obtain ⟨f2,g2,e2,_,_⟩:=hmi.cls.form;obtain ⟨f3,g3,e3,_,_⟩:=hmi.ops.form;obtain ⟨f4,g4,e4,_,_⟩:=hmi.args.form;obtain ⟨f5,g5,e5,_,_⟩:=hmi.saved.form;subst e1 e2 e3 e4 e5;have z0:=Z.out w2 hx2 0 _ rfl;have z1:=Z.out w2 hx2 1 _ rfl;have z2:=Z.out w2 hx2 2 _ rfl;have z3:=Z.out w2 hx2 3 _ rfl;have z4:=Z.out w2 hx2 4 _ rfl;have z5:=Z.out w2 hx2 5 _ rfl;have z6:=Z.out w2 hx2 6 _ rfl;have z7:=Z.out w2 hx2 7 _ rfl;have y0:=Y.out w2 hx2 0;have y1:=Y.out w2 hx2 1;have y2:=Y.out w2 hx2 2;have y3:=Y.out w2 hx2 3;have y4:=Y.out w2 hx2 4;have y5:=Y.out w2 hx2 5;have y6:=Y.out w2 hx2 6;have y7:=Y.out w2 hx2 7;have lr:=(Array.getElem?_eq_some_iff.1 (hx2.block R0.out)).1;have X2:=qh hx2;have MC:=qh hmc;clear hx2 hmc hmi)
 have he:=eight (v0:=.string M.name) (v1:=.slice f1 M.regs.length g1) (v2:=.slice f2 M.classes.length g2) (v3:=.slice f3 M.ops.length g3) (v4:=.slice f4 M.args.length g4) (v5:=.string M.result) (v6:=.slice f5 M.saved.length g5) (v7:=.int .i64 M.slots) (X2.out.block R0.out)
 refine bodyPost_ret (results_cell_row rfl _ _ b2 27 #[.string M.name,.slice f1 M.regs.length g1,.slice f2 M.classes.length g2,.slice f3 M.ops.length g3,.slice f4 M.args.length g4,.string M.result,.slice f5 M.saved.length g5,.int .i64 M.slots] (0,0) _ rfl he.1 Tryz.underlying27 rfl (by kernel_rfl)) rfl ?_
 have hz1:=X2.out.size
 have hz2:=he.2.size
 refine ⟨_,_,_,_,_,rfl,?_,?_⟩
 ·have:=MC.out _ (fun k h1 h2=>he.2.block k h2 (fun e=>by omega))
  exact this.up (by omega)
 ·exact (X1.out.trans X2.out).keep he.2 (fun q e=>by omega)
end
end Go.Proofs.YtligiddaampneaaGreat
