/- Two descriptions compared: that those that are one are the same. -/
import Derived.Test.YtligiddaampneaaGreatTj
import Derived.Test.YtligiddaampneaaGreatRefC
set_option maxRecDepth 100000
set_option maxHeartbeats 16000000
namespace Go.Proofs.YtligiddaampneaaGreat
open Go.RowKit
attribute [local go_sem] Oper.semAt_some
theorem sameNames_any {W:World} {n0 n1:Nat} {u v:Value} {l:List ByteArray} (hu:StrsIn W n0 u l) (h0:n0≤W.heap.size) (hv:StrsIn W n1 v l) (h1:n1≤W.heap.size):Calls Tryz.prog 56 #[u,v] W fun e w'=>e=.returned (.bool true)∧Ext W w':=by
 obtain ⟨aU,cU,rfl,_,hu2⟩:=hu.form
 obtain ⟨aV,cV,rfl,_,hv2⟩:=hv.form
 unfold maxLen at hu2 hv2
 have HU:=qh hu
 have HV:=qh hv
 clear hu hv
 have hlz:((l.length:Int) != (l.length:Int))=false:=by simp
 go_enter Tryz.func56,Tryz.ntmps56
 go_wp2_with fail
 go_loopw [5] (fun iv wr=>∃ i:Nat,i≤l.length∧iv=.int .i64 i∧Hid (Ext W wr)) (fun iv _=>l.length - (intOf iv).toNat)
 case atStart=>exact ⟨0,by omega,rfl,qh (Ext.refl _)⟩
 case round =>
  obtain ⟨i,hi,rfl,hin⟩:=hrel
  rename World=>w2
  by_cases hli:i<l.length
  ·have hiz:(i:Int)<(l.length:Int):=by omega
   obtain ⟨s,hs⟩:∃ x,l[i]?=some x:=⟨_,lE hli⟩
   obtain ⟨b1,o1,k1,e1,_,_,_,x1⟩:=StrsIn.at (HU.out.ext h0 hin.out) hs
   obtain ⟨b2,o2,k2,e2,_,_,_,y1⟩:=StrsIn.at (HV.out.ext h1 hin.out) hs
   cases e1
   cases e2
   have hss:(s.toList == s.toList)=true:=by simp
   clear hs
   go_upto_region 6 with (fail)
   go_quiet (fail)
   have xq:=Ext.drewN w2 nq
   go_wp2_with fail
   go_roundw
   case rel=>exact ⟨i+1,by omega,by go_num,qh (hin.out.trans xq)⟩
   case measure=>simp [intOf];omega
  ·have hiz:¬ (i:Int)<(l.length:Int):=by omega
   go_wp2_with fail
   go_ret
   exact ⟨rfl,hin.out⟩
theorem sameRegs_step {l:List RegT} {W:World} {n0 n1:Nat} {u v:Value} (hu:RegsIn W n0 u l) (h0:n0≤W.heap.size) (hv:RegsIn W n1 v l) (h1:n1≤W.heap.size)
  (hsub:∀ r∈l,∀ (w:World) (n0 n1:Nat) (u v:Value),RegsIn w n0 u r.subs→n0≤w.heap.size→RegsIn w n1 v r.subs→n1≤w.heap.size→Calls Tryz.prog 55 #[u,v] w fun e w'=>e=.returned (.bool true)∧Ext w w') :
  Calls Tryz.prog 55 #[u,v] W fun e w'=>e=.returned (.bool true)∧Ext W w':=by
 obtain ⟨aU,cU,rfl,_,hu2⟩:=hu.form
 obtain ⟨aV,cV,rfl,_,hv2⟩:=hv.form
 unfold maxLen at hu2 hv2
 have HU:=qh hu
 have HV:=qh hv
 have HSUB:=qh hsub
 clear hu hv hsub
 have hlz:((l.length:Int) != (l.length:Int))=false:=by simp
 go_enter Tryz.func55,Tryz.ntmps55
 go_wp2_with fail
 go_loopw [5] (fun iv wr=>∃ i:Nat,i≤l.length∧iv=.int .i64 i∧Hid (Ext W wr)) (fun iv _=>l.length - (intOf iv).toNat)
 case atStart=>exact ⟨0,by omega,rfl,qh (Ext.refl _)⟩
 case round =>
  obtain ⟨i,hi,rfl,hin⟩:=hrel
  rename World=>w2
  by_cases hli:i<l.length
  ·have hiz:(i:Int)<(l.length:Int):=by omega
   obtain ⟨r,hr⟩:∃ x,l[i]?=some x:=⟨_,lE hli⟩
   obtain ⟨b1,o1,k1,ua1,uc1,e1,_,_,_,p0,p1,p2,p3,hs1,_,_⟩:=RegsIn.at (HU.out.ext h0 hin.out) hr
   obtain ⟨b2,o2,k2,ua2,uc2,e2,_,_,_,q0,q1,q2,q3,hs2,_,_⟩:=RegsIn.at (HV.out.ext h1 hin.out) hr
   cases e1
   cases e2
   have hss:(r.name.toList == r.name.toList)=true:=by simp
   have hww:(r.width != r.width)=false:=by simp
   have hbb:(r.beg != r.beg)=false:=by simp
   have HSB:=qh (HSUB.out r (List.mem_of_getElem? hr))
   have HS12:=qh (And.intro hs1 hs2)
   have hz2:=hin.out.size
   have X2:=qh hin.out
   clear hr hs1 hs2 hin
   go_upto_region 6 with (fail)
   go_quiet (fail)
   have xq:=Ext.drewN w2 nq
   have p3:=xc xq p3
   have q3:=xc xq q3
   go_upto_region 8 with (fail)
   generalize w2.drewN nq=w3 at xq p3 q3 ⊢
   have HCALL:=qh (fun (w:World) (x:Ext w3 w)=>HSB.out w n0 n1 (.slice ua1 r.subs.length uc1) (.slice ua2 r.subs.length uc2) (RegsIn.ext HS12.out.1 (by omega) (xq.trans x)) (Nat.le_trans h0 (Nat.le_trans hz2 (xq.trans x).size)) (RegsIn.ext HS12.out.2 (by omega) (xq.trans x)) (Nat.le_trans h1 (Nat.le_trans hz2 (xq.trans x).size)))
   have XQ:=qh xq
   clear xq
   rename_i K1 hK1
   have hK1:=qh hK1
   refine wp_region_M (fun w'=>Ext w3 w') 10 (by kernel_rfl) (Ext.drew _) (fun hS=>?_)
   refine' tk 0 hS ?_ ?_;rotate_left;·intros;go_simp;try rfl
   refine' tk 1 hS ?_ ?_;rotate_left;·intros;go_simp;try rfl
   refine' tk 2 hS ?_ ?_;rotate_left;·intros;go_simp;try rfl
   try simp only [tD]
   refine' tk 3 hS ?_ ?_;rotate_left;·intros;go_simp;try rfl
   refine' tk 4 hS ?_ ?_;rotate_left;·intro w hSw;have z0:=xc hSw p3;go_simp;try rfl
   refine' tk 5 hS ?_ ?_;rotate_left;·intros;go_simp;try rfl
   try simp only [tD]
   refine' tk 6 hS ?_ ?_;rotate_left;·intros;go_simp;try rfl
   refine' tk 7 hS ?_ ?_;rotate_left;·intros;go_simp;try rfl
   refine' tk 8 hS ?_ ?_;rotate_left;·intros;go_simp;try rfl
   try simp only [tD]
   refine' tk 9 hS ?_ ?_;rotate_left;·intro w hSw;have z1:=xc hSw q3;go_simp;try rfl
   try simp only [tD]
   generalize w3.drew=w4 at hS ⊢
   refine rl 10 fun K hK=>?_
   go_simp
   refine ((HCALL.out w4 hS)).mono ?_
   rintro e w5 ⟨rfl,hx5⟩
   have X5:=qh ((X2.out.trans XQ.out).trans (hS.trans hx5))
   refine hK.out _ _ ?_
   try simp only [tD]
   clear hK K
   refine' tw 11 ?_ ?_;rotate_left;·intros;go_simp;try rfl
   try simp only [tD]
   refine wpAnyM_done (by kernel_rfl) ?_ _
   refine hK1.out _ _ ?_
   clear hS
   go_wp2_with fail
   go_roundw
   case rel=>exact ⟨i+1,by omega,by go_num,qh X5.out⟩
   case measure=>simp [intOf];omega
  ·have hiz:¬ (i:Int)<(l.length:Int):=by omega
   go_wp2_with fail
   go_ret
   exact ⟨rfl,hin.out⟩
theorem sameRegs_any:∀ (k:Nat) {l:List RegT} {W:World} {n0 n1:Nat} {u v:Value},smallT k l→RegsIn W n0 u l→n0≤W.heap.size→RegsIn W n1 v l→n1≤W.heap.size →
  Calls Tryz.prog 55 #[u,v] W fun e w'=>e=.returned (.bool true)∧Ext W w':=by
 intro k
 induction k with
 | zero =>
  intro l W n0 n1 u v hs hu h0 hv h1
  have hl:l=[]:=hs
  subst hl
  exact sameRegs_step hu h0 hv h1 (fun r hr=>by cases hr)
 | succ k ih =>
  intro l W n0 n1 u v hs hu h0 hv h1
  exact sameRegs_step hu h0 hv h1 (fun r hr w m0 m1 a b ha hm0 hb hm1=>ih (hs.2 r hr) ha hm0 hb hm1)
theorem sameM_any {W:World} {M:Mach} {n0 n1:Nat} {vR vC vO vA vS uR uC uO uA uS:Value} (hm:MachIn W n0 vR vC vO vA vS M) (h0:n0≤W.heap.size) (hn:MachIn W n1 uR uC uO uA uS M) (h1:n1≤W.heap.size) (hs:smallT 6 M.regs) :
  Calls Tryz.prog 22 #[.agg #[.string M.name,vR,vC,vO,vA,.string M.result,vS,.int .i64 M.slots],.agg #[.string M.name,uR,uC,uO,uA,.string M.result,uS,.int .i64 M.slots]] W fun e w'=>e=.returned (.bool true)∧Ext W w':=by
 obtain ⟨aR,cR,rfl,_,_⟩:=hm.regs.form
 obtain ⟨aC,cC,rfl,hC1,hC2⟩:=hm.cls.form
 obtain ⟨aO,cO,rfl,hO1,hO2⟩:=hm.ops.form
 unfold maxLen at hC2 hO2
 obtain ⟨aA,cA,rfl,_,_⟩:=hm.args.form
 obtain ⟨aS,cS,rfl,_,_⟩:=hm.saved.form
 obtain ⟨bR,dR,rfl,_,_⟩:=hn.regs.form
 obtain ⟨bC,dC,rfl,_,_⟩:=hn.cls.form
 obtain ⟨bO,dO,rfl,_,_⟩:=hn.ops.form
 obtain ⟨bA,dA,rfl,_,_⟩:=hn.args.form
 obtain ⟨bS,dS,rfl,_,_⟩:=hn.saved.form
 have x0:Ext W ((W.alloc (.cells #[.string M.name,.slice aR M.regs.length cR,.slice aC M.classes.length cC,.slice aO M.ops.length cO,.slice aA M.args.length cA,.string M.result,.slice aS M.saved.length cS,.int .i64 M.slots] 27)).alloc (.cells #[.string M.name,.slice bR M.regs.length dR,.slice bC M.classes.length dC,.slice bO M.ops.length dO,.slice bA M.args.length dA,.string M.result,.slice bS M.saved.length dS,.int .i64 M.slots] 27)):=(Ext.alloc _ _).trans (Ext.alloc _ _)
 have HM:=qh (fun (w:World) (x:Ext W w)=>hm.same (W':=w) fun k hk=>Below.block x k (by omega))
 have HN:=qh (fun (w:World) (x:Ext W w)=>hn.same (W':=w) fun k hk=>Below.block x k (by omega))
 obtain ⟨hc1,hc2⟩:=cells_two W [.string M.name,.slice aR M.regs.length cR,.slice aC M.classes.length cC,.slice aO M.ops.length cO,.slice aA M.args.length cA,.string M.result,.slice aS M.saved.length cS,.int .i64 M.slots] [.string M.name,.slice bR M.regs.length dR,.slice bC M.classes.length dC,.slice bO M.ops.length dO,.slice bA M.args.length dA,.string M.result,.slice bS M.saved.length dS,.int .i64 M.slots] 27 27
 have d0:=hc1 0 _ rfl
 have d1:=hc1 1 _ rfl
 have d2:=hc1 2 _ rfl
 have d3:=hc1 3 _ rfl
 have d4:=hc1 4 _ rfl
 have d5:=hc1 5 _ rfl
 have d6:=hc1 6 _ rfl
 have d7:=hc1 7 _ rfl
 have e0:=hc2 0 _ rfl
 have e1:=hc2 1 _ rfl
 have e2:=hc2 2 _ rfl
 have e3:=hc2 3 _ rfl
 have e4:=hc2 4 _ rfl
 have e5:=hc2 5 _ rfl
 have e6:=hc2 6 _ rfl
 have e7:=hc2 7 _ rfl
 have HS:=qh hs
 clear hm hn hc1 hc2 hs
 have hss:∀ s:ByteArray,(s.toList == s.toList)=true:=fun s=>by simp
 have hn1:=hss M.name
 have hn2:=hss M.result
 have hn3:(M.slots != M.slots)=false:=by simp
 have hn4:((M.classes.length:Int) != (M.classes.length:Int))=false:=by simp
 have hn5:((M.ops.length:Int) != (M.ops.length:Int))=false:=by simp
 have HSS:=qh hss
 clear hss
 go_enter Tryz.func22,Tryz.ntmps22
 go_upto_region 1 with (fail)
 generalize (W.alloc (.cells #[.string M.name,.slice aR M.regs.length cR,.slice aC M.classes.length cC,.slice aO M.ops.length cO,.slice aA M.args.length cA,.string M.result,.slice aS M.saved.length cS,.int .i64 M.slots] 27)).alloc (.cells #[.string M.name,.slice bR M.regs.length dR,.slice bC M.classes.length dC,.slice bO M.ops.length dO,.slice bA M.args.length dA,.string M.result,.slice bS M.saved.length dS,.int .i64 M.slots] 27)=w1 at x0 d0 d1 d2 d3 d4 d5 d6 d7 e0 e1 e2 e3 e4 e5 e6 e7 ⊢
 generalize W.heap.size+1=m2 at e0 e1 e2 e3 e4 e5 e6 e7 ⊢
 generalize hb0:W.heap.size=m1 at d0 d1 d2 d3 d4 d5 d6 d7 ⊢
 have HB0:=qh hb0
 have X0:=qh x0
 clear x0 hb0
 have HRG:=qh (fun (w:World) (x:Ext W w)=>sameRegs_any 6 HS.out (HM.out w x).regs (Nat.le_trans h0 x.size) (HN.out w x).regs (Nat.le_trans h1 x.size))
 have HAR:=qh (fun (w:World) (x:Ext W w)=>sameNames_any (HM.out w x).args (Nat.le_trans h0 x.size) (HN.out w x).args (Nat.le_trans h1 x.size))
 have HSV:=qh (fun (w:World) (x:Ext W w)=>sameNames_any (HM.out w x).saved (Nat.le_trans h0 x.size) (HN.out w x).saved (Nat.le_trans h1 x.size))
 go_wp2_with (first
  | (go_at_call 55;refine (HRG.out w1 X0.out).mono ?_;rintro e w2 ⟨rfl,hx2⟩;have X2:=qh (X0.out.trans hx2);have d2:=hx2.cell d2;have d3:=hx2.cell d3;have d4:=hx2.cell d4;have d6:=hx2.cell d6;have e2:=hx2.cell e2;have e3:=hx2.cell e3;have e4:=hx2.cell e4;have e6:=hx2.cell e6;clear hx2)
  | (go_at_call 56;(with_reducible refine (HAR.out w2 X2.out).mono ?_);rintro e w3 ⟨rfl,hx3⟩;have X3:=qh (X2.out.trans hx3);have d2:=hx3.cell d2;have d3:=hx3.cell d3;have d6:=hx3.cell d6;have e2:=hx3.cell e2;have e3:=hx3.cell e3;have e6:=hx3.cell e6;clear hx3)
  | (go_at_call 56;(with_reducible refine (HSV.out w3 X3.out).mono ?_);rintro e w4 ⟨rfl,hx4⟩;have X4:=qh (X3.out.trans hx4);have d2:=hx4.cell d2;have d3:=hx4.cell d3;have e2:=hx4.cell e2;have e3:=hx4.cell e3;clear hx4))
 clear d0 d1 d4 d5 d6 d7 e0 e1 e4 e5 e6 e7 HRG HAR HSV
 go_loopw [8] (fun iv wr=>∃ i:Nat,i≤M.classes.length∧iv=.int .i64 i∧Hid (Ext w4 wr)) (fun iv _=>M.classes.length - (intOf iv).toNat)
 case atStart=>exact ⟨0,by omega,rfl,qh (Ext.refl _)⟩
 case round =>
  obtain ⟨i,hi,rfl,hin⟩:=hrel
  rename World=>w5
  have d2:=hin.out.cell d2
  have e2:=hin.out.cell e2
  by_cases hli:i<M.classes.length
  ·have hiz:(i:Int)<(M.classes.length:Int):=by omega
   obtain ⟨c,hc⟩:∃ x,M.classes[i]?=some x:=⟨_,lE hli⟩
   have X5:=qh (X4.out.trans hin.out)
   obtain ⟨b1,o1,k1,u1,f1,_,_,_,p0,p1,g1⟩:=(HM.out w5 X5.out).cls.at hc
   obtain ⟨b2,o2,k2,u2,f2,_,_,_,q0,q1,g2⟩:=(HN.out w5 X5.out).cls.at hc
   cases f1
   cases f2
   obtain ⟨ua,uc,rfl,_,_⟩:=g1.form
   obtain ⟨va,vc,rfl,_,_⟩:=g2.form
   have hss:=HSS.out c.name
   have hz5:=X5.out.size
   have HC:=qh (fun (w:World) (x:Ext w5 w)=>sameNames_any (g1.ext (by omega) x) (Nat.le_trans h0 (Nat.le_trans hz5 x.size)) (g2.ext (by omega) x) (Nat.le_trans h1 (Nat.le_trans hz5 x.size)))
   have X45:=qh hin.out
   clear hc g1 g2 hin
   go_upto_region 11 with (fail)
   rename_i K1 hK1
   have hK1:=qh hK1
   refine wp_region_M (fun w'=>Ext w5 w') 12 (by kernel_rfl) (Ext.drew _) (fun hS=>?_)
   refine' tk 0 hS ?_ ?_;rotate_left;·intros;go_simp;try rfl
   refine' tk 1 hS ?_ ?_;rotate_left;·intro w hSw;have z0:=xc hSw d2;go_simp;try rfl
   refine' tk 2 hS ?_ ?_;rotate_left;·intros;go_simp;try rfl
   try simp only [tD]
   refine' tk 3 hS ?_ ?_;rotate_left;·intros;go_simp;try rfl
   refine' tk 4 hS ?_ ?_;rotate_left;·intros;go_simp;try rfl
   refine' tk 5 hS ?_ ?_;rotate_left;·intro w hSw;have z2:=xc hSw p1;go_simp;try rfl
   try simp only [tD]
   refine' tk 6 hS ?_ ?_;rotate_left;·intros;go_simp;try rfl
   refine' tk 7 hS ?_ ?_;rotate_left;·intro w hSw;have z1:=xc hSw e2;go_simp;try rfl
   refine' tk 8 hS ?_ ?_;rotate_left;·intros;go_simp;try rfl
   try simp only [tD]
   refine' tk 9 hS ?_ ?_;rotate_left;·intros;go_simp;try rfl
   refine' tk 10 hS ?_ ?_;rotate_left;·intros;go_simp;try rfl
   refine' tk 11 hS ?_ ?_;rotate_left;·intro w hSw;have z3:=xc hSw q1;go_simp;try rfl
   try simp only [tD]
   generalize w5.drew=w6 at hS ⊢
   refine rl 12 fun K hK=>?_
   go_simp
   refine ((HC.out w6 hS)).mono ?_
   rintro e w7 ⟨rfl,hx7⟩
   have X57:=qh (hS.trans hx7)
   refine hK.out _ _ ?_
   try simp only [tD]
   clear hK K
   refine' tw 13 ?_ ?_;rotate_left;·intros;go_simp;try rfl
   try simp only [tD]
   refine wpAnyM_done (by kernel_rfl) ?_ _
   refine hK1.out _ _ ?_
   clear hS hx7
   have d2:=X57.out.cell d2
   have e2:=X57.out.cell e2
   have p0:=X57.out.cell p0
   have q0:=X57.out.cell q0
   go_upto_region 12 with (fail)
   go_quiet (fail)
   have xq:=Ext.drewN w7 nq
   go_wp2_with fail
   go_roundw
   case rel=>exact ⟨i+1,by omega,by go_num,qh ((X45.out.trans X57.out).trans xq)⟩
   case measure=>simp [intOf];omega
  ·have hiz:¬ (i:Int)<(M.classes.length:Int):=by omega
   have d3:=hin.out.cell d3
   have e3:=hin.out.cell e3
   have X5:=qh (X4.out.trans hin.out)
   clear hin
   go_wp2_with fail
   clear d2 e2
   go_loopw [10] (fun iv wr=>∃ j:Nat,j≤M.ops.length∧iv=.int .i64 j∧Hid (Ext w5 wr)) (fun iv _=>M.ops.length - (intOf iv).toNat)
   case atStart=>exact ⟨0,by omega,rfl,qh (Ext.refl _)⟩
   case round =>
    obtain ⟨j,hj,rfl,hin⟩:=hrel
    rename World=>w6
    have d3:=hin.out.cell d3
    have e3:=hin.out.cell e3
    by_cases hlj:j<M.ops.length
    ·have hjz:(j:Int)<(M.ops.length:Int):=by omega
     obtain ⟨o,ho⟩:∃ x,M.ops[j]?=some x:=⟨_,lE hlj⟩
     have X6:=qh (X5.out.trans hin.out)
     obtain ⟨b1,o1,k1,u1,c1,f1,_,_,_,p0,p1,p2,p3,p4,p5,g1,l1,_⟩:=(HM.out w6 X6.out).ops.at ho
     obtain ⟨b2,o2,k2,u2,c2,f2,_,_,_,q0,q1,q2,q3,q4,q5,g2,l2,_⟩:=(HN.out w6 X6.out).ops.at ho
     cases f1
     cases f2
     obtain ⟨ua,uc,rfl,_,hu2⟩:=g1.form
     obtain ⟨va,vc,rfl,_,hv2⟩:=g2.form
     obtain ⟨ka,kc,rfl,_,_⟩:=l1.form
     obtain ⟨la,lc,rfl,_,_⟩:=l2.form
     unfold maxLen at hu2 hv2
     have e3a:=xc (Ext.alloc w6 (.cells #[.string o.name,.string o.dfn.cls,.string o.dfn.fix,.slice ua o.uses.length uc,.int .i64 o.tie,.slice ka o.clob.length kc] 60)) e3
     have q0a:=xc (Ext.alloc w6 (.cells #[.string o.name,.string o.dfn.cls,.string o.dfn.fix,.slice ua o.uses.length uc,.int .i64 o.tie,.slice ka o.clob.length kc] 60)) q0
     have q1a:=xc (Ext.alloc w6 (.cells #[.string o.name,.string o.dfn.cls,.string o.dfn.fix,.slice ua o.uses.length uc,.int .i64 o.tie,.slice ka o.clob.length kc] 60)) q1
     have q2a:=xc (Ext.alloc w6 (.cells #[.string o.name,.string o.dfn.cls,.string o.dfn.fix,.slice ua o.uses.length uc,.int .i64 o.tie,.slice ka o.clob.length kc] 60)) q2
     have q3a:=xc (Ext.alloc w6 (.cells #[.string o.name,.string o.dfn.cls,.string o.dfn.fix,.slice ua o.uses.length uc,.int .i64 o.tie,.slice ka o.clob.length kc] 60)) q3
     have q4a:=xc (Ext.alloc w6 (.cells #[.string o.name,.string o.dfn.cls,.string o.dfn.fix,.slice ua o.uses.length uc,.int .i64 o.tie,.slice ka o.clob.length kc] 60)) q4
     have q5a:=xc (Ext.alloc w6 (.cells #[.string o.name,.string o.dfn.cls,.string o.dfn.fix,.slice ua o.uses.length uc,.int .i64 o.tie,.slice ka o.clob.length kc] 60)) q5
     obtain ⟨hc1,hc2⟩:=cells_two w6 [.string o.name,.string o.dfn.cls,.string o.dfn.fix,.slice ua o.uses.length uc,.int .i64 o.tie,.slice ka o.clob.length kc] [.string o.name,.string o.dfn.cls,.string o.dfn.fix,.slice va o.uses.length vc,.int .i64 o.tie,.slice la o.clob.length lc] 60 60
     have x8:Ext w6 ((w6.alloc (.cells #[.string o.name,.string o.dfn.cls,.string o.dfn.fix,.slice ua o.uses.length uc,.int .i64 o.tie,.slice ka o.clob.length kc] 60)).alloc (.cells #[.string o.name,.string o.dfn.cls,.string o.dfn.fix,.slice va o.uses.length vc,.int .i64 o.tie,.slice la o.clob.length lc] 60)):=(Ext.alloc _ _).trans (Ext.alloc _ _)
     have r0:=hc1 0 _ rfl
     have r1:=hc1 1 _ rfl
     have r2:=hc1 2 _ rfl
     have r3:=hc1 3 _ rfl
     have r4:=hc1 4 _ rfl
     have r5:=hc1 5 _ rfl
     have s0:=hc2 0 _ rfl
     have s1:=hc2 1 _ rfl
     have s2:=hc2 2 _ rfl
     have s3:=hc2 3 _ rfl
     have s4:=hc2 4 _ rfl
     have s5:=hc2 5 _ rfl
     have HU:=qh (And.intro g1 (And.intro g2 (And.intro l1 l2)))
     have X56:=qh hin.out
     have hz6:=X6.out.size
     clear hc1 hc2 g1 g2 l1 l2 hin ho
     go_upto_region 19 with (fail)
     generalize (w6.alloc (.cells #[.string o.name,.string o.dfn.cls,.string o.dfn.fix,.slice ua o.uses.length uc,.int .i64 o.tie,.slice ka o.clob.length kc] 60)).alloc (.cells #[.string o.name,.string o.dfn.cls,.string o.dfn.fix,.slice va o.uses.length vc,.int .i64 o.tie,.slice la o.clob.length lc] 60)=w8 at x8 r0 r1 r2 r3 r4 r5 s0 s1 s2 s3 s4 s5 ⊢
     generalize w6.heap.size+1=t2 at s0 s1 s2 s3 s4 s5 ⊢
     generalize hb6:w6.heap.size=t1 at r0 r1 r2 r3 r4 r5 hz6 ⊢
     have X8:=qh x8
     have hz8:=x8.size
     have HU8:Hid (OprsIn w8 n0 (.slice ua o.uses.length uc) o.uses∧OprsIn w8 n1 (.slice va o.uses.length vc) o.uses):=qh ⟨Tab.same HU.out.1 (fun k hk=>Below.block x8 k (by omega)),Tab.same HU.out.2.1 (fun k hk=>Below.block x8 k (by omega))⟩
     have HC8:=qh (sameNames_any (HU.out.2.2.1.ext (by omega) x8) (by omega) (HU.out.2.2.2.ext (by omega) x8) (by omega))
     have t1':=HSS.out o.name
     have t2':=HSS.out o.dfn.cls
     have t3':=HSS.out o.dfn.fix
     have t4':(o.tie != o.tie)=false:=by simp
     have t5':((o.uses.length:Int) != (o.uses.length:Int))=false:=by simp
     clear x8 p0 p1 p2 p3 p4 p5 q0 q1 q2 q3 q4 q5 q0a q1a q2a q3a q4a q5a e3a d3 e3
     go_wp2_with (go_at_call 56;refine HC8.out.mono ?_;rintro e w9 ⟨rfl,hx9⟩;have X9:=qh hx9;have r0:=hx9.cell r0;have r1:=hx9.cell r1;have r2:=hx9.cell r2;have r3:=hx9.cell r3;have r4:=hx9.cell r4;have s0:=hx9.cell s0;have s1:=hx9.cell s1;have s2:=hx9.cell s2;have s3:=hx9.cell s3;have s4:=hx9.cell s4;clear hx9)
     go_loopw [14] (fun iv wr=>∃ q:Nat,q≤o.uses.length∧iv=.int .i64 q∧Hid (Ext w9 wr)) (fun iv _=>o.uses.length - (intOf iv).toNat)
     case atStart=>exact ⟨0,by omega,rfl,qh (Ext.refl _)⟩
     case round =>
      obtain ⟨q,hq,rfl,hin⟩:=hrel
      rename World=>w10
      have r3:=hin.out.cell r3
      have s3:=hin.out.cell s3
      by_cases hlq:q<o.uses.length
      ·have hqz:(q:Int)<(o.uses.length:Int):=by omega
       obtain ⟨x,hx⟩:∃ x,o.uses[q]?=some x:=⟨_,lE hlq⟩
       have x10:=X9.out.trans hin.out
       obtain ⟨b3,o3,k3,f3,_,_,_,y0,y1⟩:=OprsIn.at (Tab.same HU8.out.1 (fun k hk=>Below.block x10 k (by omega))) hx
       obtain ⟨b4,o4,k4,f4,_,_,_,z0,z1⟩:=OprsIn.at (Tab.same HU8.out.2 (fun k hk=>Below.block x10 k (by omega))) hx
       cases f3
       cases f4
       have t6':=HSS.out x.cls
       have t7':=HSS.out x.fix
       clear hx x10
       go_upto_region 25 with (fail)
       go_quiet (fail)
       have xq:=Ext.drewN w10 nq
       go_wp2_with fail
       go_roundw
       case rel=>exact ⟨q+1,by omega,by go_num,qh (hin.out.trans xq)⟩
       case measure=>simp [intOf];omega
      ·have hqz:¬ (q:Int)<(o.uses.length:Int):=by omega
       go_wp2_with fail
       go_roundw
       case rel=>exact ⟨j+1,by omega,by go_num,qh ((X56.out.trans X8.out).trans (X9.out.trans hin.out))⟩
       case measure=>simp [intOf];omega
    ·have hjz:¬ (j:Int)<(M.ops.length:Int):=by omega
     go_wp2_with fail
     go_ret
     exact ⟨rfl,X5.out.trans hin.out⟩
end Go.Proofs.YtligiddaampneaaGreat
