/- The reference's Make. For every description that lies in memory. -/
import Derived.Test.YtligiddaampneaaGreatRefW
import Derived.Deep.QuietTactic
import Derived.BigQuiet
set_option maxRecDepth 100000
set_option maxHeartbeats 64000000
namespace Go.Proofs.YtligiddaampneaaGreat
open Go.RowKit
attribute [local go_sem] Oper.semAt_some
theorem begin_ne {four:Bool} {M:Mach} {x:Int} (h:beginS four M=.error x):x≠0:=by
 unfold beginS headS at h
 by_cases hn:namedS M.name=true
 ·rw [if_pos hn] at h
  cases hp:placesS M.regs with
  | error y =>
   rw [hp] at h
   dsimp only at h
   cases h
   exact downS_ne0 7 1 M.regs wk0 x hp
  | ok σ =>
   rw [hp] at h
   dsimp only at h
   by_cases hz:0<σ.names.length
   ·rw [if_pos hz] at h
    dsimp only at h
    split at h
    ·cases h
    ·rename_i h2;cases h;exact h2
   ·rw [if_neg hz] at h
    dsimp only at h
    cases h
    decide
 ·rw [if_neg hn] at h
  dsimp only at h
  cases h
  decide
theorem begin_ops {M:Mach} {N:List ByteArray} {L:List Pl} (h:beginS true M=.ok (N,L)):opsC M N L (numsC N M.classes)=0:=by
 unfold beginS at h
 split at h
 ·cases h
 ·rename_i N2 L2 _
  split at h
  ·rename_i h2
   cases h
   unfold coreC at h2
   split at h2
   ·rw [if_pos rfl] at h2;exact h2
   ·rename_i h3;exact absurd h2 h3
  ·cases h
def MakePost (W:World) (V:MV) (M:Mach) (e:Ending) (W':World):Prop :=
 Ext W W'∧∃ v,e=.returned (.tuple #[v,.int .i64 (makeR M)])∧(makeR M=0→∃ bt vN vP vK N L,v=.pointer (some ⟨bt,0,none⟩)∧beginS true M=.ok (N,L)∧TabIn W' W'.heap.size bt { V with vN:=vN,vP:=vP } vK M N L (numsC N M.classes)∧Good M N L∧N.length≤200)∧(makeR M≠0→v=.pointer none)
def MakePost2 (W:World) (n0:Nat) (V:MV) (M:Mach) (e:Ending) (W':World):Prop :=
 Ext W W'∧∃ v,e=.returned (.tuple #[v,.int .i64 (makeR M)])∧(makeR M=0→∃ bt vN vP vK N L,v=.pointer (some ⟨bt,0,none⟩)∧beginS true M=.ok (N,L)∧TabNew W W' n0 bt { V with vN:=vN,vP:=vP } vK M N L∧Good M N L∧N.length≤200)∧(makeR M≠0→v=.pointer none)
theorem MakePost2.post {W W':World} {n0:Nat} {V:MV} {M:Mach} {e:Ending} (h:MakePost2 W n0 V M e W'):MakePost W V M e W':=by
 obtain ⟨x,v,a,b,c⟩:=h
 refine ⟨x,v,a,fun h=>?_,c⟩
 obtain ⟨bt,vN,vP,vK,N,L,d,f,g,k⟩:=b h
 exact ⟨bt,vN,vP,vK,N,L,d,f,g.tab,k⟩
theorem convB_true {M:Mach} {N:List ByteArray} {L:List Pl} (h:convB M N L=true):M.args.length≤16∧apartB N L M.args=true∧0≤idx N M.result∧M.saved.length≤64∧apartB N L M.saved=true∧0≤M.slots∧M.slots≤1000:=by
 unfold convB at h
 simp only [Bool.and_eq_true,decide_eq_true_eq] at h
 exact ⟨h.1.1.1.1.1.1,h.1.1.1.1.1.2,h.1.1.1.1.2,h.1.1.1.2,h.1.1.2,h.1.2,h.2⟩
theorem convB_false {M:Mach} {N:List ByteArray} {L:List Pl} (h:¬ (M.args.length≤16∧apartB N L M.args=true∧0≤idx N M.result∧M.saved.length≤64∧apartB N L M.saved=true∧0≤M.slots∧M.slots≤1000)):convB M N L=false:=by
 cases hh:convB M N L with
 | false=>rfl
 | true=>exact absurd (convB_true hh) h
theorem makeT2_any {W:World} {M:Mach} {n0:Nat} {vR vC vO vA vS:Value} (hm:MachIn W n0 vR vC vO vA vS M) (hn:n0≤W.heap.size) :
  Calls Tryz.prog 39 #[.agg #[.string M.name,vR,vC,vO,vA,.string M.result,vS,.int .i64 M.slots]] W (MakePost2 W n0 ⟨vR,vC,vO,vA,vS,.slice none 0 0,.slice none 0 0⟩ M):=by
 obtain ⟨aR,cR,rfl,_,_⟩:=hm.regs.form
 obtain ⟨aC,cC,rfl,_,_⟩:=hm.cls.form
 obtain ⟨aO,cO,rfl,hO1,hO2⟩:=hm.ops.form
 obtain ⟨aA,cA,rfl,_,hA2⟩:=hm.args.form
 obtain ⟨aS,cS,rfl,_,hS2⟩:=hm.saved.form
 unfold maxLen at hA2 hS2 hO2
 have HM:=qh hm
 have hcc:=cells_one W [.string M.name,.slice aR M.regs.length cR,.slice aC M.classes.length cC,.slice aO M.ops.length cO,.slice aA M.args.length cA,.string M.result,.slice aS M.saved.length cS,.int .i64 M.slots] 27
 have d0:=hcc 0 _ rfl
 have d1:=hcc 1 _ rfl
 have d2:=hcc 2 _ rfl
 have d3:=hcc 3 _ rfl
 have d4:=hcc 4 _ rfl
 have d5:=hcc 5 _ rfl
 have d6:=hcc 6 _ rfl
 have d7:=hcc 7 _ rfl
 have x0:Ext W (W.alloc (.cells #[.string M.name,.slice aR M.regs.length cR,.slice aC M.classes.length cC,.slice aO M.ops.length cO,.slice aA M.args.length cA,.string M.result,.slice aS M.saved.length cS,.int .i64 M.slots] 27)):=Ext.alloc _ _
 have HN:=qh hn
 obtain ⟨iI,hiI,zI0,zI1,zI2⟩:=info_parts infoI
 clear hcc hm hn
 go_enter Tryz.func39,Tryz.ntmps39
 go_upto_region 1 with (fail)
 generalize W.alloc (.cells #[.string M.name,.slice aR M.regs.length cR,.slice aC M.classes.length cC,.slice aO M.ops.length cO,.slice aA M.args.length cA,.string M.result,.slice aS M.saved.length cS,.int .i64 M.slots] 27)=w1 at x0 d0 d1 d2 d3 d4 d5 d6 d7 ⊢
 generalize W.heap.size=b0 at d0 d1 d2 d3 d4 d5 d6 d7 ⊢
 have X0:=qh x0
 have hbg:=qh (beginT2_any (HM.out.same fun k hk=>Below.block x0 k (Nat.lt_of_lt_of_le hk HN.out)) (Nat.le_trans HN.out x0.size) 4)
 rw [show decide ((4:Int)≤4)=true from by decide] at hbg
 clear x0
 obtain ⟨br,hbr⟩:∃ x,beginS true M=x:=⟨_,rfl⟩
 rw [hbr] at hbg
 cases br with
 | error x =>
  have hmk:makeR M=x:=by unfold makeR;rw [hbr]
  have hx1:(x != 0)=true:=by simpa using begin_ne hbr
  have HX:=qh (And.intro hmk (begin_ne hbr))
  clear hmk hbr
  go_wp2_with (go_at_call 71;refine hbg.out.mono ?_;rintro e w2 ⟨hx2,rfl⟩;have X2:=qh hx2;clear hx2)
  refine bodyPost_ret (v:=.tuple #[.pointer none,.int .i64 x]) (by simp [results,Tryz.results39,go_sem]) rfl ?_
  exact ⟨X0.out.trans X2.out,_,by rw [HX.out.1],(fun e=>absurd (HX.out.1 ▸ e) HX.out.2),fun _=>rfl⟩
 | ok NL =>
 obtain ⟨N,L⟩:=NL
 have hmk:makeR M=makeC M N L (numsC N M.classes):=by unfold makeR;rw [hbr]
 have hops0:=begin_ops hbr
 have HBR:=qh hbr
 have HMK:=qh hmk
 clear hmk hbr
 go_upto_region 4 with (go_at_call 71;refine hbg.out.mono ?_;rintro e w2 ⟨hx2,bt,vN,vP,vK,rfl,ht,hg,hn2⟩;have X2:=qh hx2;have T:=qh ht.tab;have TN:=qh (ht.base X0.out.size);have G:=qh hg;have HNL:=qh hn2;clear hx2 ht hg hn2)
 have d3:=xc X2.out d3
 have d4:=xc X2.out d4
 have d6:=xc X2.out d6
 have d7:=xc X2.out d7
 have X02:=qh (X0.out.trans X2.out)
 have HLL:Hid (L.length=N.length):=qh T.out.ck.len
 have HFP:=qh (ops_fine G.out hops0)
 have HFIN:Hid (∀ W',Ext w2 W'→makeC M N L (numsC N M.classes)=0→MakePost2 W n0 ⟨.slice aR M.regs.length cR,.slice aC M.classes.length cC,.slice aO M.ops.length cO,.slice aA M.args.length cA,.slice aS M.saved.length cS,.slice none 0 0,.slice none 0 0⟩ M (.returned (.tuple #[.pointer (some ⟨bt,0,none⟩),.int .i64 0])) W'):=qh (fun W' x e =>
  ⟨X02.out.trans x,_,by rw [HMK.out,e],fun _=>⟨bt,vN,vP,vK,N,L,rfl,HBR.out,TN.out.ext x,G.out,HNL.out⟩,fun h=>absurd (by rw [HMK.out,e]) h⟩)
 have HERR:Hid (∀ x W',Ext w2 W'→makeC M N L (numsC N M.classes)=x→x≠0→MakePost2 W n0 ⟨.slice aR M.regs.length cR,.slice aC M.classes.length cC,.slice aO M.ops.length cO,.slice aA M.args.length cA,.slice aS M.saved.length cS,.slice none 0 0,.slice none 0 0⟩ M (.returned (.tuple #[.pointer none,.int .i64 x])) W'):=qh (fun x W' hx e h0 =>
  ⟨X02.out.trans hx,_,by rw [HMK.out,e],(fun e2=>by rw [HMK.out,e] at e2;exact absurd e2 h0),fun _=>rfl⟩)
 have HOKF:Hid (∀ c∈numsC N M.classes,∀ n∈c,fits64 n):=qh (fun c hc n hn=>by
  have:=G.out.nums HLL.out c hc n hn
  have h2:=HNL.out
  have h3:=HLL.out
  unfold fits64
  omega)
 have HCL:Hid (∀ u:Opr,clsIx M u.cls<(numsC N M.classes).length):=qh (fun u=>by
  unfold numsC
  rw [List.length_map]
  by_cases h0:0≤clsIx M u.cls
  ·obtain ⟨k,c,e,hc⟩:=cls_at h0
   have:=(List.getElem?_eq_some_iff.1 hc).1
   omega
  ·omega)
 clear hops0 d0 d1 d2 d5 hbg HBR HMK
 generalize numsC N M.classes=C at T HFIN HERR HOKF HCL
 have hapA:=qh (fun (w:World) (x:Ext w2 w)=>apartT_any (T.out.ext x) (T.out.ext x).ck.m.args (by have:=HNL.out;omega))
 have hapS:=qh (fun (w:World) (x:Ext w2 w)=>apartT_any (T.out.ext x) (T.out.ext x).ck.m.saved (by have:=HNL.out;omega))
 have hrs:=qh (fun (w:World) (x:Ext w2 w)=>resultT_any (T.out.ext x))
 obtain ⟨ba,hba⟩:∃ x,apartB N L M.args=x:=⟨_,rfl⟩
 obtain ⟨bs,hbs⟩:∃ x,apartB N L M.saved=x:=⟨_,rfl⟩
 obtain ⟨ri,hri⟩:∃ x,idx N M.result=x:=⟨_,rfl⟩
 rw [hba] at hapA
 rw [hbs] at hapS
 rw [hri] at hrs
 have HV:=qh (And.intro hba (And.intro hbs hri))
 clear hba hbs hri
 go_upto_region 5 with (go_at_call 72;refine (hapA.out _ (Ext.refl _)).mono ?_;rintro e w3 ⟨rfl,hx3⟩;have X3:=qh hx3;clear hx3)
 have d6':=xc X3.out d6
 go_upto_region 6 with (go_at_call 72;refine (hapS.out _ X3.out).mono ?_;rintro e w4 ⟨rfl,hx4⟩;have X4:=qh (X3.out.trans hx4);clear hx4)
 have d3:=xc X4.out d3
 have d4:=xc X4.out d4
 have d6:=xc X4.out d6
 clear d6'
 have d7:=xc X4.out d7
 by_cases k0:(16:Int)<(M.args.length:Int)
 ·skip
  go_wp2_with (go_at_call 20;refine (hrs.out _ X4.out).mono ?_;rintro e w' ⟨rfl,rfl⟩)
  refine bodyPost_ret (v:=.tuple #[.pointer none,.int .i64 10]) (by simp [results,Tryz.results39,go_sem]) rfl ?_
  exact HERR.out 10 _ (X4.out) (by unfold makeC;rw [if_pos (convB_false (by rw [HV.out.1,HV.out.2.1,HV.out.2.2];intro h;omega))]) (by decide)
 cases ba with
 | false =>
  go_wp2_with (go_at_call 20;refine (hrs.out _ X4.out).mono ?_;rintro e w' ⟨rfl,rfl⟩)
  refine bodyPost_ret (v:=.tuple #[.pointer none,.int .i64 10]) (by simp [results,Tryz.results39,go_sem]) rfl ?_
  exact HERR.out 10 _ (X4.out) (by unfold makeC;rw [if_pos (convB_false (by rw [HV.out.1,HV.out.2.1,HV.out.2.2];intro h;cases h.2.1))]) (by decide)
 | true =>
 by_cases k2:ri<0
 ·skip
  go_wp2_with (go_at_call 20;refine (hrs.out _ X4.out).mono ?_;rintro e w' ⟨rfl,rfl⟩)
  refine bodyPost_ret (v:=.tuple #[.pointer none,.int .i64 10]) (by simp [results,Tryz.results39,go_sem]) rfl ?_
  exact HERR.out 10 _ (X4.out) (by unfold makeC;rw [if_pos (convB_false (by rw [HV.out.1,HV.out.2.1,HV.out.2.2];intro h;omega))]) (by decide)
 by_cases k3:(64:Int)<(M.saved.length:Int)
 ·skip
  go_wp2_with (go_at_call 20;refine (hrs.out _ X4.out).mono ?_;rintro e w' ⟨rfl,rfl⟩)
  refine bodyPost_ret (v:=.tuple #[.pointer none,.int .i64 10]) (by simp [results,Tryz.results39,go_sem]) rfl ?_
  exact HERR.out 10 _ (X4.out) (by unfold makeC;rw [if_pos (convB_false (by rw [HV.out.1,HV.out.2.1,HV.out.2.2];intro h;omega))]) (by decide)
 cases bs with
 | false =>
  go_wp2_with (go_at_call 20;refine (hrs.out _ X4.out).mono ?_;rintro e w' ⟨rfl,rfl⟩)
  refine bodyPost_ret (v:=.tuple #[.pointer none,.int .i64 10]) (by simp [results,Tryz.results39,go_sem]) rfl ?_
  exact HERR.out 10 _ (X4.out) (by unfold makeC;rw [if_pos (convB_false (by rw [HV.out.1,HV.out.2.1,HV.out.2.2];intro h;cases h.2.2.2.2.1))]) (by decide)
 | true =>
 by_cases k5:M.slots<0
 ·skip
  go_wp2_with (go_at_call 20;refine (hrs.out _ X4.out).mono ?_;rintro e w' ⟨rfl,rfl⟩)
  refine bodyPost_ret (v:=.tuple #[.pointer none,.int .i64 10]) (by simp [results,Tryz.results39,go_sem]) rfl ?_
  exact HERR.out 10 _ (X4.out) (by unfold makeC;rw [if_pos (convB_false (by rw [HV.out.1,HV.out.2.1,HV.out.2.2];intro h;omega))]) (by decide)
 by_cases k6:(1000:Int)<M.slots
 ·skip
  go_wp2_with (go_at_call 20;refine (hrs.out _ X4.out).mono ?_;rintro e w' ⟨rfl,rfl⟩)
  refine bodyPost_ret (v:=.tuple #[.pointer none,.int .i64 10]) (by simp [results,Tryz.results39,go_sem]) rfl ?_
  exact HERR.out 10 _ (X4.out) (by unfold makeC;rw [if_pos (convB_false (by rw [HV.out.1,HV.out.2.1,HV.out.2.2];intro h;omega))]) (by decide)
 have hcv:convB M N L=true:=by
  unfold convB
  rw [HV.out.1,HV.out.2.1,HV.out.2.2]
  simp only [Bool.and_eq_true,decide_eq_true_eq,and_true]
  omega
 have HCV:=qh hcv
 clear hcv hapA hapS
 have hfi:fits64 ri:=by
  rw [← HV.out.2.2]
  exact idx_fits (by have:=HNL.out;omega)
 have HFI:=qh hfi
 clear hfi
 -- the saved registers against the result
 go_upto_region 8 with (go_at_call 20;refine (hrs.out _ X4.out).mono ?_;rintro e w' ⟨rfl,rfl⟩)
 go_wp2_with fail
 go_loopw [8] (fun i wr=>∃ q:Nat,q≤M.saved.length∧i=.int .i64 q∧Hid (Ext w4 wr∧∀ j s,j<q→M.saved[j]?=some s→lapI L ri (idx N s)=false)) (fun i _=>M.saved.length - (intOf i).toNat)
 case atStart=>exact ⟨0,by omega,rfl,qh ⟨Ext.refl _,fun j s hj=>by omega⟩⟩
 case round =>
  obtain ⟨q,hq,rfl,hin⟩:=hrel
  rename World=>w5
  have d3:=xc hin.out.1 d3
  have d4:=xc hin.out.1 d4
  have d6:=xc hin.out.1 d6
  have X5:=qh (X4.out.trans hin.out.1)
  by_cases hlq:q<M.saved.length
  case pos =>
   have hqz:(q:Int)<(M.saved.length:Int):=by omega
   obtain ⟨s,hs⟩:∃ x,M.saved[q]?=some x:=⟨_,lE hlq⟩
   obtain ⟨b7,f7,p7,e7,_,_,_,g0⟩:=StrsIn.at (T.out.ext X5.out).ck.m.saved hs
   dsimp only at e7
   cases e7
   have hrg:=qh (fun (w:World) (x:Ext w2 w)=>regT_any (T.out.ext x) s)
   have hlap:=qh (fun (w:World) (x:Ext w2 w)=>lapT_any (T.out.ext x) ri (idx N s) HFI.out (idx_fits (by have:=HNL.out;omega)))
   obtain ⟨si,hsi⟩:∃ x,idx N s=x:=⟨_,rfl⟩
   rw [hsi] at hrg hlap
   obtain ⟨lb,hlb⟩:∃ x,lapI L ri si=x:=⟨_,rfl⟩
   rw [hlb] at hlap
   have HS:=qh (And.intro hs (And.intro hsi hlb))
   clear hs hsi hlb
   go_upto_region 11 with (fail)
   rename_i K1 hK1
   have hK1:=qh hK1
   refine wp_region_M (fun w'=>Ext w5 w') 9 (by kernel_rfl) (Ext.drew _) (fun hS=>?_)
   refine' tw 0 ?_ ?_;rotate_left;·intros;go_simp;try rfl
   refine' tk 1 hS ?_ ?_;rotate_left;·intros;go_simp;try rfl
   refine' tk 3 hS ?_ ?_;rotate_left;·intros;go_simp;try rfl
   try simp only [tD]
   refine' tk 4 hS ?_ ?_;rotate_left;·intros;go_simp;try rfl
   refine' tk 5 hS ?_ ?_;rotate_left;·intro w hSw;have q0:=xc hSw d6;go_simp;try rfl
   refine' tk 6 hS ?_ ?_;rotate_left;·intros;go_simp;try rfl
   try simp only [tD]
   refine' tk 7 hS ?_ ?_;rotate_left;·intros;go_simp;try rfl
   refine' tk 8 hS ?_ ?_;rotate_left;·intro w hSw;have q1:=xc hSw g0;go_simp;try rfl
   try simp only [tD]
   generalize w5.drew=w6 at hS ⊢
   refine rc 2 fun K hK=>?_
   go_simp
   refine ((hrs.out w6 (X5.out.trans hS))).mono ?_
   rintro e w7 ⟨rfl,rfl⟩
   refine hK.out _ _ hS ?_
   try simp only [tD]
   clear hK K
   refine rl 9 fun K hK=>?_
   go_simp
   refine ((hrg.out _ (X5.out.trans hS))).mono ?_
   rintro e w8 ⟨rfl,rfl⟩
   refine hK.out _ _ ?_
   try simp only [tD]
   clear hK K
   refine rl 10 fun K hK=>?_
   go_simp
   refine ((hlap.out _ (X5.out.trans hS))).mono ?_
   rintro e w9 ⟨rfl,x9⟩
   have hS0:=hS
   have hS:=Ext.trans hS x9
   refine hK.out _ _ ?_
   try simp only [tD]
   clear hK K
   refine' tw 11 ?_ ?_;rotate_left;·intros;go_simp;try rfl
   try simp only [tD]
   refine wpAnyM_done (by kernel_rfl) ?_ _
   refine hK1.out _ _ ?_
   have X9:=qh hS
   clear hS hS0
   cases lb with
   | true =>
    have hsv:Hid (savedB M N L=false):=qh (by
     unfold savedB
     rw [List.all_eq_false]
     exact ⟨s,List.mem_of_getElem? HS.out.1,by rw [HV.out.2.2,HS.out.2.1,HS.out.2.2];simp⟩)
    go_wp2_with (fail)
    refine bodyPost_ret (v:=.tuple #[.pointer none,.int .i64 10]) (by simp [results,Tryz.results39,go_sem]) rfl ?_
    exact HERR.out 10 _ (X5.out.trans X9.out) (by unfold makeC;rw [if_neg (by rw [HCV.out];decide),if_pos hsv.out]) (by decide)
   | false =>
    have hst:∀ j y,j<q+1→M.saved[j]?=some y→lapI L ri (idx N y)=false:=fun j y hj hy=>by
     by_cases e:j=q
     ·subst e;rw [HS.out.1] at hy;cases hy;rw [HS.out.2.1];exact HS.out.2.2
     ·exact hin.out.2 j y (by omega) hy
    have HST:=qh hst
    clear hst
    go_wp2_with fail
    go_roundw
    case rel=>exact ⟨q+1,by omega,by go_num,qh ⟨hin.out.1.trans X9.out,HST.out⟩⟩
    case measure=>simp [intOf];omega
  case neg =>
  have hqz:¬ (q:Int)<(M.saved.length:Int):=by omega
  have hsv:savedB M N L=true:=by
   unfold savedB
   rw [List.all_eq_true]
   intro s hs
   obtain ⟨j,hj⟩:=List.getElem?_of_mem hs
   rw [HV.out.2.2,hin.out.2 j s (by have:=(List.getElem?_eq_some_iff.1 hj).1;omega) hj]
   rfl
  have HSV:=qh hsv
  have hin0:=hin
  clear hsv hin d4
  have hargs:=qh (fun (w:World) (x:Ext w2 w)=>argsT_any (T.out.ext x) (by omega))
  have hrsl:(listS N M.args).length≤1000:=by
   unfold listS
   refine Nat.le_trans (List.length_filter_le _ _) ?_
   rw [List.length_map];omega
  -- all that must be in a class
  go_upto_region 15 with (first
   | (go_at_call 17;refine (hargs.out _ X5.out).mono ?_;rintro e w6 ⟨u,rfl,hu,hx6⟩;have HU:=qh hu;have X56:=qh hx6;have X6:=qh (X5.out.trans hx6);clear hu hx6)
   | (go_at_call 20;refine (hrs.out _ X7.out).mono ?_;rintro e w' ⟨rfl,rfl⟩)
   | (at_builtin;go_loud (refine wpList_append_nil _ rfl _ 36 rfl 3 iI _ 1 8 Tryz.underlying36 hiI zI0 zI1 zI2 rfl (by decide) (listS N M.args).length ((listS N M.args).map (Value.int .i64)) _ rfl (Row.of_owns HU.out) (by simp [Value.oneCell']) (by omega) ?_;intro v7 w7 hown7 hx7;have H7:=qh hown7;have X7:=qh (X6.out.trans hx7);have W67:Hid (Ext w6 w7):=qh hx7;clear hown7 hx7))
   | (at_builtin;go_loud (refine wpList_append_lies _ rfl _ _ 36 rfl w6.heap.size 3 iI _ 1 8 Tryz.underlying36 hiI zI0 zI1 zI2 rfl (by omega) v7 (listS N M.args).length ((listS N M.args).map (Value.int .i64)) rfl (H7.out.alloc _) ⟨w7.heap.size,0,none⟩ 1 1 [.int .i64 ri] rfl rfl (World.news_of_block (cs:=#[.int .i64 ri]) (t:=3) (fr:=(0,0)) (heap_alloc_new w7 _)) (by simp [Value.oneCell']) (by omega) (by unfold maxLen;omega) (by omega) (by have:=W67.out.size;simp;omega) _ rfl ?_;intro gA cpA w8 hown8 hgrow8 hat8 hlt8;have H8:=qh hown8;have X8:Hid (Ext w6 w8):=qh (Ext.grown (W67.out.trans (Ext.alloc w7 _)) hgrow8 (fun y e=>(H7.out.lt y e).1));clear hown8 hgrow8 hat8)))
  obtain ⟨Z,hZ⟩:∃ Z,listS N M.args ++ [ri]=Z:=⟨_,rfl⟩
  have hZl:(listS N M.args).length+1=Z.length:=by rw [← hZ,List.length_append];rfl
  have H9:Hid (w8.ownsRow w6.heap.size 3 1 (.slice (some ⟨gA,0,none⟩) Z.length cpA) Z.length (Z.map (Value.int .i64))):=qh (by
   have:=H8.out
   rw [hZl] at this
   rw [← hZ,List.map_append,hZ]
   exact this)
  rw [hZl]
  have HZ:=qh hZ
  have Y8:=qh (X6.out.trans X8.out)
  have hcz:=qh (fun (w:World) (x:Ext w8 w) (q:Nat) (n:Int) (h:Z[q]?=some n)=>(show w.cell? ⟨gA,q,none⟩=some (.int .i64 n) from by
   obtain ⟨b,off,cap,e,_,_,_,hcell⟩:=Row.at (Row.of_owns (owns_ext H9.out x)) (fun e=>by
    rw [List.map_eq_nil_iff] at e
    rw [e] at h
    simp at h)
   cases e
   have:=hcell q (.int .i64 n) (by simp [h])
   rw [Nat.zero_add] at this
   exact this))
  have hZ2:cpA≤9223372036854775807∧Z.length≤cpA:=by
   obtain ⟨a,cap,e,h1,h2⟩:=(Row.of_owns H9.out).shape
   unfold maxLen at h2
   cases e
   omega
  obtain ⟨aK,capK,eK,hK1,hK2⟩:=T.out.k.form
  subst eK
  unfold maxLen at hK2
  have ck:=T.out.cl
  have hIn:=qh (fun (w:World) (x:Ext w2 w) (k n:Int)=>inT_any (T.out.ext x) k n)
  have D3:=qh (xc (X56.out.trans X8.out) d3)
  clear hZ hZl H8 H7 HU X7 X8 W67 hargs hrsl d3 d7 hlt8
  go_wp2_with fail
  go_loopw [11] (fun i wr=>∃ q:Nat,q≤Z.length∧i=.int .i64 q∧Hid (Ext w8 wr∧∀ j n,j<q→Z[j]?=some n→((List.range C.length).any fun k=>inI C (k:Int) n)=true)) (fun i _=>Z.length - (intOf i).toNat)
  case atStart=>exact ⟨0,by omega,rfl,qh ⟨Ext.refl _,fun j n hj=>by omega⟩⟩
  case round =>
   obtain ⟨q,hq,rfl,hin⟩:=hrel
   rename World=>w9
   have Y9:=qh (Y8.out.trans hin.out.1)
   have ck9:=xc Y9.out ck
   by_cases hlz:q<Z.length
   case pos =>
    have hqz:(q:Int)<(Z.length:Int):=by omega
    obtain ⟨n,hn⟩:∃ x,Z[q]?=some x:=⟨_,lE hlz⟩
    have cz:=hcz.out w9 hin.out.1 q n hn
    have HNZ:=qh hn
    clear hn
    go_wp2_with fail
    go_loopw [12,13] (fun inv kv wr=>∃ g:Nat,g≤C.length∧kv=.int .i64 g∧∃ b:Bool,inv=.bool b∧Hid (Ext w9 wr∧b=((List.range g).any fun k=>inI C (k:Int) n))) (fun _ kv _=>C.length - (intOf kv).toNat)
    case atStart=>exact ⟨0,by omega,rfl,false,rfl,qh ⟨Ext.refl _,rfl⟩⟩
    case round =>
     obtain ⟨g,hg,rfl,b,rfl,hin2⟩:=hrel
     rename World=>w10
     have Y10:=qh (Y9.out.trans hin2.out.1)
     have ck10:=xc hin2.out.1 ck9
     have cz:=xc hin2.out.1 cz
     by_cases hlg:g<C.length
     case pos =>
      have hgz:(g:Int)<(C.length:Int):=by omega
      have hinc:=qh (hIn.out w10 Y10.out (g:Int) n)
      obtain ⟨bi,hbi⟩:∃ x,inI C (g:Int) n=x:=⟨_,rfl⟩
      rw [hbi] at hinc
      have HB:Hid (((List.range (g+1)).any fun k=>inI C (k:Int) n)=(b || bi)):=qh (by
       rw [List.range_succ,List.any_append,← hin2.out.2]
       simp [hbi])
      clear hbi
      cases b with
      | true =>
       go_wp2_with fail
       go_roundw
       case rel=>exact ⟨g+1,by omega,by go_num,true,rfl,qh ⟨hin2.out.1,by rw [HB.out];rfl⟩⟩
       case measure=>simp [intOf];omega
      | false =>
       go_wp2_with (go_at_call 30;refine hinc.out.mono ?_;rintro e w' ⟨rfl,rfl⟩)
       go_roundw
       case rel=>exact ⟨g+1,by omega,by go_num,bi,rfl,qh ⟨hin2.out.1,by rw [HB.out];rfl⟩⟩
       case measure=>simp [intOf];omega
     case neg =>
     have hgz:¬ (g:Int)<(C.length:Int):=by omega
     have hge:g=C.length:=by omega
     have HB:Hid (b=((List.range C.length).any fun k=>inI C (k:Int) n)):=qh (by rw [← hge];exact hin2.out.2)
     clear hge
     cases b with
     | true =>
      have HST:Hid (∀ j y,j<q+1→Z[j]?=some y→((List.range C.length).any fun k=>inI C (k:Int) y)=true):=qh (fun j y hj hy=>by
       by_cases e:j=q
       ·subst e;rw [HNZ.out] at hy;cases hy;exact HB.out.symm
       ·exact hin.out.2 j y (by omega) hy)
      go_wp2_with fail
      go_roundw
      case rel=>exact ⟨q+1,by omega,by go_num,qh ⟨hin.out.1.trans hin2.out.1,HST.out⟩⟩
      case measure=>simp [intOf];omega
     | false =>
      have hins:Hid (insB M N C=false):=qh (by
       unfold insB
       rw [HV.out.2.2,HZ.out,List.all_eq_false]
       exact ⟨n,List.mem_of_getElem? HNZ.out,by rw [← HB.out];decide⟩)
      go_wp2_with (fail)
      refine bodyPost_ret (v:=.tuple #[.pointer none,.int .i64 10]) (by simp [results,Tryz.results39,go_sem]) rfl ?_
      exact HERR.out 10 _ (Y10.out) (by unfold makeC;rw [if_neg (by rw [HCV.out];decide),if_neg (by rw [HSV.out];decide),if_pos hins.out]) (by decide)
   case neg =>
   have hqz:¬ (q:Int)<(Z.length:Int):=by omega
   have HINS:Hid (insB M N C=true):=qh (by
    unfold insB
    rw [HV.out.2.2,HZ.out,List.all_eq_true]
    intro n hn
    obtain ⟨j,hj⟩:=List.getElem?_of_mem hn
    exact hin.out.2 j n (by have:=(List.getElem?_eq_some_iff.1 hj).1;omega) hj)
   have d3:=xc hin.out.1 D3.out
   -- the operations
   go_wp2_with fail
   go_loopw [14] (fun i wr=>∃ m:Nat,m≤M.ops.length∧i=.int .i64 m∧Hid (Ext w9 wr∧∀ j o,j<m→M.ops[j]?=some o→fitsI M N L C o=true)) (fun i _=>M.ops.length - (intOf i).toNat)
   case atStart=>exact ⟨0,by omega,rfl,qh ⟨Ext.refl _,fun j o hj=>by omega⟩⟩
   case round =>
    obtain ⟨m,hm,rfl,hin3⟩:=hrel
    rename World=>w11
    have Y11:=qh (Y9.out.trans hin3.out.1)
    have ck11:=xc hin3.out.1 ck9
    have d3:=xc hin3.out.1 d3
    by_cases hlm:m<M.ops.length
    case pos =>
     have hmz:(m:Int)<(M.ops.length:Int):=by omega
     obtain ⟨o,ho⟩:∃ x,M.ops[m]?=some x:=⟨_,lE hlm⟩
     have hfp:=HFP.out o (List.mem_of_getElem? ho)
     have hfc:=qh (fitsT2_any (T.out.ext Y11.out) ho (by have:=hfp.many;omega) (by have:=HNL.out;omega) HOKF.out HCL.out (by have:=hfp.len;omega) (by have:=hfp.lt;have:=hfp.len;omega))
     obtain ⟨fb,hfb⟩:∃ x,fitsI M N L C o=x:=⟨_,rfl⟩
     rw [hfb] at hfc
     have HO:=qh (And.intro ho hfb)
     clear ho hfp hfb
     cases fb with
     | true =>
      have HST:Hid (∀ j y,j<m+1→M.ops[j]?=some y→fitsI M N L C y=true):=qh (fun j y hj hy=>by
       by_cases e:j=m
       ·subst e;rw [HO.out.1] at hy;cases hy;exact HO.out.2
       ·exact hin3.out.2 j y (by omega) hy)
      go_wp2_with (go_at_call 73;refine hfc.out.mono ?_;rintro e w12 ⟨rfl,hx12⟩;have X12:=qh hx12;clear hx12)
      go_roundw
      case rel=>exact ⟨m+1,by omega,by go_num,qh ⟨hin3.out.1.trans X12.out,HST.out⟩⟩
      case measure=>simp [intOf];omega
     | false =>
      have hfits:Hid (M.ops.all (fitsI M N L C)=false):=qh (by
       rw [List.all_eq_false]
       exact ⟨o,List.mem_of_getElem? HO.out.1,by rw [HO.out.2];decide⟩)
      go_wp2_with (go_at_call 73;refine hfc.out.mono ?_;rintro e w12 ⟨rfl,hx12⟩;have X12:=qh hx12;clear hx12)
      refine bodyPost_ret (v:=.tuple #[.pointer none,.int .i64 11]) (by simp [results,Tryz.results39,go_sem]) rfl ?_
      exact HERR.out 11 _ (Y11.out.trans X12.out) (by unfold makeC;rw [if_neg (by rw [HCV.out];decide),if_neg (by rw [HSV.out];decide),if_neg (by rw [HINS.out];decide),if_pos hfits.out]) (by decide)
    case neg =>
    have hmz:¬ (m:Int)<(M.ops.length:Int):=by omega
    have HFT:Hid (M.ops.all (fitsI M N L C)=true):=qh (by
     rw [List.all_eq_true]
     intro o ho
     obtain ⟨j,hj⟩:=List.getElem?_of_mem ho
     exact hin3.out.2 j o (by have:=(List.getElem?_eq_some_iff.1 hj).1;omega) hj)
    -- the classes two by two
    go_wp2_with fail
    go_loopw [16] (fun i wr=>∃ a:Nat,a≤C.length∧i=.int .i64 a∧Hid (Ext w11 wr∧∀ x y:Nat,x<a→x≤y→y<C.length→pairI L C (x:Int) (y:Int)=true)) (fun i _=>C.length - (intOf i).toNat)
    case atStart=>exact ⟨0,by omega,rfl,qh ⟨Ext.refl _,fun x y hx=>by omega⟩⟩
    case round =>
     obtain ⟨a,ha,rfl,hin4⟩:=hrel
     rename World=>w13
     have Y13:=qh (Y11.out.trans hin4.out.1)
     have ck13:=xc hin4.out.1 ck11
     by_cases hla:a<C.length
     case pos =>
      have haz:(a:Int)<(C.length:Int):=by omega
      go_wp2_with fail
      go_loopw [17] (fun kv wr=>∃ b:Nat,a≤b∧b≤C.length∧kv=.int .i64 b∧Hid (Ext w13 wr∧∀ y:Nat,a≤y→y<b→pairI L C (a:Int) (y:Int)=true)) (fun kv _=>C.length - (intOf kv).toNat)
      case atStart=>exact ⟨a,by omega,by omega,rfl,qh ⟨Ext.refl _,fun y h1 h2=>by omega⟩⟩
      case round =>
       obtain ⟨b,hab,hb,rfl,hin5⟩:=hrel
       rename World=>w14
       have Y14:=qh (Y13.out.trans hin5.out.1)
       have ck14:=xc hin5.out.1 ck13
       by_cases hlb:b<C.length
       case pos =>
        have hbz:(b:Int)<(C.length:Int):=by omega
        have hpc:=qh (pairT2_any (T.out.ext Y14.out) HOKF.out (a:Int) (b:Int))
        obtain ⟨pb,hpb⟩:∃ x,pairI L C (a:Int) (b:Int)=x:=⟨_,rfl⟩
        rw [hpb] at hpc
        have HPB:=qh hpb
        clear hpb
        cases pb with
        | true =>
         have HST:Hid (∀ y:Nat,a≤y→y<b+1→pairI L C (a:Int) (y:Int)=true):=qh (fun y h1 h2=>by
          by_cases e:y=b
          ·subst e;exact HPB.out
          ·exact hin5.out.2 y h1 (by omega))
         go_wp2_with (go_at_call 74;refine hpc.out.mono ?_;rintro e w15 ⟨rfl,hx15⟩;have X15:=qh hx15;clear hx15)
         go_roundw
         case rel=>exact ⟨b+1,by omega,by omega,by go_num,qh ⟨hin5.out.1.trans X15.out,HST.out⟩⟩
         case measure=>simp [intOf];omega
        | false =>
         have hprs:Hid (pairsB L C=false):=qh (by
          unfold pairsB
          rw [List.all_eq_false]
          refine ⟨a,List.mem_range.2 hla,?_⟩
          rw [Bool.not_eq_true,List.all_eq_false]
          refine ⟨b,List.mem_range.2 hlb,?_⟩
          rw [HPB.out,decide_eq_false (by omega)]
          decide)
         go_wp2_with (go_at_call 74;refine hpc.out.mono ?_;rintro e w15 ⟨rfl,hx15⟩;have X15:=qh hx15;clear hx15)
         refine bodyPost_ret (v:=.tuple #[.pointer none,.int .i64 11]) (by simp [results,Tryz.results39,go_sem]) rfl ?_
         exact HERR.out 11 _ (Y14.out.trans X15.out) (by unfold makeC;rw [if_neg (by rw [HCV.out];decide),if_neg (by rw [HSV.out];decide),if_neg (by rw [HINS.out];decide),if_neg (by rw [HFT.out];decide),if_pos hprs.out]) (by decide)
       case neg =>
       have hbz:¬ (b:Int)<(C.length:Int):=by omega
       have HST:Hid (∀ x y:Nat,x<a+1→x≤y→y<C.length→pairI L C (x:Int) (y:Int)=true):=qh (fun x y h1 h2 h3=>by
        by_cases e:x=a
        ·subst e;exact hin5.out.2 y h2 (by omega)
        ·exact hin4.out.2 x y (by omega) h2 h3)
       go_wp2_with fail
       go_roundw
       case rel=>exact ⟨a+1,by omega,by go_num,qh ⟨hin4.out.1.trans hin5.out.1,HST.out⟩⟩
       case measure=>simp [intOf];omega
     case neg =>
     have haz:¬ (a:Int)<(C.length:Int):=by omega
     have HPR:Hid (pairsB L C=true):=qh (by
      unfold pairsB
      rw [List.all_eq_true]
      intro x hx
      rw [List.all_eq_true]
      intro y hy
      have hx:=List.mem_range.1 hx
      have hy:=List.mem_range.1 hy
      rw [Bool.or_eq_true,decide_eq_true_eq]
      by_cases e:y<x
      ·exact Or.inl e
      ·exact Or.inr (hin4.out.2 x y (by omega) (by omega) hy))
     go_wp2_with fail
     refine bodyPost_ret (v:=.tuple #[.pointer (some ⟨bt,0,none⟩),.int .i64 0]) (by simp [results,Tryz.results39,go_sem]) rfl ?_
     exact HFIN.out _ Y13.out (by unfold makeC;rw [if_neg (by rw [HCV.out];decide),if_neg (by rw [HSV.out];decide),if_neg (by rw [HINS.out];decide),if_neg (by rw [HFT.out];decide),if_neg (by rw [HPR.out];decide)])
theorem makeT_any {W:World} {M:Mach} {n0:Nat} {vR vC vO vA vS:Value} (hm:MachIn W n0 vR vC vO vA vS M) (hn:n0≤W.heap.size) :
  Calls Tryz.prog 39 #[.agg #[.string M.name,vR,vC,vO,vA,.string M.result,vS,.int .i64 M.slots]] W (MakePost W ⟨vR,vC,vO,vA,vS,.slice none 0 0,.slice none 0 0⟩ M) :=
 (makeT2_any hm hn).mono fun _ _ h=>h.post
end Go.Proofs.YtligiddaampneaaGreat
