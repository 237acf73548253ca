/- Several texts joined. No condition. -/
import Derived.Test.YtligiddaampneaaGreatRefA
import Derived.Deep.QuietTactic
import Derived.BigQuiet
import Derived.Deep.Cut
import Derived.Deep.CutBlock
import Derived.Deep.DeepCutAuto
set_option maxHeartbeats 1000000
-- shrunk
namespace Go.Proofs.YtligiddaampneaaGreat
open Go.RowKit
attribute [local go_sem] Oper.semAt_some
theorem lap_tight {a b:Pl} (ha:a.tight) (hb:b.tight):lapS a b=(decide (a.root=b.root) && (decide (a.beg<b.beg+b.width) && decide (b.beg<a.beg+a.width))):=by
 obtain ⟨ar,aa,aw⟩:=a
 obtain ⟨br,ba,bw⟩:=b
 obtain ⟨_,a1,a2,a3⟩:=ha
 obtain ⟨_,b1,b2,b3⟩:=hb
 rw [lapS_eq]
 dsimp only at *
 rw [decide_eq_true a2,decide_eq_true b2,Bool.true_and,Bool.true_and]
 congr 1
 by_cases h:ba<aa
 ·rw [if_pos h,Bool.eq_iff_iff];simp only [Bool.and_eq_true,decide_eq_true_eq];omega
 ·rw [if_neg h,Bool.eq_iff_iff];simp only [Bool.and_eq_true,decide_eq_true_eq];omega
theorem lapR_any (a b:Pl) (w:World) (ha:a.tight) (hb:b.tight) :
  Calls Tryz.prog 51 #[.agg a.cells.toArray,.agg b.cells.toArray] w fun e w'=>e=.returned (.bool (lapS a b))∧Ext w w':=by
 rw [lap_tight ha hb]
 obtain ⟨ar,aa,aw⟩:=a
 obtain ⟨br,ba,bw⟩:=b
 obtain ⟨_,a1,a2,a3⟩:=ha
 obtain ⟨_,b1,b2,b3⟩:=hb
 simp only [Pl.cells] at *
 have e1:IntKind.i64.wrap (ba+bw)=ba+bw:=IntWalk.i64_in _ (by omega)
 have e2:IntKind.i64.wrap (aa+aw)=aa+aw:=IntWalk.i64_in _ (by omega)
 have p1:(0:Int)<aw:=by omega
 have p2:(0:Int)<bw:=by omega
 by_cases h1:ar=br
 ·have t1:(ar == br)=true:=by simp [h1]
  rw [decide_eq_true h1,Bool.true_and]
  clear h1
  by_cases h2:aa<ba+bw
  ·rw [decide_eq_true h2,Bool.true_and]
   cases h3:decide (ba<aa+aw)
   all_goals
    go_enter Tryz.func51,Tryz.ntmps51
    go_wp2
    go_ret
    exact ⟨rfl,below2 _ _ _⟩
  ·have h3:=decide_eq_false h2
   rw [h3,Bool.false_and]
   go_enter Tryz.func51,Tryz.ntmps51
   go_wp2
   go_ret
   exact ⟨rfl,below2 _ _ _⟩
 ·have t1:(ar == br)=false:=by simp [h1]
  rw [decide_eq_false h1,Bool.false_and]
  clear h1
  go_enter Tryz.func51,Tryz.ntmps51
  go_wp2
  go_ret
  exact ⟨rfl,below2 _ _ _⟩
theorem longR_any (v:Value) (l:List ByteArray) (w:World) (hv:SliceStrs w v l) :
  Calls Tryz.prog 48 #[v] w fun e w'=>(∃ n:Int,e=.returned (.int .i64 n))∧w=w':=by
 by_cases hl:l=[]
 ·subst hl
  obtain ⟨a,cap,rfl,_,_⟩:=Row.shape hv
  go_enter Tryz.func48,Tryz.ntmps48
  go_wp2
  refine wp_loop_rounds 1 ?_
  rw [rounds_succ]
  go_wp2
  go_ret
  exact ⟨⟨_,rfl⟩,rfl⟩
 ·obtain ⟨b,off,cap,rfl,hnc,hcm,hb,hc⟩:=Row.at hv (by simpa using hl)
  unfold maxLen at hcm
  go_enter Tryz.func48,Tryz.ntmps48
  go_wp2
  go_loop [3,4] (fun n i=>∃ k:Nat,k≤l.length∧i=.int .i64 k∧∃ m:Int,n=.int .i64 m) (fun _ i=>l.length - (intOf i).toNat)
  case atStart=>exact ⟨0,by omega,rfl,_,rfl⟩
  case round =>
   obtain ⟨k,hk,rfl,m,rfl⟩:=hrel
   by_cases hlt:k<l.length
   ·obtain ⟨x,hx⟩:∃ x,l[k]?=some x:=⟨l[k],lE hlt⟩
    have hcell:=hc k (.string x) (by simp [hx])
    clear hx hc
    by_cases hm:m≤5000
    ·go_wp2
     go_round
     case rel=>exact ⟨k+1,by omega,by go_num,_,rfl⟩
     case measure=>simp [intOf];omega
    ·have hd:=decide_eq_false hm
     go_wp2
     go_ret
     exact ⟨⟨_,rfl⟩,rfl⟩
   ·clear hc
    go_wp2
    go_ret
    exact ⟨⟨_,rfl⟩,rfl⟩
end Go.Proofs.YtligiddaampneaaGreat
set_option maxRecDepth 100000
set_option maxHeartbeats 8000000
-- shrunk
namespace Go.Proofs.YtligiddaampneaaGreat
open Go.RowKit
attribute [local go_sem] Oper.semAt_some
theorem RegsIn.at {W:World} {n0:Nat} {v:Value} {l:List RegT} (h:RegsIn W n0 v l) {i:Nat} {r:RegT} (hi:l[i]?=some r) :
  ∃ b off cap ua uc,v=.slice (some ⟨b,off,none⟩) l.length cap∧l.length≤cap∧cap≤maxLen∧b<n0∧W.cell? ⟨b,off+i * 4,none⟩=some (.string r.name)∧W.cell? ⟨b,off+i * 4+1,none⟩=some (.int .i64 r.width)∧W.cell? ⟨b,off+i * 4+2,none⟩=some (.int .i64 r.beg) ∧
   W.cell? ⟨b,off+i * 4+3,none⟩=some (.slice ua r.subs.length uc)∧RegsIn W n0 (.slice ua r.subs.length uc) r.subs∧fits64 r.width∧fits64 r.beg:=by
 cases h with
 | mk vs hl hrow hb hw hs =>
  have hlt:=(List.getElem?_eq_some_iff.1 hi).1
  obtain ⟨u,hu⟩:∃ u,vs[i]?=some u:=⟨vs[i]'(by omega),lE _⟩
  have hsub:=hs i r u hi hu
  obtain ⟨ua,uc,rfl⟩:∃ ua uc,u=.slice ua r.subs.length uc:=by
   cases hsub with
   | mk _ _ hrow' _ _ _=>obtain ⟨a,c,e,_,_⟩:=hrow'.shape;exact ⟨a,c,e⟩
  obtain ⟨b,off,cap,e,h1,h2,_,hc⟩:=hrow.at (fun e=>by have:=hrow.1;rw [e] at this;simp at this;omega)
  subst e
  obtain ⟨e0,e1,e2,e3⟩:=regCells_at hi hu
  have c0:=hc _ _ e0
  have c1:=hc _ _ e1
  have c2:=hc _ _ e2
  have c3:=hc _ _ e3
  rw [← Nat.add_assoc] at c1 c2 c3
  exact ⟨b,off,cap,ua,uc,rfl,h1,h2,hb b rfl (fun e=>by rw [e] at hi;simp at hi),c0,c1,c2,c3,hsub,hw r (List.mem_of_getElem? hi)⟩
theorem RegsIn.form {W:World} {n0:Nat} {v:Value} {l:List RegT} (h:RegsIn W n0 v l):∃ a cap,v=.slice a l.length cap∧l.length≤cap∧cap≤maxLen:=by
 cases h with
 | mk vs hl hrow hb hw hs=>obtain ⟨a,c,e,h1,h2⟩:=hrow.shape;exact ⟨a,c,e,h1,h2⟩
theorem RegsIn.ext {W W':World} {n0:Nat} {v:Value} {l:List RegT} (h:RegsIn W n0 v l) (hn:n0≤W.heap.size) (x:Ext W W'):RegsIn W' n0 v l :=
 h.same fun k hk=>Below.block x k (Nat.lt_of_lt_of_le hk hn)
theorem sizeR_any (d:Nat):∀ (deep:Int) (l:List RegT) (v:Value) (W:World) (n0:Nat),deep.toNat=d→0≤deep→deep≤30→RegsIn W n0 v l→n0≤W.heap.size →
  Calls Tryz.prog 47 #[v,.int .i64 deep] W fun e w'=>(∃ n:Int,e=.returned (.int .i64 n))∧Ext W w':=by
 induction d with
 | zero =>
  intro deep l v W n0 hd hd0 hd1 hv hn
  obtain ⟨a,cap,rfl,hl1,hl2⟩:=hv.form
  unfold maxLen at hl2
  obtain rfl:deep=0:=by omega
  go_enter Tryz.func47,Tryz.ntmps47
  by_cases h0:l.length=0
  ·rw [h0]
   go_wp2
   refine wp_loop_rounds 1 ?_
   rw [rounds_succ]
   go_wp2
   go_ret
   exact ⟨⟨_,rfl⟩,Ext.refl _⟩
  ·have h1:(0:Int)<(l.length:Int):=by omega
   by_cases h2:(l.length:Int)≤5000
   ·go_wp2
    refine wp_loop_rounds 1 ?_
    rw [rounds_succ]
    go_wp2
    go_ret
    exact ⟨⟨_,rfl⟩,Ext.refl _⟩
   ·have h3:decide (l.length≤5000)=false:=decide_eq_false (by omega)
    have h4:decide ((l.length:Int)≤5000)=false:=decide_eq_false (by omega)
    go_wp2
    refine wp_loop_rounds 1 ?_
    rw [rounds_succ]
    go_wp2
    go_ret
    exact ⟨⟨_,rfl⟩,Ext.refl _⟩
 | succ d ih =>
  intro deep l v W n0 hd hd0 hd1 hv hn
  obtain ⟨a,cap,rfl,hl1,hl2⟩:=hv.form
  unfold maxLen at hl2
  have HV:=qh hv
  have HIH:=qh ih
  have hw:IntKind.i64.wrap (deep - 1)=deep - 1:=IntWalk.i64_in _ (by omega)
  have hdp:1≤deep:=by omega
  clear hv ih
  go_enter Tryz.func47,Tryz.ntmps47
  go_wp2
  go_loopw [5,6] (fun n i wr=>∃ k:Nat,k≤l.length∧i=.int .i64 k∧(∃ m:Int,n=.int .i64 m)∧Hid (Ext W wr)) (fun _ i _=>l.length - (intOf i).toNat)
  case atStart=>exact ⟨0,by omega,rfl,⟨_,rfl⟩,qh (Ext.refl _)⟩
  case round =>
   obtain ⟨k,hk,rfl,⟨m,rfl⟩,hx⟩:=hrel
   by_cases hlt:k<l.length
   ·by_cases hm:m≤5000
    ·have hkz:(k:Int)<(l.length:Int):=by omega
     obtain ⟨r,hr⟩:∃ r,l[k]?=some r:=⟨_,lE hlt⟩
     obtain ⟨b,off,cap2,ua,uc,e,_,_,hb,c0,c1,c2,c3,hs,_⟩:=(HV.out.ext hn hx.out).at hr
     cases e
     have hnr:n0≤wr.heap.size:=Nat.le_trans hn hx.out.size
     have hcall:=qh (fun (w:World) (x:Ext wr w)=>HIH.out (deep - 1) r.subs (.slice ua r.subs.length uc) w n0 (by omega) (by omega) (by omega) (hs.ext hnr x) (Nat.le_trans hnr x.size))
     clear hr hs
     go_upto_region 7 with (fail)
     rename_i K1 hK1 hdp9
     have hK1:=qh hK1
     refine wp_region_M (fun w'=>Ext wr w') 18 (by kernel_rfl) (Ext.drew _) (fun hS=>?_)
     refine' tk 0 hS ?_ ?_;rotate_left;·intros;go_simp;try rfl
     refine' tk 1 hS ?_ ?_;rotate_left;·intros;go_simp;try rfl
     refine' tk 2 hS ?_ ?_;rotate_left;·intros;go_simp;try rfl
     try simp only [tD]
     refine' tk 3 hS ?_ ?_;rotate_left;·intros;go_simp;try rfl
     refine' tk 4 hS ?_ ?_;rotate_left;·intros;go_simp;try rfl
     refine' tk 5 hS ?_ ?_;rotate_left;·intro w hSw;have p0:=xc hSw c0;go_simp;try rfl
     try simp only [tD]
     refine' tk 6 hS ?_ ?_;rotate_left;·intros;go_simp;try rfl
     refine' tk 7 hS ?_ ?_;rotate_left;·intros;go_simp;try rfl
     refine' tk 8 hS ?_ ?_;rotate_left;·intros;go_simp;try rfl
     try simp only [tD]
     refine' tk 9 hS ?_ ?_;rotate_left;·intros;go_simp;try rfl
     refine' tk 10 hS ?_ ?_;rotate_left;·intros;go_simp;try rfl
     refine' tk 11 hS ?_ ?_;rotate_left;·intros;go_simp;try rfl
     try simp only [tD]
     refine' tk 12 hS ?_ ?_;rotate_left;·intros;go_simp;try rfl
     refine' tk 13 hS ?_ ?_;rotate_left;·intro w hSw;have p3:=xc hSw c3;go_simp;try rfl
     refine' tk 14 hS ?_ ?_;rotate_left;·intros;go_simp;try rfl
     try simp only [tD]
     refine' tk 15 hS ?_ ?_;rotate_left;·intros;go_simp;try rfl
     try simp only [tD]
     generalize wr.drew=w2 at hS ⊢
     refine rc 16 fun K hK=>?_
     go_simp
     refine ((hcall.out w2 hS)).mono ?_
     rintro e w3 ⟨⟨n2,rfl⟩,x3⟩
     have hS0:=hS
     have hS:=Ext.trans hS x3
     refine hK.out _ _ hS ?_
     clear hK K
     refine' tk 17 hS ?_ ?_;rotate_left;·intros;go_simp;try rfl
     try simp only [tD]
     refine rl 18 fun K hK=>?_
     go_simp
     refine hK.out _ _ ?_
     try simp only [tD]
     clear hK K
     refine wpAnyM_done (by kernel_rfl) ?_ _
     refine hK1.out _ _ ?_
     go_wp2_with fail
     go_roundw
     case rel=>exact ⟨k+1,by omega,by go_num,⟨_,rfl⟩,qh (hx.out.trans hS)⟩
     case measure=>simp [intOf];omega
    ·have hd:=decide_eq_false hm
     go_wp2
     go_ret
     exact ⟨⟨_,rfl⟩,hx.out⟩
   ·go_wp2
    go_ret
    exact ⟨⟨_,rfl⟩,hx.out⟩
theorem bigR_any {W:World} {M:Mach} {n0:Nat} {vR vC vO vA vS:Value} (hm:MachIn W n0 vR vC vO vA vS M) (hn:n0≤W.heap.size) :
  Calls Tryz.prog 10 #[.agg #[.string M.name,vR,vC,vO,vA,.string M.result,vS,.int .i64 M.slots]] W fun e W'=>(∃ b:Bool,e=.returned (.bool b))∧Ext W W':=by
 obtain ⟨aR,cR,rfl,_,_⟩:=hm.regs.form
 obtain ⟨aC,cC,rfl,_,hC2⟩:=hm.cls.form
 obtain ⟨aO,cO,rfl,_,hO2⟩:=hm.ops.form
 obtain ⟨aA,cA,rfl,_,_⟩:=hm.args.form
 obtain ⟨aS,cS,rfl,_,_⟩:=hm.saved.form
 unfold maxLen at hC2 hO2
 have HM:=qh hm
 have X0:Ext W (W.alloc (.cells #[.string M.name,.slice aR M.regs.length cR,.slice aC M.classes.length cC,.slice aO M.ops.length cO,.slice aA M.args.length cA,.string M.result,.slice aS M.saved.length cS,.int .i64 M.slots] 27)):=Ext.alloc _ _
 have hc:=cells_one W [.string M.name,.slice aR M.regs.length cR,.slice aC M.classes.length cC,.slice aO M.ops.length cO,.slice aA M.args.length cA,.string M.result,.slice aS M.saved.length cS,.int .i64 M.slots] 27
 have c0:=hc 0 _ rfl
 have c1:=hc 1 _ rfl
 have c2:=hc 2 _ rfl
 have c3:=hc 3 _ rfl
 have c4:=hc 4 _ rfl
 have c5:=hc 5 _ rfl
 have c6:=hc 6 _ rfl
 clear hm hc
 go_enter Tryz.func10,Tryz.ntmps10
 go_upto_region 1 with (fail)
 generalize W.alloc (.cells #[.string M.name,.slice aR M.regs.length cR,.slice aC M.classes.length cC,.slice aO M.ops.length cO,.slice aA M.args.length cA,.string M.result,.slice aS M.saved.length cS,.int .i64 M.slots] 27)=W1 at X0 c0 c1 c2 c3 c4 c5 c6 ⊢
 have hn1:n0≤W1.heap.size:=Nat.le_trans hn X0.size
 have HM1:=qh (HM.out.same (W':=W1) (fun k hk=>Below.block X0 k (Nat.lt_of_lt_of_le hk hn)))
 have X1:=qh X0
 generalize W.heap.size=bm at c0 c1 c2 c3 c4 c5 c6 ⊢
 clear X0 HM
 have hsz:=qh (fun (w:World) (x:Ext W1 w)=>sizeR_any 30 30 M.regs _ w n0 rfl (by omega) (by omega) (HM1.out.regs.ext hn1 x) (Nat.le_trans hn1 x.size))
 have hla:=qh (fun (w:World) (x:Ext W1 w)=>longR_any _ M.args w (StrsIn.slice (StrsIn.ext HM1.out.args hn1 x)))
 have hls:=qh (fun (w:World) (x:Ext W1 w)=>longR_any _ M.saved w (StrsIn.slice (StrsIn.ext HM1.out.saved hn1 x)))
 rename_i K1 hK1
 have hK1:=qh hK1
 refine wp_region_M (fun w'=>Ext W1 w') 21 (by kernel_rfl) (Ext.drew _) (fun hS=>?_)
 refine' tk 0 hS ?_ ?_;rotate_left;·intros;go_simp;try rfl
 refine' tk 1 hS ?_ ?_;rotate_left;·intro w hSw;have p1:=xc hSw c1;go_simp;try rfl
 refine' tk 3 hS ?_ ?_;rotate_left;·intros;go_simp;try rfl
 try simp only [tD]
 refine' tk 4 hS ?_ ?_;rotate_left;·intro w hSw;have p4:=xc hSw c4;go_simp;try rfl
 refine' tk 7 hS ?_ ?_;rotate_left;·intros;go_simp;try rfl
 refine' tk 8 hS ?_ ?_;rotate_left;·intro w hSw;have p6:=xc hSw c6;go_simp;try rfl
 try simp only [tD]
 refine' tk 11 hS ?_ ?_;rotate_left;·intros;go_simp;try rfl
 refine' tk 12 hS ?_ ?_;rotate_left;·intro w hSw;have p0:=xc hSw c0;go_simp;try rfl
 refine' tk 13 hS ?_ ?_;rotate_left;·intros;go_simp;try rfl
 try simp only [tD]
 refine' tk 14 hS ?_ ?_;rotate_left;·intros;go_simp;try rfl
 refine' tk 16 hS ?_ ?_;rotate_left;·intros;go_simp;try rfl
 refine' tk 17 hS ?_ ?_;rotate_left;·intro w hSw;have p5:=xc hSw c5;go_simp;try rfl
 try simp only [tD]
 refine' tk 18 hS ?_ ?_;rotate_left;·intros;go_simp;try rfl
 refine' tk 19 hS ?_ ?_;rotate_left;·intros;go_simp;try rfl
 try simp only [tD]
 generalize W1.drew=w2 at hS ⊢
 refine rc 2 fun K hK=>?_
 go_simp
 refine ((hsz.out w2 hS)).mono ?_
 rintro e w3 ⟨⟨n1,rfl⟩,x3⟩
 have hS0:=hS
 have hS:=Ext.trans hS x3
 refine hK.out _ _ hS ?_
 try simp only [tD]
 clear hK K
 refine rc 5 fun K hK=>?_
 go_simp
 refine ((hla.out _ hS)).mono ?_
 rintro e w4 ⟨⟨n2,rfl⟩,rfl⟩
 refine hK.out _ _ hS ?_
 clear hK K
 refine' tk 6 hS ?_ ?_;rotate_left;·intros;go_simp;try rfl
 try simp only [tD]
 refine rc 9 fun K hK=>?_
 go_simp
 refine ((hls.out _ hS)).mono ?_
 rintro e w5 ⟨⟨n3,rfl⟩,rfl⟩
 refine hK.out _ _ hS ?_
 clear hK K
 refine' tk 10 hS ?_ ?_;rotate_left;·intros;go_simp;try rfl
 refine' tk 15 hS ?_ ?_;rotate_left;·intros;go_simp;try rfl
 try simp only [tD]
 refine' tk 20 hS ?_ ?_;rotate_left;·intros;go_simp;try rfl
 try simp only [tD]
 refine rl 21 fun K hK=>?_
 go_simp
 refine hK.out _ _ ?_
 try simp only [tD]
 clear hK K
 refine wpAnyM_done (by kernel_rfl) ?_ _
 refine hK1.out _ _ ?_
 clear hsz hla hls
 go_upto_block 0 with fail
 go_cut [3] from 29 to 59 (fun n wx=>(∃ m:Int,n=.int .i64 m)∧Ext W1 wx)
 case first =>
  have H0:=qh hS
  clear hS hS0
  go_wp2_with fail
  go_loopw [3,4] (fun n i wr=>∃ k:Nat,k≤M.classes.length∧i=.int .i64 k∧(∃ m:Int,n=.int .i64 m)∧Hid (Ext W1 wr)) (fun _ i _=>M.classes.length - (intOf i).toNat)
  case atStart=>exact ⟨0,by omega,rfl,⟨_,rfl⟩,H0⟩
  case round =>
   obtain ⟨k,hk,rfl,⟨m,rfl⟩,hx⟩:=hrel
   have c2:=xc hx.out c2
   by_cases hlt:k<M.classes.length
   ·by_cases hm:m≤5000
    ·have hkz:(k:Int)<(M.classes.length:Int):=by omega
     obtain ⟨r,hr⟩:∃ r,M.classes[k]?=some r:=⟨_,lE hlt⟩
     have hnr:n0≤wr.heap.size:=Nat.le_trans hn1 hx.out.size
     obtain ⟨b,off,cap2,u,e,_,_,hb,d0,d1,hs⟩:=((HM1.out.cls.same (W':=wr) (fun q hq=>Below.block hx.out q (Nat.lt_of_lt_of_le hq hn1))).at hr)
     cases e
     obtain ⟨ua,uc,eu,_,_⟩:=hs.form
     subst eu
     have hcall:=qh (fun (w:World) (x:Ext wr w)=>longR_any _ r.regs w (StrsIn.slice (StrsIn.ext hs hnr x)))
     clear hr hs
     go_upto_region 5 with (fail)
     rename_i K1 hK1
     have hK1:=qh hK1
     refine wp_region_M (fun w'=>Ext wr w') 19 (by kernel_rfl) (Ext.drew _) (fun hS=>?_)
     refine' tk 0 hS ?_ ?_;rotate_left;·intros;go_simp;try rfl
     refine' tk 1 hS ?_ ?_;rotate_left;·intros;go_simp;try rfl
     refine' tk 2 hS ?_ ?_;rotate_left;·intros;go_simp;try rfl
     try simp only [tD]
     refine' tk 3 hS ?_ ?_;rotate_left;·intro w hSw;have p0:=xc hSw c2;go_simp;try rfl
     refine' tk 4 hS ?_ ?_;rotate_left;·intros;go_simp;try rfl
     refine' tk 5 hS ?_ ?_;rotate_left;·intros;go_simp;try rfl
     try simp only [tD]
     refine' tk 6 hS ?_ ?_;rotate_left;·intros;go_simp;try rfl
     refine' tk 7 hS ?_ ?_;rotate_left;·intro w hSw;have p2:=xc hSw d1;go_simp;try rfl
     refine' tk 10 hS ?_ ?_;rotate_left;·intros;go_simp;try rfl
     try simp only [tD]
     refine' tk 11 hS ?_ ?_;rotate_left;·intro w hSw;have p0:=xc hSw c2;go_simp;try rfl
     refine' tk 12 hS ?_ ?_;rotate_left;·intros;go_simp;try rfl
     refine' tk 13 hS ?_ ?_;rotate_left;·intros;go_simp;try rfl
     try simp only [tD]
     refine' tk 14 hS ?_ ?_;rotate_left;·intros;go_simp;try rfl
     refine' tk 15 hS ?_ ?_;rotate_left;·intro w hSw;have p1:=xc hSw d0;go_simp;try rfl
     refine' tk 16 hS ?_ ?_;rotate_left;·intros;go_simp;try rfl
     try simp only [tD]
     refine' tk 17 hS ?_ ?_;rotate_left;·intros;go_simp;try rfl
     try simp only [tD]
     generalize wr.drew=w2 at hS ⊢
     refine rc 8 fun K hK=>?_
     go_simp
     refine ((hcall.out w2 hS)).mono ?_
     rintro e w3 ⟨⟨n2,rfl⟩,rfl⟩
     refine hK.out _ _ hS ?_
     clear hK K
     refine' tk 9 hS ?_ ?_;rotate_left;·intros;go_simp;try rfl
     refine' tk 18 hS ?_ ?_;rotate_left;·intros;go_simp;try rfl
     try simp only [tD]
     refine rl 19 fun K hK=>?_
     go_simp
     refine hK.out _ _ ?_
     try simp only [tD]
     clear hK K
     refine wpAnyM_done (by kernel_rfl) ?_ _
     refine hK1.out _ _ ?_
     go_wp2_with fail
     go_roundw
     case rel=>exact ⟨k+1,by omega,by go_num,⟨_,rfl⟩,qh (hx.out.trans hS)⟩
     case measure=>simp [intOf];omega
    ·have hd:=decide_eq_false hm
     go_wp2_with fail
     go_meet
     case rel=>exact ⟨⟨_,rfl⟩,hx.out⟩
   ·go_wp2_with fail
    go_meet
    case rel=>exact ⟨⟨_,rfl⟩,hx.out⟩
 case rest =>
  obtain ⟨⟨m0,rfl⟩,hS2⟩:=hcut
  have H0:=qh hS2
  clear hS2 hS hS0
  go_upto_block 2 with fail
  go_cut [3] from 59 to 130 (fun n wx=>(∃ m:Int,n=.int .i64 m)∧Ext W1 wx)
  case rest =>
   obtain ⟨⟨m1,rfl⟩,hS2⟩:=hcut
   go_wp2_with fail
   go_ret
   exact ⟨⟨_,rfl⟩,X1.out.trans hS2⟩
  case first =>
   go_wp2_with fail
   go_loopw [3,5] (fun n i wr=>∃ k:Nat,k≤M.ops.length∧i=.int .i64 k∧(∃ m:Int,n=.int .i64 m)∧Hid (Ext W1 wr)) (fun _ i _=>M.ops.length - (intOf i).toNat)
   case atStart=>exact ⟨0,by omega,rfl,⟨_,rfl⟩,H0⟩
   case round =>
    obtain ⟨k,hk,rfl,⟨m,rfl⟩,hx⟩:=hrel
    have c3:=xc hx.out c3
    by_cases hlt:k<M.ops.length
    ·by_cases hm:m≤5000
     ·have hkz:(k:Int)<(M.ops.length:Int):=by omega
      obtain ⟨o,hr⟩:∃ r,M.ops[k]?=some r:=⟨_,lE hlt⟩
      have hnr:n0≤wr.heap.size:=Nat.le_trans hn1 hx.out.size
      obtain ⟨b,off,cap2,vU,vK,e,_,_,hb,o0,o1,o2,o3,o4,o5,hU,hK,_⟩:=((HM1.out.ops.same (W':=wr) (fun q hq=>Below.block hx.out q (Nat.lt_of_lt_of_le hq hn1))).at hr)
      cases e
      obtain ⟨ua,uc,eu,hu1,hu2⟩:=hU.form
      obtain ⟨ka,kc,ek,_,_⟩:=hK.form
      subst eu ek
      unfold maxLen at hu2
      have x2:Ext wr (wr.alloc (.cells #[.string o.name,.string o.dfn.cls,.string o.dfn.fix,.slice ua o.uses.length uc,.int .i64 o.tie,.slice ka o.clob.length kc] 60)):=Ext.alloc _ _
      have hc:=cells_one wr [.string o.name,.string o.dfn.cls,.string o.dfn.fix,.slice ua o.uses.length uc,.int .i64 o.tie,.slice ka o.clob.length kc] 60
      have d0:=hc 0 _ rfl
      have d1:=hc 1 _ rfl
      have d2:=hc 2 _ rfl
      have d3:=hc 3 _ rfl
      have d5:=hc 5 _ rfl
      clear hc hr
      go_upto_region 10 with (fail)
      generalize wr.alloc (.cells #[.string o.name,.string o.dfn.cls,.string o.dfn.fix,.slice ua o.uses.length uc,.int .i64 o.tie,.slice ka o.clob.length kc] 60)=wo at x2 d0 d1 d2 d3 d5 ⊢
      have hno:n0≤wo.heap.size:=Nat.le_trans hnr x2.size
      have hcall:=qh (fun (w:World) (x:Ext wo w)=>longR_any _ o.clob w (StrsIn.slice (StrsIn.ext (StrsIn.ext hK hnr x2) hno x)))
      have HU:=qh (fun (w:World) (x:Ext wo w)=>(Tab.same (W':=w) hU (fun q hq=>(Below.block x q (Nat.lt_of_lt_of_le hq hno)).trans (Below.block x2 q (Nat.lt_of_lt_of_le hq hnr))):OprsIn w n0 _ o.uses))
      have X2:=qh x2
      generalize wr.heap.size=bo at d0 d1 d2 d3 d5 ⊢
      clear hU hK x2
      rename_i K1 hK1
      have hK1:=qh hK1
      refine wp_region_M (fun w'=>Ext wo w') 26 (by kernel_rfl) (Ext.drew _) (fun hS=>?_)
      refine' tk 0 hS ?_ ?_;rotate_left;·intros;go_simp;try rfl
      refine' tk 1 hS ?_ ?_;rotate_left;·intros;go_simp;try rfl
      refine' tk 2 hS ?_ ?_;rotate_left;·intros;go_simp;try rfl
      try simp only [tD]
      refine' tk 3 hS ?_ ?_;rotate_left;·intro w hSw;have p5:=xc hSw d5;go_simp;try rfl
      refine' tk 6 hS ?_ ?_;rotate_left;·intros;go_simp;try rfl
      refine' tk 7 hS ?_ ?_;rotate_left;·intro w hSw;have p0:=xc hSw d0;go_simp;try rfl
      try simp only [tD]
      refine' tk 8 hS ?_ ?_;rotate_left;·intros;go_simp;try rfl
      refine' tk 9 hS ?_ ?_;rotate_left;·intros;go_simp;try rfl
      refine' tk 11 hS ?_ ?_;rotate_left;·intros;go_simp;try rfl
      try simp only [tD]
      refine' tk 12 hS ?_ ?_;rotate_left;·intros;go_simp;try rfl
      refine' tk 13 hS ?_ ?_;rotate_left;·intro w hSw;have p1:=xc hSw d1;go_simp;try rfl
      refine' tk 14 hS ?_ ?_;rotate_left;·intros;go_simp;try rfl
      try simp only [tD]
      refine' tk 15 hS ?_ ?_;rotate_left;·intros;go_simp;try rfl
      refine' tk 16 hS ?_ ?_;rotate_left;·intros;go_simp;try rfl
      refine' tk 17 hS ?_ ?_;rotate_left;·intro w hSw;have p2:=xc hSw d2;go_simp;try rfl
      try simp only [tD]
      refine' tk 18 hS ?_ ?_;rotate_left;·intros;go_simp;try rfl
      refine' tk 19 hS ?_ ?_;rotate_left;·intros;go_simp;try rfl
      refine' tk 20 hS ?_ ?_;rotate_left;·intros;go_simp;try rfl
      try simp only [tD]
      refine' tk 22 hS ?_ ?_;rotate_left;·intros;go_simp;try rfl
      refine' tk 23 hS ?_ ?_;rotate_left;·intro w hSw;have p3:=xc hSw d3;go_simp;try rfl
      refine' tk 24 hS ?_ ?_;rotate_left;·intros;go_simp;try rfl
      try simp only [tD]
      generalize wo.drew=w2 at hS ⊢
      refine rc 4 fun K hK=>?_
      go_simp
      refine ((hcall.out w2 hS)).mono ?_
      rintro e w3 ⟨⟨n2,rfl⟩,rfl⟩
      refine hK.out _ _ hS ?_
      clear hK K
      refine' tk 5 hS ?_ ?_;rotate_left;·intros;go_simp;try rfl
      refine' tk 10 hS ?_ ?_;rotate_left;·intros;go_simp;try rfl
      try simp only [tD]
      refine' tk 21 hS ?_ ?_;rotate_left;·intros;go_simp;try rfl
      refine' tk 25 hS ?_ ?_;rotate_left;·intros;go_simp;try rfl
      try simp only [tD]
      refine rl 26 fun K hK=>?_
      go_simp
      refine hK.out _ _ ?_
      try simp only [tD]
      clear hK K
      refine wpAnyM_done (by kernel_rfl) ?_ _
      refine hK1.out _ _ ?_
      have HS:=qh hS
      clear hS hcall
      go_wp2_with fail
      go_loopw [3,7] (fun n i wq=>∃ q:Nat,q≤o.uses.length∧i=.int .i64 q∧(∃ m:Int,n=.int .i64 m)∧Hid (Ext wo wq)) (fun _ i _=>o.uses.length - (intOf i).toNat)
      case atStart=>exact ⟨0,by omega,rfl,⟨_,rfl⟩,HS⟩
      case round =>
       obtain ⟨q,hq,rfl,⟨m2,rfl⟩,hy⟩:=hrel
       have d3:=xc hy.out d3
       by_cases hlq:q<o.uses.length
       ·by_cases hm2:m2≤5000
        ·have hqz:(q:Int)<(o.uses.length:Int):=by omega
         obtain ⟨u,hu⟩:∃ r,o.uses[q]?=some r:=⟨_,lE hlq⟩
         obtain ⟨b2,off2,cap3,e,_,_,hb2,g0,g1⟩:=OprsIn.at (HU.out _ hy.out) hu
         cases e
         clear hu
         go_upto_region 14 with (fail)
         go_quiet (fail)
         have hz:=qh (hy.out.trans (Ext.drewN _ nq))
         go_wp2_with fail
         go_roundw
         case rel=>exact ⟨q+1,by omega,by go_num,⟨_,rfl⟩,hz⟩
         case measure=>simp [intOf];omega
        ·have hd:=decide_eq_false hm2
         go_wp2_with fail
         go_roundw
         case rel=>exact ⟨k+1,by omega,by go_num,⟨_,rfl⟩,qh (hx.out.trans (X2.out.trans hy.out))⟩
         case measure=>simp [intOf];omega
       ·go_wp2_with fail
        go_roundw
        case rel=>exact ⟨k+1,by omega,by go_num,⟨_,rfl⟩,qh (hx.out.trans (X2.out.trans hy.out))⟩
        case measure=>simp [intOf];omega
     ·have hd:=decide_eq_false hm
      go_wp2_with fail
      go_meet
      case rel=>exact ⟨⟨_,rfl⟩,hx.out⟩
    ·go_wp2_with fail
     go_meet
     case rel=>exact ⟨⟨_,rfl⟩,hx.out⟩
end Go.Proofs.YtligiddaampneaaGreat
