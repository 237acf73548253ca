/- Package table: a table made of a description. -/
import Derived.Test.YtligiddaampneaaGreatTp
import Derived.Test.YtligiddaampneaaGreatTl
import Derived.Test.YtligiddaampneaaGreatTi
import Derived.Test.YtligiddaampneaaGreatTk
set_option maxRecDepth 100000
set_option maxHeartbeats 16000000
namespace Go.Proofs.YtligiddaampneaaGreat
open Go.RowKit
attribute [local go_sem] Oper.semAt_some
structure TV where
 (vR vC vO vA vS vN vP vL vOf vI vM vK vSv vAr vKp:Value)
 (r rc ro:Nat)
def tblCells (M:Mach) (V:TV):List Value:=[.string M.name,V.vR,V.vC,V.vO,V.vA,.string M.result,V.vS,.int .i64 M.slots,V.vN,V.vP,.map (some V.r),.map (some V.rc),.map (some V.ro),V.vL,V.vOf,V.vI,V.vM,V.vK,V.vSv,V.vAr,V.vKp]
structure TblIn (W:World) (bt:Nat) (V:TV) (M:Mach) (N:List ByteArray) (L:List Pl):Prop where
 blk:W.heap[bt]?=some (.cells (tblCells M V).toArray 84 (0,0))
 m:MachIn W bt V.vR V.vC V.vO V.vA V.vS M
 nm:W.ownsRow 0 9 1 V.vN N.length (N.map Value.string)
 pl:W.ownsRow 0 88 3 V.vP L.length (plCells L)
 regs:NumIn W V.r N
 cls:NumIn W V.rc (M.classes.map Cls.name)
 ops:NumIn W V.ro (M.ops.map Opn.name)
 laps:∃ us,us.length=L.length∧SetsG W 0 V.vL (fun a=>inL (lapRow L (L.getD a ⟨0,0,0⟩) L.length)) us
 of:∃ us,KG W 0 V.vOf (numsC N M.classes) us
 ins:∃ us,us.length=M.classes.length∧SetsG W 0 V.vI (fun i=>inL ((numsC N M.classes).getD i [])) us
 may:∃ ms,ms.length=M.ops.length∧MayG W 0 V.vM (mayB M N L (numsC N M.classes)) (mayLen M) ms
 clob:∃ us,KG W 0 V.vK (M.ops.map fun o=>o.clob.map (idx N)) us
 saved:W.ownsRow 0 3 1 V.vSv M.saved.length ((M.saved.map (idx N)).map (Value.int .i64))
 args:W.ownsRow 0 3 1 V.vAr M.args.length ((M.args.map (idx N)).map (Value.int .i64))
 keeps:SetIn W V.vKp (inL (rowOf (survB L (M.saved.map (idx N))) L.length))
theorem KG.base {W:World} {kb kb2:Nat} {v:Value} {C:List (List Int)} {us:List Value} (h:KG W kb v C us) (hb:kb2≤kb):KG W kb2 v C us:=⟨h.len,owns_base h.own hb,h.rows⟩
theorem MayG.base {W:World} {lo lo2:Nat} {v:Value} {f:Nat→Nat→Nat→Bool} {len:Nat→Nat} {ms:List Value} (h:MayG W lo v f len ms) (hb:lo2≤lo):MayG W lo2 v f len ms:=⟨owns_base h.own hb,h.rows⟩
theorem TblIn.lt {W:World} {bt:Nat} {V:TV} {M:Mach} {N:List ByteArray} {L:List Pl} (h:TblIn W bt V M N L):bt<W.heap.size:=(Array.getElem?_eq_some_iff.1 h.blk).1
theorem TblIn.keep {ts:List TypeId} {W W':World} {bt:Nat} {V:TV} {M:Mach} {N:List ByteArray} {L:List Pl} (h:TblIn W bt V M N L) (k:KeepN ts W W') (hm:MachIn W' bt V.vR V.vC V.vO V.vA V.vS M)
    (h1:84∉ts) (h2:9∉ts) (h3:88∉ts) (h4:78∉ts) (h5:108∉ts) (h6:36∉ts) (h7:3∉ts) (h8:81∉ts):TblIn W' bt V M N L :=
  ⟨k.2 _ _ h.blk (fun cs t fz e=>by cases e;exact h1),hm,owns_keepN h.nm k h2,owns_keepN h.pl k h3,h.regs.keepN k,h.cls.keepN k,h.ops.keepN k,h.laps.imp fun _ q=>⟨q.1,q.2.keep k h4 h5⟩,h.of.imp fun _ q=>q.keep k h6 h7,h.ins.imp fun _ q=>⟨q.1,q.2.keep k h4 h5⟩,
    h.may.imp fun _ q=>⟨q.1,q.2.keep k h8 h4 h5⟩,h.clob.imp fun _ q=>q.keep k h6 h7,owns_keepN h.saved k h7,owns_keepN h.args k h7,h.keeps.keep k h5⟩
theorem TblIn.ext {W W':World} {bt:Nat} {V:TV} {M:Mach} {N:List ByteArray} {L:List Pl} (h:TblIn W bt V M N L) (x:Ext W W'):TblIn W' bt V M N L :=
 h.keep (KeepN.ext (ts:=[]) x) (h.m.same fun k hk=>Below.block x k (Nat.lt_trans hk h.lt)) (by decide) (by decide) (by decide) (by decide) (by decide) (by decide) (by decide) (by decide)
theorem check_ne {M:Mach} {x:Int} (h:checkS M=.error x):x≠0:=by
 unfold checkS at h
 cases hh:headS M with
 | error y =>
  rw [hh] at h
  cases h
  exact begin_ne (four:=true) (M:=M) (by unfold beginS;rw [hh])
 | ok r =>
  obtain ⟨N,L⟩:=r
  obtain ⟨hl,_⟩:L.length=N.length∧∀ p∈L,p.tight:=by
   have h2:=hh
   unfold headS at h2
   split at h2
   ·cases hp:placesS M.regs with
    | error x=>rw [hp] at h2;cases h2
    | ok σ =>
     rw [hp] at h2
     dsimp only at h2
     have hg:=placesS_tight hp
     split at h2
     ·cases h2;exact ⟨hg.1.lp,hg.2⟩
     ·cases h2
   ·cases h2
  rw [hh] at h
  dsimp only at h
  cases hc:classesS M N L with
  | error y=>rw [hc] at h;cases h;exact classes_ne hc
  | ok u =>
   rw [hc] at h
   dsimp only at h
   have hG:=classes_good hc
   cases ho:opsS M N L with
   | error y =>
    rw [ho] at h
    cases h
    have h2:=ho
    unfold opsS at h2
    split at h2
    ·exact goS_ne (fun i x e hx he=>opS_ne hG hl (by simpa using hx) (by simpa using he)) _ h2
    ·cases h2;decide
   | ok u2 =>
    rw [ho] at h
    dsimp only at h
    cases hv:convS M N L with
    | error y=>rw [hv] at h;cases h;rw [convS_ten hv];decide
    | ok u3 =>
     rw [hv] at h
     rw [spills_err h];decide
def TMakePost (W:World) (M:Mach) (e:Ending) (w':World):Prop:=Ext W w'∧match checkS M with
 | .error x=>e=.returned (.tuple #[.pointer none,.int .i64 x])
 | .ok _=>∃ bt V N L,e=.returned (.tuple #[.pointer (some ⟨bt,0,none⟩),.int .i64 0])∧W.heap.size≤bt∧Taken M N L∧TblIn w' bt V M N L
def TMakePost2 (W:World) (M:Mach) (e:Ending) (w':World):Prop:=Ext W w'∧match checkS M with
 | .error x=>e=.returned (.tuple #[.pointer none,.int .i64 x])
 | .ok _=>∃ bt V N L,e=.returned (.tuple #[.pointer (some ⟨bt,0,none⟩),.int .i64 0])∧W.heap.size≤bt∧Taken M N L∧TblIn w' bt V M N L∧(∀ w:World,(∀ k,W.heap.size≤k→k<bt→w.heap[k]?=w'.heap[k]?)→MachIn w bt V.vR V.vC V.vO V.vA V.vS M)∧w'.ownsRow W.heap.size 9 1 V.vN N.length (N.map Value.string)
theorem TMakePost2.post {W:World} {M:Mach} {e:Ending} {w':World} (h:TMakePost2 W M e w'):TMakePost W M e w':=by
 obtain ⟨x,h⟩:=h
 refine ⟨x,?_⟩
 cases hc:checkS M with
 | error y=>rw [hc] at h;exact h
 | ok u =>
  rw [hc] at h
  obtain ⟨bt,V,N,L,a,b,c,d,_⟩:=h
  exact ⟨bt,V,N,L,a,b,c,d⟩
structure ClsG (W:World) (bt:Nat) (cs:List Value) (M:Mach) (N:List ByteArray) (i j:Nat) (vOf vI:Value) (us is:List Value) (wr:World):Prop where
 keep:Keep (fun k=>k=bt) W wr
 blk:wr.heap[bt]?=some (.cells ((cs.set 14 vOf).set 15 vI).toArray 84 (0,0))
 of:KG wr W.heap.size vOf (numsC N (M.classes.take i)) us
 ins:SetsG wr W.heap.size vI (fun i=>inL ((numsC N M.classes).getD i [])) is
 len:is.length=j
theorem ClsG.ext {W wr w':World} {bt i j:Nat} {cs:List Value} {M:Mach} {N:List ByteArray} {vOf vI:Value} {us is:List Value} (h:ClsG W bt cs M N i j vOf vI us is wr) (x:Ext wr w'):ClsG W bt cs M N i j vOf vI us is w' :=
 ⟨h.keep.trans (Keep.of_ext x:Keep (fun k=>k=bt) wr w') (fun _ _ e=>e),x.block h.blk,h.of.ext x,h.ins.ext x,h.len⟩
theorem places_ok {l:List RegT} {σ:Wk} {N:List ByteArray} {L:List Pl} {w w':World} {e:Ending} (hp:placesS l=.ok σ∧σ.names=N∧σ.places=L) (h:PlacesPost2 w (placesS l) e w'):∃ aN cN aP cP,e=.returned (.tuple #[.slice aN N.length cN,.slice aP L.length cP,.int .i64 0])∧Ext w w'∧w'.ownsRow w.heap.size 9 1 (.slice aN N.length cN) N.length (N.map Value.string)∧w'.ownsRow 0 88 3 (.slice aP L.length cP) L.length (plCells L):=by
 obtain ⟨hp,rfl,rfl⟩:=hp
 unfold PlacesPost2 at h
 rw [hp] at h
 obtain ⟨x,vN,vP,e,a,b,_⟩:=h
 obtain ⟨aN,cN,rfl,_,_⟩:=(Row.of_owns a).shape
 obtain ⟨aP,cP,rfl,_,_⟩:=(Row.of_owns b).shape
 exact ⟨aN,cN,aP,cP,e,x,a,owns_down b⟩
theorem two_set {W:World} {b i j:Nat} {cs:List Value} {t:TypeId} (h:W.heap[b]?=some (.cells cs.toArray t (0,0))) (u v:Value):((W.setCell ⟨b,i,none⟩ u).setCell ⟨b,j,none⟩ v).heap[b]?=some (.cells ((cs.set i u).set j v).toArray t (0,0))∧Keep (fun k=>k=b) W ((W.setCell ⟨b,i,none⟩ u).setCell ⟨b,j,none⟩ v):=by
 have h1:=heap_set_cells h i u
 rw [List.setIfInBounds_toArray] at h1
 have h2:=heap_set_cells h1 j v
 rw [List.setIfInBounds_toArray] at h2
 exact ⟨h2,(Keep.setCell (fun k=>k=b) W ⟨b,i,none⟩ u rfl).trans (Keep.setCell (fun k=>k=b) _ ⟨b,j,none⟩ v rfl) (fun _ _ e=>e)⟩
theorem one_set {W:World} {b i:Nat} {cs:List Value} {t:TypeId} (h:W.heap[b]?=some (.cells cs.toArray t (0,0))) (u:Value):(W.setCell ⟨b,i,none⟩ u).heap[b]?=some (.cells (cs.set i u).toArray t (0,0))∧Keep (fun k=>k=b) W (W.setCell ⟨b,i,none⟩ u):=by
 have h1:=heap_set_cells h i u
 rw [List.setIfInBounds_toArray] at h1
 exact ⟨h1,Keep.setCell (fun k=>k=b) W ⟨b,i,none⟩ u rfl⟩
theorem makeTable2_any {W:World} {M:Mach} {n0:Nat} {vR vC vO vA vS:Value} (hm:MachIn W n0 vR vC vO vA vS M) (hn:n0≤W.heap.size) :
  Calls Tryz.prog 41 #[.agg #[.string M.name,vR,vC,vO,vA,.string M.result,vS,.int .i64 M.slots]] W (TMakePost2 W M):=by
 obtain ⟨aR,cR,rfl⟩:∃ a c,vR=.slice a M.regs.length c:=by
  obtain ⟨a,c,e,_,_⟩:=hm.regs.form;exact ⟨a,c,e⟩
 obtain ⟨aC,cC,rfl,hC1,hC2⟩:=hm.cls.form
 obtain ⟨aO,cO,rfl,hO1,hO2⟩:=hm.ops.form
 obtain ⟨aA,cA,rfl,_,_⟩:=hm.args.form
 obtain ⟨aS,cS,rfl,_,_⟩:=hm.saved.form
 unfold maxLen at hC2 hO2
 have x0:Ext W (W.alloc (.cells #[.string M.name,.slice aR M.regs.length cR,.slice aC M.classes.length cC,.slice aO M.ops.length cO,.slice aA M.args.length cA,.string M.result,.slice aS M.saved.length cS,.int .i64 M.slots] 27)):=Ext.alloc _ _
 have bm:=heap_alloc_new W (.cells #[.string M.name,.slice aR M.regs.length cR,.slice aC M.classes.length cC,.slice aO M.ops.length cO,.slice aA M.args.length cA,.string M.result,.slice aS M.saved.length cS,.int .i64 M.slots] 27)
 have HM:Hid (∀ w,Ext W w→MachIn w n0 (.slice aR M.regs.length cR) (.slice aC M.classes.length cC) (.slice aO M.ops.length cO) (.slice aA M.args.length cA) (.slice aS M.saved.length cS) M):=qh (fun w x=>hm.same fun k hk=>Below.block x k (by omega))
 have HN:=qh hn
 have hck:=qh (checkM (HM.out _ x0) (Nat.le_trans hn x0.size))
 have m0:=blk_cell bm 0 _ rfl
 have m1:=blk_cell bm 1 _ rfl
 have m2:=blk_cell bm 2 _ rfl
 have m3:=blk_cell bm 3 _ rfl
 have m4:=blk_cell bm 4 _ rfl
 have m5:=blk_cell bm 5 _ rfl
 have m6:=blk_cell bm 6 _ rfl
 have m7:=blk_cell bm 7 _ rfl
 go_enter Tryz.func41,Tryz.ntmps41
 go_upto_region 1 with (fail)
 generalize W.alloc (.cells #[.string M.name,.slice aR M.regs.length cR,.slice aC M.classes.length cC,.slice aO M.ops.length cO,.slice aA M.args.length cA,.string M.result,.slice aS M.saved.length cS,.int .i64 M.slots] 27)=w0 at x0 bm hck m0 m1 m2 m3 m4 m5 m6 m7 ⊢
 generalize hbme:W.heap.size=bmn at bm m0 m1 m2 m3 m4 m5 m6 m7 ⊢
 have HBM:=qh hbme
 have BM:=qh bm
 have X0:=qh x0
 clear hm hbme bm x0
 cases hc:checkS M with
 | error x =>
  have hx:=check_ne hc
  rw [hc] at hck
  have hxz:(x == 0)=false:=by simp [hx]
  have hcx:codeOf (Except.error x:Except Int Unit)=x:=rfl
  rw [hcx] at hck
  have HCK:=qh hc
  clear hcx hc
  go_wp2_with (go_at_call 76;refine hck.out.mono ?_;rintro e w1 ⟨rfl,hx1⟩)
  refine bodyPost_ret (v:=.tuple #[.pointer none,.int .i64 x]) (by simp [results,Tryz.results41,go_sem]) rfl ?_
  unfold TMakePost2
  rw [HCK.out]
  exact ⟨X0.out.trans hx1,rfl⟩
 | ok u =>
  obtain ⟨N,L,hT⟩:=taken_of (M:=M) hc
  rw [hc] at hck
  have hcx:codeOf (Except.ok u:Except Int Unit)=0:=rfl
  rw [hcx] at hck
  have HT:=qh hT
  obtain ⟨σ,hp,hσN,hσL⟩:=hT.pl
  have HP:=qh (And.intro hp (And.intro hσN hσL))
  have HCK:=qh hc
  clear hcx hc hT hp hσN hσL
  have hcop:Hid (∀ w,Ext W w→Calls Tryz.prog 57 #[.agg #[.string M.name,.slice aR M.regs.length cR,.slice aC M.classes.length cC,.slice aO M.ops.length cO,.slice aA M.args.length cA,.string M.result,.slice aS M.saved.length cS,.int .i64 M.slots]] w fun e w'=>∃ uR uC uO uA uS,e=.returned (.agg #[.string M.name,uR,uC,uO,uA,.string M.result,uS,.int .i64 M.slots])∧MachCopy w.heap.size w' uR uC uO uA uS M∧Ext w w'):=qh (fun w x=>copied_any (HM.out w x) (Nat.le_trans HN.out x.size) HT.out.small)
  go_upto_region 5 with (first
   | (go_at_call 76;refine hck.out.mono ?_;rintro e w1 ⟨rfl,hx1⟩;have X1:=qh hx1;have m0:=hx1.cell m0;have m1:=hx1.cell m1;have m2:=hx1.cell m2;have m3:=hx1.cell m3;have m4:=hx1.cell m4;have m5:=hx1.cell m5;have m6:=hx1.cell m6;have m7:=hx1.cell m7;clear hx1)
   | (go_at_call 57;refine (hcop.out _ (X0.out.trans X1.out)).mono ?_;rintro e w2 ⟨uR,uC,uO,uA,uS,rfl,hmc,hx2⟩;have MC:=qh hmc;have X2:=qh hx2;have m1:=hx2.cell m1;clear hmc hx2))
  have hb3:=heap_alloc_new w2 (.cells #[.string M.name,uR,uC,uO,uA,.string M.result,uS,.int .i64 M.slots,.slice none 0 0,.slice none 0 0,.map none,.map none,.map none,.slice none 0 0,.slice none 0 0,.slice none 0 0,.slice none 0 0,.slice none 0 0,.slice none 0 0,.slice none 0 0,.slice none 0 0] 84)
  have x3:Ext w2 (w2.alloc (.cells #[.string M.name,uR,uC,uO,uA,.string M.result,uS,.int .i64 M.slots,.slice none 0 0,.slice none 0 0,.map none,.map none,.map none,.slice none 0 0,.slice none 0 0,.slice none 0 0,.slice none 0 0,.slice none 0 0,.slice none 0 0,.slice none 0 0,.slice none 0 0] 84)):=Ext.alloc _ _
  have m1:=x3.cell m1
  generalize w2.alloc (.cells #[.string M.name,uR,uC,uO,uA,.string M.result,uS,.int .i64 M.slots,.slice none 0 0,.slice none 0 0,.map none,.map none,.map none,.slice none 0 0,.slice none 0 0,.slice none 0 0,.slice none 0 0,.slice none 0 0,.slice none 0 0,.slice none 0 0,.slice none 0 0] 84)=w3 at hb3 x3 m1 ⊢
  generalize hbt:w2.heap.size=bt at hb3 ⊢
  have hwb:bmn<bt:=by
   have h0:=(Array.getElem?_eq_some_iff.1 BM.out).1
   have h1:=X1.out.size
   have h2:=X2.out.size
   omega
  have hWb:w0.heap.size≤bt:=by
   have h1:=X1.out.size
   have h2:=X2.out.size
   omega
  have MI:Hid (∀ w,(∀ k,bmn≤k→k<bt→w.heap[k]?=w3.heap[k]?)→MachIn w bt uR uC uO uA uS M):=qh (fun w hk=>by
   have:=MC.out w (fun k h1 h2=>(hk k (by have:=HBM.out;have:=X0.out.size;have:=X1.out.size;omega) (by omega)).trans (Below.block x3 k h2))
   rw [hbt] at this
   exact this)
  have X3:=qh ((X1.out.trans X2.out).trans x3)
  have B3:=qh hb3
  have HPL:Hid (∀ w,Ext W w→Calls Tryz.prog 77 #[.slice aR M.regs.length cR] w (PlacesPost2 w (placesS M.regs))):=qh (fun w x=>places2_any M.regs aR _ cR w ((HM.out w x).regs.up' (Nat.le_trans HN.out x.size)))
  clear hb3 x3 MC hbt m0 m2 m3 m4 m5 m6 m7 hck hcop
  go_upto_region 6 with (go_at_call 77;refine (HPL.out _ (X0.out.trans X3.out)).mono ?_;intro e w4 hpp;obtain ⟨aN,cN,aP,cP,rfl,hx4,hN4,hP4⟩:=places_ok HP.out hpp;have b4:=hx4.block B3.out;have c8:=blk_cell b4 8 _ rfl;have c9:=blk_cell b4 9 _ rfl;have gf8:=blk_free b4 8;have gf9:=blk_free b4 9;have gl4:=(Array.getElem?_eq_some_iff.1 b4).1;have X4:=qh hx4;have B4:=qh b4;have N4:=qh (And.intro hN4 hP4);clear hpp hx4 b4 hN4 hP4)
  generalize hcs1:(List.set [.string M.name,uR,uC,uO,uA,.string M.result,uS,.int .i64 M.slots,.slice none 0 0,.slice none 0 0,.map none,.map none,.map none,.slice none 0 0,.slice none 0 0,.slice none 0 0,.slice none 0 0,.slice none 0 0,.slice none 0 0,.slice none 0 0,.slice none 0 0] 8 (.slice aN N.length cN)).set 9 (.slice aP L.length cP)=cs1
  have h5:=two_set (i:=8) (j:=9) B4.out (.slice aN N.length cN) (.slice aP L.length cP)
  generalize (w4.setCell ⟨bt,8,none⟩ (.slice aN N.length cN)).setCell ⟨bt,9,none⟩ (.slice aP L.length cP)=w5 at h5 ⊢
  obtain ⟨b5,k5⟩:=h5
  rw [hcs1] at b5
  have HC1:=qh hcs1
  have kn5:KeepN [84] w4 w5:=keep_table B4.out k5
  have K5:Hid (Keep (fun k=>k=bt) w3 w5):=qh ((Keep.of_ext X4.out:Keep (fun k=>k=bt) w3 w4).trans k5 (fun _ _ h=>h))
  have X05:Hid (Ext w0 w5):=qh (X3.out.keep K5.out (fun q e=>by omega))
  have NP5:Hid (w5.ownsRow bmn 9 1 (.slice aN N.length cN) N.length (N.map Value.string)∧w5.ownsRow 0 88 3 (.slice aP L.length cP) L.length (plCells L)):=qh ⟨owns_keepN (owns_base N4.out.1 (by have:=(Array.getElem?_eq_some_iff.1 B3.out).1;omega)) kn5 (by decide),owns_keepN N4.out.2 kn5 (by decide)⟩
  have c8:=blk_cell b5 8 (.slice aN N.length cN) (by rw [← hcs1];rfl)
  have HNB:Hid (∀ w,Ext w5 w→Calls Tryz.prog 78 #[.slice aN N.length cN] w fun e w'=>∃ r,e=.returned (.map (some r))∧w.heap.size≤r∧NumIn w' r N∧Ext w w'):=qh (fun w x=>numbered_any (StrsIn.of_owns (owns_ext NP5.out.1 x) rfl) (Nat.le_refl _) HT.out.nd)
  have B5:=qh b5
  clear b5 k5 kn5 N4 B4 c9 gf8 gf9 gl4 hcs1
  go_upto_region 7 with (go_at_call 78;refine (HNB.out w5 (Ext.refl _)).mono ?_;rintro e w6 ⟨r,rfl,hr0,hr6,hx6⟩;have b6:=hx6.block B5.out;have c10:=blk_cell b6 10 (.map none) (by rw [← HC1.out];rfl);have gf10:=blk_free b6 10;have gl6:=(Array.getElem?_eq_some_iff.1 b6).1;have X6:=qh hx6;have B6:=qh b6;have R6:=qh hr6;clear hx6 b6 hr6 hr0)
  generalize hcs2:cs1.set 10 (.map (some r))=cs2
  have h7:=one_set (i:=10) B6.out (.map (some r))
  generalize w6.setCell ⟨bt,10,none⟩ (.map (some r))=w7 at h7 ⊢
  obtain ⟨b7,k7⟩:=h7
  rw [hcs2] at b7
  have HC2:Hid ((cs1.set 10 (.map (some r)))=cs2∧cs2.length=21∧cs2[14]?=some (.slice none 0 0)∧cs2[15]?=some (.slice none 0 0)):=qh ⟨hcs2,by rw [← hcs2,← HC1.out];rfl,by rw [← hcs2,← HC1.out];rfl,by rw [← hcs2,← HC1.out];rfl⟩
  have kn7:KeepN [84] w6 w7:=keep_table B6.out k7
  have K7:Hid (Keep (fun k=>k=bt) w5 w7):=qh ((Keep.of_ext X6.out:Keep (fun k=>k=bt) w5 w6).trans k7 (fun _ _ h=>h))
  have X07:Hid (Ext w0 w7):=qh (X05.out.keep K7.out (fun q e=>by omega))
  have R7:Hid (NumIn w7 r N):=qh (R6.out.keepN kn7)
  have B7:=qh b7
  have hbt7:=(Array.getElem?_eq_some_iff.1 b7).1
  have m2:=blk_cell (X07.out.block BM.out) 2 _ rfl
  have hT:=HT.out
  have hncl:=hT.small.ncls
  have HNUM:Hid (∀ (w:World) (n1:Nat) (v:Value) (l:List ByteArray),Keep (fun k=>k=bt) w7 w→w.cell? ⟨bt,10,none⟩=some (.map (some r))→StrsIn w n1 v l→n1≤w.heap.size→l.length≤1000→(∀ s∈l,0≤idx N s)→Calls Tryz.prog 79 #[.pointer (some ⟨bt,0,none⟩),v] w fun e w'=>∃ u,e=.returned u∧w'.ownsRow w.heap.size 3 1 u l.length ((l.map (idx N)).map (Value.int .i64))∧Ext w w'):=qh (fun w n1 v l kw hc hv h1 h2 h3=>numbers_any (n0:=n1) hc (R7.out.keepN (keep_table B7.out kw)) hv h1 h2 h3)
  have start:Hid (ClsG w7 bt cs2 M N 0 0 (.slice none 0 0) (.slice none 0 0) [] [] w7):=qh ⟨Keep.refl _ _,by rw [set_self HC2.out.2.2.1,set_self HC2.out.2.2.2];exact b7,KG.nil _ _,SetsG.nil _ _ _,rfl⟩
  obtain ⟨iS,hiS,zS0,zS1,zS2⟩:=info_parts infoStr
  obtain ⟨iK,hiK,zK0,zK1,zK2⟩:=info_parts infoK
  obtain ⟨iZ,hiZ,zZ0,zZ1,zZ2⟩:=info_parts infoSet
  clear b7 k7 kn7 R6 B6 c8 c10 gf10 gl6 hcs2 HNB hT m1
  go_wp2_with fail
  go_loopw [6,45] (fun nv iv wr=>∃ i:Nat,i≤M.classes.length∧iv=.int .i64 i∧∃ a6 c6 vOf vI us is,nv=.slice a6 i c6∧Hid (ClsG w7 bt cs2 M N i i vOf vI us is wr∧wr.ownsRow w7.heap.size 9 1 (.slice a6 i c6) i ((M.classes.take i).map fun c=>Value.string c.name))) (fun _ iv _=>M.classes.length - (intOf iv).toNat)
  case atStart=>exact ⟨0,by omega,rfl,none,0,_,_,_,_,rfl,qh ⟨start.out,World.ownsRow_nil _ _ _ _⟩⟩
  case round =>
   clear start m2
   obtain ⟨i,hi,rfl,a6,c6,vOf,vI,us,is,rfl,hin⟩:=hrel
   rename World=>w8
   by_cases hli:i<M.classes.length
   ·have hiz:(i:Int)<(M.classes.length:Int):=by omega
    obtain ⟨c,hc⟩:∃ x,M.classes[i]?=some x:=⟨_,lE hli⟩
    have hcm:=List.mem_of_getElem? hc
    obtain ⟨hG,hOW⟩:=hin.out
    have X08:Hid (Ext w0 w8):=qh (X07.out.keep hG.keep (fun q e=>by omega))
    obtain ⟨b,off,cap,u,e,_,_,_,k0,k1,hu⟩:=(HM.out w8 (X0.out.trans X08.out)).cls.at hc
    cases e
    obtain ⟨ua,uc,rfl,_,_⟩:=hu.form
    have x9:Ext w8 (w8.alloc (.cells #[.string c.name,.slice ua c.regs.length uc] 51)):=Ext.alloc _ _
    have b9:=heap_alloc_new w8 (.cells #[.string c.name,.slice ua c.regs.length uc] 51)
    have HCc:=qh hc
    have GG:=qh hG
    have OW:=qh hOW
    have hz8:=hG.keep.size
    have HRG:Hid ((∀ w,Ext w0 w→StrsIn w n0 (.slice ua c.regs.length uc) c.regs)∧c.regs.length≤1000∧∀ s∈c.regs,0≤idx N s):=qh ⟨fun w x=>by
     obtain ⟨us2,h1,h2,h3⟩:=(HM.out w8 (X0.out.trans X08.out)).cls
     refine Tab.same (W':=w) hu (fun k hk=>?_)
     have hk0:k<w0.heap.size:=by have:=X0.out.size;have:=HN.out;omega
     rw [Below.block x k hk0,Below.block X08.out k hk0],HT.out.small.cls c hcm,HT.out.known.cls c hcm⟩
    clear hc hcm hG hOW hin hu
    go_upto_region 11 with (fail)
    generalize w8.alloc (.cells #[.string c.name,.slice ua c.regs.length uc] 51)=w9 at x9 b9 ⊢
    generalize hb8:w8.heap.size=bc at b9 ⊢
    have q0:=blk_cell b9 0 _ rfl
    have X9:=qh x9
    have hbc:bt<bc:=by omega
    have B9:=qh b9
    clear x9 b9 hb8
    go_upto_region 12 with (at_builtin;go_loud (refine wpList_append_lies _ rfl _ _ 25 rfl w7.heap.size 9 iS _ 1 16 Tryz.underlying25 hiS zS0 zS1 zS2 rfl (by omega) (.slice a6 i c6) i _ rfl ((owns_ext OW.out X9.out).alloc _) ⟨w9.heap.size,0,none⟩ 1 1 [.string c.name] rfl rfl (World.news_of_block (cs:=#[.string c.name]) (t:=9) (fr:=(0,0)) (heap_alloc_new w9 _)) (by simp [Value.oneCell']) (by omega) (by unfold maxLen;omega) (by omega) (by have:=X9.out.size;simp;omega) _ rfl ?_;intro g10 c10 w10 hown10 hgrow10 hat10 hlt10))
    have hlC:(numsC N (M.classes.take i)).length=i:=by unfold numsC;rw [List.length_map,List.length_take];omega
    have HLC:=qh hlC
    have k10:Keep (fun k=>(Value.slice a6 i c6).ownBlock=some k) w9 w10:=(Keep.of_ext (Ext.alloc w9 _):Keep (fun k=>(Value.slice a6 i c6).ownBlock=some k) w9 _).trans (Keep.grown hgrow10 (fun _ e=>e)) (fun _ _ h=>h)
    have kn10:KeepN [9] w9 w10:=(KeepN.ext (Ext.alloc w9 _)).trans (KeepN.grown ((owns_ext OW.out X9.out).alloc _) hgrow10 (by decide))
    have OW10:Hid (w10.ownsRow w7.heap.size 9 1 (.slice (some ⟨g10,0,none⟩) (i+1) c10) (i+1) ((M.classes.take (i+1)).map fun c=>Value.string c.name)):=qh (by
     rw [List.take_add_one,HCc.out,List.map_append];exact hown10)
    have G10:Hid (ClsG w7 bt cs2 M N i i vOf vI us is w10):=qh ⟨(GG.out.keep.trans (Keep.of_ext X9.out:Keep (fun k=>k=bt) w8 w9) (fun _ _ h=>h)).trans k10 (fun q hq e=>by have:=(OW.out.lt q e).1;omega),kn10.2 _ _ (X9.out.block GG.out.blk) (fun cs t fz e=>by cases e;decide),(GG.out.of.ext X9.out).keep kn10 (by decide) (by decide),(GG.out.ins.ext X9.out).keep kn10 (by decide) (by decide),GG.out.len⟩
    have b10:w10.heap[bc]?=some (.cells #[.string c.name,.slice ua c.regs.length uc] 51 (0,0)):=kn10.2 _ _ B9.out (fun cs t fz e=>by cases e;decide)
    have q1:=blk_cell b10 1 _ rfl
    have BB10:=qh b10
    have h14l:14<cs2.length:=by have:=HC2.out.2.1;omega
    have h15l:15<cs2.length:=by have:=HC2.out.2.1;omega
    have HG:Hid (∀ a b,((cs2.set 14 a).set 15 b)[10]?=some (.map (some r))∧((cs2.set 14 a).set 15 b)[14]?=some a∧((cs2.set 14 a).set 15 b)[15]?=some b):=qh (fun a b=>by
     refine ⟨?_,?_,?_⟩
     ·rw [List.getElem?_set_ne (by decide),List.getElem?_set_ne (by decide),← HC2.out.1,← HC1.out];rfl
     ·rw [List.getElem?_set_ne (by decide),List.getElem?_set_self h14l]
     ·rw [List.getElem?_set_self (by rw [List.length_set];exact h15l)])
    obtain ⟨aK,cK,eK,hKa,hKb⟩:=(Row.of_owns G10.out.of.own).shape
    rw [hlC] at eK hKa
    subst eK
    unfold maxLen at hKb
    have OWK:Hid (w10.ownsRow w7.heap.size 36 1 (.slice aK i cK) i us):=qh (by have:=G10.out.of.own;rw [hlC] at this;exact this)
    have bt10:=G10.out.blk
    have c14:=blk_cell bt10 14 _ (HG.out _ _).2.1
    have c10':=blk_cell bt10 10 _ (HG.out _ _).1
    have hz10:=G10.out.keep.size
    have X0A:Hid (Ext w0 w10):=qh (X07.out.keep G10.out.keep (fun q e=>by omega))
    have BT10:=qh bt10
    have hn0:n0≤w0.heap.size:=by have:=X0.out.size;have:=HN.out;omega
    clear hlC k10 kn10 b10 hown10 hgrow10 hat10 q0 B9 bt10
    rename_i K1 hK1
    have hK1:=qh hK1
    refine wp_region_M (fun w'=>Ext w10 w') 10 (by kernel_rfl) (Ext.drew _) (fun hS=>?_)
    refine' tw 0 ?_ ?_;rotate_left;·intros;go_simp;try rfl
    refine' tk 1 hS ?_ ?_;rotate_left;·intros;go_simp;try rfl
    refine' tk 2 hS ?_ ?_;rotate_left;·intros;go_simp;try rfl
    try simp only [tD]
    refine' tk 3 hS ?_ ?_;rotate_left;·intros;go_simp;try rfl
    refine' tk 4 hS ?_ ?_;rotate_left;·intro w hSw;have z0:=xc hSw c14;go_simp;try rfl
    refine' tk 5 hS ?_ ?_;rotate_left;·intros;go_simp;try rfl
    try simp only [tD]
    refine' tk 6 hS ?_ ?_;rotate_left;·intros;go_simp;try rfl
    refine' tk 7 hS ?_ ?_;rotate_left;·intro w hSw;have z1:=xc hSw q1;go_simp;try rfl
    try simp only [tD]
    generalize w10.drew=w11 at hS ⊢
    refine rc 8 fun K hK=>?_
    go_simp
    refine ((HNUM.out w11 n0 (.slice ua c.regs.length uc) c.regs (G10.out.keep.trans (Keep.of_ext hS:Keep (fun k=>k=bt) w10 w11) (fun _ _ h=>h)) (hS.cell c10') (HRG.out.1 w11 (X0A.out.trans hS)) (by have:=X0A.out.size;have:=hS.size;omega) HRG.out.2.1 HRG.out.2.2)).mono ?_
    rintro e w12 ⟨u5,rfl,ho5,hx5⟩
    obtain ⟨a5,k5,e5,_,_⟩:=(Row.of_owns ho5).shape
    subst e5
    have hS:=Ext.trans hS hx5
    have HO5:=qh ho5
    clear ho5
    refine hK.out _ _ hS ?_
    try simp only [tD]
    clear hK K
    refine rc 9 fun K hK=>?_
    go_simp
    have x7:Ext w10 (w12.alloc (.cells #[.slice a5 c.regs.length k5] 36)):=hS.trans (Ext.alloc _ _)
    have hsz5:=hS.size
    refine hK.out _ _ x7 ?_
    try simp only [tD]
    clear hK K
    refine rl 10 fun K hK=>?_
    refine wp_append_lies _ _ _ _ rfl w7.heap.size 36 iK _ 1 24 Tryz.underlying46 hiK zK0 zK1 zK2 rfl (by omega) (.slice aK i cK) i us rfl (owns_ext OWK.out x7) ⟨w12.heap.size,0,none⟩ 1 1 [.slice a5 c.regs.length k5] rfl rfl (World.news_of_block (cs:=#[.slice a5 c.regs.length k5]) (t:=36) (fr:=(0,0)) (heap_alloc_new w12 _)) (by simp [Value.oneCell']) (by omega) (by unfold maxLen;omega) (by omega) (by simp;omega) _ rfl ?_
    intro g13 c13 w13 hown13 hgrow13 hat13 hlt13
    have k13:Keep (fun k=>(Value.slice aK i cK).ownBlock=some k) w10 w13:=(Keep.of_ext x7:Keep (fun k=>(Value.slice aK i cK).ownBlock=some k) w10 _).trans (Keep.grown hgrow13 (fun _ e=>e)) (fun _ _ h=>h)
    have kn13:KeepN [36] w10 w13:=(KeepN.ext x7).trans (KeepN.grown (owns_ext OWK.out x7) hgrow13 (by decide))
    have b13:=(k13.block bt (Array.getElem?_eq_some_iff.1 BT10.out).1 (owns_ne OWK.out BT10.out (by decide))).trans BT10.out
    have g14:=blk_cell b13 14 _ (HG.out _ _).2.1
    have gf14:=blk_free b13 14
    have gl13:=(Array.getElem?_eq_some_iff.1 b13).1
    have SN:=qh (G10.out.of.snoc x7 hgrow13 (c:=c.regs.map (idx N)) (u:=.slice a5 c.regs.length k5) (by rw [HLC.out];exact hown13) (by rw [List.length_map];exact (owns_base HO5.out (Nat.zero_le _)).alloc _))
    have K13:=qh k13
    have KN13:=qh kn13
    have B13:=qh b13
    clear hown13 hgrow13 hat13 k13 b13 x7 kn13 HO5
    refine hK.out _ _ ?_
    try simp only [tD]
    clear hK K
    refine' tw 11 ?_ ?_;rotate_left;·intros;go_simp;try rfl
    try simp only [tD]
    refine' tw 12 ?_ ?_;rotate_left;·intros;go_simp;try rfl
    try simp only [tD]
    refine rl 13 fun K hK=>?_
    go_simp
    refine hK.out _ _ ?_
    try simp only [tD]
    clear hK K
    refine wpAnyM_done (by kernel_rfl) ?_ _
    refine hK1.out _ _ ?_
    clear hS
    have kns:KeepN [84] w13 (w13.setCell ⟨bt,14,none⟩ (.slice (some ⟨g13,0,none⟩) (i+1) c13)):=KeepN.set B13.out _ (by decide)
    have G14:Hid (ClsG w7 bt cs2 M N (i+1) i (.slice (some ⟨g13,0,none⟩) (i+1) c13) vI (us ++ [.slice a5 c.regs.length k5]) is (w13.setCell ⟨bt,14,none⟩ (.slice (some ⟨g13,0,none⟩) (i+1) c13))):=qh ⟨(G10.out.keep.trans K13.out (fun q hq e=>by have:=(OWK.out.lt q e).1;omega)).trans (Keep.setCell (fun k=>k=bt) w13 ⟨bt,14,none⟩ _ rfl) (fun _ _ h=>h),by
     have:=heap_set_cells B13.out 14 (.slice (some ⟨g13,0,none⟩) (i+1) c13)
     rw [this,List.setIfInBounds_toArray,List.set_comm _ _ (by decide),List.set_set],by
     have e:numsC N (M.classes.take (i+1))=numsC N (M.classes.take i) ++ [c.regs.map (idx N)]:=by rw [List.take_add_one,HCc.out];exact numsC_snoc _ _ _
     rw [e]
     exact SN.out.keep kns (by decide) (by decide),(G10.out.ins.keep KN13.out (by decide) (by decide)).keep kns (by decide) (by decide),G10.out.len⟩
    have bc14:=kns.2 _ _ (KN13.out.2 _ _ BB10.out (fun cs t fz e=>by cases e;decide)) (fun cs t fz e=>by cases e;decide)
    have OW14:=qh (owns_keepN (owns_keepN OW10.out KN13.out (by decide)) kns (by decide))
    generalize w13.setCell ⟨bt,14,none⟩ (.slice (some ⟨g13,0,none⟩) (i+1) c13)=w14 at G14 bc14 OW14 ⊢
    obtain ⟨aV,cV,eV,_,hV2⟩:=(Row.of_owns G14.out.ins.own).shape
    rw [G14.out.len] at eV
    subst eV
    unfold maxLen at hV2
    have OWV:Hid (w14.ownsRow w7.heap.size 78 1 (.slice aV i cV) i is):=qh (by have:=G14.out.ins.own;rw [G14.out.len] at this;exact this)
    have bt14:=G14.out.blk
    have c15:=blk_cell bt14 15 _ (HG.out _ _).2.2
    have c10b:=blk_cell bt14 10 _ (HG.out _ _).1
    have q1b:=blk_cell bc14 1 _ rfl
    have hz14:=G14.out.keep.size
    have X0B:Hid (Ext w0 w14):=qh (X07.out.keep G14.out.keep (fun q e=>by omega))
    have BT14:=qh bt14
    clear OWK SN K13 KN13 B13 bc14 c14 c10' q1 g14 gf14 gl13 kns bt14 BB10 OW10 G10 BT10 hsz5 hKa hKb
    refine wp_region_M (fun w'=>Ext w14 w') 11 (by kernel_rfl) (Ext.drew _) (fun hS=>?_)
    refine' tw 0 ?_ ?_;rotate_left;·intros;go_simp;try rfl
    refine' tk 1 hS ?_ ?_;rotate_left;·intros;go_simp;try rfl
    refine' tk 2 hS ?_ ?_;rotate_left;·intros;go_simp;try rfl
    try simp only [tD]
    refine' tk 3 hS ?_ ?_;rotate_left;·intros;go_simp;try rfl
    refine' tk 4 hS ?_ ?_;rotate_left;·intro w hSw;have z0:=xc hSw c15;go_simp;try rfl
    refine' tk 5 hS ?_ ?_;rotate_left;·intros;go_simp;try rfl
    try simp only [tD]
    refine' tk 6 hS ?_ ?_;rotate_left;·intros;go_simp;try rfl
    refine' tk 7 hS ?_ ?_;rotate_left;·intro w hSw;have z1:=xc hSw q1b;go_simp;try rfl
    try simp only [tD]
    generalize w14.drew=w15 at hS ⊢
    refine rc 8 fun K hK=>?_
    go_simp
    refine ((HNUM.out w15 n0 (.slice ua c.regs.length uc) c.regs (G14.out.keep.trans (Keep.of_ext hS:Keep (fun k=>k=bt) w14 w15) (fun _ _ h=>h)) (hS.cell c10b) (HRG.out.1 w15 (X0B.out.trans hS)) (by have:=X0B.out.size;have:=hS.size;omega) HRG.out.2.1 HRG.out.2.2)).mono ?_
    rintro e w16 ⟨u6,rfl,ho6,hx6⟩
    obtain ⟨a7,k7,e7,_,_⟩:=(Row.of_owns ho6).shape
    subst e7
    have hS:=Ext.trans hS hx6
    have HO6:=qh ho6
    clear ho6
    refine hK.out _ _ hS ?_
    try simp only [tD]
    clear hK K
    refine rc 9 fun K hK=>?_
    go_simp
    refine ((of_set (l:=c.regs.map (idx N)) (v:=.slice a7 c.regs.length k7) (by show Row _ 1 _ (c.regs.map (idx N)).length _;rw [List.length_map];exact Row.of_owns HO6.out) (fun n hn=>by obtain ⟨s,hs,rfl⟩:=List.mem_map.1 hn;have h1:=HRG.out.2.2 s hs;have h2:=idx_lt h1;have h3:=HT.out.le;unfold fits64;omega))).mono ?_
    rintro e w17 ⟨v8,rfl,hset8,hx8⟩
    obtain ⟨a8,n8,p8,e8⟩:=hset8.form
    subst e8
    have hS:=Ext.trans hS hx8
    refine hK.out _ _ hS ?_
    try simp only [tD]
    clear hK K
    refine rc 10 fun K hK=>?_
    go_simp
    have x7:Ext w14 (w17.alloc (.cells #[.slice a8 n8 p8] 78)):=hS.trans (Ext.alloc _ _)
    have hsz5:=hS.size
    refine hK.out _ _ x7 ?_
    try simp only [tD]
    clear hK K
    refine rl 11 fun K hK=>?_
    refine wp_append_lies _ _ _ _ rfl w7.heap.size 78 iZ _ 1 24 Tryz.underlying81 hiZ zZ0 zZ1 zZ2 rfl (by omega) (.slice aV i cV) i is rfl (owns_ext OWV.out x7) ⟨w17.heap.size,0,none⟩ 1 1 [.slice a8 n8 p8] rfl rfl (World.news_of_block (cs:=#[.slice a8 n8 p8]) (t:=78) (fr:=(0,0)) (heap_alloc_new w17 _)) (by simp [Value.oneCell']) (by omega) (by unfold maxLen;omega) (by omega) (by simp;omega) _ rfl ?_
    intro g18 c18 w18 hown18 hgrow18 hat18 hlt18
    have k18:Keep (fun k=>(Value.slice aV i cV).ownBlock=some k) w14 w18:=(Keep.of_ext x7:Keep (fun k=>(Value.slice aV i cV).ownBlock=some k) w14 _).trans (Keep.grown hgrow18 (fun _ e=>e)) (fun _ _ h=>h)
    have kn18:KeepN [78] w14 w18:=(KeepN.ext x7).trans (KeepN.grown (owns_ext OWV.out x7) hgrow18 (by decide))
    have b18:=(k18.block bt (Array.getElem?_eq_some_iff.1 BT14.out).1 (owns_ne OWV.out BT14.out (by decide))).trans BT14.out
    have g15:=blk_cell b18 15 _ (HG.out _ _).2.2
    have gf15:=blk_free b18 15
    have gl18:=(Array.getElem?_eq_some_iff.1 b18).1
    have SN:=qh (G14.out.ins.snoc x7 hgrow18 (by rw [G14.out.len];exact hown18) (by
     have:=hset8.ext (Ext.alloc w17 (.cells #[.slice a8 n8 p8] 78))
     rw [G14.out.len,List.getD_eq_getElem?_getD,numsC_at HCc.out]
     exact this))
    have K18:=qh k18
    have KN18:=qh kn18
    have B18:=qh b18
    clear hown18 hgrow18 hat18 k18 b18 x7 kn18 HO6 hset8
    refine hK.out _ _ ?_
    try simp only [tD]
    clear hK K
    refine' tw 12 ?_ ?_;rotate_left;·intros;go_simp;try rfl
    try simp only [tD]
    refine' tw 13 ?_ ?_;rotate_left;·intros;go_simp;try rfl
    try simp only [tD]
    refine rl 14 fun K hK=>?_
    go_simp
    refine hK.out _ _ ?_
    try simp only [tD]
    clear hK K
    refine wpAnyM_done (by kernel_rfl) ?_ _
    clear hS
    have kns:KeepN [84] w18 (w18.setCell ⟨bt,15,none⟩ (.slice (some ⟨g18,0,none⟩) (i+1) c18)):=KeepN.set B18.out _ (by decide)
    have G19:Hid (ClsG w7 bt cs2 M N (i+1) (i+1) (.slice (some ⟨g13,0,none⟩) (i+1) c13) (.slice (some ⟨g18,0,none⟩) (i+1) c18) (us ++ [.slice a5 c.regs.length k5]) (is ++ [.slice a8 n8 p8]) (w18.setCell ⟨bt,15,none⟩ (.slice (some ⟨g18,0,none⟩) (i+1) c18))):=qh ⟨(G14.out.keep.trans K18.out (fun q hq e=>by have:=(OWV.out.lt q e).1;omega)).trans (Keep.setCell (fun k=>k=bt) w18 ⟨bt,15,none⟩ _ rfl) (fun _ _ h=>h),by
     have:=heap_set_cells B18.out 15 (.slice (some ⟨g18,0,none⟩) (i+1) c18)
     rw [this,List.setIfInBounds_toArray,List.set_set],(G14.out.of.keep KN18.out (by decide) (by decide)).keep kns (by decide) (by decide),SN.out.keep kns (by decide) (by decide),by rw [List.length_append,G14.out.len];rfl⟩
    have OW19:=qh (owns_keepN (owns_keepN OW14.out KN18.out (by decide)) kns (by decide))
    clear kns
    generalize w18.setCell ⟨bt,15,none⟩ (.slice (some ⟨g18,0,none⟩) (i+1) c18)=w19 at G19 OW19 ⊢
    go_wp2_with fail
    go_roundw
    case rel=>exact ⟨i+1,by omega,by go_num,some ⟨g10,0,none⟩,c10,_,_,_,_,rfl,qh ⟨G19.out,OW19.out⟩⟩
    case measure=>simp [intOf];omega
   ·have hiz:¬ (i:Int)<(M.classes.length:Int):=by omega
    have hie:i=M.classes.length:=by omega
    subst hie
    obtain ⟨hG,hOW⟩:=hin.out
    have hz8:=hG.keep.size
    have X08:Hid (Ext w0 w8):=qh (X07.out.keep hG.keep (fun q e=>by omega))
    have OWN:Hid (w8.ownsRow w7.heap.size 9 1 (.slice a6 M.classes.length c6) M.classes.length (M.classes.map fun c=>Value.string c.name)):=qh (by rw [List.take_of_length_le (Nat.le_refl _)] at hOW;exact hOW)
    have GG:=qh hG
    have b8:=X08.out.block BM.out
    have m3:=blk_cell b8 3 _ rfl
    have hno:=HT.out.small.nops
    clear hin hG hOW b8
    go_wp2_with fail
    go_loopw [7,85] (fun nv iv wr=>∃ j:Nat,j≤M.ops.length∧iv=.int .i64 j∧∃ a7 c7,nv=.slice a7 j c7∧Hid (Ext w8 wr∧wr.ownsRow w8.heap.size 9 1 (.slice a7 j c7) j ((M.ops.take j).map fun o=>Value.string o.name))) (fun _ iv _=>M.ops.length - (intOf iv).toNat)
    case atStart=>exact ⟨0,by omega,rfl,none,0,rfl,qh ⟨Ext.refl _,World.ownsRow_nil _ _ _ _⟩⟩
    case round =>
     clear m3
     obtain ⟨j,hj,rfl,a7,c7,rfl,hin⟩:=hrel
     rename World=>w9
     by_cases hlj:j<M.ops.length
     ·have hjz:(j:Int)<(M.ops.length:Int):=by omega
      obtain ⟨o,ho⟩:∃ x,M.ops[j]?=some x:=⟨_,lE hlj⟩
      obtain ⟨x9,hOW⟩:=hin.out
      obtain ⟨b,off,cap,u,cc,e,_,_,_,k0,k1,k2,k3,k4,k5,hU,hCl,hfit⟩:=(HM.out w9 (X0.out.trans (X08.out.trans x9))).ops.at ho
      cases e
      obtain ⟨ua,uc,rfl,_,_⟩:=hU.form
      obtain ⟨ka,kc,rfl,_,_⟩:=hCl.form
      have x10:Ext w9 (w9.alloc (.cells #[.string o.name,.string o.dfn.cls,.string o.dfn.fix,.slice ua o.uses.length uc,.int .i64 o.tie,.slice ka o.clob.length kc] 60)):=Ext.alloc _ _
      have q0:=cells_one w9 [.string o.name,.string o.dfn.cls,.string o.dfn.fix,.slice ua o.uses.length uc,.int .i64 o.tie,.slice ka o.clob.length kc] 60 0 _ rfl
      have HOo:=qh ho
      have OW:=qh hOW
      have X9:=qh x9
      clear ho hU hCl hOW x9 hin
      go_upto_region 18 with (fail)
      generalize w9.alloc (.cells #[.string o.name,.string o.dfn.cls,.string o.dfn.fix,.slice ua o.uses.length uc,.int .i64 o.tie,.slice ka o.clob.length kc] 60)=w10 at x10 q0 ⊢
      generalize w9.heap.size=bo at q0 ⊢
      have X10:=qh x10
      clear x10
      go_wp2_with (at_builtin;go_loud (refine wpList_append_lies _ rfl _ _ 25 rfl w8.heap.size 9 iS _ 1 16 Tryz.underlying25 hiS zS0 zS1 zS2 rfl (by omega) (.slice a7 j c7) j _ rfl ((owns_ext OW.out X10.out).alloc _) ⟨w10.heap.size,0,none⟩ 1 1 [.string o.name] rfl rfl (World.news_of_block (cs:=#[.string o.name]) (t:=9) (fr:=(0,0)) (heap_alloc_new w10 _)) (by simp [Value.oneCell']) (by omega) (by unfold maxLen;omega) (by omega) (by have:=X9.out.size;have:=X10.out.size;simp;omega) _ rfl ?_;intro g11 c11 w11 hown11 hgrow11 hat11 hlt11))
      have X11:Hid (Ext w8 w11):=qh (Ext.grown ((X9.out.trans X10.out).trans (Ext.alloc w10 _)) hgrow11 (fun q e=>(OW.out.lt q e).1))
      have OW11:Hid (w11.ownsRow w8.heap.size 9 1 (.slice (some ⟨g11,0,none⟩) (j+1) c11) (j+1) ((M.ops.take (j+1)).map fun o=>Value.string o.name)):=qh (by
       rw [List.take_add_one,HOo.out,List.map_append];exact hown11)
      clear hown11 hgrow11 hat11
      go_roundw
      case rel=>exact ⟨j+1,by omega,by go_num,some ⟨g11,0,none⟩,c11,rfl,qh ⟨X11.out,OW11.out⟩⟩
      case measure=>simp [intOf];omega
     ·have hjz:¬ (j:Int)<(M.ops.length:Int):=by omega
      have hje:j=M.ops.length:=by omega
      subst hje
      obtain ⟨x9,hOW⟩:=hin.out
      have OWO:Hid (w9.ownsRow w8.heap.size 9 1 (.slice a7 M.ops.length c7) M.ops.length (M.ops.map fun o=>Value.string o.name)):=qh (by rw [List.take_of_length_le (Nat.le_refl _)] at hOW;exact hOW)
      have X9:=qh x9
      have G9:Hid (ClsG w7 bt cs2 M N M.classes.length M.classes.length vOf vI us is w9):=qh (GG.out.ext x9)
      have OWN9:=qh (owns_ext OWN.out x9)
      have B9:=qh G9.out.blk
      have HNC:Hid (∀ w,Ext w9 w→Calls Tryz.prog 78 #[.slice a6 M.classes.length c6] w fun e w'=>∃ r,e=.returned (.map (some r))∧w.heap.size≤r∧NumIn w' r (M.classes.map Cls.name)∧Ext w w'):=qh (fun w x=>numbered_any (n0:=w.heap.size) (StrsIn.of_owns (l:=M.classes.map Cls.name) (n:=M.classes.length) (by have:=owns_ext OWN9.out x;rw [List.map_map];exact this) (by rw [List.length_map])) (Nat.le_refl _) HT.out.ndc)
      have HNO:Hid (∀ w,Ext w9 w→Calls Tryz.prog 78 #[.slice a7 M.ops.length c7] w fun e w'=>∃ r,e=.returned (.map (some r))∧w.heap.size≤r∧NumIn w' r (M.ops.map Opn.name)∧Ext w w'):=qh (fun w x=>numbered_any (n0:=w.heap.size) (StrsIn.of_owns (l:=M.ops.map Opn.name) (n:=M.ops.length) (by have:=owns_ext OWO.out x;rw [List.map_map];exact this) (by rw [List.length_map])) (Nat.le_refl _) HT.out.ndo)
      clear hin hOW x9
      go_upto_region 21 with (first
       | (go_at_call 78;(with_reducible refine (HNC.out w9 (Ext.refl _)).mono ?_);rintro e w10 ⟨rk,rfl,hrc0,hrc,hx10⟩;have X10:=qh hx10;have RC:=qh hrc;clear hx10 hrc hrc0)
       | (go_at_call 78;(with_reducible refine (HNO.out w10 X10.out).mono ?_);rintro e w11 ⟨ro,rfl,hro0,hro,hx11⟩;have X11:=qh hx11;have RO:=qh hro;have b11:=(X10.out.trans hx11).block B9.out;have gf11:=blk_free b11 11;have gf12:=blk_free b11 12;have gl11:=(Array.getElem?_eq_some_iff.1 b11).1;have c11:=blk_cell b11 11 (.map none) (by rw [List.getElem?_set_ne (by decide),List.getElem?_set_ne (by decide),← HC2.out.1,← HC1.out];rfl);have c12:=blk_cell b11 12 (.map none) (by rw [List.getElem?_set_ne (by decide),List.getElem?_set_ne (by decide),← HC2.out.1,← HC1.out];rfl);have B11:=qh b11;clear b11 hx11 hro hro0))
      generalize hcs3:(((cs2.set 14 vOf).set 15 vI).set 11 (.map (some rk))).set 12 (.map (some ro))=cs3
      have h12:=two_set (i:=11) (j:=12) B11.out (.map (some rk)) (.map (some ro))
      rw [hcs3] at h12
      generalize (w11.setCell ⟨bt,11,none⟩ (.map (some rk))).setCell ⟨bt,12,none⟩ (.map (some ro))=w12 at h12 ⊢
      obtain ⟨b12,k12⟩:=h12
      have kn12:KeepN [84] w11 w12:=keep_table B11.out k12
      have K12:Hid (Keep (fun k=>k=bt) w9 w12):=qh ((Keep.of_ext (X10.out.trans X11.out):Keep (fun k=>k=bt) w9 w11).trans k12 (fun _ _ h=>h))
      have HC3:Hid (cs3=(((((((List.set [.string M.name,uR,uC,uO,uA,.string M.result,uS,.int .i64 M.slots,.slice none 0 0,.slice none 0 0,.map none,.map none,.map none,.slice none 0 0,.slice none 0 0,.slice none 0 0,.slice none 0 0,.slice none 0 0,.slice none 0 0,.slice none 0 0,.slice none 0 0] 8 (.slice aN N.length cN)).set 9 (.slice aP L.length cP)).set 10 (.map (some r)))).set 14 vOf).set 15 vI).set 11 (.map (some rk))).set 12 (.map (some ro))):=qh (by rw [← hcs3,← HC2.out.1,← HC1.out])
      have RCO:Hid (NumIn w12 rk (M.classes.map Cls.name)∧NumIn w12 ro (M.ops.map Opn.name)):=qh ⟨(RC.out.ext X11.out).keepN kn12,RO.out.keepN kn12⟩
      have K712:Hid (Keep (fun k=>k=bt) w7 w12):=qh (G9.out.keep.trans K12.out (fun _ _ h=>h))
      have KN9:Hid (KeepN [84] w9 w12):=qh ((KeepN.ext (X10.out.trans X11.out)).trans kn12)
      have B12:=qh b12
      have HLAP:=qh (lapping_any (vP:=.slice aP L.length cP) b12 (by rw [HC3.out];rfl) (by rw [HC3.out];rfl) (owns_keepN (owns_keepN NP5.out.2 (keep_table B5.out K7.out) (by decide)) (keep_table B7.out K712.out) (by decide)) (by rw [HT.out.len];exact HT.out.le) (fun p hp=>(HT.out.tight p hp).fit))
      clear b12 k12 kn12 hcs3 RC RO B11 c11 c12 gf11 gf12 gl11
      go_upto_region 22 with (go_at_call 81;refine HLAP.out.mono ?_;rintro e w13 ⟨rfl,vL,lus,hlap⟩;have LP:=qh hlap;clear hlap)
      obtain ⟨kl,bl,hll,hls⟩:=LP.out
      have K713:Hid (Keep (fun k=>k=bt) w7 w13):=qh (K712.out.trans kl (fun _ _ h=>h))
      have X013:Hid (Ext w0 w13):=qh (X07.out.keep K713.out (fun q e=>by omega))
      have bm13:=X013.out.block BM.out
      have m4:=blk_cell bm13 4 _ rfl
      have m6:=blk_cell bm13 6 _ rfl
      have c10:=blk_cell bl 10 (.map (some r)) (by rw [HC3.out];rfl)
      have hn0:n0≤w0.heap.size:=by have:=X0.out.size;have:=HN.out;omega
      have HST:Hid (∀ w,Ext w0 w→StrsIn w n0 (.slice aA M.args.length cA) M.args∧StrsIn w n0 (.slice aS M.saved.length cS) M.saved):=qh (fun w x=>⟨(HM.out w (X0.out.trans x)).args,(HM.out w (X0.out.trans x)).saved⟩)
      have BL:=qh bl
      clear kl bl hll hls bm13
      rename_i K1 hK1
      have hK1:=qh hK1
      refine wp_region_M (fun w'=>Ext w13 w') 9 (by kernel_rfl) (Ext.drew _) (fun hS=>?_)
      refine' tw 0 ?_ ?_;rotate_left;·intros;go_simp;try rfl
      try simp only [tD]
      refine' tw 1 ?_ ?_;rotate_left;·intros;go_simp;try rfl
      refine' tk 2 hS ?_ ?_;rotate_left;·intros;go_simp;try rfl
      refine' tk 3 hS ?_ ?_;rotate_left;·intros;go_simp;try rfl
      try simp only [tD]
      refine' tk 4 hS ?_ ?_;rotate_left;·intro w hSw;have z0:=xc hSw m4;go_simp;try rfl
      refine' tk 6 hS ?_ ?_;rotate_left;·intros;go_simp;try rfl
      refine' tk 7 hS ?_ ?_;rotate_left;·intros;go_simp;try rfl
      try simp only [tD]
      refine' tk 8 hS ?_ ?_;rotate_left;·intro w hSw;have z1:=xc hSw m6;go_simp;try rfl
      try simp only [tD]
      generalize w13.drew=w14 at hS ⊢
      refine rc 5 fun K hK=>?_
      go_simp
      refine ((HNUM.out w14 n0 (.slice aA M.args.length cA) M.args (K713.out.trans (Keep.of_ext hS:Keep (fun k=>k=bt) w13 w14) (fun _ _ h=>h)) (hS.cell c10) (HST.out w14 (X013.out.trans hS)).1 (by have:=X013.out.size;have:=hS.size;omega) HT.out.small.args HT.out.known.args)).mono ?_
      rintro e w15 ⟨v15,rfl,ho15,hx15⟩
      obtain ⟨a15,k15,e15,_,_⟩:=(Row.of_owns ho15).shape
      subst e15
      have hS:=Ext.trans hS hx15
      have HO15:=qh ho15
      clear ho15
      refine hK.out _ _ hS ?_
      try simp only [tD]
      clear hK K
      refine rl 9 fun K hK=>?_
      go_simp
      refine ((HNUM.out w15 n0 (.slice aS M.saved.length cS) M.saved (K713.out.trans (Keep.of_ext hS:Keep (fun k=>k=bt) w13 w15) (fun _ _ h=>h)) (hS.cell c10) (HST.out w15 (X013.out.trans hS)).2 (by have:=X013.out.size;have:=hS.size;omega) HT.out.small.saved HT.out.known.saved)).mono ?_
      rintro e w16 ⟨v16,rfl,ho16,hx16⟩
      obtain ⟨a16,k16,e16,_,_⟩:=(Row.of_owns ho16).shape
      subst e16
      have X16:Hid (Ext w13 w16):=qh (hS.trans hx16)
      have HO16:=qh (And.intro (owns_ext HO15.out hx16) ho16)
      have b16:=X16.out.block BL.out
      have c19:=blk_cell b16 19 (.slice none 0 0) (by rw [HC3.out];rfl)
      have c18:=blk_cell b16 18 (.slice none 0 0) (by rw [HC3.out];rfl)
      have gf19:=blk_free b16 19
      have gf18:=blk_free b16 18
      have gl16:=(Array.getElem?_eq_some_iff.1 b16).1
      have B16:=qh b16
      clear b16 ho16
      refine hK.out _ _ ?_
      try simp only [tD]
      clear hK K
      refine' tw 10 ?_ ?_;rotate_left;·intros;go_simp;try rfl
      try simp only [tD]
      refine' tw 11 ?_ ?_;rotate_left;·intros;go_simp;try rfl
      try simp only [tD]
      refine rl 12 fun K hK=>?_
      go_simp
      refine hK.out _ _ ?_
      try simp only [tD]
      clear hK K
      refine' tw 13 ?_ ?_;rotate_left;·intros;go_simp;try rfl
      try simp only [tD]
      refine' tw 14 ?_ ?_;rotate_left;·intros;go_simp;try rfl
      try simp only [tD]
      refine rl 15 fun K hK=>?_
      go_simp
      refine hK.out _ _ ?_
      try simp only [tD]
      clear hK K
      refine wpAnyM_done (by kernel_rfl) ?_ _
      refine hK1.out _ _ ?_
      clear hS
      generalize hcs4:((cs3.set 13 vL).set 19 (.slice a15 M.args.length k15)).set 18 (.slice a16 M.saved.length k16)=cs4
      have h17:=two_set (i:=19) (j:=18) B16.out (.slice a15 M.args.length k15) (.slice a16 M.saved.length k16)
      rw [hcs4] at h17
      generalize (w16.setCell ⟨bt,19,none⟩ (.slice a15 M.args.length k15)).setCell ⟨bt,18,none⟩ (.slice a16 M.saved.length k16)=w17 at h17 ⊢
      obtain ⟨b17,k17⟩:=h17
      have HC4:Hid (cs4=((cs3.set 13 vL).set 19 (.slice a15 M.args.length k15)).set 18 (.slice a16 M.saved.length k16)):=qh hcs4.symm
      have K1317:Hid (Keep (fun k=>k=bt) w13 w17):=qh ((Keep.of_ext X16.out:Keep (fun k=>k=bt) w13 w16).trans k17 (fun _ _ h=>h))
      have KN1617:Hid (KeepN [84] w16 w17):=qh (keep_table B16.out k17)
      have KN1217:Hid (KeepN [84] w12 w17):=qh ((keep_table B12.out LP.out.1).trans (keep_table LP.out.2.1 K1317.out))
      have K717:Hid (Keep (fun k=>k=bt) w7 w17):=qh (K713.out.trans K1317.out (fun _ _ h=>h))
      have B17:=qh b17
      have M17:Hid (MachIn w17 bt uR uC uO uA uS M):=qh (MI.out w17 (fun k _ hk=>((K5.out.trans K7.out (fun _ _ h=>h)).trans K717.out (fun _ _ h=>h)).block k (by have h1:=(Array.getElem?_eq_some_iff.1 B3.out).1;omega) (by omega)))
      have HOP:=qh (operands_any (C:=numsC N M.classes) (vO:=uO) (vL:=vL) (vI:=vI) (r:=r) (rk:=rk) b17 (by rw [HC4.out,HC3.out];rfl) (by rw [HC4.out,HC3.out];rfl) (by rw [HC4.out,HC3.out];rfl) (by rw [HC4.out,HC3.out];rfl) (by rw [HC4.out,HC3.out];rfl) (by rw [HC4.out,HC3.out];rfl) (by rw [HC4.out,HC3.out];rfl) M17.out HT.out.small (R7.out.keepN (keep_table B7.out K717.out)) (RCO.out.1.keepN KN1217.out) (LP.out.2.2.2.keep (keep_table LP.out.2.1 K1317.out) (by decide) (by decide)) LP.out.2.2.1 ((G9.out.ins.keep KN9.out (by decide) (by decide)).keep KN1217.out (by decide) (by decide)) G9.out.len HT.out.known HT.out.len HT.out.le)
      clear b17 k17 hcs4 c19 c18 gf19 gf18 gl16 m4 m6 c10
      go_upto_region 24 with (go_at_call 82;go_loud (refine HOP.out.mono ?_;rintro e w18 ⟨rfl,vK,vM,ous,oms,hops⟩;have OP:=qh hops;clear hops))
      have KN1718:Hid (KeepN [84] w17 w18):=qh (keep_table B17.out OP.out.keep)
      have NP7:Hid (w17.ownsRow bmn 9 1 (.slice aN N.length cN) N.length (N.map Value.string)∧w17.ownsRow 0 88 3 (.slice aP L.length cP) L.length (plCells L)):=qh ⟨owns_keepN (owns_keepN NP5.out.1 (keep_table B5.out K7.out) (by decide)) (keep_table B7.out K717.out) (by decide),owns_keepN (owns_keepN NP5.out.2 (keep_table B5.out K7.out) (by decide)) (keep_table B7.out K717.out) (by decide)⟩
      have AS17:=qh (And.intro (owns_keepN HO16.out.1 KN1617.out (by decide)) (owns_keepN HO16.out.2 KN1617.out (by decide)))
      have HSV:=qh (surviving_any (L:=L) (S:=M.saved.map (idx N)) (vP:=.slice aP L.length cP) (vS:=.slice a16 M.saved.length k16) OP.out.blk (by rw [HC4.out,HC3.out];rfl) (by rw [HC4.out,HC3.out];rfl) (by rw [HC4.out,HC3.out];rfl) (PlsIn.of_owns (owns_keepN NP7.out.2 KN1718.out (by decide)) rfl) (Nat.le_refl _) (by
       show Row _ 1 _ (M.saved.map (idx N)).length _
       rw [List.length_map]
       exact Row.of_owns (owns_keepN AS17.out.2 KN1718.out (by decide))) (by rw [HT.out.len];exact HT.out.le) (fun p hp=>(HT.out.tight p hp).fit) (fun s hs=>by obtain ⟨q,hq,rfl⟩:=List.mem_map.1 hs;have h1:=HT.out.known.saved q hq;exact ⟨h1,by rw [HT.out.len];exact idx_lt h1⟩))
      go_wp2_with (go_at_call 83;refine HSV.out.mono ?_;rintro e w19 ⟨rfl,vKp,hk19,hb19,hset19⟩)
      refine bodyPost_ret (v:=.tuple #[.pointer (some ⟨bt,0,none⟩),.int .i64 0]) (by simp [results,Tryz.results41,go_sem]) rfl ?_
      unfold TMakePost2
      rw [HCK.out]
      have kn19:KeepN [84] w18 w19:=keep_table OP.out.blk hk19
      have KN1719:KeepN [84] w17 w19:=KN1718.out.trans kn19
      have KN1219:KeepN [84] w12 w19:=KN1217.out.trans KN1719
      have K719:Keep (fun k=>k=bt) w7 w19:=(K717.out.trans OP.out.keep (fun _ _ h=>h)).trans hk19 (fun _ _ h=>h)
      refine ⟨X0.out.trans (X07.out.keep K719 (fun q e=>by omega)),bt,⟨uR,uC,uO,uA,uS,.slice aN N.length cN,.slice aP L.length cP,vL,vOf,vI,vM,vK,.slice a16 M.saved.length k16,.slice a15 M.args.length k15,vKp,r,rk,ro⟩,N,L,rfl,by have:=X0.out.size;omega,HT.out,?_,?_,?_⟩
      refine ⟨?_,?_,owns_base (owns_keepN NP7.out.1 KN1719 (by decide)) (Nat.zero_le _),owns_keepN NP7.out.2 KN1719 (by decide),R7.out.keepN (keep_table B7.out K719),RCO.out.1.keepN KN1219,RCO.out.2.keepN KN1219,⟨lus,LP.out.2.2.1,((LP.out.2.2.2.base (Nat.zero_le _)).keep (keep_table LP.out.2.1 K1317.out) (by decide) (by decide)).keep KN1719 (by decide) (by decide)⟩,⟨us,?_⟩,⟨is,G9.out.len,((G9.out.ins.base (Nat.zero_le _)).keep KN9.out (by decide) (by decide)).keep KN1219 (by decide) (by decide)⟩,⟨oms,OP.out.len,(OP.out.may.base (Nat.zero_le _)).keep kn19 (by decide) (by decide) (by decide)⟩,⟨ous,?_⟩,owns_base (owns_keepN AS17.out.2 KN1719 (by decide)) (Nat.zero_le _),owns_base (owns_keepN AS17.out.1 KN1719 (by decide)) (Nat.zero_le _),hset19⟩
      ·rw [hb19,HC4.out,HC3.out];rfl
      ·exact MI.out w19 (fun k _ hk=>((K5.out.trans K7.out (fun _ _ h=>h)).trans K719 (fun _ _ h=>h)).block k (by have h1:=(Array.getElem?_eq_some_iff.1 B3.out).1;omega) (by omega))
      ·have:=G9.out.of
       rw [List.take_of_length_le (Nat.le_refl _)] at this
       exact ((this.base (Nat.zero_le _)).keep KN9.out (by decide) (by decide)).keep KN1219 (by decide) (by decide)
      ·have:=OP.out.clob
       rw [List.take_of_length_le (Nat.le_refl _)] at this
       exact (this.base (Nat.zero_le _)).keep kn19 (by decide) (by decide)
      ·exact fun w h=>MI.out w (fun k h1 hk=>(h k (by rw [HBM.out];exact h1) hk).trans (((K5.out.trans K7.out (fun _ _ h=>h)).trans K719 (fun _ _ h=>h)).block k (by have h1:=(Array.getElem?_eq_some_iff.1 B3.out).1;omega) (by omega)))
      ·rw [HBM.out]
       exact owns_keepN NP7.out.1 KN1719 (by decide)
theorem makeTable_any {W:World} {M:Mach} {n0:Nat} {vR vC vO vA vS:Value} (hm:MachIn W n0 vR vC vO vA vS M) (hn:n0≤W.heap.size) :
  Calls Tryz.prog 41 #[.agg #[.string M.name,vR,vC,vO,vA,.string M.result,vS,.int .i64 M.slots]] W (TMakePost W M):=(makeTable2_any hm hn).mono fun _ _ h=>h.post
end Go.Proofs.YtligiddaampneaaGreat
