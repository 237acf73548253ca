/- The reference's table: Clob, clear. For every table that lies in memory. -/
import Derived.Test.YtligiddaampneaaGreatRefK
-- shrunk
namespace Go.Proofs.YtligiddaampneaaGreat
open Go.RowKit
attribute [local go_sem] Oper.semAt_some
variable {W : World} {n1 bt : Nat} {V : MV} {vK : Value} {M : Mach} {N : List ByteArray} {L : List Pl} {C : List (List Int)}
set_option maxRecDepth 100000 in
set_option maxHeartbeats 4000000 in
theorem clobT_any (h:TabIn W n1 bt V vK M N L C) {k:Nat} {o:Opn} (ho:M.ops[k]?=some o) (hl:o.clob.length≤1000) :
  Calls Tryz.prog 38 #[.pointer (some ⟨bt,0,none⟩),.int .i64 (k:Int)] W fun e w'=>∃ u,e=.returned u∧w'.ownsRow W.heap.size 3 1 u (listS N o.clob).length ((listS N o.clob).map (Value.int .i64))∧Ext W w':=by
 have c3:=h.ck.cells 3 _ rfl
 obtain ⟨b,off,cap,u,c,e,hl1,hl2,hb,o0,o1,o2,o3,o4,o5,hU,hK,_⟩:=h.ck.m.ops.at ho
 have hlist:=Lib.hid (listT_any h hK hl)
 obtain ⟨ka,kc,ek,_,_⟩:=hK.form
 have hkz:(k:Int)<(M.ops.length:Int):=by have:=(List.getElem?_eq_some_iff.1 ho).1;omega
 have hkx:decide (M.ops.length≤k)=false:=decide_eq_false (by have:=(List.getElem?_eq_some_iff.1 ho).1;omega)
 have hky:¬ (M.ops.length:Int)≤(k:Int):=by omega
 have hk0:¬ (k:Int)<0:=by omega
 unfold maxLen at hl2
 obtain ⟨vR,vC,vO,vA,vS,vN,vP⟩:=V
 dsimp only at c3 e
 subst e ek
 clear h ho hU hK
 go_enter Tryz.func38,Tryz.ntmps38
 go_wp2_with (go_at_call 53;refine hlist.out.mono ?_;rintro e w' ⟨u,rfl,ho,hx⟩;have HO:=Lib.hid ho;have HX:=Lib.hid hx;clear ho hx)
 go_ret
 exact ⟨u,rfl,HO.out,HX.out⟩
def clearB (N:List ByteArray) (L:List Pl) (o:Opn) (r:Int):Bool:=(listS N o.clob).all fun n=>!lapI L n r
theorem listS_fits {N l:List ByteArray} (h:N.length≤1000) {n:Int} (hn:n∈listS N l):fits64 n:=by
 unfold listS at hn
 obtain ⟨h1,_⟩:=List.mem_filter.1 hn
 obtain ⟨s,_,rfl⟩:=List.mem_map.1 h1
 exact idx_fits (by omega)
set_option maxRecDepth 100000 in
set_option maxHeartbeats 4000000 in
theorem clearT_any (h:TabIn W n1 bt V vK M N L C) {k:Nat} {o:Opn} (ho:M.ops[k]?=some o) (hl:o.clob.length≤1000) (hN:N.length≤1000) (r:Int) (hr:fits64 r) :
  Calls Tryz.prog 69 #[.pointer (some ⟨bt,0,none⟩),.int .i64 (k:Int),.int .i64 r] W fun e w'=>e=.returned (.bool (clearB N L o r))∧Ext W w':=by
 have HT:=Lib.hid h
 have hcl:=Lib.hid (clobT_any h ho hl)
 obtain ⟨res,hres⟩:∃ x,clearB N L o r=x:=⟨_,rfl⟩
 rw [hres]
 unfold clearB at hres
 have hfit:=Lib.hid (fun n (hn:n∈listS N o.clob)=>listS_fits hN hn)
 have hlen:(listS N o.clob).length≤1000:=by
  unfold listS
  refine Nat.le_trans (List.length_filter_le _ _) ?_
  rw [List.length_map];exact hl
 generalize listS N o.clob=D at hres hcl hfit hlen
 have RES:=Lib.hid hres
 have HR:=Lib.hid hr
 clear h ho hres hr
 go_enter Tryz.func69,Tryz.ntmps69
 go_upto_region 2 with (go_at_call 38;refine hcl.out.mono ?_;rintro e w1 ⟨u,rfl,hown,hx⟩)
 have hsl:SliceInts w1 u D:=Row.of_owns hown
 obtain ⟨aD,cD,eu,hc1,hc2⟩:=hsl.shape
 subst eu
 have HSL:=Lib.hid hsl
 have X1:=Lib.hid hx
 clear hown hx hsl hcl
 go_wp2_with fail
 go_loopw [8] (fun i wr=>∃ m:Nat,m≤D.length∧i=.int .i64 m∧Hid (Ext w1 wr∧∀ j n,j<m→D[j]?=some n→lapI L n r=false)) (fun i _=>D.length - (intOf i).toNat)
 case atStart=>exact ⟨0,by omega,rfl,Lib.hid ⟨Ext.refl _,fun j n hj=>by omega⟩⟩
 case round =>
  obtain ⟨m,hm,rfl,hin⟩:=hrel
  by_cases hlt:m<D.length
  ·have hmz:(m:Int)<(D.length:Int):=by omega
   obtain ⟨n,hn⟩:∃ x,D[m]?=some x:=⟨_,List.getElem?_eq_getElem hlt⟩
   obtain ⟨b,off,cap,e,_,_,_,hcell⟩:=Row.at (HSL.out.below hin.out.1) (fun e=>by rw [List.map_eq_nil_iff] at e;rw [e] at hlt;simp at hlt)
   cases e
   have c0:=hcell m (.int .i64 n) (by simp [hn])
   have hlapc:=Lib.hid (lapT_any (HT.out.ext (X1.out.trans hin.out.1)) n r (hfit.out n (List.mem_of_getElem? hn)) HR.out)
   have HNN:=Lib.hid hn
   obtain ⟨bb,hbb⟩:∃ y,lapI L n r=y:=⟨_,rfl⟩
   rw [hbb] at hlapc
   have HBB:=Lib.hid hbb
   clear hbb hn hcell
   cases bb with
   | true =>
    have hbad:Hid (res=false):=Lib.hid (by
     rw [← RES.out,List.all_eq_false]
     exact ⟨n,List.mem_of_getElem? HNN.out,by rw [HBB.out];simp⟩)
    go_wp2_with (go_at_call 13;refine hlapc.out.mono ?_;rintro e w7 ⟨rfl,x7⟩;have X7:=Lib.hid x7;clear x7)
    go_ret
    exact ⟨by rw [hbad.out];rfl,X1.out.trans (hin.out.1.trans X7.out)⟩
   | false =>
    have hst:∀ j y,j<m+1→D[j]?=some y→lapI L y r=false:=fun j y hj hy=>by
     by_cases e:j=m
     ·subst e;rw [HNN.out] at hy;cases hy;exact HBB.out
     ·exact hin.out.2 j y (by omega) hy
    have HST:=Lib.hid hst
    clear hst
    go_wp2_with (go_at_call 13;refine hlapc.out.mono ?_;rintro e w7 ⟨rfl,x7⟩;have X7:=Lib.hid x7;clear x7)
    go_roundw
    case rel=>exact ⟨m+1,by omega,by go_num,Lib.hid ⟨hin.out.1.trans X7.out,HST.out⟩⟩
    case measure=>simp [intOf];omega
  ·have hgood:Hid (res=true):=Lib.hid (by
    rw [← RES.out,List.all_eq_true]
    intro n hn
    obtain ⟨j,hj⟩:=List.getElem?_of_mem hn
    rw [hin.out.2 j n (by have:=(List.getElem?_eq_some_iff.1 hj).1;omega) hj]
    rfl)
   have hmz:¬ (m:Int)<(D.length:Int):=by omega
   go_wp2_with fail
   go_ret
   exact ⟨by rw [hgood.out];rfl,X1.out.trans hin.out.1⟩
end Go.Proofs.YtligiddaampneaaGreat
