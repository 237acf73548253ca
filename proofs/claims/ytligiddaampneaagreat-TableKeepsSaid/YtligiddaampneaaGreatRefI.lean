/- The reference's table: Result, Args, apart, distinct. For every table that lies in memory. -/
import Derived.Test.YtligiddaampneaaGreatRefH
set_option maxRecDepth 100000
set_option maxHeartbeats 4000000
-- shrunk
namespace Go.Proofs.YtligiddaampneaaGreat
open Go.RowKit
attribute [local go_sem] Oper.semAt_some
variable {W : World} {n1 bt : Nat} {V : MV} {vK : Value} {M : Mach} {N : List ByteArray} {L : List Pl} {C : List (List Int)}
theorem resultT_any (h:TabIn W n1 bt V vK M N L C):Calls Tryz.prog 20 #[.pointer (some ⟨bt,0,none⟩)] W fun e w'=>e=.returned (.int .i64 (idx N M.result))∧W=w':=by
 have c5:=h.ck.cells 5 _ rfl
 have hr:=qh (regT_any h M.result)
 clear h
 go_enter Tryz.func20,Tryz.ntmps20
 go_wp2_with (go_at_call 54;refine hr.out.mono ?_;rintro e w' ⟨rfl,rfl⟩)
 go_ret
 exact ⟨rfl,rfl⟩
theorem argsT_any (h:TabIn W n1 bt V vK M N L C) (hl:M.args.length≤1000):Calls Tryz.prog 17 #[.pointer (some ⟨bt,0,none⟩)] W fun e w'=>∃ u,e=.returned u∧w'.ownsRow W.heap.size 3 1 u (listS N M.args).length ((listS N M.args).map (Value.int .i64))∧Ext W w':=by
 have c4:=h.ck.cells 4 _ rfl
 have hr:=qh (listT_any h h.ck.m.args hl)
 obtain ⟨a,cap,ev,_,_⟩:=h.ck.m.args.form
 rw [ev] at c4 hr
 clear h
 go_enter Tryz.func17,Tryz.ntmps17
 go_wp2_with (go_at_call 53;refine hr.out.mono ?_;rintro e w' ⟨u,rfl,ho,hx⟩)
 go_ret
 exact ⟨u,rfl,ho,hx⟩
def okA (N:List ByteArray) (L:List Pl) (l:List ByteArray) (i:Nat):Bool:=match l[i]? with
 | some s=>decide (0≤idx N s) && (l.take i).all fun t=>!lapI L (idx N s) (idx N t)
 | none=>true
def apartB (N:List ByteArray) (L:List Pl) (l:List ByteArray):Bool:=(List.range l.length).all (okA N L l)
theorem apartB_no {l:List ByteArray} {i:Nat} (hi:i<l.length) (h:okA N L l i=false):apartB N L l=false:=by
 unfold apartB
 rw [List.all_eq_false]
 exact ⟨i,by simpa using hi,by rw [h];simp⟩
theorem apartB_yes {l:List ByteArray} (h:∀ i,i<l.length→okA N L l i=true):apartB N L l=true:=by
 unfold apartB
 rw [List.all_eq_true]
 intro i hi
 exact h i (by simpa using hi)
theorem apartT_any (h:TabIn W n1 bt V vK M N L C) {v:Value} {l:List ByteArray} (hv:StrsIn W n1 v l) (hN:N.length≤1000) :
  Calls Tryz.prog 72 #[.pointer (some ⟨bt,0,none⟩),v] W fun e w'=>e=.returned (.bool (apartB N L l))∧Ext W w':=by
 obtain ⟨a,cap,rfl,hl1,hl2⟩:=hv.form
 unfold maxLen at hl2
 have HT:=qh h
 have HV:=qh hv
 have hle:=h.ck.le
 clear h hv
 go_enter Tryz.func72,Tryz.ntmps72
 go_wp2
 go_loopw [5] (fun i wr=>∃ k:Nat,k≤l.length∧i=.int .i64 k∧Hid (Ext W wr∧∀ j,j<k→okA N L l j=true)) (fun i _=>l.length - (intOf i).toNat)
 case atStart=>exact ⟨0,by omega,rfl,qh ⟨Ext.refl _,fun j hj=>by omega⟩⟩
 case round =>
  obtain ⟨k,hk,rfl,hin⟩:=hrel
  rename World=>w0
  by_cases hlt:k<l.length
  ·have hkz:(k:Int)<(l.length:Int):=by omega
   obtain ⟨s,hs⟩:∃ x,l[k]?=some x:=⟨_,lE hlt⟩
   obtain ⟨b,off,cap2,e,_,_,hb,c0⟩:=StrsIn.at (StrsIn.ext HV.out hle hin.out.1) hs
   cases e
   have hreg:=qh (regT_any (HT.out.ext hin.out.1) s)
   have hnf:fits64 (idx N s):=idx_fits (by omega)
   obtain ⟨n,hn⟩:∃ x,idx N s=x:=⟨_,rfl⟩
   rw [hn] at hreg hnf
   have HNF:=qh hnf
   have HS:=qh (And.intro hs hn)
   clear hs hn hnf
   by_cases h0:n<0
   ·have hbad:Hid (apartB N L l=false):=qh (apartB_no hlt (by unfold okA;rw [HS.out.1];dsimp only;rw [HS.out.2,decide_eq_false (by omega)];rfl))
    go_wp2_with (go_at_call 54;refine hreg.out.mono ?_;rintro e w' ⟨rfl,rfl⟩)
    go_ret
    exact ⟨by rw [hbad.out];rfl,hin.out.1⟩
   ·have h0z:¬ n<0:=h0
    go_wp2_with (go_at_call 54;refine hreg.out.mono ?_;rintro e w' ⟨rfl,rfl⟩)
    go_loopw [7] (fun t wr=>∃ m:Nat,m≤k∧t=.int .i64 m∧Hid (Ext w0 wr∧∀ (j:Nat) x,j<m→l[j]?=some x→lapI L n (idx N x)=false)) (fun t _=>k - (intOf t).toNat)
    case atStart=>exact ⟨0,by omega,rfl,qh ⟨Ext.refl _,fun j x hj=>by omega⟩⟩
    case round =>
     obtain ⟨m,hm,rfl,hin2⟩:=hrel
     by_cases hlm:m<k
     ·have hmz:(m:Int)<(k:Int):=by omega
      have hmz2:(m:Int)<(l.length:Int):=by omega
      obtain ⟨x,hx⟩:∃ x,l[m]?=some x:=⟨_,lE (by omega)⟩
      obtain ⟨b2,off2,cap3,e,_,_,hb2,d0⟩:=StrsIn.at (StrsIn.ext HV.out hle (hin.out.1.trans hin2.out.1)) hx
      cases e
      have hreg2:=qh (regT_any (HT.out.ext (hin.out.1.trans hin2.out.1)) x)
      have hlapc:=qh (lapT_any (HT.out.ext (hin.out.1.trans hin2.out.1)) n (idx N x) HNF.out (idx_fits (by omega)))
      have HX:=qh hx
      clear hx
      obtain ⟨bb,hbb⟩:∃ y,lapI L n (idx N x)=y:=⟨_,rfl⟩
      rw [hbb] at hlapc
      have HBB:=qh hbb
      clear hbb
      cases bb with
      | true =>
       have hbad:Hid (apartB N L l=false):=qh (apartB_no hlt (by
        unfold okA
        rw [HS.out.1]
        dsimp only
        rw [HS.out.2]
        have:((l.take k).all fun t=>!lapI L n (idx N t))=false:=by
         rw [List.all_eq_false]
         exact ⟨x,List.mem_of_getElem? (i:=m) (by rw [List.getElem?_take,if_pos hlm];exact HX.out),by rw [HBB.out];simp⟩
        rw [this,Bool.and_false]))
       go_wp2_with (first
        | (go_at_call 54;refine hreg2.out.mono ?_;rintro e w' ⟨rfl,rfl⟩)
        | (go_at_call 13;refine hlapc.out.mono ?_;rintro e w7 ⟨rfl,x7⟩;have X7:=qh x7;clear x7))
       go_ret
       exact ⟨by rw [hbad.out];rfl,hin.out.1.trans (hin2.out.1.trans X7.out)⟩
      | false =>
       have hst:∀ (j:Nat) y,j<m+1→l[j]?=some y→lapI L n (idx N y)=false:=fun j y hj hy=>by
        by_cases e:j=m
        ·subst e;rw [HX.out] at hy;cases hy;exact HBB.out
        ·exact hin2.out.2 j y (by omega) hy
       have HST:=qh hst
       clear hst
       go_wp2_with (first
        | (go_at_call 54;refine hreg2.out.mono ?_;rintro e w' ⟨rfl,rfl⟩)
        | (go_at_call 13;refine hlapc.out.mono ?_;rintro e w7 ⟨rfl,x7⟩;have X7:=qh x7;clear x7))
       go_roundw
       case rel=>exact ⟨m+1,by omega,by go_num,qh ⟨hin2.out.1.trans X7.out,HST.out⟩⟩
       case measure=>simp [intOf];omega
     ·have hok:∀ j,j<k+1→okA N L l j=true:=fun j hj=>by
       by_cases e:j=k
       ·subst e
        unfold okA
        rw [HS.out.1]
        dsimp only
        rw [HS.out.2,decide_eq_true (by omega),Bool.true_and,List.all_eq_true]
        intro t ht
        obtain ⟨i,hi⟩:=List.getElem?_of_mem ht
        have hil:=(List.getElem?_eq_some_iff.1 hi).1
        rw [List.length_take] at hil
        rw [List.getElem?_take,if_pos (by omega)] at hi
        rw [hin2.out.2 i t (by omega) hi]
        rfl
       ·exact hin.out.2 j (by omega)
      have HOK:=qh hok
      have hmz:¬ (m:Int)<(k:Int):=by omega
      clear hok
      go_wp2_with fail
      go_roundw
      case rel=>exact ⟨k+1,by omega,by go_num,qh ⟨hin.out.1.trans hin2.out.1,HOK.out⟩⟩
      case measure=>simp [intOf];omega
  ·have hgood:Hid (apartB N L l=true):=qh (apartB_yes fun i hi=>hin.out.2 i (by omega))
   have hkz:¬ (k:Int)<(l.length:Int):=by omega
   go_wp2
   go_ret
   exact ⟨by rw [hgood.out];rfl,hin.out.1⟩
end Go.Proofs.YtligiddaampneaaGreat
