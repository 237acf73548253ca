/- What the reference's Lap answers; that Big ends. -/
import Derived.Test.YtligiddaampneaaGreatRefA
import Derived.Deep.QuietTactic
import Derived.BigQuiet
-- shrunk
namespace Go.Proofs.YtligiddaampneaaGreat
open Go.RowKit
attribute [local go_sem] Oper.semAt_some
theorem lap_tight {a b:Pl} (ha:a.tight) (hb:b.tight):lapS a b=(decide (a.root=b.root) && (decide (a.beg<b.beg+b.width) && decide (b.beg<a.beg+a.width))):=by
 obtain ⟨ar,aa,aw⟩:=a
 obtain ⟨br,ba,bw⟩:=b
 obtain ⟨_,a1,a2,a3⟩:=ha
 obtain ⟨_,b1,b2,b3⟩:=hb
 rw [lapS_eq]
 dsimp only at *
 rw [decide_eq_true a2,decide_eq_true b2,Bool.true_and,Bool.true_and]
 congr 1
 by_cases h:ba<aa
 ·rw [if_pos h,Bool.eq_iff_iff];simp only [Bool.and_eq_true,decide_eq_true_eq];omega
 ·rw [if_neg h,Bool.eq_iff_iff];simp only [Bool.and_eq_true,decide_eq_true_eq];omega
set_option maxHeartbeats 1000000 in
theorem lapR_any (a b:Pl) (w:World) (ha:a.tight) (hb:b.tight) :
  Calls Tryz.prog 51 #[.agg a.cells.toArray,.agg b.cells.toArray] w fun e w'=>e=.returned (.bool (lapS a b))∧Ext w w':=by
 rw [lap_tight ha hb]
 obtain ⟨ar,aa,aw⟩:=a
 obtain ⟨br,ba,bw⟩:=b
 obtain ⟨_,a1,a2,a3⟩:=ha
 obtain ⟨_,b1,b2,b3⟩:=hb
 simp only [Pl.cells] at *
 have e1:IntKind.i64.wrap (ba+bw)=ba+bw:=IntWalk.i64_in _ (by omega)
 have e2:IntKind.i64.wrap (aa+aw)=aa+aw:=IntWalk.i64_in _ (by omega)
 have p1:(0:Int)<aw:=by omega
 have p2:(0:Int)<bw:=by omega
 by_cases h1:ar=br
 ·have t1:(ar == br)=true:=by simp [h1]
  rw [decide_eq_true h1,Bool.true_and]
  clear h1
  by_cases h2:aa<ba+bw
  ·rw [decide_eq_true h2,Bool.true_and]
   cases h3:decide (ba<aa+aw)
   all_goals
    go_enter Tryz.func51,Tryz.ntmps51
    go_wp2
    go_ret
    exact ⟨rfl,below2 _ _ _⟩
  ·have h3:=decide_eq_false h2
   rw [h3,Bool.false_and]
   go_enter Tryz.func51,Tryz.ntmps51
   go_wp2
   go_ret
   exact ⟨rfl,below2 _ _ _⟩
 ·have t1:(ar == br)=false:=by simp [h1]
  rw [decide_eq_false h1,Bool.false_and]
  clear h1
  go_enter Tryz.func51,Tryz.ntmps51
  go_wp2
  go_ret
  exact ⟨rfl,below2 _ _ _⟩
set_option maxHeartbeats 400000 in
theorem longR_any (v:Value) (l:List ByteArray) (w:World) (hv:SliceStrs w v l) :
  Calls Tryz.prog 48 #[v] w fun e w'=>(∃ n:Int,e=.returned (.int .i64 n))∧w=w':=by
 by_cases hl:l=[]
 ·subst hl
  obtain ⟨a,cap,rfl,_,_⟩:=Row.shape hv
  go_enter Tryz.func48,Tryz.ntmps48
  go_wp2
  refine wp_loop_rounds 1 ?_
  rw [rounds_succ]
  go_wp2
  go_ret
  exact ⟨⟨_,rfl⟩,rfl⟩
 ·obtain ⟨b,off,cap,rfl,hnc,hcm,hb,hc⟩:=Row.at hv (by simpa using hl)
  unfold maxLen at hcm
  go_enter Tryz.func48,Tryz.ntmps48
  go_wp2
  go_loop [3,4] (fun n i=>∃ k:Nat,k≤l.length∧i=.int .i64 k∧∃ m:Int,n=.int .i64 m) (fun _ i=>l.length - (intOf i).toNat)
  case atStart=>exact ⟨0,by omega,rfl,_,rfl⟩
  case round =>
   obtain ⟨k,hk,rfl,m,rfl⟩:=hrel
   by_cases hlt:k<l.length
   ·obtain ⟨x,hx⟩:∃ x,l[k]?=some x:=⟨l[k],List.getElem?_eq_getElem hlt⟩
    have hcell:=hc k (.string x) (by simp [hx])
    clear hx hc
    by_cases hm:m≤5000
    ·go_wp2
     go_round
     case rel=>exact ⟨k+1,by omega,by go_num,_,rfl⟩
     case measure=>simp [intOf];omega
    ·have hd:=decide_eq_false hm
     go_wp2
     go_ret
     exact ⟨⟨_,rfl⟩,rfl⟩
   ·clear hc
    go_wp2
    go_ret
    exact ⟨⟨_,rfl⟩,rfl⟩
end Go.Proofs.YtligiddaampneaaGreat
