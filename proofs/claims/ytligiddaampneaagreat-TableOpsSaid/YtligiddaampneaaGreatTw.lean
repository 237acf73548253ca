/- What geom.Within answers. -/
import Derived.Test.YtligiddaampneaaGreatMgA
namespace Go.Proofs.YtligiddaampneaaGreat
open Go.RowKit
def withinS (a b:Pl):Bool:=decide (a.root=b.root) && (decide (a.width<1) || (decide (1≤b.width) && (decide (b.beg≤a.beg) && (decide (a.beg - b.beg≤b.width) && decide (a.width≤b.width - (a.beg - b.beg))))))
theorem withinS_eq (ar aa aw br ba bw:Int):withinS ⟨ar,aa,aw⟩ ⟨br,ba,bw⟩=(decide (ar=br) && (decide (aw<1) || (decide (1≤bw) && (decide (ba≤aa) && (decide (aa - ba≤bw) && decide (aw≤bw - (aa - ba))))))):=rfl
theorem u64_sub2 (x y:Int) (h:y≤x) (h0:0≤y) (hx:x≤9223372036854775807):IntKind.u64.wrap (x - y)=x - y:=by
 rw [IntKind.wrap_u64];omega
set_option maxHeartbeats 1000000 in
theorem within_any (a b:Pl) (w:World) (ha:a.fit) (hb:b.fit) :
  Calls Tryz.prog 112 #[.agg a.cells.toArray,.agg b.cells.toArray] w fun e w'=>e=.returned (.bool (withinS a b))∧Below w.heap.size w w':=by
 obtain ⟨ar,aa,aw⟩:=a
 obtain ⟨br,ba,bw⟩:=b
 obtain ⟨⟨_,_⟩,⟨a1,a2⟩,⟨a3,a4⟩⟩:=ha
 obtain ⟨⟨_,_⟩,⟨b1,b2⟩,⟨b3,b4⟩⟩:=hb
 rw [withinS_eq]
 simp only [Pl.cells] at *
 by_cases h1:ar=br
 ·have t1:(ar != br)=false:=by simp [h1]
  rw [show decide (ar=br)=true by simp [h1],Bool.true_and]
  clear h1
  by_cases h2:aw<1
  ·rw [show decide (aw<1)=true by simp;omega,Bool.true_or]
   go_enter Tryz.func112,Tryz.ntmps112
   go_wp2
   go_ret
   exact ⟨rfl,below2 _ _ _⟩
  ·rw [show decide (aw<1)=false by simp;omega,Bool.false_or]
   by_cases h3:bw<1
   ·rw [show decide (1≤bw)=false by simp;omega,Bool.false_and]
    go_enter Tryz.func112,Tryz.ntmps112
    go_wp2
    go_ret
    exact ⟨rfl,below2 _ _ _⟩
   ·rw [show decide (1≤bw)=true by simp;omega,Bool.true_and]
    by_cases h4:aa<ba
    ·rw [show decide (ba≤aa)=false by simp;omega,Bool.false_and]
     go_enter Tryz.func112,Tryz.ntmps112
     go_wp2
     go_ret
     exact ⟨rfl,below2 _ _ _⟩
    ·rw [show decide (ba≤aa)=true by simp;omega,Bool.true_and]
     have e1:=u64_sub aa ba (by omega) (by omega)
     have e2:=u64_pos bw (by omega) (by omega)
     have e3:=u64_pos aw (by omega) (by omega)
     by_cases h5:aa - ba≤bw
     ·rw [show decide (aa - ba≤bw)=true by simp;omega,Bool.true_and]
      have e4:=u64_sub2 bw (aa - ba) (by omega) (by omega) (by omega)
      cases h6:decide (aw≤bw - (aa - ba))
      all_goals
       go_enter Tryz.func112,Tryz.ntmps112
       go_wp2
       go_ret
       exact ⟨rfl,below2 _ _ _⟩
     ·have h5':decide (aa - ba≤bw)=false:=by simp;omega
      rw [h5',Bool.false_and]
      go_enter Tryz.func112,Tryz.ntmps112
      go_wp2
      go_ret
      exact ⟨rfl,below2 _ _ _⟩
 ·have t1:(ar != br)=true:=by simp [h1]
  rw [show decide (ar=br)=false by simp [h1],Bool.false_and]
  clear h1
  go_enter Tryz.func112,Tryz.ntmps112
  go_wp2
  go_ret
  exact ⟨rfl,below2 _ _ _⟩
end Go.Proofs.YtligiddaampneaaGreat
