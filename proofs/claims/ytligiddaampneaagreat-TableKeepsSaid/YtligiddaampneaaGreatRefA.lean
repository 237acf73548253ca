/- What the reference's small functions answer: letters, names, words, find, In, Lap, long. No condition but that the slices lie in memory. -/
import Derived.Test.YtligiddaampneaaGreatMgF
import Derived.IntWalk
import Derived.WalkSpells
import Derived.WalkLawsBesides
import Derived.PlainAid
set_option maxHeartbeats 1000000
namespace Go.Proofs.YtligiddaampneaaGreat
open Go.RowKit
/-! Short names of three rules, for the printed steps. -/
theorem sA {α:Type} (l:List α) (i:Nat) (a:α):l.toArray.setIfInBounds i a=(l.set i a).toArray:=List.setIfInBounds_toArray l i a
theorem sB {α:Type} {x:α} {xs:List α} {a:α}:(x :: xs).set 0 a=a :: xs:=List.set_cons_zero
theorem sC {α:Type} {x:α} {xs:List α} {i:Nat} {a:α}:(x :: xs).set (i+1) a=x :: xs.set i a:=List.set_cons_succ
theorem letterR_any (c:Int) (w:World):Calls Tryz.prog 143 #[.int .u8 c] w fun e w'=>e=.returned (.bool (letterB c))∧w=w':=by
  unfold letterB
  cases h1:decide (97≤c) <;> cases h2:decide (c≤122) <;> cases h3:decide (65≤c) <;> cases h4:decide (c≤90) <;> cases h5:c == 95
  all_goals first
    | (exfalso;simp only [decide_eq_true_eq,decide_eq_false_iff_not,beq_iff_eq,beq_eq_false_iff_ne] at h1 h2 h3 h4 h5;omega)
    | (go_enter Tryz.func143,Tryz.ntmps143
       go_wp2
       go_ret
       exact ⟨rfl,rfl⟩)
theorem digitR_any (c:Int) (w:World):Calls Tryz.prog 144 #[.int .u8 c] w fun e w'=>e=.returned (.bool (digitB c))∧w=w':=by
  unfold digitB
  cases h1:decide (48≤c) <;> cases h2:decide (c≤57)
  all_goals first
    | (exfalso;simp only [decide_eq_true_eq,decide_eq_false_iff_not] at h1 h2;omega)
    | (go_enter Tryz.func144,Tryz.ntmps144
       go_wp2
       go_ret
       exact ⟨rfl,rfl⟩)
theorem lexS_end {s:ByteArray} (h0:0<s.size) (h1:s.size≤20) (h:∀ j,j<s.size→nameB (PlainAid.bt s j)=true):lexS s=letterB (PlainAid.bt s 0):=by
 have:(List.range s.size).all (fun i=>nameB (PlainAid.bt s i))=true:=by
  rw [List.all_eq_true];intro i hi;exact h i (by simpa using hi)
 simp [lexS,this,h0,h1]
theorem nameR_any (s:ByteArray) (w:World):Calls Tryz.prog 116 #[.string s] w fun e w'=>e=.returned (.bool (lexS s))∧w=w':=by
 by_cases h0:s.size=0
 ·have t0:s.toList.isEmpty=true:=by rw [ByteArray.toList_eq];exact List.isEmpty_iff.2 (List.length_eq_zero_iff.1 (by rw [Array.length_toList];exact h0))
  have e:lexS s=false:=by simp [lexS,h0]
  rw [e];clear e h0
  go_enter Tryz.func116,Tryz.ntmps116
  go_wp2_with fail
  go_ret
  exact ⟨rfl,rfl⟩
 ·have t0:s.toList.isEmpty=false:=by
   rw [ByteArray.toList_eq]
   cases hd:s.data.toList with
   | nil=>exact absurd (show s.data.size=0 by rw [← Array.length_toList,hd];rfl) h0
   | cons _ _=>rfl
  have hp:0<s.size:=by omega
  have hb:=PlainAid.get_bt s
  clear h0
  by_cases h1:(20:Int)<s.size
  ·have e:lexS s=false:=by simp only [lexS];rw [show decide (s.size≤20)=false by simp;omega];simp
   rw [e];clear e
   go_enter Tryz.func116,Tryz.ntmps116
   go_wp2_with fail
   go_ret
   exact ⟨rfl,rfl⟩
  ·obtain ⟨first,hfirst⟩:∃ b,letterB (PlainAid.bt s 0)=b:=⟨_,rfl⟩
   have HF:=qh hfirst
   go_enter Tryz.func116,Tryz.ntmps116
   go_wp2_with (go_at_call 143;refine (letterR_any _ _).mono ?_;rintro e w' ⟨rfl,rfl⟩)
   go_loop [4] (fun i=>∃ k:Nat,k≤s.size∧i=.int .i64 k∧Hid (∀ j,j<k→nameB (PlainAid.bt s j)=true)) (fun i=>s.size - (intOf i).toNat)
   case atStart=>exact ⟨0,by omega,rfl,qh (fun j hj=>by omega)⟩
   case round =>
    obtain ⟨k,hk,rfl,hok⟩:=hrel
    by_cases hlt:k<s.size
    ·cases hn:letterB (PlainAid.bt s k) <;> cases hd:digitB (PlainAid.bt s k)
     case false.false =>
      have E:=qh (lexS_no hlt (by simp [nameB,hn,hd]))
      go_wp2_with (first | (go_at_call 143;refine (letterR_any _ _).mono ?_;rintro e w' ⟨rfl,rfl⟩) | (go_at_call 144;refine (digitR_any _ _).mono ?_;rintro e w' ⟨rfl,rfl⟩))
      go_ret
      exact ⟨by rw [E.out];rfl,rfl⟩
     all_goals
      have hstep:=qh (show ∀ j,j<k+1→nameB (PlainAid.bt s j)=true from fun j hj=>by
       by_cases e:j=k
       ·subst e;simp [nameB,hn,hd]
       ·exact hok.out j (by omega))
      go_wp2_with (first | (go_at_call 143;refine (letterR_any _ _).mono ?_;rintro e w' ⟨rfl,rfl⟩) | (go_at_call 144;refine (digitR_any _ _).mono ?_;rintro e w' ⟨rfl,rfl⟩))
      go_round
      case rel=>exact ⟨k+1,by omega,by go_num,hstep⟩
      case measure=>simp [intOf];omega
    ·have e:lexS s=first:=by rw [← HF.out];exact lexS_end hp (by omega) (fun j hj=>hok.out j (by omega))
     have E:=qh e;clear e
     go_wp2_with fail
     go_ret
     exact ⟨by rw [E.out];rfl,rfl⟩
theorem wordS_no {s:ByteArray} (h:s∉words):wordS s=false:=by
 unfold wordS idx
 have:words.findIdx? (fun x=>x == s)=none:=by
  rw [List.findIdx?_eq_none_iff]
  intro x hx
  cases hh:x == s with
  | false=>rfl
  | true=>rw [ba_beq] at hh;subst hh;exact absurd hx h
 rw [this];rfl
theorem no_word {s:ByteArray} (h:s∉words) {l:List UInt8} (hl:(⟨l.toArray⟩:ByteArray)∈words):(s.toList == l)=false:=by
 rw [ByteArray.toList_eq]
 cases hh:s.data.toList == l with
 | false=>rfl
 | true=>exact absurd (bytes_eq (beq_iff_eq.1 hh) ▸ hl) h
theorem wordR_any (s:ByteArray) (w:World):Calls Tryz.prog 117 #[.string s] w fun e w'=>e=.returned (.bool (wordS s))∧w=w':=by
 by_cases h:s∈words
 ·have h1:wordS s=true:=by
   unfold words at h
   simp only [List.mem_cons,List.not_mem_nil,or_false] at h
   rcases h with rfl | rfl | rfl | rfl | rfl | rfl | rfl | rfl | rfl | rfl | rfl <;> decide +kernel
  rw [h1]
  unfold words at h
  simp only [List.mem_cons,List.not_mem_nil,or_false] at h
  rcases h with rfl | rfl | rfl | rfl | rfl | rfl | rfl | rfl | rfl | rfl | rfl
  all_goals
   clear h1
   go_enter Tryz.func117,Tryz.ntmps117
   go_wp2
   go_ret
   exact ⟨rfl,rfl⟩
 ·rw [wordS_no h]
  have f_machine:(s.toList == [109,97,99,104,105,110,101])=false:=no_word h (by simp [words])
  have f_reg:(s.toList == [114,101,103])=false:=no_word h (by simp [words])
  have f_at:(s.toList == [97,116])=false:=no_word h (by simp [words])
  have f_class:(s.toList == [99,108,97,115,115])=false:=no_word h (by simp [words])
  have f_op:(s.toList == [111,112])=false:=no_word h (by simp [words])
  have f_tie:(s.toList == [116,105,101])=false:=no_word h (by simp [words])
  have f_clob:(s.toList == [99,108,111,98])=false:=no_word h (by simp [words])
  have f_args:(s.toList == [97,114,103,115])=false:=no_word h (by simp [words])
  have f_result:(s.toList == [114,101,115,117,108,116])=false:=no_word h (by simp [words])
  have f_saved:(s.toList == [115,97,118,101,100])=false:=no_word h (by simp [words])
  have f_slots:(s.toList == [115,108,111,116,115])=false:=no_word h (by simp [words])
  clear h
  go_enter Tryz.func117,Tryz.ntmps117
  go_wp2
  go_ret
  exact ⟨rfl,rfl⟩
theorem namedR_any (s:ByteArray) (w:World):Calls Tryz.prog 94 #[.string s] w fun e w'=>e=.returned (.bool (namedS s))∧w=w':=by
 unfold namedS
 cases h1:lexS s <;> cases h2:wordS s
 all_goals
  go_enter Tryz.func94,Tryz.ntmps94
  go_wp2_with (first | (go_at_call 116;refine (nameR_any _ _).mono ?_;rintro e w' ⟨rfl,rfl⟩) | (go_at_call 117;refine (wordR_any _ _).mono ?_;rintro e w' ⟨rfl,rfl⟩))
  go_ret
  exact ⟨rfl,rfl⟩
theorem inR_any (v:Value) (l:List Int) (n:Int) (w:World) (hv:SliceInts w v l) :
  Calls Tryz.prog 59 #[v,.int .i64 n] w fun e w'=>e=.returned (.bool (decide (n∈l)))∧w=w':=by
 by_cases hl:l=[]
 ·subst hl
  obtain ⟨a,cap,rfl,_,_⟩:=Row.shape hv
  go_enter Tryz.func59,Tryz.ntmps59
  go_wp2
  refine wp_loop_rounds 1 ?_
  rw [rounds_succ]
  go_wp2
  go_ret
  exact ⟨rfl,rfl⟩
 ·obtain ⟨b,off,cap,rfl,hnc,hcm,hb,hc⟩:=Row.at hv (by simpa using hl)
  unfold maxLen at hcm
  go_enter Tryz.func59,Tryz.ntmps59
  go_wp2
  go_loop [5] (fun i=>∃ k:Nat,k≤l.length∧i=.int .i64 k∧Hid (∀ j x,j<k→l[j]?=some x→x≠n)) (fun i=>l.length - (intOf i).toNat)
  case atStart=>exact ⟨0,by omega,rfl,qh (fun j _ hj=>by omega)⟩
  case round =>
   obtain ⟨k,hk,rfl,hok⟩:=hrel
   by_cases hlt:k<l.length
   ·obtain ⟨x,hx⟩:∃ x,l[k]?=some x:=⟨l[k],lE hlt⟩
    have hcell:=hc k (.int .i64 x) (by simp [hx])
    have HX:=qh hx
    have HC:=qh hc
    clear hx hc
    by_cases he:x=n
    ·have hbx:(x == n)=true:=by simp [he]
     have E:=qh (show decide (n∈l)=true by rw [decide_eq_true_eq,← he];exact List.mem_of_getElem? HX.out)
     clear he
     go_wp2
     go_ret
     exact ⟨by rw [E.out];rfl,rfl⟩
    ·have hbx:(x == n)=false:=by simp [he]
     have hstep:=qh (show ∀ j y,j<k+1→l[j]?=some y→y≠n from fun j y hj hy=>by
      by_cases e:j=k
      ·subst e;rw [HX.out] at hy;cases hy;exact he
      ·exact hok.out j y (by omega) hy)
     clear he
     go_wp2
     go_round
     case rel=>exact ⟨k+1,by omega,by go_num,hstep⟩
     case measure=>simp [intOf];omega
   ·have E:=qh (show decide (n∈l)=false by
     rw [decide_eq_false_iff_not]
     intro hx
     obtain ⟨j,hj⟩:=List.getElem?_of_mem hx
     exact hok.out j n (by have:=(List.getElem?_eq_some_iff.1 hj).1;omega) hj rfl)
    clear hc
    go_wp2
    go_ret
    exact ⟨by rw [E.out];rfl,rfl⟩
theorem findR_any (v:Value) (l:List ByteArray) (s:ByteArray) (w:World) (hv:SliceStrs w v l) :
  Calls Tryz.prog 85 #[v,.string s] w fun e w'=>e=.returned (.int .i64 (idx l s))∧w=w':=by
 by_cases hl:l=[]
 ·subst hl
  obtain ⟨a,cap,rfl,_,_⟩:=Row.shape hv
  go_enter Tryz.func85,Tryz.ntmps85
  go_wp2
  refine wp_loop_rounds 1 ?_
  rw [rounds_succ]
  go_wp2
  go_ret
  exact ⟨rfl,rfl⟩
 ·obtain ⟨b,off,cap,rfl,hnc,hcm,hb,hc⟩:=Row.at hv (by simpa using hl)
  unfold maxLen at hcm
  go_enter Tryz.func85,Tryz.ntmps85
  go_wp2
  go_loop [5] (fun i=>∃ k:Nat,k≤l.length∧i=.int .i64 k∧Hid (∀ j x,j<k→l[j]?=some x→(x == s)=false)) (fun i=>l.length - (intOf i).toNat)
  case atStart=>exact ⟨0,by omega,rfl,qh (fun j _ hj=>by omega)⟩
  case round =>
   obtain ⟨k,hk,rfl,hok⟩:=hrel
   by_cases hlt:k<l.length
   ·obtain ⟨x,hx⟩:∃ x,l[k]?=some x:=⟨l[k],lE hlt⟩
    have hcell:=hc k (.string x) (by simp [hx])
    have HX:=qh hx
    have HC:=qh hc
    have hbx:=str_beq s x
    have hby:=str_beq x s
    clear hx hc
    cases he:(x == s) with
    | true =>
     rw [he] at hbx
     rw [(ba_beq x s).1 he,(ba_beq s s).2 rfl] at hby
     have E:=qh (show idx l s=k by
      unfold idx
      have:l.findIdx? (fun x=>x == s)=some k:=by
       rw [List.findIdx?_eq_some_iff_getElem]
       obtain ⟨h1,h2⟩:=List.getElem?_eq_some_iff.1 HX.out
       exact ⟨h1,by rw [h2];exact he,fun j hj=>by have:=hok.out j l[j] hj (lE (by omega));simp [this]⟩
      rw [this])
     have hxs:=(ba_beq x s).1 he
     subst hxs
     go_wp2
     go_ret
     exact ⟨by rw [E.out];rfl,rfl⟩
    | false =>
     rw [he] at hbx
     have hsx:(s == x)=false:=by
      cases hh:s == x with
      | false=>rfl
      | true=>rw [(ba_beq s x).1 hh,(ba_beq x x).2 rfl] at he;cases he
     rw [hsx] at hby
     have hstep:=qh (show ∀ j y,j<k+1→l[j]?=some y→(y == s)=false from fun j y hj hy=>by
      by_cases e:j=k
      ·subst e;rw [HX.out] at hy;cases hy;exact he
      ·exact hok.out j y (by omega) hy)
     go_wp2
     go_round
     case rel=>exact ⟨k+1,by omega,by go_num,hstep⟩
     case measure=>simp [intOf];omega
   ·have E:=qh (show idx l s = -1 by
     unfold idx
     have:l.findIdx? (fun x=>x == s)=none:=by
      rw [List.findIdx?_eq_none_iff]
      intro x hx
      obtain ⟨j,hj⟩:=List.getElem?_of_mem hx
      exact hok.out j x (by have:=(List.getElem?_eq_some_iff.1 hj).1;omega) hj
     rw [this])
    clear hc
    go_wp2
    go_ret
    exact ⟨by rw [E.out];rfl,rfl⟩
end Go.Proofs.YtligiddaampneaaGreat
