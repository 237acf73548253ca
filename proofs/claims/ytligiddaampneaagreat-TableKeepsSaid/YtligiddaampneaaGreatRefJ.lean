/- The reference's table: distinct, In, Clob, clear. For every table that lies in memory. -/
import Derived.Test.YtligiddaampneaaGreatRefI
set_option maxRecDepth 100000
set_option maxHeartbeats 4000000
-- shrunk
namespace Go.Proofs.YtligiddaampneaaGreat
open Go.RowKit
attribute [local go_sem] Oper.semAt_some
variable {W : World} {n1 bt : Nat} {V : MV} {vK : Value} {M : Mach} {N : List ByteArray} {L : List Pl} {C : List (List Int)}
def okD (N:List ByteArray) (l:List ByteArray) (i:Nat):Bool:=match l[i]? with
 | some s=>decide (0≤idx N s) && decide ((i:Int)≤idx l s)
 | none=>true
def distB (N l:List ByteArray):Bool:=decide (l.length≤64) && (List.range l.length).all (okD N l)
theorem distB_no {l:List ByteArray} {i:Nat} (hi:i<l.length) (h:okD N l i=false):distB N l=false:=by
 unfold distB
 have:(List.range l.length).all (okD N l)=false:=by
  rw [List.all_eq_false]
  exact ⟨i,by simpa using hi,by rw [h];simp⟩
 rw [this,Bool.and_false]
theorem distB_yes {l:List ByteArray} (hl:l.length≤64) (h:∀ i,i<l.length→okD N l i=true):distB N l=true:=by
 unfold distB
 rw [decide_eq_true hl,Bool.true_and,List.all_eq_true]
 intro i hi
 exact h i (by simpa using hi)
theorem distinctT_any (h:TabIn W n1 bt V vK M N L C) {v:Value} {l:List ByteArray} (hv:StrsIn W n1 v l) :
  Calls Tryz.prog 121 #[.pointer (some ⟨bt,0,none⟩),v] W fun e w'=>e=.returned (.bool (distB N l))∧W=w':=by
 obtain ⟨a,cap,rfl,hl1,hl2⟩:=hv.form
 unfold maxLen at hl2
 have HT:=qh h
 have HV:=qh hv
 clear h hv
 go_enter Tryz.func121,Tryz.ntmps121
 by_cases h64:64<l.length
 ·have hbad:distB N l=false:=by unfold distB;rw [decide_eq_false (by omega),Bool.false_and]
  rw [hbad]
  have hz:(64:Int)<(l.length:Int):=by omega
  clear hbad
  go_wp2
  go_ret
  exact ⟨rfl,rfl⟩
 have hz:¬ (64:Int)<(l.length:Int):=by omega
 go_wp2
 go_loop [5] (fun i=>∃ k:Nat,k≤l.length∧i=.int .i64 k∧Hid (∀ j,j<k→okD N l j=true)) (fun i=>l.length - (intOf i).toNat)
 case atStart=>exact ⟨0,by omega,rfl,qh (fun j hj=>by omega)⟩
 case round =>
  obtain ⟨k,hk,rfl,hin⟩:=hrel
  by_cases hlt:k<l.length
  ·have hkz:(k:Int)<(l.length:Int):=by omega
   obtain ⟨s,hs⟩:∃ x,l[k]?=some x:=⟨_,lE hlt⟩
   obtain ⟨b,off,cap2,e,_,_,hb,c0⟩:=StrsIn.at HV.out hs
   cases e
   have hreg:=qh (regT_any HT.out s)
   have hfind:=qh (findR_any _ l s W (StrsIn.slice HV.out))
   obtain ⟨n,hn⟩:∃ x,idx N s=x:=⟨_,rfl⟩
   obtain ⟨n2,hn2⟩:∃ x,idx l s=x:=⟨_,rfl⟩
   rw [hn] at hreg
   rw [hn2] at hfind
   have HS:=qh (And.intro hs (And.intro hn hn2))
   clear hs hn hn2
   by_cases h0:n<0
   ·have hbad:Hid (distB N l=false):=qh (distB_no hlt (by unfold okD;rw [HS.out.1];dsimp only;rw [HS.out.2.1,decide_eq_false (by omega)];rfl))
    go_wp2_with (first
     | (go_at_call 54;refine hreg.out.mono ?_;rintro e w' ⟨rfl,rfl⟩)
     | (go_at_call 85;refine hfind.out.mono ?_;rintro e w' ⟨rfl,rfl⟩))
    go_ret
    exact ⟨by rw [hbad.out];rfl,rfl⟩
   ·by_cases h1:n2<k
    ·have hbad:Hid (distB N l=false):=qh (distB_no hlt (by unfold okD;rw [HS.out.1];dsimp only;rw [HS.out.2.2,decide_eq_false (by omega:¬ (k:Int)≤n2),Bool.and_false]))
     go_wp2_with (first
      | (go_at_call 54;refine hreg.out.mono ?_;rintro e w' ⟨rfl,rfl⟩)
      | (go_at_call 85;refine hfind.out.mono ?_;rintro e w' ⟨rfl,rfl⟩))
     go_ret
     exact ⟨by rw [hbad.out];rfl,rfl⟩
    ·have hok:∀ j,j<k+1→okD N l j=true:=fun j hj=>by
      by_cases e:j=k
      ·subst e
       unfold okD
       rw [HS.out.1]
       dsimp only
       rw [HS.out.2.1,HS.out.2.2,decide_eq_true (by omega),decide_eq_true (by omega)]
       rfl
      ·exact hin.out j (by omega)
     have HOK:=qh hok
     clear hok
     go_wp2_with (first
      | (go_at_call 54;refine hreg.out.mono ?_;rintro e w' ⟨rfl,rfl⟩)
      | (go_at_call 85;refine hfind.out.mono ?_;rintro e w' ⟨rfl,rfl⟩))
     go_round
     case rel=>exact ⟨k+1,by omega,by go_num,HOK⟩
     case measure=>simp [intOf];omega
  ·have hgood:Hid (distB N l=true):=qh (distB_yes (by omega) fun i hi=>hin.out i (by omega))
   have hkz:¬ (k:Int)<(l.length:Int):=by omega
   go_wp2
   go_ret
   exact ⟨by rw [hgood.out];rfl,rfl⟩
theorem KIn.form {v:Value} (h:KIn W n1 v C):∃ a cap,v=.slice a C.length cap∧C.length≤cap∧cap≤maxLen:=by
 obtain ⟨us,h1,h2,_⟩:=h
 have:=h2.form
 simpa [h1] using this
theorem IntsIn.form {v:Value} {l:List Int} (h:IntsIn W n1 v l):∃ a cap,v=.slice a l.length cap∧l.length≤cap∧cap≤maxLen:=by
 have:=Tab.form h;simpa using this
theorem KIn.at {v:Value} (h:KIn W n1 v C) {i:Nat} {c:List Int} (hi:C[i]?=some c) :
  ∃ b off cap ua uc,v=.slice (some ⟨b,off,none⟩) C.length cap∧C.length≤cap∧cap≤maxLen∧W.cell? ⟨b,off+i,none⟩=some (.slice ua c.length uc)∧IntsIn W n1 (.slice ua c.length uc) c:=by
 obtain ⟨us,hl,ht,hs⟩:=h
 have hlt:=(List.getElem?_eq_some_iff.1 hi).1
 obtain ⟨u,hu⟩:∃ u,us[i]?=some u:=⟨us[i]'(by omega),lE _⟩
 obtain ⟨b,off,cap,e,h1,h2,_,hc⟩:=Tab.at ht (i:=i) (r:=[u]) (by simp [hu]) (by decide)
 have hin:=hs i c u hi hu
 obtain ⟨ua,uc,eu,_,_⟩:=hin.form
 subst eu
 refine ⟨b,off,cap,ua,uc,by simpa [hl] using e,by simpa [hl] using h1,h2,?_,hin⟩
 have:=hc 0 _ rfl
 simpa using this
theorem IntsIn.at {v:Value} {l:List Int} (h:IntsIn W n1 v l) {i:Nat} {n:Int} (hi:l[i]?=some n) :
  ∃ b off cap,v=.slice (some ⟨b,off,none⟩) l.length cap∧l.length≤cap∧cap≤maxLen∧W.cell? ⟨b,off+i,none⟩=some (.int .i64 n):=by
 obtain ⟨b,off,cap,e,h1,h2,h3,hc⟩:=Tab.at h (i:=i) (r:=[.int .i64 n]) (by simp [hi]) (by decide)
 refine ⟨b,off,cap,by simpa using e,by simpa using h1,h2,?_⟩
 have:=hc 0 _ rfl
 simpa using this
def inI (C:List (List Int)) (c r:Int):Bool:=if 0≤c then (match C[c.toNat]? with
 | some l=>decide (r∈l)
 | none=>false) else false
theorem inT_any (h:TabIn W n1 bt V vK M N L C) (c r:Int) :
  Calls Tryz.prog 30 #[.pointer (some ⟨bt,0,none⟩),.int .i64 c,.int .i64 r] W fun e w'=>e=.returned (.bool (inI C c r))∧W=w':=by
 have cK:=h.cl
 have HT:=qh h
 obtain ⟨aK,capK,ev,hl1,hl2⟩:=h.k.form
 rw [ev] at cK
 unfold maxLen at hl2
 clear h
 obtain ⟨res,hres⟩:∃ x,inI C c r=x:=⟨_,rfl⟩
 rw [hres]
 unfold inI at hres
 go_enter Tryz.func30,Tryz.ntmps30
 by_cases h1:c<0
 ·rw [if_neg (by omega)] at hres
  subst hres
  have hd:decide (0≤c)=false:=decide_eq_false (by omega)
  go_wp2
  go_ret
  exact ⟨rfl,rfl⟩
 rw [if_pos (by omega)] at hres
 obtain ⟨k,rfl⟩:∃ k:Nat,c=k:=⟨c.toNat,by omega⟩
 rw [Int.toNat_natCast] at hres
 by_cases h2:C.length≤k
 ·rw [List.getElem?_eq_none h2] at hres
  dsimp only at hres
  subst hres
  have hd:decide (k<C.length)=false:=decide_eq_false (by omega)
  have hd2:¬ (k:Int)<(C.length:Int):=by omega
  go_wp2
  go_ret
  exact ⟨rfl,rfl⟩
 have h2z:(k:Int)<(C.length:Int):=by omega
 obtain ⟨l,hl⟩:∃ x,C[k]?=some x:=⟨_,lE (by omega)⟩
 rw [hl] at hres
 dsimp only at hres
 obtain ⟨b,off,cap,ua,uc,e,_,_,c0,hi⟩:=HT.out.k.at hl
 rw [ev] at e
 cases e
 have hin:=qh (inR_any _ l r W hi.slice)
 rw [hres] at hin
 clear hl hi hres ev
 go_wp2_with (go_at_call 59;refine hin.out.mono ?_;rintro e w' ⟨rfl,rfl⟩)
 go_ret
 exact ⟨rfl,rfl⟩
end Go.Proofs.YtligiddaampneaaGreat
