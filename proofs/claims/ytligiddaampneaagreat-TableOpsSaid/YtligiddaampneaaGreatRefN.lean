/- The reference's table: May, of an operation's result. For every table that lies in memory. -/
import Derived.Test.YtligiddaampneaaGreatRefL
-- shrunk
namespace Go.Proofs.YtligiddaampneaaGreat
open Go.RowKit
attribute [local go_sem] Oper.semAt_some
variable {W : World} {n1 bt : Nat} {V : MV} {vK : Value} {M : Mach} {N : List ByteArray} {L : List Pl} {C : List (List Int)}
set_option maxRecDepth 100000 in
set_option maxHeartbeats 4000000 in
theorem mayT0_any (h:TabIn W n1 bt V vK M N L C) {k:Nat} {o:Opn} (ho:M.ops[k]?=some o) (hl:o.clob.length≤1000) (hN:N.length≤1000) (hlen:clsIx M o.dfn.cls<C.length) (r:Int) (hr:fits64 r) :
  Calls Tryz.prog 35 #[.pointer (some ⟨bt,0,none⟩),.int .i64 (k:Int),.int .i64 0,.int .i64 r] W fun e w'=>e=.returned (.bool (decide (r∈choI M N C o.dfn) && clearB N L o r))∧Ext W w':=by
 have c3:=h.ck.cells 3 _ rfl
 obtain ⟨b,off,cap,u,c,e,hl1,hl2,hb,o0,o1,o2,o3,o4,o5,hU,hK,_⟩:=h.ck.m.ops.at ho
 have hcho:=Lib.hid (choicesT_any h o.dfn hlen)
 have hclr:=Lib.hid (fun (w:World) (x:Ext W w)=>clearT_any (h.ext x) ho hl hN r hr)
 obtain ⟨ua,uc,eu,_,_⟩:=hU.form
 have hkz:(k:Int)<(M.ops.length:Int):=by have:=(List.getElem?_eq_some_iff.1 ho).1;omega
 have hkx:decide (M.ops.length≤k)=false:=decide_eq_false (by have:=(List.getElem?_eq_some_iff.1 ho).1;omega)
 have hky:¬ (M.ops.length:Int)≤(k:Int):=by omega
 have hk0:¬ (k:Int)<0:=by omega
 unfold maxLen at hl2
 obtain ⟨vR,vC,vO,vA,vS,vN,vP⟩:=V
 dsimp only at c3 e
 subst e eu
 obtain ⟨D,hD⟩:∃ x,choI M N C o.dfn=x:=⟨_,rfl⟩
 rw [hD] at hcho ⊢
 obtain ⟨cb,hcb⟩:∃ x,clearB N L o r=x:=⟨_,rfl⟩
 rw [hcb] at hclr ⊢
 obtain ⟨ib,hib⟩:∃ x,decide (r∈D)=x:=⟨_,rfl⟩
 have HIB:=Lib.hid hib
 rw [hib]
 clear h ho hU hK hD hcb hib
 go_enter Tryz.func35,Tryz.ntmps35
 cases ib
 all_goals
  cases cb
  all_goals
   go_wp2_with (first
    | (go_at_call 68;refine hcho.out.mono ?_;rintro e w1 ⟨u,rfl,hs,hx⟩;have hin:=inR_any u D r w1 hs;rw [HIB.out] at hin;have HIN:=Lib.hid hin;have X1:=Lib.hid hx;obtain ⟨_,_,eu,_,_⟩:=hs.shape;subst eu;clear hs hx hin)
    | (go_at_call 59;refine HIN.out.mono ?_;rintro e w' ⟨rfl,rfl⟩)
    | (go_at_call 69;refine (hclr.out _ X1.out).mono ?_;rintro e w2 ⟨rfl,hx2⟩;have X2:=Lib.hid (X1.out.trans hx2);clear hx2))
   go_ret
   exact ⟨rfl,X2.out⟩
end Go.Proofs.YtligiddaampneaaGreat
