/- slices.Clone at the types of a description. -/
import Derived.Test.YtligiddaampneaaGreatTc
set_option maxHeartbeats 1000000
namespace Go.Proofs.YtligiddaampneaaGreat
open Go.RowKit
attribute [local go_sem] Oper.semAt_some
theorem infoClCls:(Tryz.prog.info? 51).map (fun i=>(i.zero,i.size,i.bytes))=some (some (.agg #[.string ByteArray.empty,.slice none 0 0]),2,40):=by kernel_rfl
theorem cloneCls_any {W:World} {v:Value} {n:Nat} {xs:List Value} (hr:Row W 2 v n xs) (h1:∀ u∈xs,u.oneCell'=true) (hb:n≤100000) :
  Calls Tryz.prog 87 #[v] W fun e W'=>∃ v',e=.returned v'∧W'.ownsRow W.heap.size 51 2 v' n xs∧Ext W W':=by
 obtain ⟨iS,hiS,zS0,zS1,zS2⟩:=info_parts infoClCls
 have hxl:=hr.1
 have q:∀ (w:World) (a:Option Addr) (n c n' c':Nat),(binOp .eql 23 (.slice a n c) (.slice none n' c')).run Tryz.prog w=.ok (.bool a.isNone) w:=fun w a n c n' c'=>Lib.run_eql_slice_nil w _ _ a n c n' c' Tryz.underlying23
 rcases hr.2 with ⟨rfl,hn⟩ | ⟨ad,cap,rfl,h2,h3,hc⟩
 ·have hl:xs=[]:=List.eq_nil_of_length_eq_zero (by rw [hxl,hn,Nat.zero_mul])
  subst hl
  subst hn
  go_enter Tryz.func87,Tryz.ntmps87
  go_wp2
  go_ret
  exact ⟨_,rfl,World.ownsRow_nil _ _ _ _,Ext.refl _⟩
 ·have HC:=qh hc
  have H1:=qh h1
  clear hc hr h1
  go_enter Tryz.func87,Tryz.ntmps87
  go_wp2_with (at_builtin;refine wpList_append_own _ rfl _ _ 23 rfl W.heap.size 51 iS _ 2 40 Tryz.underlying23 hiS zS0 zS1 zS2 rfl (by omega) _ _ _ rfl (World.ownsRow_made W #[] 0 (Nat.le_refl _) (Nat.zero_le _) (by simp)) ad n cap xs rfl hxl (fun j u hj=>(Ext.alloc W _).cell (HC.out j u hj)) H1.out (by unfold maxLen;omega) (by omega) (by simp) ?_;intro v' w6 hown hgrow _)
  go_ret
  exact ⟨v',rfl,by simpa using hown,(Ext.alloc _ _).keep (Keep.ofGrown (S:=fun q=>(Value.slice (some ⟨W.heap.size,0,none⟩) 0 0).ownBlock=some q) (Ext.refl _) hgrow (fun q e=>e)) (fun q e=>by cases e;exact Nat.le_refl _)⟩
theorem infoClOpn:(Tryz.prog.info? 60).map (fun i=>(i.zero,i.size,i.bytes))=some (some (.agg #[.string ByteArray.empty,.string ByteArray.empty,.string ByteArray.empty,.slice none 0 0,.int .i64 0,.slice none 0 0]),6,104):=by kernel_rfl
theorem cloneOpn_any {W:World} {v:Value} {n:Nat} {xs:List Value} (hr:Row W 6 v n xs) (h1:∀ u∈xs,u.oneCell'=true) (hb:n≤100000) :
  Calls Tryz.prog 88 #[v] W fun e W'=>∃ v',e=.returned v'∧W'.ownsRow W.heap.size 60 6 v' n xs∧Ext W W':=by
 obtain ⟨iS,hiS,zS0,zS1,zS2⟩:=info_parts infoClOpn
 have hxl:=hr.1
 have q:∀ (w:World) (a:Option Addr) (n c n' c':Nat),(binOp .eql 24 (.slice a n c) (.slice none n' c')).run Tryz.prog w=.ok (.bool a.isNone) w:=fun w a n c n' c'=>Lib.run_eql_slice_nil w _ _ a n c n' c' Tryz.underlying24
 rcases hr.2 with ⟨rfl,hn⟩ | ⟨ad,cap,rfl,h2,h3,hc⟩
 ·have hl:xs=[]:=List.eq_nil_of_length_eq_zero (by rw [hxl,hn,Nat.zero_mul])
  subst hl
  subst hn
  go_enter Tryz.func88,Tryz.ntmps88
  go_wp2
  go_ret
  exact ⟨_,rfl,World.ownsRow_nil _ _ _ _,Ext.refl _⟩
 ·have HC:=qh hc
  have H1:=qh h1
  clear hc hr h1
  go_enter Tryz.func88,Tryz.ntmps88
  go_wp2_with (at_builtin;refine wpList_append_own _ rfl _ _ 24 rfl W.heap.size 60 iS _ 6 104 Tryz.underlying24 hiS zS0 zS1 zS2 rfl (by omega) _ _ _ rfl (World.ownsRow_made W #[] 0 (Nat.le_refl _) (Nat.zero_le _) (by simp)) ad n cap xs rfl hxl (fun j u hj=>(Ext.alloc W _).cell (HC.out j u hj)) H1.out (by unfold maxLen;omega) (by omega) (by simp) ?_;intro v' w6 hown hgrow _)
  go_ret
  exact ⟨v',rfl,by simpa using hown,(Ext.alloc _ _).keep (Keep.ofGrown (S:=fun q=>(Value.slice (some ⟨W.heap.size,0,none⟩) 0 0).ownBlock=some q) (Ext.refl _) hgrow (fun q e=>e)) (fun q e=>by cases e;exact Nat.le_refl _)⟩
theorem infoClOpr:(Tryz.prog.info? 57).map (fun i=>(i.zero,i.size,i.bytes))=some (some (.agg #[.string ByteArray.empty,.string ByteArray.empty]),2,32):=by kernel_rfl
theorem cloneOpr_any {W:World} {v:Value} {n:Nat} {xs:List Value} (hr:Row W 2 v n xs) (h1:∀ u∈xs,u.oneCell'=true) (hb:n≤100000) :
  Calls Tryz.prog 90 #[v] W fun e W'=>∃ v',e=.returned v'∧W'.ownsRow W.heap.size 57 2 v' n xs∧Ext W W':=by
 obtain ⟨iS,hiS,zS0,zS1,zS2⟩:=info_parts infoClOpr
 have hxl:=hr.1
 have q:∀ (w:World) (a:Option Addr) (n c n' c':Nat),(binOp .eql 58 (.slice a n c) (.slice none n' c')).run Tryz.prog w=.ok (.bool a.isNone) w:=fun w a n c n' c'=>Lib.run_eql_slice_nil w _ _ a n c n' c' Tryz.underlying58
 rcases hr.2 with ⟨rfl,hn⟩ | ⟨ad,cap,rfl,h2,h3,hc⟩
 ·have hl:xs=[]:=List.eq_nil_of_length_eq_zero (by rw [hxl,hn,Nat.zero_mul])
  subst hl
  subst hn
  go_enter Tryz.func90,Tryz.ntmps90
  go_wp2
  go_ret
  exact ⟨_,rfl,World.ownsRow_nil _ _ _ _,Ext.refl _⟩
 ·have HC:=qh hc
  have H1:=qh h1
  clear hc hr h1
  go_enter Tryz.func90,Tryz.ntmps90
  go_wp2_with (at_builtin;refine wpList_append_own _ rfl _ _ 58 rfl W.heap.size 57 iS _ 2 32 Tryz.underlying58 hiS zS0 zS1 zS2 rfl (by omega) _ _ _ rfl (World.ownsRow_made W #[] 0 (Nat.le_refl _) (Nat.zero_le _) (by simp)) ad n cap xs rfl hxl (fun j u hj=>(Ext.alloc W _).cell (HC.out j u hj)) H1.out (by unfold maxLen;omega) (by omega) (by simp) ?_;intro v' w6 hown hgrow _)
  go_ret
  exact ⟨v',rfl,by simpa using hown,(Ext.alloc _ _).keep (Keep.ofGrown (S:=fun q=>(Value.slice (some ⟨W.heap.size,0,none⟩) 0 0).ownBlock=some q) (Ext.refl _) hgrow (fun q e=>e)) (fun q e=>by cases e;exact Nat.le_refl _)⟩
theorem infoClReg:(Tryz.prog.info? 70).map (fun i=>(i.zero,i.size,i.bytes))=some (some (.agg #[.string ByteArray.empty,.int .i64 0,.int .i64 0,.slice none 0 0]),4,56):=by kernel_rfl
theorem cloneReg_any {W:World} {v:Value} {n:Nat} {xs:List Value} (hr:Row W 4 v n xs) (h1:∀ u∈xs,u.oneCell'=true) (hb:n≤100000) :
  Calls Tryz.prog 115 #[v] W fun e W'=>∃ v',e=.returned v'∧W'.ownsRow W.heap.size 70 4 v' n xs∧Ext W W':=by
 obtain ⟨iS,hiS,zS0,zS1,zS2⟩:=info_parts infoClReg
 have hxl:=hr.1
 have q:∀ (w:World) (a:Option Addr) (n c n' c':Nat),(binOp .eql 22 (.slice a n c) (.slice none n' c')).run Tryz.prog w=.ok (.bool a.isNone) w:=fun w a n c n' c'=>Lib.run_eql_slice_nil w _ _ a n c n' c' Tryz.underlying22
 rcases hr.2 with ⟨rfl,hn⟩ | ⟨ad,cap,rfl,h2,h3,hc⟩
 ·have hl:xs=[]:=List.eq_nil_of_length_eq_zero (by rw [hxl,hn,Nat.zero_mul])
  subst hl
  subst hn
  go_enter Tryz.func115,Tryz.ntmps115
  go_wp2
  go_ret
  exact ⟨_,rfl,World.ownsRow_nil _ _ _ _,Ext.refl _⟩
 ·have HC:=qh hc
  have H1:=qh h1
  clear hc hr h1
  go_enter Tryz.func115,Tryz.ntmps115
  go_wp2_with (at_builtin;refine wpList_append_own _ rfl _ _ 22 rfl W.heap.size 70 iS _ 4 56 Tryz.underlying22 hiS zS0 zS1 zS2 rfl (by omega) _ _ _ rfl (World.ownsRow_made W #[] 0 (Nat.le_refl _) (Nat.zero_le _) (by simp)) ad n cap xs rfl hxl (fun j u hj=>(Ext.alloc W _).cell (HC.out j u hj)) H1.out (by unfold maxLen;omega) (by omega) (by simp) ?_;intro v' w6 hown hgrow _)
  go_ret
  exact ⟨v',rfl,by simpa using hown,(Ext.alloc _ _).keep (Keep.ofGrown (S:=fun q=>(Value.slice (some ⟨W.heap.size,0,none⟩) 0 0).ownBlock=some q) (Ext.refl _) hgrow (fun q e=>e)) (fun q e=>by cases e;exact Nat.le_refl _)⟩
end Go.Proofs.YtligiddaampneaaGreat
