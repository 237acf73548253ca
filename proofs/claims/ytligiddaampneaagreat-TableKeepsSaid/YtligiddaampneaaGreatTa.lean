/- Sets of small numbers (package bitset): what they hold. -/
import Derived.Test.YtligiddaampneaaGreatMgB
import Derived.Laws.BitsAllLaws
set_option maxRecDepth 100000
set_option maxHeartbeats 4000000
namespace Go.Proofs.YtligiddaampneaaGreat
open Go.RowKit
attribute [local go_sem] Oper.semAt_some
theorem w64_nat {k:Nat} (h:k≤9223372036854775807):wrap64 (k:Int)=(k:Int):=by
 unfold wrap64;omega
def wordV (w:Nat):Value:=.int .u64 (w:Int)
structure WordsIn (W:World) (n0:Nat) (v:Value) (ws:List Nat):Prop where
 tab:Tab W n0 1 v (ws.map fun w=>[wordV w])
 lt:∀ w∈ws,w<18446744073709551616
def hasW (ws:List Nat) (n:Nat):Bool:=(ws.getD (n / 64) 0).testBit (n % 64)
section
variable {W : World} {n0 : Nat} {v : Value} {ws : List Nat}
theorem WordsIn.form (h:WordsIn W n0 v ws):∃ a cap,v=.slice a ws.length cap∧ws.length≤cap∧cap≤maxLen:=by
 have:=h.tab.form;simpa using this
theorem WordsIn.at (h:WordsIn W n0 v ws) {i w:Nat} (hi:ws[i]?=some w):∃ b off cap,v=.slice (some ⟨b,off,none⟩) ws.length cap∧ws.length≤cap∧cap≤maxLen∧W.cell? ⟨b,off+i,none⟩=some (.int .u64 (w:Int)):=by
 obtain ⟨b,off,cap,e,h1,h2,h3,hc⟩:=Tab.at h.tab (i:=i) (r:=[wordV w]) (by simp [hi]) (by decide)
 refine ⟨b,off,cap,by simpa using e,by simpa using h1,h2,?_⟩
 have:=hc 0 _ rfl
 simpa [wordV] using this
theorem WordsIn.ext {W':World} (h:WordsIn W n0 v ws) (hn:n0≤W.heap.size) (x:Ext W W'):WordsIn W' n0 v ws :=
 ⟨h.tab.same fun k hk=>Below.block x k (Nat.lt_of_lt_of_le hk hn),h.lt⟩
theorem hasW_at {n w:Nat} (h:ws[n / 64]?=some w):hasW ws n=w.testBit (n % 64):=by
 unfold hasW;rw [List.getD_eq_getElem?_getD,h];rfl
theorem hasW_out {n:Nat} (h:ws.length≤n / 64):hasW ws n=false:=by
 unfold hasW;rw [List.getD_eq_getElem?_getD,List.getElem?_eq_none h];simp
theorem bit_one {w k:Nat} (hw:w<18446744073709551616):(bits .and .u64 ((w:Int) / 2 ^ k) 1 != 0)=w.testBit k:=by
 have e:(w:Int) / 2 ^ k=((w / 2 ^ k:Nat):Int):=by simp
 have h:=u64_and_nat (w / 2 ^ k) 1 (Nat.lt_of_le_of_lt (Nat.div_le_self _ _) hw) (by decide)
 rw [e]
 rw [show ((1:Nat):Int)=1 from rfl] at h
 rw [h,Nat.testBit,Nat.and_comm,Nat.shiftRight_eq_div_pow]
 rw [Bool.eq_iff_iff,bne_iff_ne,bne_iff_ne]
 constructor
 ·intro h2 h3;rw [h3] at h2;exact h2 rfl
 ·intro h2 h3;exact h2 (by exact_mod_cast h3)
theorem words_flat (ws:List Nat):((ws.map fun w=>[wordV w]).flatten)=ws.map wordV:=by
 induction ws with
 | nil=>rfl
 | cons w ws ih=>simp [ih]
theorem keepExt {S:Nat→Prop} {W W':World} (h:Keep S W W') (hs:∀ k,S k→W.heap.size≤k):Ext W W':=⟨h.os,h.tape,h.output,h.size,fun k hk=>h.block k hk (fun x=>by have:=hs k x;omega)⟩
def OnU (W:World) (v:Value):Prop := ∀ k,v.ownBlock=some k→∃ cs fz,W.heap[k]?=some (.cells cs 108 fz)
theorem OnU.of_owns {W:World} {v:Value} {base size n:Nat} {xs:List Value} (h:W.ownsRow base 108 size v n xs):OnU W v:=by
 intro k e
 rcases h.2 with ⟨e2,_⟩ | ⟨g,cap,cur,e2,_,hg,_⟩
 ·rw [e2] at e;cases e
 ·rw [e2] at e;cases e;exact ⟨_,_,hg⟩
theorem OnU.ext {W W':World} {v:Value} (h:OnU W v) (x:Ext W W'):OnU W' v:=fun k e=>by
 obtain ⟨cs,fz,hg⟩:=h k e
 exact ⟨cs,fz,x.block hg⟩
end
variable {W : World} {n0 : Nat} {v : Value} {ws : List Nat}
theorem has_any (h:WordsIn W n0 v ws) (hn:n0≤W.heap.size) (n:Int) (hf:fits64 n) :
  Calls Tryz.prog 50 #[.agg #[v],.int .i64 n] W fun e w'=>e=.returned (.bool (decide (0≤n) && hasW ws n.toNat))∧Ext W w':=by
 obtain ⟨a,cap,rfl,hl1,hl2⟩:=h.form
 unfold maxLen at hl2
 unfold fits64 at hf
 have x0:Ext W (W.alloc (.cells #[.slice a ws.length cap] 78)):=Ext.alloc _ _
 have c0:=cell_of_one (heap_alloc_new W (.cells #[.slice a ws.length cap] 78))
 have H:=qh (h.ext hn x0)
 have X0:=qh x0
 clear h x0
 go_enter Tryz.func50,Tryz.ntmps50
 by_cases h0:n<0
 ·have e:decide (0≤n)=false:=decide_eq_false (by omega)
  have h0z:¬ 0≤n:=by omega
  rw [e]
  go_wp2_with fail
  go_ret
  exact ⟨rfl,X0.out⟩
 obtain ⟨k,rfl⟩:∃ k:Nat,n=k:=⟨n.toNat,by omega⟩
 have h0z:(0:Int)≤(k:Int):=by omega
 rw [decide_eq_true h0z,Bool.true_and,Int.toNat_natCast]
 by_cases h1:ws.length≤k / 64
 ·rw [hasW_out h1]
  go_wp2_with fail
  go_ret
  exact ⟨rfl,X0.out⟩
 ·obtain ⟨w,hw⟩:∃ w,ws[k / 64]?=some w:=⟨_,lE (by omega)⟩
  rw [hasW_at hw,← bit_one (H.out.lt w (List.mem_of_getElem? hw))]
  obtain ⟨b,off,cap2,e,_,_,hc⟩:=H.out.at hw
  cases e
  go_wp2_with fail
  go_ret
  exact ⟨rfl,X0.out⟩
theorem WordsIn.take {a:Option Addr} {cap:Nat} (h:WordsIn W n0 (.slice a ws.length cap) ws) (k:Nat) (hk:k≤ws.length):WordsIn W n0 (.slice a k k) (ws.take k):=by
 obtain ⟨b,c,e,h1,h2⟩:=h.form
 cases e
 have hlen:((ws.take k).map fun w=>[wordV w]).length=k:=by rw [List.length_map,List.length_take];omega
 refine ⟨⟨?_,fun r hr=>?_,fun q e hne=>?_⟩,fun w hw=>h.lt w (List.mem_of_mem_take hw)⟩
 ·rw [hlen]
  refine ⟨?_,?_⟩
  ·rw [words_flat,List.length_map,List.length_take];omega
  ·rcases h.tab.row.2 with ⟨e,e2⟩ | ⟨ad,cp,e,h3,h4,hc⟩
   ·simp only [Value.slice.injEq] at e
    obtain ⟨rfl,_,rfl⟩:=e
    have:k=0:=by rw [List.length_map] at e2;omega
    subst this
    exact Or.inl ⟨rfl,rfl⟩
   ·simp only [Value.slice.injEq] at e
    obtain ⟨rfl,_,rfl⟩:=e
    refine Or.inr ⟨ad,k,rfl,Nat.le_refl _,by omega,fun j u hj=>hc j u ?_⟩
    have e3:(ws.map fun w=>[wordV w]).flatten=((ws.take k).map fun w=>[wordV w]).flatten ++ ((ws.drop k).map fun w=>[wordV w]).flatten:=by
     rw [← List.flatten_append,← List.map_append,List.take_append_drop]
    rw [e3,List.getElem?_append_left (List.getElem?_eq_some_iff.1 hj).1]
    exact hj
 ·obtain ⟨_,_,rfl⟩:=List.mem_map.1 hr;rfl
 ·refine h.tab.blk q ?_ (fun e2=>hne (by rw [List.map_eq_nil_iff] at e2 ⊢;rw [e2,List.take_nil]))
  cases a with
  | none=>cases e
  | some ad=>exact e
theorem hasW_take {k:Nat} (hz:∀ (j w:Nat),k≤j→ws[j]?=some w→w=0) (n:Nat):hasW (ws.take k) n=hasW ws n:=by
 unfold hasW
 rw [List.getD_eq_getElem?_getD,List.getD_eq_getElem?_getD,List.getElem?_take]
 by_cases h:n / 64<k
 ·rw [if_pos h]
 ·rw [if_neg h]
  cases hw:ws[n / 64]? with
  | none=>rfl
  | some w=>rw [hz _ _ (by omega) hw];rfl
theorem trimmed_any (h:WordsIn W n0 v ws) (hn:n0≤W.heap.size) :
  Calls Tryz.prog 108 #[v] W fun e w'=>∃ v' ws',e=.returned (.agg #[v'])∧WordsIn w' n0 v' ws'∧(∀ n,hasW ws' n=hasW ws n)∧ws'.length≤ws.length∧(∀ q,v'.ownBlock=some q→v.ownBlock=some q)∧Ext W w':=by
 obtain ⟨a,cap,rfl,hl1,hl2⟩:=h.form
 have H:=qh h
 unfold maxLen at hl2
 have x0:Ext W (W.alloc (.cells #[.slice none 0 0] 78)):=Ext.alloc _ _
 have hb:=heap_alloc_new W (.cells #[.slice none 0 0] 78)
 have hlt:W.heap.size<(W.alloc (.cells #[.slice none 0 0] 78)).heap.size:=(Array.getElem?_eq_some_iff.1 hb).1
 have c0:=cell_of_one hb
 have f0:=free_of_one hb
 have H1:=qh (h.ext hn x0)
 have X0:=qh x0
 clear h x0
 go_enter Tryz.func108,Tryz.ntmps108
 go_upto_region 1 with (fail)
 generalize W.alloc (.cells #[.slice none 0 0] 78)=w1 at hb hlt c0 f0 H1 X0 ⊢
 have HSET:Hid (∀ u,(w1.setCell ⟨W.heap.size,0,none⟩ u).heap[W.heap.size]?=some (.cells #[u] 78 (0,0))):=qh (fun u=>heap_set_cells hb 0 u)
 go_wp2_with fail
 go_loop [3] (fun i=>∃ k:Nat,k≤ws.length∧i=.int .i64 k∧Hid (∀ (j w:Nat),k≤j→ws[j]?=some w→w=0)) (fun i=>(intOf i).toNat)
 case atStart=>exact ⟨ws.length,Nat.le_refl _,rfl,qh (fun j w hj hw=>by have:=(List.getElem?_eq_some_iff.1 hw).1;omega)⟩
 case round =>
  obtain ⟨k,hk,rfl,hz⟩:=hrel
  have fin:Hid (∃ v' ws',Value.agg #[.slice a k k]=.agg #[v']∧WordsIn (w1.setCell ⟨W.heap.size,0,none⟩ (.slice a k k)) n0 v' ws'∧(∀ n,hasW ws' n=hasW ws n)∧ws'.length≤ws.length∧(∀ q,v'.ownBlock=some q→(Value.slice a ws.length cap).ownBlock=some q)∧Ext W (w1.setCell ⟨W.heap.size,0,none⟩ (.slice a k k))):=qh (by
   have k1:Keep (fun q=>q=W.heap.size) W (w1.setCell ⟨W.heap.size,0,none⟩ (.slice a k k)):=(Keep.of_ext X0.out).trans (Keep.setCell (fun q=>q=W.heap.size) w1 ⟨W.heap.size,0,none⟩ _ rfl) (fun _ _ h=>h)
   have x2:=keepExt k1 (fun q e=>by omega)
   refine ⟨_,ws.take k,rfl,(H.out.ext hn x2).take k hk,hasW_take hz.out,by rw [List.length_take];omega,fun q e=>by cases a with | none=>cases e | some ad=>exact e,x2⟩)
  cases k with
  | zero =>
   go_wp2_with fail
   refine bodyPost_ret (results_cell_row rfl _ _ W.heap.size 78 #[.slice a 0 0] (0,0) _ rfl (HSET.out _) Tryz.underlying78 rfl (by kernel_rfl)) rfl ?_
   obtain ⟨v',ws',e1,e2⟩:=fin.out
   exact ⟨v',by rw [e1],ws',e2⟩
  | succ q =>
   obtain ⟨w,hw⟩:∃ w,ws[q]?=some w:=⟨_,lE (by omega)⟩
   obtain ⟨b,off,cap2,e,_,_,hc⟩:=H1.out.at hw
   cases e
   have hq1:wrap64 ((q:Int)+1 - 1)=q:=by rw [Int.add_sub_cancel];exact w64_nat (by omega)
   have hq2:(0:Int)<(q:Int)+1:=by omega
   have HW:=qh hw
   clear hw
   by_cases hw0:w=0
   ·subst hw0
    go_wp2_with fail
    refine ⟨⟨q,by omega,rfl,qh (fun j w hj hwj=>?_)⟩,by simp [intOf]⟩
    by_cases e:j=q
    ·subst e;rw [HW.out] at hwj;cases hwj;rfl
    ·exact hz.out j w (by omega) hwj
   ·have hwz:((w:Int) == 0)=false:=by simp [hw0]
    go_wp2_with fail
    refine bodyPost_ret (results_cell_row rfl _ _ W.heap.size 78 #[.slice (some ⟨b,off,none⟩) (q+1) (q+1)] (0,0) _ rfl (HSET.out _) Tryz.underlying78 rfl (by kernel_rfl)) rfl ?_
    obtain ⟨v',ws',e1,e2⟩:=fin.out
    exact ⟨v',by rw [e1],ws',e2⟩
end Go.Proofs.YtligiddaampneaaGreat
