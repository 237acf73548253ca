/- A part of the proof, joined of several texts: the laws' own machine in memory; checks in a row. No condition. -/
import Derived.Test.YtligiddaampneaaGreatMgF
import Derived.IntWalk
import Derived.WalkSpells
set_option maxRecDepth 100000
set_option maxHeartbeats 4000000
section
namespace Go.Proofs.YtligiddaampneaaGreat
def digS:ByteArray:=⟨#[48,49,50,51,52,53,54,55,56,57]⟩
def nmS (i:Nat):ByteArray:=(⟨#[114]⟩ ++ digS.extract (i / 10) (i / 10+1)) ++ digS.extract (i % 10) (i % 10+1)
def gN:ByteArray:=⟨#[103]⟩
def mN:ByteArray:=⟨#[109]⟩
def addN:ByteArray:=⟨#[97,100,100]⟩
def notN:ByteArray:=⟨#[110,111,116]⟩
def divN:ByteArray:=⟨#[100,105,118]⟩
def gO:Opr:=⟨gN,⟨#[]⟩⟩
def regsS (n:Nat):List RegT:=(List.range n).map fun i=>.mk (nmS i) 8 0 []
def namesS (n:Nat):List ByteArray:=(List.range n).map nmS
def smallM (n:Nat):Mach :=
  { name:=mN,regs:=regsS n,classes:=[⟨gN,namesS n⟩],ops:=[⟨addN,gO,[gO,gO],-1,[]⟩,⟨notN,gO,[gO],-1,[]⟩,⟨divN,gO,[gO,gO],-1,[]⟩],
    args:=[nmS 0],result:=nmS 0,saved:=[],slots:=100 }
def cellsR (n:Nat):List Value:=(List.range n).flatMap fun i=>[.string (nmS i),.int .i64 8,.int .i64 0,.slice none 0 0]
theorem cellsR_succ (n:Nat):cellsR (n+1)=cellsR n ++ [.string (nmS n),.int .i64 8,.int .i64 0,.slice none 0 0]:=by
 unfold cellsR;rw [List.range_succ,List.flatMap_append];rfl
theorem namesS_succ (n:Nat):(namesS (n+1)).map Value.string=(namesS n).map Value.string ++ [.string (nmS n)]:=by
 unfold namesS;rw [List.range_succ];simp
structure SmLay (W:World) (n B bR cR bG cG s:Nat):Prop where
 regs:W.ownsRow B 70 4 (.slice (some ⟨bR,0,none⟩) n cR) n (cellsR n)
 rg:W.ownsRow B 9 1 (.slice (some ⟨bG,0,none⟩) n cG) n ((namesS n).map Value.string)
 cls:W.heap[s]?=some (.cells #[.string gN,.slice (some ⟨bG,0,none⟩) n cG] 51 (0,0))
 u0:W.heap[s+2]?=some (.cells #[.string gN,.string ⟨#[]⟩,.string gN,.string ⟨#[]⟩] 57 (0,0))
 u1:W.heap[s+3]?=some (.cells #[.string gN,.string ⟨#[]⟩] 57 (0,0))
 u2:W.heap[s+4]?=some (.cells #[.string gN,.string ⟨#[]⟩,.string gN,.string ⟨#[]⟩] 57 (0,0))
 ops:W.heap[s+5]?=some (.cells #[.string addN,.string gN,.string ⟨#[]⟩,.slice (some ⟨s+2,0,none⟩) 2 2,.int .i64 (-1),.slice none 0 0,
  .string notN,.string gN,.string ⟨#[]⟩,.slice (some ⟨s+3,0,none⟩) 1 1,.int .i64 (-1),.slice none 0 0,
  .string divN,.string gN,.string ⟨#[]⟩,.slice (some ⟨s+4,0,none⟩) 2 2,.int .i64 (-1),.slice none 0 0] 60 (0,0))
 args:W.heap[s+6]?=some (.cells #[.string (nmS 0)] 9 (0,0))
 bs:B≤s
 br:B≤bR∧bR<s
 bg:B≤bG∧bG<s
 ne:bR≠bG
end Go.Proofs.YtligiddaampneaaGreat
end
section
namespace Go.Proofs.YtligiddaampneaaGreat
open Go.RowKit
attribute [local go_sem] Oper.semAt_some
theorem infoReg:(Tryz.prog.info? 70).map (fun i=>(i.zero,i.size,i.bytes))=some (some (.agg #[.string ByteArray.empty,.int .i64 0,.int .i64 0,.slice none 0 0]),4,56):=by kernel_rfl
theorem owns_two {w:World} {b1 b2 s1 s2:Nat} {e1 e2:TypeId} {v1 v2:Value} {n1 n2:Nat} {x1 x2:List Value} (h1:w.ownsRow b1 e1 s1 v1 n1 x1) (h2:w.ownsRow b2 e2 s2 v2 n2 x2) (hne:e1≠e2):v1.ownBlock=none∨v1.ownBlock≠v2.ownBlock:=by
 rcases h1.2 with ⟨rfl,_⟩ | ⟨g1,c1,u1,rfl,_,hg1,_⟩
 ·exact Or.inl rfl
 ·right
  intro e
  exact owns_ne h2 hg1 (Ne.symm hne) e.symm
theorem grown_blk {w w':World} {base size q:Nat} {e:TypeId} {v:Value} {n:Nat} {xs:List Value} {o ob:Obj} (h:w.ownsRow base e size v n xs) (hg:(w.alloc o).grownBy w' v.ownBlock) (hq:q<base) (hb:w.heap[q]?=some ob):w'.heap[q]?=some ob:=by
 have hl:q<w.heap.size:=(Array.getElem?_eq_some_iff.1 hb).1
 refine (hg.block q (by simp;omega) (fun e=>by have:=(h.lt _ e.symm).1;omega)).trans ((Ext.alloc w o).block hb)
theorem blk_cell {w:World} {q:Nat} {l:List Value} {t:TypeId} (h:w.heap[q]?=some (.cells l.toArray t (0,0))) (j:Nat) (v:Value) (hv:l[j]?=some v):w.cell? ⟨q,j,none⟩=some v:=by
 simp only [World.cell?,h];simpa using hv
theorem blk_free {w:World} {q:Nat} {l:List Value} {t:TypeId} (h:w.heap[q]?=some (.cells l.toArray t (0,0))) (j:Nat):w.frozen? ⟨q,j,none⟩=false:=by
 simp [World.frozen?,h]
theorem news_set (w:World) (a:Addr) (u:Value) (l:List Value) (t:TypeId):∀ (j:Nat) (v:Value),l[j]?=some v→((w.setCell a u).alloc (.cells l.toArray t)).cell? (Addr.add ⟨w.heap.size,0,none⟩ j)=some v:=by
 intro j v hv
 have hz:(w.setCell a u).heap.size=w.heap.size:=by simp [World.setCell]
 have:=heap_alloc_new (w.setCell a u) (.cells l.toArray t)
 rw [hz] at this
 exact World.news_of_block this j v (by simpa using hv)
theorem sa_blk {w:World} {a:Addr} {v:Value} {o ob:Obj} {q:Nat} (hq:q≠a.block) (h:w.heap[q]?=some ob):((w.setCell a v).alloc o).heap[q]?=some ob:=(Ext.alloc _ _).block ((Below.heap_setCell _ _ _ _ hq).trans h)
theorem sa_set {w:World} {b i:Nat} {v:Value} {o:Obj} {cs:Array Value} {e:TypeId} {fz:Nat × Nat} (h:w.heap[b]?=some (.cells cs e fz)):((w.setCell ⟨b,i,none⟩ v).alloc o).heap[b]?=some (.cells (cs.setIfInBounds i v) e fz):=(Ext.alloc _ _).block (heap_set_cells h i v)
theorem set_size (w:World) (a:Addr) (v:Value):(w.setCell a v).heap.size=w.heap.size:=by simp [World.setCell]
theorem sa_new {w:World} {a:Addr} {v:Value} {cs:Array Value} {e:TypeId}:((w.setCell a v).alloc (.cells cs e)).heap[w.heap.size]?=some (.cells cs e (0,0)):=by
 have:=heap_alloc_new (w.setCell a v) (.cells cs e)
 rw [set_size] at this;exact this
theorem sa_size (w:World) (a:Addr) (v:Value) (o:Obj):((w.setCell a v).alloc o).heap.size=w.heap.size+1:=by simp
theorem al4 (w:World) (n:Nat) (hn:w.heap.size=n) (o0 o1 o2 o3:Obj):Ext w ((((w.alloc o0).alloc o1).alloc o2).alloc o3)∧((((w.alloc o0).alloc o1).alloc o2).alloc o3).heap.size=n+4 ∧
  ((((w.alloc o0).alloc o1).alloc o2).alloc o3).heap[n]?=some o0∧((((w.alloc o0).alloc o1).alloc o2).alloc o3).heap[n+1]?=some o1∧((((w.alloc o0).alloc o1).alloc o2).alloc o3).heap[n+2]?=some o2∧((((w.alloc o0).alloc o1).alloc o2).alloc o3).heap[n+3]?=some o3:=by
 subst hn
 have e0:=heap_alloc_new w o0
 have e1:=heap_alloc_new (w.alloc o0) o1
 have e2:=heap_alloc_new ((w.alloc o0).alloc o1) o2
 have e3:=heap_alloc_new (((w.alloc o0).alloc o1).alloc o2) o3
 have s1:(w.alloc o0).heap.size=w.heap.size+1:=by simp
 have s2:((w.alloc o0).alloc o1).heap.size=w.heap.size+2:=by simp
 have s3:(((w.alloc o0).alloc o1).alloc o2).heap.size=w.heap.size+3:=by simp
 have s4:((((w.alloc o0).alloc o1).alloc o2).alloc o3).heap.size=w.heap.size+4:=by simp
 rw [s1] at e1
 rw [s2] at e2
 rw [s3] at e3
 have x1:=Ext.alloc (w.alloc o0) o1
 have x2:=Ext.alloc ((w.alloc o0).alloc o1) o2
 have x3:=Ext.alloc (((w.alloc o0).alloc o1).alloc o2) o3
 exact ⟨(((Ext.alloc w o0).trans x1).trans x2).trans x3,s4,x3.block (x2.block (x1.block e0)),x3.block (x2.block e1),x3.block e2,e3⟩
def SmAt (W:World) (k:Nat) (W':World):Prop :=
 Ext W W'∧∃ vR vG,W'.heap[W.heap.size]?=some (.cells #[.string ⟨#[]⟩,.slice none 0 0,.slice none 0 0,.slice none 0 0,.slice none 0 0,.string ⟨#[]⟩,.slice none 0 0,.int .i64 0] 27 (0,0))∧W'.heap[W.heap.size+1]?=some (.cells #[.string mN,vR,.slice none 0 0,.slice none 0 0,.slice none 0 0,.string ⟨#[]⟩,.slice none 0 0,.int .i64 100] 27 (0,0)) ∧
  W'.heap[W.heap.size+2]?=some (.cells #[.string gN,vG] 51 (0,0)) ∧
  W'.ownsRow (W.heap.size+3) 70 4 vR k (cellsR k)∧W'.ownsRow (W.heap.size+3) 9 1 vG k ((namesS k).map Value.string)
def SmallPost (W:World) (n:Nat) (e:Ending) (W':World):Prop :=
 Ext W W'∧∃ bR cR bG cG s,e=.returned (.agg #[.string mN,.slice (some ⟨bR,0,none⟩) n cR,.slice (some ⟨s,0,none⟩) 1 1,.slice (some ⟨s+5,0,none⟩) 3 3,.slice (some ⟨s+6,0,none⟩) 1 1,.string (nmS 0),.slice none 0 0,.int .i64 100]) ∧
  SmLay W' n W.heap.size bR cR bG cG s
theorem small_any (n:Nat) (h1:1≤n) (hn:n≤60) (W:World):Calls Tryz.prog 43 #[.int .i64 (n:Int)] W (SmallPost W n):=by
  obtain ⟨iR,hiR,zR0,zR1,zR2⟩:=info_parts infoReg
  obtain ⟨iS,hiS,zS0,zS1,zS2⟩:=info_parts infoStr
  go_enter Tryz.func43,Tryz.ntmps43
  go_wp2
  simp only [Nat.add_assoc,Nat.reduceAdd]
  have X0:Ext W (((W.alloc (.cells #[.string ⟨#[]⟩,.slice none 0 0,.slice none 0 0,.slice none 0 0,.slice none 0 0,.string ⟨#[]⟩,.slice none 0 0,.int .i64 0] 27)).alloc (.cells #[.string ⟨#[109]⟩,.slice none 0 0,.slice none 0 0,.slice none 0 0,.slice none 0 0,.string ⟨#[]⟩,.slice none 0 0,.int .i64 100] 27)).alloc (.cells #[.string ⟨#[103]⟩,.slice none 0 0] 51)):=((Ext.alloc _ _).trans (Ext.alloc _ _)).trans (Ext.alloc _ _)
  have q0:(((W.alloc (.cells #[.string ⟨#[]⟩,.slice none 0 0,.slice none 0 0,.slice none 0 0,.slice none 0 0,.string ⟨#[]⟩,.slice none 0 0,.int .i64 0] 27)).alloc (.cells #[.string ⟨#[109]⟩,.slice none 0 0,.slice none 0 0,.slice none 0 0,.slice none 0 0,.string ⟨#[]⟩,.slice none 0 0,.int .i64 100] 27)).alloc (.cells #[.string ⟨#[103]⟩,.slice none 0 0] 51)).heap[W.heap.size]?=some (.cells #[.string ⟨#[]⟩,.slice none 0 0,.slice none 0 0,.slice none 0 0,.slice none 0 0,.string ⟨#[]⟩,.slice none 0 0,.int .i64 0] 27 (0,0)):=(Ext.alloc _ _).block ((Ext.alloc _ _).block (heap_alloc_new W _))
  have q1:(((W.alloc (.cells #[.string ⟨#[]⟩,.slice none 0 0,.slice none 0 0,.slice none 0 0,.slice none 0 0,.string ⟨#[]⟩,.slice none 0 0,.int .i64 0] 27)).alloc (.cells #[.string ⟨#[109]⟩,.slice none 0 0,.slice none 0 0,.slice none 0 0,.slice none 0 0,.string ⟨#[]⟩,.slice none 0 0,.int .i64 100] 27)).alloc (.cells #[.string ⟨#[103]⟩,.slice none 0 0] 51)).heap[W.heap.size+1]?=some (.cells #[.string ⟨#[109]⟩,.slice none 0 0,.slice none 0 0,.slice none 0 0,.slice none 0 0,.string ⟨#[]⟩,.slice none 0 0,.int .i64 100] 27 (0,0)):=(Ext.alloc _ _).block (by
    have:=heap_alloc_new (W.alloc (.cells #[.string ⟨#[]⟩,.slice none 0 0,.slice none 0 0,.slice none 0 0,.slice none 0 0,.string ⟨#[]⟩,.slice none 0 0,.int .i64 0] 27)) (.cells #[.string ⟨#[109]⟩,.slice none 0 0,.slice none 0 0,.slice none 0 0,.slice none 0 0,.string ⟨#[]⟩,.slice none 0 0,.int .i64 100] 27)
    rw [show (W.alloc (.cells #[.string ⟨#[]⟩,.slice none 0 0,.slice none 0 0,.slice none 0 0,.slice none 0 0,.string ⟨#[]⟩,.slice none 0 0,.int .i64 0] 27)).heap.size=W.heap.size+1 by simp] at this
    exact this)
  have q2:=heap_alloc_new ((W.alloc (.cells #[.string ⟨#[]⟩,.slice none 0 0,.slice none 0 0,.slice none 0 0,.slice none 0 0,.string ⟨#[]⟩,.slice none 0 0,.int .i64 0] 27)).alloc (.cells #[.string ⟨#[109]⟩,.slice none 0 0,.slice none 0 0,.slice none 0 0,.slice none 0 0,.string ⟨#[]⟩,.slice none 0 0,.int .i64 100] 27)) (.cells #[.string ⟨#[103]⟩,.slice none 0 0] 51)
  rw [show ((W.alloc (.cells #[.string ⟨#[]⟩,.slice none 0 0,.slice none 0 0,.slice none 0 0,.slice none 0 0,.string ⟨#[]⟩,.slice none 0 0,.int .i64 0] 27)).alloc (.cells #[.string ⟨#[109]⟩,.slice none 0 0,.slice none 0 0,.slice none 0 0,.slice none 0 0,.string ⟨#[]⟩,.slice none 0 0,.int .i64 100] 27)).heap.size=W.heap.size+2 by simp] at q2
  generalize ((W.alloc (.cells #[.string ⟨#[]⟩,.slice none 0 0,.slice none 0 0,.slice none 0 0,.slice none 0 0,.string ⟨#[]⟩,.slice none 0 0,.int .i64 0] 27)).alloc (.cells #[.string ⟨#[109]⟩,.slice none 0 0,.slice none 0 0,.slice none 0 0,.slice none 0 0,.string ⟨#[]⟩,.slice none 0 0,.int .i64 100] 27)).alloc (.cells #[.string ⟨#[103]⟩,.slice none 0 0] 51)=W1 at X0 q0 q1 q2 ⊢
  have start:Hid (SmAt W 0 W1):=qh ⟨X0,_,_,q0,q1,q2,World.ownsRow_nil _ _ _ _,World.ownsRow_nil _ _ _ _⟩
  clear X0 q0 q1 q2
  go_loopw [5] (fun i wr=>∃ k:Nat,k≤n∧i=.int .i64 k∧Hid (SmAt W k wr)) (fun i _=>n - (intOf i).toNat)
  case atStart=>exact ⟨0,by omega,rfl,start⟩
  case round =>
    clear start
    obtain ⟨k,hk,rfl,hin⟩:=hrel
    obtain ⟨X1,vR,vG,b0,b1,b2,oR,oG⟩:=hin.out
    obtain ⟨aR,cR,rfl,hR1,hR2⟩:=(Row.of_owns oR).shape
    obtain ⟨aG,cG,rfl,hG1,hG2⟩:=(Row.of_owns oG).shape
    unfold maxLen at hR2 hG2
    by_cases hkn:k<n
    · have hkz:(k:Int)<(n:Int):=by omega
      have e3:IntKind.i64.wrap ((k:Int) / 10)=((k / 10:Nat):Int):=by rw [IntWalk.i64_in _ (by omega)];omega
      have e5:IntKind.i64.wrap (((k / 10:Nat):Int)+1)=((k / 10+1:Nat):Int):=by rw [IntWalk.i64_in _ (by omega)];omega
      have e6:(k:Int).tmod 10=((k % 10:Nat):Int):=by rw [Int.tmod_eq_emod_of_nonneg (by omega)];omega
      have e7:IntKind.i64.wrap (((k % 10:Nat):Int)+1)=((k % 10+1:Nat):Int):=by rw [IntWalk.i64_in _ (by omega)];omega
      have g2:((k / 10+1:Nat):Int)≤10:=by omega
      have g2':((k / 10:Nat):Int)≤((k / 10+1:Nat):Int):=by omega
      have g3:((k % 10+1:Nat):Int)≤10:=by omega
      have g3':((k % 10:Nat):Int)≤((k % 10+1:Nat):Int):=by omega
      have j2:(0:Int)≤((k / 10+1:Nat):Int):=by omega
      have j2':(0:Int)≤((k / 10:Nat):Int):=by omega
      have j3:(0:Int)≤((k % 10+1:Nat):Int):=by omega
      have j3':(0:Int)≤((k % 10:Nat):Int):=by omega
      obtain ⟨D2,hD2⟩:∃ n,k / 10=n:=⟨_,rfl⟩
      obtain ⟨D2s,hD2s⟩:∃ n,k / 10+1=n:=⟨_,rfl⟩
      obtain ⟨D3,hD3⟩:∃ n,k % 10=n:=⟨_,rfl⟩
      obtain ⟨D3s,hD3s⟩:∃ n,k % 10+1=n:=⟨_,rfl⟩
      simp only [hD2s,hD3s] at e3 e5 e6 e7 g2 g2' g3 g3' j2 j2' j3 j3'
      simp only [hD2,hD3] at e3 e5 e6 e7 g2 g2' g3 g3' j2 j2' j3 j3'
      have hnm:Hid (nmS k=(⟨#[114]⟩ ++ digS.extract D2 D2s) ++ digS.extract D3 D3s):=qh (by unfold nmS;rw [hD2s,hD3s,hD2,hD3])
      clear hD2 hD2s hD3 hD3s
      have m1:¬ 9223372036854775807<1+(min D2s 10 - D2):=by omega
      have m2:¬ 9223372036854775807<1+(min D2s 10 - D2)+(min D3s 10 - D3):=by omega
      have B0:=qh b0
      have B1:=qh b1
      have B2:=qh b2
      have OR:=qh oR
      have OG:=qh oG
      have XX:=qh X1
      clear b0 b1 b2 oR oG X1 hin
      go_wp2_with fail
      rename_i K1 hK1
      have hK1:=qh hK1
      refine wp_region_M (fun _=>True) 14 (by kernel_rfl) (?_) (fun hS=>?_)
      · trivial
      refine' tk 0 hS ?_ ?_;rotate_left;·intros;go_simp;try rfl
      refine' tk 1 hS ?_ ?_;rotate_left;·intros;go_simp;try rfl
      refine' tk 2 hS ?_ ?_;rotate_left;·intros;go_simp;try rfl
      try simp only [tD]
      refine' tk 3 hS ?_ ?_;rotate_left;·intros;go_simp;try rfl
      refine' tk 4 hS ?_ ?_;rotate_left;·intros;go_simp;try rfl
      refine' tk 5 hS ?_ ?_;rotate_left;·intros;go_simp;try rfl
      try simp only [tD]
      refine' tk 6 hS ?_ ?_;rotate_left;·intros;go_simp;try rfl
      refine' tk 7 hS ?_ ?_;rotate_left;·intros;go_simp;try rfl
      refine' tk 8 hS ?_ ?_;rotate_left;·intros;go_simp;try rfl
      try simp only [tD]
      refine' tk 9 hS ?_ ?_;rotate_left;·intros;go_simp;try rfl
      refine' tk 10 hS ?_ ?_;rotate_left;·intros;go_simp;try rfl
      refine' tk 11 hS ?_ ?_;rotate_left;·intros;go_simp;try rfl
      try simp only [tD]
      refine' tk 12 hS ?_ ?_;rotate_left;·intros;go_simp;try rfl
      refine' tk 13 hS ?_ ?_;rotate_left;·intros;go_simp;try rfl
      try simp only [tD]
      refine rl 14 fun K hK=>?_
      go_simp
      refine hK.out _ _ ?_
      try simp only [tD]
      clear hK K
      refine wpAnyM_done (by kernel_rfl) ?_ _
      refine hK1.out _ _ ?_
      have hnm2:((⟨#[114]⟩:ByteArray) ++ (⟨#[48,49,50,51,52,53,54,55,56,57]⟩:ByteArray).extract D2 D2s) ++ (⟨#[48,49,50,51,52,53,54,55,56,57]⟩:ByteArray).extract D3 D3s=nmS k:=hnm.out.symm
      rw [hnm2]
      clear hnm hnm2 e3 e5 e6 e7 g2 g2' g3 g3' j2 j2' j3 j3' m1 m2 hS hK1
      have xd:Ext wr wr.drew:=Ext.drew _
      have XD:=qh (XX.out.trans xd)
      have b0:=Ext.block xd B0.out
      have b1:=Ext.block xd B1.out
      have b2:=Ext.block xd B2.out
      have OR:=qh (owns_ext OR.out xd)
      have OG:=qh (owns_ext OG.out xd)
      clear B0 B1 B2 XX xd
      generalize wr.drew=W2 at XD b0 b1 b2 OR OG ⊢
      have lt2:W.heap.size+2<W2.heap.size:=(Array.getElem?_eq_some_iff.1 b2).1
      have m1:W2.cell? ⟨W.heap.size+1,1,none⟩=some (.slice aR k cR):=by simp [World.cell?,b1]
      have f1:W2.frozen? ⟨W.heap.size+1,1,none⟩=false:=by simp [World.frozen?,b1]
      have x3:Ext W2 (W2.alloc (.cells #[.string (nmS k),.int .i64 8,.int .i64 0,.slice none 0 0] 70)):=Ext.alloc _ _
      have ne:=owns_two OG.out OR.out (by decide)
      have B0:=qh b0
      have B1:=qh b1
      have B2:=qh b2
      clear b0 b1 b2
      have news:∀ (j:Nat) (u:Value),[Value.string (nmS k),.int .i64 8,.int .i64 0,.slice none 0 0][j]?=some u→(W2.alloc (.cells #[.string (nmS k),.int .i64 8,.int .i64 0,.slice none 0 0] 70)).cell? (Addr.add ⟨W2.heap.size,0,none⟩ j)=some u:=World.news_of_block (cs:=#[.string (nmS k),.int .i64 8,.int .i64 0,.slice none 0 0]) (t:=70) (fr:=(0,0)) (heap_alloc_new W2 _)
      have NEWS:=qh news
      clear news
      go_wp2_with (first
        | (at_builtin;refine wpList_append_lies _ rfl _ _ 22 rfl (W.heap.size+3) 70 iR _ 4 56 Tryz.underlying22 hiR zR0 zR1 zR2 rfl (by omega) (.slice aR k cR) k (cellsR k) rfl (OR.out.alloc _) ⟨W2.heap.size,0,none⟩ 1 1 [.string (nmS k),.int .i64 8,.int .i64 0,.slice none 0 0] rfl rfl NEWS.out (by simp [Value.oneCell']) (by omega) (by unfold maxLen;omega) (by omega) (by simp;omega) _ rfl ?_;intro g1 cp1 w3 hown1 hgrow1 hat1 hlt1;clear NEWS;have b1:=grown_blk OR.out hgrow1 (by omega) B1.out;have b2:=grown_blk OR.out hgrow1 (by omega) B2.out;have m1:=blk_cell b1 1 _ rfl;have f1:=blk_free b1 1;have m2:=blk_cell b2 1 _ rfl;have B1':=qh b1;have B2':=qh b2;have HO1:=qh hown1;have HG1:=qh hgrow1;clear b1 b2 hown1 hgrow1 hat1)
        | (at_builtin;refine wpList_append_lies _ rfl _ _ 25 rfl (W.heap.size+3) 9 iS _ 1 16 Tryz.underlying25 hiS zS0 zS1 zS2 rfl (by omega) (.slice aG k cG) k ((namesS k).map Value.string) rfl ((ownsRow_setCell_below (World.ownsRow.kept (OG.out.alloc _) HG1.out ne) (by show W.heap.size+1<W.heap.size+3;omega) _).alloc _) ⟨w3.heap.size,0,none⟩ 1 1 [.string (nmS k)] rfl rfl (news_set _ _ _ _ _) (by simp [Value.oneCell']) (by omega) (by unfold maxLen;omega) (by omega) (by have:=HG1.out.size;simp [World.setCell] at this ⊢;omega) _ rfl ?_;intro g2 cp2 w5 hown2 hgrow2 hat2 hlt2;have b2:=grown_blk (ownsRow_setCell_below (World.ownsRow.kept (OG.out.alloc _) HG1.out ne) (by show W.heap.size+1<W.heap.size+3;omega) _) hgrow2 (by omega) ((Below.heap_setCell _ _ _ _ (by show W.heap.size+2≠W.heap.size+1;omega)).trans B2'.out);have n1:=blk_cell b2 1 _ rfl;have n2:=blk_free b2 1;have B2'':=qh b2;have HO2:=qh hown2;have HG2:=qh hgrow2;clear b2 hown2 hgrow2 hat2))
      refine ⟨⟨k+1,by omega,by go_num,?_⟩,by simp [intOf];omega⟩
      have lq:W.heap.size+1<W.heap.size+3:=by omega
      have lq2:W.heap.size+2<W.heap.size+3:=by omega
      have q3:=World.ownsRow.kept (OG.out.alloc (.cells #[.string (nmS k),.int .i64 8,.int .i64 0,.slice none 0 0] 70)) HG1.out ne
      have q4:=ownsRow_setCell_below q3 (a:=⟨W.heap.size+1,1,none⟩) lq (.slice (some ⟨g1,0,none⟩) (k+1) cp1)
      have r4:=ownsRow_setCell_below HO1.out (a:=⟨W.heap.size+1,1,none⟩) lq (.slice (some ⟨g1,0,none⟩) (k+1) cp1)
      have r5:=World.ownsRow.kept (r4.alloc (.cells #[.string (nmS k)] 9)) HG2.out (owns_two r4 q4 (by decide))
      have x4:Ext W w3:=Ext.grown (XD.out.trans x3) HG1.out (fun q e=>by have:=(OR.out.lt q e).1;omega)
      have x5:Ext W (w3.setCell ⟨W.heap.size+1,1,none⟩ (.slice (some ⟨g1,0,none⟩) (k+1) cp1)):=Below.setCell x4 (p:=⟨W.heap.size+1,1,none⟩) (by show W.heap.size≤W.heap.size+1;omega) _
      have x7:Ext W w5:=Ext.grown (x5.trans (Ext.alloc _ _)) HG2.out (fun q e=>by have:=(OG.out.lt q e).1;omega)
      have b0:=grown_blk q4 HG2.out (by omega) ((Below.heap_setCell _ _ _ W.heap.size (by show W.heap.size≠W.heap.size+1;omega)).trans (grown_blk OR.out HG1.out (by omega) B0.out))
      have b1:=grown_blk q4 HG2.out (by omega) (heap_set_cells B1'.out 1 (.slice (some ⟨g1,0,none⟩) (k+1) cp1))
      refine qh ⟨Below.setCell x7 (p:=⟨W.heap.size+2,1,none⟩) (by show W.heap.size≤W.heap.size+2;omega) _,_,_,(Below.heap_setCell _ _ _ _ (by show W.heap.size≠W.heap.size+2;omega)).trans b0,
        (Below.heap_setCell _ _ _ _ (by show W.heap.size+1≠W.heap.size+2;omega)).trans b1,heap_set_cells B2''.out 1 _,?_,?_⟩
      · rw [cellsR_succ];exact ownsRow_setCell_below r5 lq2 _
      · rw [namesS_succ];exact ownsRow_setCell_below HO2.out lq2 _
    · have hkz:¬ (k:Int)<(n:Int):=by omega
      obtain rfl:k=n:=by omega
      have B0:=qh b0
      have B1:=qh b1
      have B2:=qh b2
      have OR:=qh oR
      have OG:=qh oG
      have XX:=qh X1
      have lt2:W.heap.size+2<wr.heap.size:=(Array.getElem?_eq_some_iff.1 b2).1
      have lt1:W.heap.size+1<wr.heap.size:=by omega
      have lt0:W.heap.size<wr.heap.size:=by omega
      have c0:=blk_cell b2 0 _ rfl
      have c1:=blk_cell b2 1 _ rfl
      have m2:=blk_cell b1 2 _ rfl
      have mf2:=blk_free b1 2
      clear b0 b1 b2 oR oG X1 hin
      go_upto_region 10 with (fail)
      have b0:=sa_blk (a:=⟨W.heap.size+1,2,none⟩) (v:=.slice (some ⟨wr.heap.size,0,none⟩) 1 1) (o:=.cells #[.string gN,.slice aG k cG] 51) (by show W.heap.size≠W.heap.size+1;omega) B0.out
      have b1:((wr.setCell ⟨W.heap.size+1,2,none⟩ (.slice (some ⟨wr.heap.size,0,none⟩) 1 1)).alloc (.cells #[.string gN,.slice aG k cG] 51)).heap[W.heap.size+1]?=some (.cells #[.string mN,.slice aR k cR,.slice (some ⟨wr.heap.size,0,none⟩) 1 1,.slice none 0 0,.slice none 0 0,.string ⟨#[]⟩,.slice none 0 0,.int .i64 100] 27 (0,0)):=sa_set B1.out
      have bc:=sa_new (w:=wr) (a:=⟨W.heap.size+1,2,none⟩) (v:=.slice (some ⟨wr.heap.size,0,none⟩) 1 1) (cs:=#[.string gN,.slice aG k cG]) (e:=51)
      have sz:=sa_size wr ⟨W.heap.size+1,2,none⟩ (.slice (some ⟨wr.heap.size,0,none⟩) 1 1) (.cells #[.string gN,.slice aG k cG] 51)
      have lq:W.heap.size+1<W.heap.size+3:=by omega
      have oR:=(ownsRow_setCell_below OR.out (a:=⟨W.heap.size+1,2,none⟩) lq (.slice (some ⟨wr.heap.size,0,none⟩) 1 1)).alloc (.cells #[.string gN,.slice aG k cG] 51)
      have oG:=(ownsRow_setCell_below OG.out (a:=⟨W.heap.size+1,2,none⟩) lq (.slice (some ⟨wr.heap.size,0,none⟩) 1 1)).alloc (.cells #[.string gN,.slice aG k cG] 51)
      have X3:Ext W ((wr.setCell ⟨W.heap.size+1,2,none⟩ (.slice (some ⟨wr.heap.size,0,none⟩) 1 1)).alloc (.cells #[.string gN,.slice aG k cG] 51)):=Ext.trans (Below.setCell XX.out (p:=⟨W.heap.size+1,2,none⟩) (by show W.heap.size≤W.heap.size+1;omega) _) (Ext.alloc _ _)
      have hbR:∀ q,(Value.slice aR k cR).ownBlock=some q→W.heap.size≤q∧q<wr.heap.size:=fun q e=>⟨by have:=(OR.out.lt q e).1;omega,(OR.out.lt q e).2⟩
      have hbG:∀ q,(Value.slice aG k cG).ownBlock=some q→W.heap.size≤q∧q<wr.heap.size:=fun q e=>⟨by have:=(OG.out.lt q e).1;omega,(OG.out.lt q e).2⟩
      have HBR:=qh hbR
      have HBG:=qh hbG
      have NE:=qh (owns_two OG.out OR.out (by decide))
      generalize (wr.setCell ⟨W.heap.size+1,2,none⟩ (.slice (some ⟨wr.heap.size,0,none⟩) 1 1)).alloc (.cells #[.string gN,.slice aG k cG] 51)=W3 at b0 b1 bc sz oR oG X3 ⊢
      clear OR OG B0 B1 B2 XX c0 c1 m2 mf2 hbR hbG
      generalize wr.heap.size=s at *
      have B0:=qh b0
      have B1:=qh b1
      have BC:=qh bc
      have OR:=qh oR
      have OG:=qh oG
      have X3:=qh X3
      have SZ:=qh sz
      clear b0 b1 bc oR oG sz
      go_upto_region 11 with (fail)
      have xa:Ext W3 (W3.alloc (.cells #[.string ⟨#[103]⟩,.string ⟨#[]⟩] 57)):=Ext.alloc _ _
      have bg:=heap_alloc_new W3 (.cells #[.string ⟨#[103]⟩,.string ⟨#[]⟩] 57)
      have sz:(W3.alloc (.cells #[.string ⟨#[103]⟩,.string ⟨#[]⟩] 57)).heap.size=s+2:=by simp [SZ.out]
      have b0:=xa.block B0.out
      have b1:=xa.block B1.out
      have bc:=xa.block BC.out
      have oR:=owns_ext OR.out xa
      have oG:=owns_ext OG.out xa
      have X4:=X3.out.trans xa
      rw [SZ.out] at bg ⊢
      clear B0 B1 BC OR OG X3 SZ
      generalize W3.alloc (.cells #[.string ⟨#[103]⟩,.string ⟨#[]⟩] 57)=W4 at xa bg b0 b1 bc sz oR oG X4 ⊢
      clear xa
      have d0:=blk_cell bg 0 _ rfl
      have d1:=blk_cell bg 1 _ rfl
      have m3:=blk_cell b1 3 _ rfl
      have mf3:=blk_free b1 3
      have B0:=qh b0
      have B1:=qh b1
      have BC:=qh bc
      have OR:=qh oR
      have OG:=qh oG
      have X4:=qh X4
      have SZ:=qh sz
      have l0:W.heap.size+1<W4.heap.size:=by omega
      have l1:s+1<W4.heap.size:=by omega
      have l2:s<W4.heap.size:=by omega
      have l3:s+1<W4.heap.size+1:=by omega
      have l4:s+1<W4.heap.size+2:=by omega
      have l5:s<W4.heap.size+1:=by omega
      have l6:s<W4.heap.size+2:=by omega
      have l7:W.heap.size<W4.heap.size:=by omega
      have l8:W.heap.size+1<W4.heap.size+1:=by omega
      have l9:W.heap.size+1<W4.heap.size+2:=by omega
      have l10:s+1<W4.heap.size+3:=by omega
      have l11:s<W4.heap.size+3:=by omega
      have l12:W.heap.size+1<W4.heap.size+3:=by omega
      clear b0 b1 bc oR oG sz bg
      go_upto_region 12 with (fail)
      simp only [Nat.add_assoc,Nat.reduceAdd]
      have z4:(W4.setCell ⟨W.heap.size+1,3,none⟩ (.slice (some ⟨W4.heap.size+3,0,none⟩) 3 3)).heap.size=s+2:=by rw [set_size];exact SZ.out
      have al:=al4 _ _ z4 (.cells #[.string ⟨#[103]⟩,.string ⟨#[]⟩,.string ⟨#[103]⟩,.string ⟨#[]⟩] 57) (.cells #[.string ⟨#[103]⟩,.string ⟨#[]⟩] 57) (.cells #[.string ⟨#[103]⟩,.string ⟨#[]⟩,.string ⟨#[103]⟩,.string ⟨#[]⟩] 57)
        (.cells #[.string ⟨#[97,100,100]⟩,.string ⟨#[103]⟩,.string ⟨#[]⟩,.slice (some ⟨W4.heap.size,0,none⟩) 2 2,.int .i64 (-1),.slice none 0 0,
          .string ⟨#[110,111,116]⟩,.string ⟨#[103]⟩,.string ⟨#[]⟩,.slice (some ⟨W4.heap.size+1,0,none⟩) 1 1,.int .i64 (-1),.slice none 0 0,
          .string ⟨#[100,105,118]⟩,.string ⟨#[103]⟩,.string ⟨#[]⟩,.slice (some ⟨W4.heap.size+2,0,none⟩) 2 2,.int .i64 (-1),.slice none 0 0] 60)
      obtain ⟨xal,sz,g0,g1,g2,g3⟩:=al
      have lq:W.heap.size+1<W.heap.size+3:=by omega
      have b0:=xal.block ((Below.heap_setCell _ _ (.slice (some ⟨W4.heap.size+3,0,none⟩) 3 3) W.heap.size (by show W.heap.size≠W.heap.size+1;omega)).trans B0.out)
      have b1:=xal.block (heap_set_cells B1.out 3 (.slice (some ⟨W4.heap.size+3,0,none⟩) 3 3))
      have bc:=xal.block ((Below.heap_setCell _ _ (.slice (some ⟨W4.heap.size+3,0,none⟩) 3 3) s (by show s≠W.heap.size+1;omega)).trans BC.out)
      have oR:=owns_ext (ownsRow_setCell_below OR.out (a:=⟨W.heap.size+1,3,none⟩) lq (.slice (some ⟨W4.heap.size+3,0,none⟩) 3 3)) xal
      have oG:=owns_ext (ownsRow_setCell_below OG.out (a:=⟨W.heap.size+1,3,none⟩) lq (.slice (some ⟨W4.heap.size+3,0,none⟩) 3 3)) xal
      have X5:Ext W _:=Ext.trans (Below.setCell X4.out (p:=⟨W.heap.size+1,3,none⟩) (by show W.heap.size≤W.heap.size+1;omega) _) xal
      have hsz:=SZ.out
      clear SZ l0 l1 l2 l3 l4 l5 l6 l7 l8 l9 l10 l11 l12 B0 B1 BC OR OG X4 z4 xal d0 d1 m3 mf3
      simp only [hsz,Nat.add_assoc,Nat.reduceAdd] at sz g0 g1 g2 g3 b0 b1 bc oR oG X5 ⊢
      change W4.heap.size=s+2 at hsz
      generalize ((((W4.setCell ⟨W.heap.size+1,3,none⟩ (.slice (some ⟨s+5,0,none⟩) 3 3)).alloc (.cells #[.string ⟨#[103]⟩,.string ⟨#[]⟩,.string ⟨#[103]⟩,.string ⟨#[]⟩] 57)).alloc (.cells #[.string ⟨#[103]⟩,.string ⟨#[]⟩] 57)).alloc (.cells #[.string ⟨#[103]⟩,.string ⟨#[]⟩,.string ⟨#[103]⟩,.string ⟨#[]⟩] 57)).alloc (.cells #[.string ⟨#[97,100,100]⟩,.string ⟨#[103]⟩,.string ⟨#[]⟩,.slice (some ⟨s+2,0,none⟩) 2 2,.int .i64 (-1),.slice none 0 0,.string ⟨#[110,111,116]⟩,.string ⟨#[103]⟩,.string ⟨#[]⟩,.slice (some ⟨s+3,0,none⟩) 1 1,.int .i64 (-1),.slice none 0 0,.string ⟨#[100,105,118]⟩,.string ⟨#[103]⟩,.string ⟨#[]⟩,.slice (some ⟨s+4,0,none⟩) 2 2,.int .i64 (-1),.slice none 0 0] 60)=W5 at sz g0 g1 g2 g3 b0 b1 bc oR oG X5 ⊢
      clear hsz
      simp [Array.setIfInBounds] at b1
      have e0:(⟨#[114,48,48]⟩:ByteArray)=nmS 0:=by decide +kernel
      have m4:=blk_cell b1 4 _ rfl
      have mf4:=blk_free b1 4
      have B0:=qh b0
      have B1:=qh b1
      have BC:=qh bc
      have OR:=qh oR
      have OG:=qh oG
      have X5:=qh X5
      have SZ:=qh sz
      have G0:=qh g0
      have G1:=qh g1
      have G2:=qh g2
      have G3:=qh g3
      have l0:W.heap.size+1<W5.heap.size:=by omega
      clear b0 b1 bc oR oG sz g0 g1 g2 g3
      go_upto_region 13 with (fail)
      rw [SZ.out]
      have lq:W.heap.size+1<W.heap.size+3:=by omega
      have xal:Ext (W5.setCell ⟨W.heap.size+1,4,none⟩ (.slice (some ⟨s+6,0,none⟩) 1 1)) ((W5.setCell ⟨W.heap.size+1,4,none⟩ (.slice (some ⟨s+6,0,none⟩) 1 1)).alloc (.cells #[.string (nmS 0)] 9)):=Ext.alloc _ _
      have b0:=sa_blk (a:=⟨W.heap.size+1,4,none⟩) (v:=(.slice (some ⟨s+6,0,none⟩) 1 1)) (o:=(.cells #[.string (nmS 0)] 9)) (by show W.heap.size≠W.heap.size+1;omega) B0.out
      have b1:((W5.setCell ⟨W.heap.size+1,4,none⟩ (.slice (some ⟨s+6,0,none⟩) 1 1)).alloc (.cells #[.string (nmS 0)] 9)).heap[W.heap.size+1]?=some (.cells #[.string mN,.slice aR k cR,.slice (some ⟨s,0,none⟩) 1 1,.slice (some ⟨s+5,0,none⟩) 3 3,.slice (some ⟨s+6,0,none⟩) 1 1,.string ⟨#[]⟩,.slice none 0 0,.int .i64 100] 27 (0,0)):=sa_set B1.out
      have bc:=sa_blk (a:=⟨W.heap.size+1,4,none⟩) (v:=(.slice (some ⟨s+6,0,none⟩) 1 1)) (o:=(.cells #[.string (nmS 0)] 9)) (by show s≠W.heap.size+1;omega) BC.out
      have g0:=sa_blk (a:=⟨W.heap.size+1,4,none⟩) (v:=(.slice (some ⟨s+6,0,none⟩) 1 1)) (o:=(.cells #[.string (nmS 0)] 9)) (by show s+2≠W.heap.size+1;omega) G0.out
      have g1:=sa_blk (a:=⟨W.heap.size+1,4,none⟩) (v:=(.slice (some ⟨s+6,0,none⟩) 1 1)) (o:=(.cells #[.string (nmS 0)] 9)) (by show s+3≠W.heap.size+1;omega) G1.out
      have g2:=sa_blk (a:=⟨W.heap.size+1,4,none⟩) (v:=(.slice (some ⟨s+6,0,none⟩) 1 1)) (o:=(.cells #[.string (nmS 0)] 9)) (by show s+4≠W.heap.size+1;omega) G2.out
      have g3:=sa_blk (a:=⟨W.heap.size+1,4,none⟩) (v:=(.slice (some ⟨s+6,0,none⟩) 1 1)) (o:=(.cells #[.string (nmS 0)] 9)) (by show s+5≠W.heap.size+1;omega) G3.out
      have ga:=sa_new (w:=W5) (a:=⟨W.heap.size+1,4,none⟩) (v:=(.slice (some ⟨s+6,0,none⟩) 1 1)) (cs:=#[.string (nmS 0)]) (e:=9)
      have sz:=sa_size W5 ⟨W.heap.size+1,4,none⟩ (.slice (some ⟨s+6,0,none⟩) 1 1) (.cells #[.string (nmS 0)] 9)
      rw [SZ.out] at ga sz
      have oR:=owns_ext (ownsRow_setCell_below OR.out (a:=⟨W.heap.size+1,4,none⟩) lq (.slice (some ⟨s+6,0,none⟩) 1 1)) xal
      have oG:=owns_ext (ownsRow_setCell_below OG.out (a:=⟨W.heap.size+1,4,none⟩) lq (.slice (some ⟨s+6,0,none⟩) 1 1)) xal
      have X6:Ext W _:=Ext.trans (Below.setCell X5.out (p:=⟨W.heap.size+1,4,none⟩) (by show W.heap.size≤W.heap.size+1;omega) _) xal
      clear SZ l0 B0 B1 BC OR OG X5 G0 G1 G2 G3 xal m4 mf4
      generalize (W5.setCell ⟨W.heap.size+1,4,none⟩ (.slice (some ⟨s+6,0,none⟩) 1 1)).alloc (.cells #[.string (nmS 0)] 9)=W6 at sz g0 g1 g2 g3 ga b0 b1 bc oR oG X6 ⊢
      have m5:=blk_cell b1 5 _ rfl
      have mf5:=blk_free b1 5
      have m5:W6.cell? ⟨W.heap.size+1,5,none⟩=some (.string ⟨#[]⟩):=m5
      have l0:W.heap.size+1<W6.heap.size:=by omega
      have B0:=qh b0
      have B1:=qh b1
      have BC:=qh bc
      have OR:=qh oR
      have OG:=qh oG
      have X6:=qh X6
      have SZ:=qh sz
      have G0:=qh g0
      have G1:=qh g1
      have G2:=qh g2
      have G3:=qh g3
      have GA:=qh ga
      clear b0 b1 bc oR oG sz g0 g1 g2 g3 ga
      go_upto_region 14 with (fail)
      have lq:W.heap.size+1<W.heap.size+3:=by omega
      have b0:=(Below.heap_setCell W6 ⟨W.heap.size+1,5,none⟩ (.string (nmS 0)) W.heap.size (by show W.heap.size≠W.heap.size+1;omega)).trans B0.out
      have b1:(W6.setCell ⟨W.heap.size+1,5,none⟩ (.string (nmS 0))).heap[W.heap.size+1]?=some (.cells #[.string mN,.slice aR k cR,.slice (some ⟨s,0,none⟩) 1 1,.slice (some ⟨s+5,0,none⟩) 3 3,.slice (some ⟨s+6,0,none⟩) 1 1,.string (nmS 0),.slice none 0 0,.int .i64 100] 27 (0,0)):=heap_set_cells B1.out 5 (.string (nmS 0))
      have bc:=(Below.heap_setCell W6 ⟨W.heap.size+1,5,none⟩ (.string (nmS 0)) s (by show s≠W.heap.size+1;omega)).trans BC.out
      have g0:=(Below.heap_setCell W6 ⟨W.heap.size+1,5,none⟩ (.string (nmS 0)) (s+2) (by show (s+2)≠W.heap.size+1;omega)).trans G0.out
      have g1:=(Below.heap_setCell W6 ⟨W.heap.size+1,5,none⟩ (.string (nmS 0)) (s+3) (by show (s+3)≠W.heap.size+1;omega)).trans G1.out
      have g2:=(Below.heap_setCell W6 ⟨W.heap.size+1,5,none⟩ (.string (nmS 0)) (s+4) (by show (s+4)≠W.heap.size+1;omega)).trans G2.out
      have g3:=(Below.heap_setCell W6 ⟨W.heap.size+1,5,none⟩ (.string (nmS 0)) (s+5) (by show (s+5)≠W.heap.size+1;omega)).trans G3.out
      have ga:=(Below.heap_setCell W6 ⟨W.heap.size+1,5,none⟩ (.string (nmS 0)) (s+6) (by show (s+6)≠W.heap.size+1;omega)).trans GA.out
      have sz:=(set_size W6 ⟨W.heap.size+1,5,none⟩ (.string (nmS 0))).trans SZ.out
      have oR:=ownsRow_setCell_below OR.out (a:=⟨W.heap.size+1,5,none⟩) lq (.string (nmS 0))
      have oG:=ownsRow_setCell_below OG.out (a:=⟨W.heap.size+1,5,none⟩) lq (.string (nmS 0))
      have X7:Ext W _:=Below.setCell X6.out (p:=⟨W.heap.size+1,5,none⟩) (by show W.heap.size≤W.heap.size+1;omega) (.string (nmS 0))
      clear SZ l0 B0 B1 BC OR OG X6 G0 G1 G2 G3 GA m5 mf5
      generalize W6.setCell ⟨W.heap.size+1,5,none⟩ (.string (nmS 0))=W7 at sz g0 g1 g2 g3 ga b0 b1 bc oR oG X7 ⊢
      have m0:=blk_cell b1 0 _ rfl
      have r0:=blk_cell b0 0 _ rfl
      have rf0:=blk_free b0 0
      have m1:=blk_cell b1 1 _ rfl
      have r1:=blk_cell b0 1 _ rfl
      have rf1:=blk_free b0 1
      have m2:=blk_cell b1 2 _ rfl
      have r2:=blk_cell b0 2 _ rfl
      have rf2:=blk_free b0 2
      have m3:=blk_cell b1 3 _ rfl
      have r3:=blk_cell b0 3 _ rfl
      have rf3:=blk_free b0 3
      have m4:=blk_cell b1 4 _ rfl
      have r4:=blk_cell b0 4 _ rfl
      have rf4:=blk_free b0 4
      have m5:=blk_cell b1 5 _ rfl
      have r5:=blk_cell b0 5 _ rfl
      have rf5:=blk_free b0 5
      have m6:=blk_cell b1 6 _ rfl
      have r6:=blk_cell b0 6 _ rfl
      have rf6:=blk_free b0 6
      have m7:=blk_cell b1 7 _ rfl
      have r7:=blk_cell b0 7 _ rfl
      have rf7:=blk_free b0 7
      have l0:W.heap.size+1<W7.heap.size:=by omega
      have l1:W.heap.size<W7.heap.size:=by omega
      have BB:=qh (And.intro b0 b1)
      have BC:=qh bc
      have OR:=qh oR
      have OG:=qh oG
      have X7:=qh X7
      have SZ:=qh sz
      have GG:=qh (And.intro g0 (And.intro g1 (And.intro g2 (And.intro g3 ga))))
      clear b0 b1 bc oR oG sz g0 g1 g2 g3 ga
      go_wp2_with fail
      have off8:∀ q,q≠W.heap.size→((((((((W7.setCell ⟨W.heap.size,0,none⟩ (.string mN)).setCell ⟨W.heap.size,1,none⟩ (.slice aR k cR)).setCell ⟨W.heap.size,2,none⟩ (.slice (some ⟨s,0,none⟩) 1 1)).setCell ⟨W.heap.size,3,none⟩ (.slice (some ⟨s+5,0,none⟩) 3 3)).setCell ⟨W.heap.size,4,none⟩ (.slice (some ⟨s+6,0,none⟩) 1 1)).setCell ⟨W.heap.size,5,none⟩ (.string (nmS 0))).setCell ⟨W.heap.size,6,none⟩ (.slice none 0 0)).setCell ⟨W.heap.size,7,none⟩ (.int .i64 100)).heap[q]?=W7.heap[q]?:=by
        intro q hq
        iterate 7 refine (Below.heap_setCell _ _ _ q hq).trans ?_
        exact Below.heap_setCell _ _ _ q hq
      have bB:((((((((W7.setCell ⟨W.heap.size,0,none⟩ (.string mN)).setCell ⟨W.heap.size,1,none⟩ (.slice aR k cR)).setCell ⟨W.heap.size,2,none⟩ (.slice (some ⟨s,0,none⟩) 1 1)).setCell ⟨W.heap.size,3,none⟩ (.slice (some ⟨s+5,0,none⟩) 3 3)).setCell ⟨W.heap.size,4,none⟩ (.slice (some ⟨s+6,0,none⟩) 1 1)).setCell ⟨W.heap.size,5,none⟩ (.string (nmS 0))).setCell ⟨W.heap.size,6,none⟩ (.slice none 0 0)).setCell ⟨W.heap.size,7,none⟩ (.int .i64 100)).heap[W.heap.size]?=some (.cells #[.string mN,.slice aR k cR,.slice (some ⟨s,0,none⟩) 1 1,.slice (some ⟨s+5,0,none⟩) 3 3,.slice (some ⟨s+6,0,none⟩) 1 1,.string (nmS 0),.slice none 0 0,.int .i64 100] 27 (0,0)):=(heap_set_cells (heap_set_cells (heap_set_cells (heap_set_cells (heap_set_cells (heap_set_cells (heap_set_cells (heap_set_cells BB.out.1 0 (.string mN)) 1 (.slice aR k cR)) 2 (.slice (some ⟨s,0,none⟩) 1 1)) 3 (.slice (some ⟨s+5,0,none⟩) 3 3)) 4 (.slice (some ⟨s+6,0,none⟩) 1 1)) 5 (.string (nmS 0))) 6 (.slice none 0 0)) 7 (.int .i64 100))
      have lq:W.heap.size<W.heap.size+3:=by omega
      have oR:((((((((W7.setCell ⟨W.heap.size,0,none⟩ (.string mN)).setCell ⟨W.heap.size,1,none⟩ (.slice aR k cR)).setCell ⟨W.heap.size,2,none⟩ (.slice (some ⟨s,0,none⟩) 1 1)).setCell ⟨W.heap.size,3,none⟩ (.slice (some ⟨s+5,0,none⟩) 3 3)).setCell ⟨W.heap.size,4,none⟩ (.slice (some ⟨s+6,0,none⟩) 1 1)).setCell ⟨W.heap.size,5,none⟩ (.string (nmS 0))).setCell ⟨W.heap.size,6,none⟩ (.slice none 0 0)).setCell ⟨W.heap.size,7,none⟩ (.int .i64 100)).ownsRow (W.heap.size+3) 70 4 (.slice aR k cR) k (cellsR k):=by
        iterate 8 refine ownsRow_setCell_below ?_ lq _
        exact OR.out
      have oG:((((((((W7.setCell ⟨W.heap.size,0,none⟩ (.string mN)).setCell ⟨W.heap.size,1,none⟩ (.slice aR k cR)).setCell ⟨W.heap.size,2,none⟩ (.slice (some ⟨s,0,none⟩) 1 1)).setCell ⟨W.heap.size,3,none⟩ (.slice (some ⟨s+5,0,none⟩) 3 3)).setCell ⟨W.heap.size,4,none⟩ (.slice (some ⟨s+6,0,none⟩) 1 1)).setCell ⟨W.heap.size,5,none⟩ (.string (nmS 0))).setCell ⟨W.heap.size,6,none⟩ (.slice none 0 0)).setCell ⟨W.heap.size,7,none⟩ (.int .i64 100)).ownsRow (W.heap.size+3) 9 1 (.slice aG k cG) k ((namesS k).map Value.string):=by
        iterate 8 refine ownsRow_setCell_below ?_ lq _
        exact OG.out
      have X8:Ext W ((((((((W7.setCell ⟨W.heap.size,0,none⟩ (.string mN)).setCell ⟨W.heap.size,1,none⟩ (.slice aR k cR)).setCell ⟨W.heap.size,2,none⟩ (.slice (some ⟨s,0,none⟩) 1 1)).setCell ⟨W.heap.size,3,none⟩ (.slice (some ⟨s+5,0,none⟩) 3 3)).setCell ⟨W.heap.size,4,none⟩ (.slice (some ⟨s+6,0,none⟩) 1 1)).setCell ⟨W.heap.size,5,none⟩ (.string (nmS 0))).setCell ⟨W.heap.size,6,none⟩ (.slice none 0 0)).setCell ⟨W.heap.size,7,none⟩ (.int .i64 100)):=by
        iterate 8 refine Below.setCell ?_ (by exact Nat.le_refl W.heap.size) _
        exact X7.out
      have sz:((((((((W7.setCell ⟨W.heap.size,0,none⟩ (.string mN)).setCell ⟨W.heap.size,1,none⟩ (.slice aR k cR)).setCell ⟨W.heap.size,2,none⟩ (.slice (some ⟨s,0,none⟩) 1 1)).setCell ⟨W.heap.size,3,none⟩ (.slice (some ⟨s+5,0,none⟩) 3 3)).setCell ⟨W.heap.size,4,none⟩ (.slice (some ⟨s+6,0,none⟩) 1 1)).setCell ⟨W.heap.size,5,none⟩ (.string (nmS 0))).setCell ⟨W.heap.size,6,none⟩ (.slice none 0 0)).setCell ⟨W.heap.size,7,none⟩ (.int .i64 100)).heap.size=s+7:=by simp only [set_size];exact SZ.out
      generalize ((((((((W7.setCell ⟨W.heap.size,0,none⟩ (.string mN)).setCell ⟨W.heap.size,1,none⟩ (.slice aR k cR)).setCell ⟨W.heap.size,2,none⟩ (.slice (some ⟨s,0,none⟩) 1 1)).setCell ⟨W.heap.size,3,none⟩ (.slice (some ⟨s+5,0,none⟩) 3 3)).setCell ⟨W.heap.size,4,none⟩ (.slice (some ⟨s+6,0,none⟩) 1 1)).setCell ⟨W.heap.size,5,none⟩ (.string (nmS 0))).setCell ⟨W.heap.size,6,none⟩ (.slice none 0 0)).setCell ⟨W.heap.size,7,none⟩ (.int .i64 100))=W8 at off8 bB oR oG X8 sz ⊢
      have t0:=blk_cell bB 0 _ rfl
      have t1:=blk_cell bB 1 _ rfl
      have t2:=blk_cell bB 2 _ rfl
      have t3:=blk_cell bB 3 _ rfl
      have t4:=blk_cell bB 4 _ rfl
      have t5:=blk_cell bB 5 _ rfl
      have t6:=blk_cell bB 6 _ rfl
      have t7:=blk_cell bB 7 _ rfl
      refine bodyPost_ret (v:=.agg #[.string mN,.slice aR k cR,.slice (some ⟨s,0,none⟩) 1 1,.slice (some ⟨s+5,0,none⟩) 3 3,.slice (some ⟨s+6,0,none⟩) 1 1,.string (nmS 0),.slice none 0 0,.int .i64 100]) (by simp [results,Tryz.results43,go_sem,t0,t1,t2,t3,t4,t5,t6,t7]) rfl ?_
      obtain ⟨g0,g1,g2,g3,ga⟩:=GG.out
      clear t0 t1 t2 t3 t4 t5 t6 t7
      obtain ⟨k',rfl⟩:∃ k',k=k'+1:=⟨k - 1,by omega⟩
      obtain ⟨bR,cR',eR⟩:=ownsRow_succ oR
      obtain ⟨bG,cG',eG⟩:=ownsRow_succ oG
      cases eR
      cases eG
      refine ⟨X8,bR,cR,bG,cG,s,rfl,?_⟩
      have rR:=HBR.out bR rfl
      have rG:=HBG.out bG rfl
      have wk:∀ {e sz v xs},W8.ownsRow (W.heap.size+3) e sz v (k'+1) xs→W8.ownsRow W.heap.size e sz v (k'+1) xs:=fun h=>World.ownsRow_mono h (by omega)
      exact ⟨wk oR,wk oG,(off8 s (by omega)).trans BC.out,(off8 _ (by omega)).trans g0,(off8 _ (by omega)).trans g1,(off8 _ (by omega)).trans g2,(off8 _ (by omega)).trans g3,(off8 _ (by omega)).trans ga,
        by omega,rR,rG,fun e=>NE.out.elim (fun h=>by cases h) (fun h=>h (by subst e;rfl))⟩
end Go.Proofs.YtligiddaampneaaGreat
end
section
namespace Go.Proofs.YtligiddaampneaaGreat
open Go.RowKit
theorem addr_off (b off j:Nat):Addr.add ⟨b,off,none⟩ j=⟨b,off+j,none⟩:=by
 unfold Addr.add;by_cases h0:j=0 <;> simp [h0]
theorem flatten_len {rows:List (List Value)} {size:Nat} (hl:∀ r∈rows,r.length=size):rows.flatten.length=rows.length * size:=by
 induction rows with
 | nil=>simp
 | cons a rows ih =>
  have ha:a.length=size:=hl a (by simp)
  have:=ih (fun r hr=>hl r (by simp [hr]))
  simp only [List.flatten_cons,List.length_append,List.length_cons,this,ha,Nat.add_mul];omega
theorem Tab.of_block {W:World} {b off cap size:Nat} {rows:List (List Value)} {cs:Array Value} {t:TypeId} {fz:Nat × Nat} (h:W.heap[b]?=some (.cells cs t fz)) (hc:∀ j u,rows.flatten[j]?=some u→cs[off+j]?=some u)
  (hl:∀ r∈rows,r.length=size) (h1:rows.length≤cap) (h2:cap≤maxLen):Tab W (b+1) size (.slice (some ⟨b,off,none⟩) rows.length cap) rows:=by
 refine ⟨⟨flatten_len hl,Or.inr ⟨_,cap,rfl,h1,h2,fun j u hj=>?_⟩⟩,hl,fun k e _=>by cases e;exact Nat.lt_succ_self _⟩
 rw [addr_off]
 simp only [World.cell?,h]
 simpa using hc j u hj
theorem Tab.of_new {W:World} {b size:Nat} {rows:List (List Value)} {t:TypeId} {fz:Nat × Nat} (h:W.heap[b]?=some (.cells rows.flatten.toArray t fz))
  (hl:∀ r∈rows,r.length=size) (h2:rows.length≤maxLen):Tab W (b+1) size (.slice (some ⟨b,0,none⟩) rows.length rows.length) rows :=
 Tab.of_block h (fun j u hj=>by simpa using hj) hl (Nat.le_refl _) h2
theorem Tab.nil {W:World} {n0 size:Nat}:Tab W n0 size (.slice none 0 0) []:=⟨⟨by simp,Or.inl ⟨rfl,rfl⟩⟩,by simp,fun k e _=>by cases e⟩
theorem Tab.of_owns {W:World} {base size n:Nat} {e:TypeId} {v:Value} {rows:List (List Value)} (h:W.ownsRow base e size v n rows.flatten) (hl:∀ r∈rows,r.length=size) (hn:rows.length=n):Tab W W.heap.size size v rows:=by
 subst hn
 exact ⟨Row.of_owns h,hl,fun k e _=>(h.lt k e).2⟩
theorem Tab.other {W:World} {n0 size:Nat} {v:Value} {rows:List (List Value)} (h:Tab W n0 size v rows) {a:Addr} (ha:v.ownBlock≠some a.block) (u:Value):Tab (W.setCell a u) n0 size v rows :=
 ⟨h.row.same fun k e=>Below.heap_setCell _ _ _ _ (fun e2=>ha (by rw [e,e2])),h.len,h.blk⟩
theorem flatten_set {rows:List (List Value)} {size i j:Nat} {r:List Value} {u:Value} (hl:∀ r∈rows,r.length=size) (hi:rows[i]?=some r) (hj:j<size) :
  rows.flatten.set (i * size+j) u=(rows.set i (r.set j u)).flatten:=by
 induction i generalizing rows with
 | zero =>
  cases rows with
  | nil=>simp at hi
  | cons a rows =>
   simp at hi;subst hi
   have ha:a.length=size:=hl a (by simp)
   simp only [List.flatten_cons,List.set_cons_zero,Nat.zero_mul,Nat.zero_add]
   rw [List.set_append_left _ _ (by omega)]
 | succ i ih =>
  cases rows with
  | nil=>simp at hi
  | cons a rows =>
   have ha:a.length=size:=hl a (by simp)
   have:=ih (rows:=rows) (fun r hr=>hl r (by simp [hr])) (by simpa using hi)
   simp only [List.flatten_cons,List.set_cons_succ]
   rw [List.set_append_right _ _ (by rw [ha,Nat.add_mul];omega),← this,ha,show (i+1) * size+j - size=i * size+j by rw [Nat.add_mul];omega]
theorem fits_m1:fits64 (-1):=by unfold fits64;decide
theorem fits_100:fits64 100:=by unfold fits64;decide
theorem le_max1:1≤maxLen:=by decide
theorem le_max2:2≤maxLen:=by decide
theorem le_max3:3≤maxLen:=by decide
theorem zip_map {α β γ:Type} (f:α→β→γ) (ps:List (α × β)):List.zipWith f (ps.map Prod.fst) (ps.map Prod.snd)=ps.map fun p=>f p.1 p.2:=by
 induction ps with
 | nil=>rfl
 | cons a ps ih=>simp [ih]
theorem RegsIn.nil {W:World} {n0:Nat}:RegsIn W n0 (.slice none 0 0) []:=.mk [] rfl ⟨rfl,Or.inl ⟨rfl,rfl⟩⟩ (fun k e _=>by cases e) (by simp) (by simp)
theorem ClsIn.of {W:World} {n0:Nat} {v:Value} (ps:List (Cls × Value)) (h:Tab W n0 2 v (ps.map fun p=>[.string p.1.name,p.2])) (hs:∀ p∈ps,StrsIn W n0 p.2 p.1.regs):ClsIn W n0 v (ps.map Prod.fst):=by
 refine ⟨ps.map Prod.snd,by simp,?_,fun i c u hc hu=>?_⟩
 ·rw [zip_map];exact h
 ·cases hp:ps[i]? with
  | none=>simp [hp] at hc
  | some p =>
   simp [hp] at hc hu
   subst hc;subst hu
   exact hs p (List.mem_of_getElem? hp)
theorem OpsIn.of {W:World} {n0:Nat} {v:Value} (ps:List (Opn × (Value × Value))) (h:Tab W n0 6 v (ps.map fun p=>[.string p.1.name,.string p.1.dfn.cls,.string p.1.dfn.fix,p.2.1,.int .i64 p.1.tie,p.2.2]))
  (hs:∀ p∈ps,OprsIn W n0 p.2.1 p.1.uses∧StrsIn W n0 p.2.2 p.1.clob∧fits64 p.1.tie):OpsIn W n0 v (ps.map Prod.fst):=by
 refine ⟨ps.map Prod.snd,by simp,?_,fun i c u hc hu=>?_⟩
 ·rw [zip_map];exact h
 ·cases hp:ps[i]? with
  | none=>simp [hp] at hc
  | some p =>
   simp [hp] at hc hu
   subst hc;subst hu
   exact hs p (List.mem_of_getElem? hp)
theorem StrsIn.nil {W:World} {n0:Nat}:StrsIn W n0 (.slice none 0 0) []:=Tab.nil
theorem namesS_len (n:Nat):(namesS n).length=n:=by simp [namesS]
variable {W : World} {n B bR cR bG cG s : Nat}
abbrev vG (bG n cG:Nat):Value:=.slice (some ⟨bG,0,none⟩) n cG
def opsV (s:Nat):List (Opn × (Value × Value)) :=
 [(⟨addN,gO,[gO,gO],-1,[]⟩,.slice (some ⟨s+2,0,none⟩) 2 2,.slice none 0 0),(⟨notN,gO,[gO],-1,[]⟩,.slice (some ⟨s+3,0,none⟩) 1 1,.slice none 0 0),(⟨divN,gO,[gO,gO],-1,[]⟩,.slice (some ⟨s+4,0,none⟩) 2 2,.slice none 0 0)]
def opRow (p:Opn × (Value × Value)):List Value:=[.string p.1.name,.string p.1.dfn.cls,.string p.1.dfn.fix,p.2.1,.int .i64 p.1.tie,p.2.2]
theorem SmLay.rgT (h:SmLay W n B bR cR bG cG s):StrsIn W W.heap.size (vG bG n cG) (namesS n):=StrsIn.of_owns h.rg (namesS_len n)
theorem SmLay.clsT (h:SmLay W n B bR cR bG cG s):Tab W (s+1) 2 (.slice (some ⟨s,0,none⟩) 1 1) [[.string gN,vG bG n cG]] :=
 Tab.of_new (rows:=[[.string gN,vG bG n cG]]) h.cls (by simp) le_max1
theorem SmLay.u0T (h:SmLay W n B bR cR bG cG s):OprsIn W (s+3) (.slice (some ⟨s+2,0,none⟩) 2 2) [gO,gO] :=
 Tab.of_new (rows:=[[.string gN,.string ⟨#[]⟩],[.string gN,.string ⟨#[]⟩]]) h.u0 (by simp) le_max2
theorem SmLay.u1T (h:SmLay W n B bR cR bG cG s):OprsIn W (s+4) (.slice (some ⟨s+3,0,none⟩) 1 1) [gO] :=
 Tab.of_new (rows:=[[.string gN,.string ⟨#[]⟩]]) h.u1 (by simp) le_max1
theorem SmLay.u2T (h:SmLay W n B bR cR bG cG s):OprsIn W (s+5) (.slice (some ⟨s+4,0,none⟩) 2 2) [gO,gO] :=
 Tab.of_new (rows:=[[.string gN,.string ⟨#[]⟩],[.string gN,.string ⟨#[]⟩]]) h.u2 (by simp) le_max2
theorem SmLay.opsT (h:SmLay W n B bR cR bG cG s):Tab W (s+6) 6 (.slice (some ⟨s+5,0,none⟩) 3 3) ((opsV s).map opRow) :=
 Tab.of_new (rows:=(opsV s).map opRow) h.ops (by simp [opsV,opRow]) le_max3
theorem SmLay.argsT (h:SmLay W n B bR cR bG cG s):StrsIn W (s+7) (.slice (some ⟨s+6,0,none⟩) 1 1) [nmS 0] :=
 Tab.of_new (rows:=[[.string (nmS 0)]]) h.args (by simp) le_max1
theorem SmLay.size (h:SmLay W n B bR cR bG cG s):s+7≤W.heap.size:=by
 have:=(Array.getElem?_eq_some_iff.1 h.args).1
 omega
end Go.Proofs.YtligiddaampneaaGreat
end
section
namespace Go.Proofs.YtligiddaampneaaGreat
theorem ba_bne {a b:ByteArray} (h:a≠b):(a == b)=false:=by
 cases hh:a == b with
 | false=>rfl
 | true=>exact absurd ((ba_beq a b).1 hh) h
theorem goS_all {α:Type} {f:Nat→α→Except Int Unit} {l:List α} {j:Nat} (h:∀ i x,l[i]?=some x→f (j+i) x=.ok ()):goS f j l=.ok ():=by
 induction l generalizing j with
 | nil=>rfl
 | cons x l ih =>
  have h0:=h 0 x rfl
  simp only [Nat.add_zero] at h0
  simp only [goS,h0]
  exact ih fun i y hy=>by have:=h (i+1) y (by simpa using hy);rwa [show j+(i+1)=j+1+i by omega] at this
theorem fidx_at {α:Type} {p:α→Bool} {l:List α} {i:Nat} {x:α} (hx:l[i]?=some x) (hp:p x=true) (hb:∀ j y,j<i→l[j]?=some y→p y=false):fidx p l=(i:Int):=by
 obtain ⟨hlt,e⟩:=List.getElem?_eq_some_iff.1 hx
 have:l.findIdx? p=some i:=by
  rw [List.findIdx?_eq_some_iff_getElem]
  refine ⟨hlt,by rw [e];exact hp,fun j hj=>?_⟩
  simpa using hb j _ hj (lE (by omega))
 unfold fidx;rw [this]
theorem fidx_none {α:Type} {p:α→Bool} {l:List α} (h:∀ x∈l,p x=false):fidx p l = -1:=by
 have:l.findIdx? p=none:=by rw [List.findIdx?_eq_none_iff];exact h
 unfold fidx;rw [this]
theorem idx_not {l:List ByteArray} {s:ByteArray} (h:s∉l):idx l s = -1 :=
 fidx_none (p:=fun x=>x == s) fun x hx=>by
  have:x≠s:=fun e=>h (e ▸ hx)
  exact ba_bne this
theorem idx_mem {l:List ByteArray} {s:ByteArray} (h:s∈l):∃ i:Nat,idx l s=(i:Int)∧l[i]?=some s:=by
 unfold idx
 cases hf:l.findIdx? (fun x=>x == s) with
 | none =>
  rw [List.findIdx?_eq_none_iff] at hf
  have:=hf s h
  rw [(ba_beq s s).2 rfl] at this
  cases this
 | some i =>
  rw [List.findIdx?_eq_some_iff_getElem] at hf
  obtain ⟨hlt,he,_⟩:=hf
  exact ⟨i,rfl,by rw [lE hlt,(ba_beq _ _).1 he]⟩
end Go.Proofs.YtligiddaampneaaGreat
end
