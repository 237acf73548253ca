/- A part of the proof, joined of several texts: the laws' own machine, what the check answers of it and of its changed ones. No condition. -/
import Derived.Test.YthomndfagpeniaaMgF
import Derived.IntWalk
import Derived.WalkSpells
section
namespace Go.Proofs.Ythomndfagpeniaa

def digS : ByteArray := ⟨#[48, 49, 50, 51, 52, 53, 54, 55, 56, 57]⟩
/-- The i-th name. -/
def nmS (i : Nat) : ByteArray := (⟨#[114]⟩ ++ digS.extract (i / 10) (i / 10 + 1)) ++ digS.extract (i % 10) (i % 10 + 1)
def unS (s : ByteArray) : Nat := match s.data.toList with | [_, a, b] => (a.toNat - 48) * 10 + (b.toNat - 48) | _ => 0
theorem nmS_un : ∀ i, i < 100 → unS (nmS i) = i := by
  have h : (List.range 100).all (fun i => unS (nmS i) == i) = true := by kernel_rfl
  intro i hi
  have := List.all_eq_true.1 h i (List.mem_range.2 hi)
  simpa using this
theorem nmS_named : ∀ i, i < 100 → namedS (nmS i) = true := by
  have h : (List.range 100).all (fun i => namedS (nmS i)) = true := by kernel_rfl
  intro i hi
  exact List.all_eq_true.1 h i (List.mem_range.2 hi)
theorem nmS_inj {i j : Nat} (hi : i < 100) (hj : j < 100) (h : nmS i = nmS j) : i = j := by
  rw [← nmS_un i hi, ← nmS_un j hj, h]
def gN : ByteArray := ⟨#[103]⟩
def mN : ByteArray := ⟨#[109]⟩
def addN : ByteArray := ⟨#[97, 100, 100]⟩
def notN : ByteArray := ⟨#[110, 111, 116]⟩
def divN : ByteArray := ⟨#[100, 105, 118]⟩
def gO : Opr := ⟨gN, ⟨#[]⟩⟩
def regsS (n : Nat) : List RegT := (List.range n).map fun i => .mk (nmS i) 8 0 []
def namesS (n : Nat) : List ByteArray := (List.range n).map nmS
/-- The machine. -/
def smallM (n : Nat) : Mach :=
  { name := mN, regs := regsS n, classes := [⟨gN, namesS n⟩], ops := [⟨addN, gO, [gO, gO], -1, []⟩, ⟨notN, gO, [gO], -1, []⟩, ⟨divN, gO, [gO, gO], -1, []⟩],
    args := [nmS 0], result := nmS 0, saved := [], slots := 100 }
def cellsR (n : Nat) : List Value := (List.range n).flatMap fun i => [.string (nmS i), .int .i64 8, .int .i64 0, .slice none 0 0]
theorem cellsR_succ (n : Nat) : cellsR (n + 1) = cellsR n ++ [.string (nmS n), .int .i64 8, .int .i64 0, .slice none 0 0] := by
  unfold cellsR; rw [List.range_succ, List.flatMap_append]; rfl
theorem namesS_succ (n : Nat) : (namesS (n + 1)).map Value.string = (namesS n).map Value.string ++ [.string (nmS n)] := by
  unfold namesS; rw [List.range_succ]; simp

/-- How the machine lies in memory: the registers' row, the class's row, and from s on what is laid behind them. -/
structure SmLay (W : World) (n B bR cR bG cG s : Nat) : Prop where
  regs : W.ownsRow B 38 4 (.slice (some ⟨bR, 0, none⟩) n cR) n (cellsR n)
  rg : W.ownsRow B 9 1 (.slice (some ⟨bG, 0, none⟩) n cG) n ((namesS n).map Value.string)
  cls : W.heap[s]? = some (.cells #[.string gN, .slice (some ⟨bG, 0, none⟩) n cG] 40 (0, 0))
  u0 : W.heap[s + 2]? = some (.cells #[.string gN, .string ⟨#[]⟩, .string gN, .string ⟨#[]⟩] 42 (0, 0))
  u1 : W.heap[s + 3]? = some (.cells #[.string gN, .string ⟨#[]⟩] 42 (0, 0))
  u2 : W.heap[s + 4]? = some (.cells #[.string gN, .string ⟨#[]⟩, .string gN, .string ⟨#[]⟩] 42 (0, 0))
  ops : W.heap[s + 5]? = some (.cells #[.string addN, .string gN, .string ⟨#[]⟩, .slice (some ⟨s + 2, 0, none⟩) 2 2, .int .i64 (-1), .slice none 0 0,
    .string notN, .string gN, .string ⟨#[]⟩, .slice (some ⟨s + 3, 0, none⟩) 1 1, .int .i64 (-1), .slice none 0 0,
    .string divN, .string gN, .string ⟨#[]⟩, .slice (some ⟨s + 4, 0, none⟩) 2 2, .int .i64 (-1), .slice none 0 0] 45 (0, 0))
  args : W.heap[s + 6]? = some (.cells #[.string (nmS 0)] 9 (0, 0))
  bs : B ≤ s
  br : B ≤ bR ∧ bR < s
  bg : B ≤ bG ∧ bG < s
  ne : bR ≠ bG
end Go.Proofs.Ythomndfagpeniaa
end

section
namespace Go.Proofs.Ythomndfagpeniaa
open Go.RowKit
attribute [local go_sem] Oper.semAt_some

theorem infoReg : (Try.prog.info? 38).map (fun i => (i.zero, i.size, i.bytes)) = some (some (.agg #[.string ByteArray.empty, .int .i64 0, .int .i64 0, .slice none 0 0]), 4, 56) := by kernel_rfl
theorem owns_two {w : World} {b1 b2 s1 s2 : Nat} {e1 e2 : TypeId} {v1 v2 : Value} {n1 n2 : Nat} {x1 x2 : List Value} (h1 : w.ownsRow b1 e1 s1 v1 n1 x1) (h2 : w.ownsRow b2 e2 s2 v2 n2 x2) (hne : e1 ≠ e2) : v1.ownBlock = none ∨ v1.ownBlock ≠ v2.ownBlock := by
  rcases h1.2 with ⟨rfl, _⟩ | ⟨g1, c1, u1, rfl, _, hg1, _⟩
  · exact Or.inl rfl
  · right
    intro e
    exact owns_ne h2 hg1 (Ne.symm hne) e.symm
theorem grown_blk {w w' : World} {base size q : Nat} {e : TypeId} {v : Value} {n : Nat} {xs : List Value} {o ob : Obj} (h : w.ownsRow base e size v n xs) (hg : (w.alloc o).grownBy w' v.ownBlock) (hq : q < base) (hb : w.heap[q]? = some ob) : w'.heap[q]? = some ob := by
  have hl : q < w.heap.size := (Array.getElem?_eq_some_iff.1 hb).1
  refine (hg.block q (by simp; omega) (fun e => by have := (h.lt _ e.symm).1; omega)).trans ((Ext.alloc w o).block hb)
theorem blk_cell {w : World} {q : Nat} {l : List Value} {t : TypeId} (h : w.heap[q]? = some (.cells l.toArray t (0, 0))) (j : Nat) (v : Value) (hv : l[j]? = some v) : w.cell? ⟨q, j, none⟩ = some v := by
  simp only [World.cell?, h]; simpa using hv
theorem blk_free {w : World} {q : Nat} {l : List Value} {t : TypeId} (h : w.heap[q]? = some (.cells l.toArray t (0, 0))) (j : Nat) : w.frozen? ⟨q, j, none⟩ = false := by
  simp [World.frozen?, h]
theorem news_set (w : World) (a : Addr) (u : Value) (l : List Value) (t : TypeId) : ∀ (j : Nat) (v : Value), l[j]? = some v → ((w.setCell a u).alloc (.cells l.toArray t)).cell? (Addr.add ⟨w.heap.size, 0, none⟩ j) = some v := by
  intro j v hv
  have hz : (w.setCell a u).heap.size = w.heap.size := by simp [World.setCell]
  have := heap_alloc_new (w.setCell a u) (.cells l.toArray t)
  rw [hz] at this
  exact World.news_of_block this j v (by simpa using hv)
theorem sa_blk {w : World} {a : Addr} {v : Value} {o ob : Obj} {q : Nat} (hq : q ≠ a.block) (h : w.heap[q]? = some ob) : ((w.setCell a v).alloc o).heap[q]? = some ob := (Ext.alloc _ _).block ((Below.heap_setCell _ _ _ _ hq).trans h)
theorem sa_set {w : World} {b i : Nat} {v : Value} {o : Obj} {cs : Array Value} {e : TypeId} {fz : Nat × Nat} (h : w.heap[b]? = some (.cells cs e fz)) : ((w.setCell ⟨b, i, none⟩ v).alloc o).heap[b]? = some (.cells (cs.setIfInBounds i v) e fz) := (Ext.alloc _ _).block (heap_set_cells h i v)
theorem set_size (w : World) (a : Addr) (v : Value) : (w.setCell a v).heap.size = w.heap.size := by simp [World.setCell]
theorem sa_new {w : World} {a : Addr} {v : Value} {cs : Array Value} {e : TypeId} : ((w.setCell a v).alloc (.cells cs e)).heap[w.heap.size]? = some (.cells cs e (0, 0)) := by
  have := heap_alloc_new (w.setCell a v) (.cells cs e)
  rw [set_size] at this; exact this
theorem sa_size (w : World) (a : Addr) (v : Value) (o : Obj) : ((w.setCell a v).alloc o).heap.size = w.heap.size + 1 := by simp
theorem al4 (w : World) (n : Nat) (hn : w.heap.size = n) (o0 o1 o2 o3 : Obj) : Ext w ((((w.alloc o0).alloc o1).alloc o2).alloc o3) ∧ ((((w.alloc o0).alloc o1).alloc o2).alloc o3).heap.size = n + 4 ∧
    ((((w.alloc o0).alloc o1).alloc o2).alloc o3).heap[n]? = some o0 ∧ ((((w.alloc o0).alloc o1).alloc o2).alloc o3).heap[n + 1]? = some o1 ∧ ((((w.alloc o0).alloc o1).alloc o2).alloc o3).heap[n + 2]? = some o2 ∧ ((((w.alloc o0).alloc o1).alloc o2).alloc o3).heap[n + 3]? = some o3 := by
  subst hn
  have e0 := heap_alloc_new w o0
  have e1 := heap_alloc_new (w.alloc o0) o1
  have e2 := heap_alloc_new ((w.alloc o0).alloc o1) o2
  have e3 := heap_alloc_new (((w.alloc o0).alloc o1).alloc o2) o3
  have s1 : (w.alloc o0).heap.size = w.heap.size + 1 := by simp
  have s2 : ((w.alloc o0).alloc o1).heap.size = w.heap.size + 2 := by simp
  have s3 : (((w.alloc o0).alloc o1).alloc o2).heap.size = w.heap.size + 3 := by simp
  have s4 : ((((w.alloc o0).alloc o1).alloc o2).alloc o3).heap.size = w.heap.size + 4 := by simp
  rw [s1] at e1
  rw [s2] at e2
  rw [s3] at e3
  have x1 := Ext.alloc (w.alloc o0) o1
  have x2 := Ext.alloc ((w.alloc o0).alloc o1) o2
  have x3 := Ext.alloc (((w.alloc o0).alloc o1).alloc o2) o3
  exact ⟨(((Ext.alloc w o0).trans x1).trans x2).trans x3, s4, x3.block (x2.block (x1.block e0)), x3.block (x2.block e1), x3.block e2, e3⟩
/-- Before round k. -/
def SmAt (W : World) (k : Nat) (W' : World) : Prop :=
  Ext W W' ∧ ∃ vR vG, W'.heap[W.heap.size]? = some (.cells #[.string ⟨#[]⟩, .slice none 0 0, .slice none 0 0, .slice none 0 0, .slice none 0 0, .string ⟨#[]⟩, .slice none 0 0, .int .i64 0] 27 (0, 0)) ∧ W'.heap[W.heap.size + 1]? = some (.cells #[.string mN, vR, .slice none 0 0, .slice none 0 0, .slice none 0 0, .string ⟨#[]⟩, .slice none 0 0, .int .i64 100] 27 (0, 0)) ∧
    W'.heap[W.heap.size + 2]? = some (.cells #[.string gN, vG] 40 (0, 0)) ∧
    W'.ownsRow (W.heap.size + 3) 38 4 vR k (cellsR k) ∧ W'.ownsRow (W.heap.size + 3) 9 1 vG k ((namesS k).map Value.string)
def SmallPost (W : World) (n : Nat) (e : Ending) (W' : World) : Prop :=
  Ext W W' ∧ ∃ bR cR bG cG s, e = .returned (.agg #[.string mN, .slice (some ⟨bR, 0, none⟩) n cR, .slice (some ⟨s, 0, none⟩) 1 1, .slice (some ⟨s + 5, 0, none⟩) 3 3, .slice (some ⟨s + 6, 0, none⟩) 1 1, .string (nmS 0), .slice none 0 0, .int .i64 100]) ∧
    SmLay W' n W.heap.size bR cR bG cG s

set_option maxRecDepth 100000 in
set_option maxHeartbeats 4000000 in
theorem small_any (n : Nat) (h1 : 1 ≤ n) (hn : n ≤ 60) (W : World) : Calls Try.prog 14 #[.int .i64 (n : Int)] W (SmallPost W n) := by
  obtain ⟨iR, hiR, zR0, zR1, zR2⟩ := info_parts infoReg
  obtain ⟨iS, hiS, zS0, zS1, zS2⟩ := info_parts infoStr
  go_enter Try.func14, Try.ntmps14
  go_wp2
  simp only [Nat.add_assoc, Nat.reduceAdd]
  have X0 : Ext W (((W.alloc (.cells #[.string ⟨#[]⟩, .slice none 0 0, .slice none 0 0, .slice none 0 0, .slice none 0 0, .string ⟨#[]⟩, .slice none 0 0, .int .i64 0] 27)).alloc (.cells #[.string ⟨#[109]⟩, .slice none 0 0, .slice none 0 0, .slice none 0 0, .slice none 0 0, .string ⟨#[]⟩, .slice none 0 0, .int .i64 100] 27)).alloc (.cells #[.string ⟨#[103]⟩, .slice none 0 0] 40)) := ((Ext.alloc _ _).trans (Ext.alloc _ _)).trans (Ext.alloc _ _)
  have q0 : (((W.alloc (.cells #[.string ⟨#[]⟩, .slice none 0 0, .slice none 0 0, .slice none 0 0, .slice none 0 0, .string ⟨#[]⟩, .slice none 0 0, .int .i64 0] 27)).alloc (.cells #[.string ⟨#[109]⟩, .slice none 0 0, .slice none 0 0, .slice none 0 0, .slice none 0 0, .string ⟨#[]⟩, .slice none 0 0, .int .i64 100] 27)).alloc (.cells #[.string ⟨#[103]⟩, .slice none 0 0] 40)).heap[W.heap.size]? = some (.cells #[.string ⟨#[]⟩, .slice none 0 0, .slice none 0 0, .slice none 0 0, .slice none 0 0, .string ⟨#[]⟩, .slice none 0 0, .int .i64 0] 27 (0, 0)) := (Ext.alloc _ _).block ((Ext.alloc _ _).block (heap_alloc_new W _))
  have q1 : (((W.alloc (.cells #[.string ⟨#[]⟩, .slice none 0 0, .slice none 0 0, .slice none 0 0, .slice none 0 0, .string ⟨#[]⟩, .slice none 0 0, .int .i64 0] 27)).alloc (.cells #[.string ⟨#[109]⟩, .slice none 0 0, .slice none 0 0, .slice none 0 0, .slice none 0 0, .string ⟨#[]⟩, .slice none 0 0, .int .i64 100] 27)).alloc (.cells #[.string ⟨#[103]⟩, .slice none 0 0] 40)).heap[W.heap.size + 1]? = some (.cells #[.string ⟨#[109]⟩, .slice none 0 0, .slice none 0 0, .slice none 0 0, .slice none 0 0, .string ⟨#[]⟩, .slice none 0 0, .int .i64 100] 27 (0, 0)) := (Ext.alloc _ _).block (by
    have := heap_alloc_new (W.alloc (.cells #[.string ⟨#[]⟩, .slice none 0 0, .slice none 0 0, .slice none 0 0, .slice none 0 0, .string ⟨#[]⟩, .slice none 0 0, .int .i64 0] 27)) (.cells #[.string ⟨#[109]⟩, .slice none 0 0, .slice none 0 0, .slice none 0 0, .slice none 0 0, .string ⟨#[]⟩, .slice none 0 0, .int .i64 100] 27)
    rw [show (W.alloc (.cells #[.string ⟨#[]⟩, .slice none 0 0, .slice none 0 0, .slice none 0 0, .slice none 0 0, .string ⟨#[]⟩, .slice none 0 0, .int .i64 0] 27)).heap.size = W.heap.size + 1 by simp] at this
    exact this)
  have q2 := heap_alloc_new ((W.alloc (.cells #[.string ⟨#[]⟩, .slice none 0 0, .slice none 0 0, .slice none 0 0, .slice none 0 0, .string ⟨#[]⟩, .slice none 0 0, .int .i64 0] 27)).alloc (.cells #[.string ⟨#[109]⟩, .slice none 0 0, .slice none 0 0, .slice none 0 0, .slice none 0 0, .string ⟨#[]⟩, .slice none 0 0, .int .i64 100] 27)) (.cells #[.string ⟨#[103]⟩, .slice none 0 0] 40)
  rw [show ((W.alloc (.cells #[.string ⟨#[]⟩, .slice none 0 0, .slice none 0 0, .slice none 0 0, .slice none 0 0, .string ⟨#[]⟩, .slice none 0 0, .int .i64 0] 27)).alloc (.cells #[.string ⟨#[109]⟩, .slice none 0 0, .slice none 0 0, .slice none 0 0, .slice none 0 0, .string ⟨#[]⟩, .slice none 0 0, .int .i64 100] 27)).heap.size = W.heap.size + 2 by simp] at q2
  generalize ((W.alloc (.cells #[.string ⟨#[]⟩, .slice none 0 0, .slice none 0 0, .slice none 0 0, .slice none 0 0, .string ⟨#[]⟩, .slice none 0 0, .int .i64 0] 27)).alloc (.cells #[.string ⟨#[109]⟩, .slice none 0 0, .slice none 0 0, .slice none 0 0, .slice none 0 0, .string ⟨#[]⟩, .slice none 0 0, .int .i64 100] 27)).alloc (.cells #[.string ⟨#[103]⟩, .slice none 0 0] 40) = W1 at X0 q0 q1 q2 ⊢
  have start : Hid (SmAt W 0 W1) := Lib.hid ⟨X0, _, _, q0, q1, q2, World.ownsRow_nil _ _ _ _, World.ownsRow_nil _ _ _ _⟩
  clear X0 q0 q1 q2
  go_loopw [5] (fun i wr => ∃ k : Nat, k ≤ n ∧ i = .int .i64 k ∧ Hid (SmAt W k wr)) (fun i _ => n - (intOf i).toNat)
  case atStart => exact ⟨0, by omega, rfl, start⟩
  case round =>
    clear start
    obtain ⟨k, hk, rfl, hin⟩ := hrel
    obtain ⟨X1, vR, vG, b0, b1, b2, oR, oG⟩ := hin.out
    obtain ⟨aR, cR, rfl, hR1, hR2⟩ := (Row.of_owns oR).shape
    obtain ⟨aG, cG, rfl, hG1, hG2⟩ := (Row.of_owns oG).shape
    unfold maxLen at hR2 hG2
    by_cases hkn : k < n
    · have hkz : (k : Int) < (n : Int) := by omega
      have e3 : IntKind.i64.wrap ((k : Int) / 10) = ((k / 10 : Nat) : Int) := by rw [IntWalk.i64_in _ (by omega)]; omega
      have e5 : IntKind.i64.wrap (((k / 10 : Nat) : Int) + 1) = ((k / 10 + 1 : Nat) : Int) := by rw [IntWalk.i64_in _ (by omega)]; omega
      have e6 : (k : Int).tmod 10 = ((k % 10 : Nat) : Int) := by rw [Int.tmod_eq_emod_of_nonneg (by omega)]; omega
      have e7 : IntKind.i64.wrap (((k % 10 : Nat) : Int) + 1) = ((k % 10 + 1 : Nat) : Int) := by rw [IntWalk.i64_in _ (by omega)]; omega
      have g2 : ((k / 10 + 1 : Nat) : Int) ≤ 10 := by omega
      have g2' : ((k / 10 : Nat) : Int) ≤ ((k / 10 + 1 : Nat) : Int) := by omega
      have g3 : ((k % 10 + 1 : Nat) : Int) ≤ 10 := by omega
      have g3' : ((k % 10 : Nat) : Int) ≤ ((k % 10 + 1 : Nat) : Int) := by omega
      have j2 : (0 : Int) ≤ ((k / 10 + 1 : Nat) : Int) := by omega
      have j2' : (0 : Int) ≤ ((k / 10 : Nat) : Int) := by omega
      have j3 : (0 : Int) ≤ ((k % 10 + 1 : Nat) : Int) := by omega
      have j3' : (0 : Int) ≤ ((k % 10 : Nat) : Int) := by omega
      obtain ⟨D2, hD2⟩ : ∃ n, k / 10 = n := ⟨_, rfl⟩
      obtain ⟨D2s, hD2s⟩ : ∃ n, k / 10 + 1 = n := ⟨_, rfl⟩
      obtain ⟨D3, hD3⟩ : ∃ n, k % 10 = n := ⟨_, rfl⟩
      obtain ⟨D3s, hD3s⟩ : ∃ n, k % 10 + 1 = n := ⟨_, rfl⟩
      simp only [hD2s, hD3s] at e3 e5 e6 e7 g2 g2' g3 g3' j2 j2' j3 j3'
      simp only [hD2, hD3] at e3 e5 e6 e7 g2 g2' g3 g3' j2 j2' j3 j3'
      have hnm : Hid (nmS k = (⟨#[114]⟩ ++ digS.extract D2 D2s) ++ digS.extract D3 D3s) := Lib.hid (by unfold nmS; rw [hD2s, hD3s, hD2, hD3])
      clear hD2 hD2s hD3 hD3s
      have m1 : ¬ 9223372036854775807 < 1 + (min D2s 10 - D2) := by omega
      have m2 : ¬ 9223372036854775807 < 1 + (min D2s 10 - D2) + (min D3s 10 - D3) := by omega
      have B0 := Lib.hid b0
      have B1 := Lib.hid b1
      have B2 := Lib.hid b2
      have OR := Lib.hid oR
      have OG := Lib.hid oG
      have XX := Lib.hid X1
      clear b0 b1 b2 oR oG X1 hin
      go_wp2_with fail
      rename_i K1 hK1
      have hK1 := Lib.hid hK1
      refine wp_region_M (fun _ => True) 14 (by kernel_rfl) (?_) (fun hS => ?_)
      · trivial
      refine wpAnyM_take (v := ?_) 0 rfl (by kernel_rfl) (fun _ _ _ h => h) hS rfl ?_ ?_; rotate_left; · (intro w hSw; skip; (try dsimp only at hSw); go_simp; try with_reducible rfl)
      (try simp only [Act.put, List.setIfInBounds_toArray, List.set_cons_zero, List.set_cons_succ])
      refine wpAnyM_take (v := ?_) 1 rfl (by kernel_rfl) (fun _ _ _ h => h) hS rfl ?_ ?_; rotate_left; · (intro w hSw; skip; (try dsimp only at hSw); go_simp; try with_reducible rfl)
      (try simp only [Act.put, List.setIfInBounds_toArray, List.set_cons_zero, List.set_cons_succ])
      refine wpAnyM_take (v := ?_) 2 rfl (by kernel_rfl) (fun _ _ _ h => h) hS rfl ?_ ?_; rotate_left; · (intro w hSw; skip; (try dsimp only at hSw); go_simp; try with_reducible rfl)
      (try simp only [Act.put, List.setIfInBounds_toArray, List.set_cons_zero, List.set_cons_succ])
      refine wpAnyM_take (v := ?_) 3 rfl (by kernel_rfl) (fun _ _ _ h => h) hS rfl ?_ ?_; rotate_left; · (intro w hSw; skip; (try dsimp only at hSw); go_simp; try with_reducible rfl)
      (try simp only [Act.put, List.setIfInBounds_toArray, List.set_cons_zero, List.set_cons_succ])
      refine wpAnyM_take (v := ?_) 4 rfl (by kernel_rfl) (fun _ _ _ h => h) hS rfl ?_ ?_; rotate_left; · (intro w hSw; skip; (try dsimp only at hSw); go_simp; try with_reducible rfl)
      (try simp only [Act.put, List.setIfInBounds_toArray, List.set_cons_zero, List.set_cons_succ])
      refine wpAnyM_take (v := ?_) 5 rfl (by kernel_rfl) (fun _ _ _ h => h) hS rfl ?_ ?_; rotate_left; · (intro w hSw; skip; (try dsimp only at hSw); go_simp; try with_reducible rfl)
      (try simp only [Act.put, List.setIfInBounds_toArray, List.set_cons_zero, List.set_cons_succ])
      refine wpAnyM_take (v := ?_) 6 rfl (by kernel_rfl) (fun _ _ _ h => h) hS rfl ?_ ?_; rotate_left; · (intro w hSw; skip; (try dsimp only at hSw); go_simp; try with_reducible rfl)
      (try simp only [Act.put, List.setIfInBounds_toArray, List.set_cons_zero, List.set_cons_succ])
      refine wpAnyM_take (v := ?_) 7 rfl (by kernel_rfl) (fun _ _ _ h => h) hS rfl ?_ ?_; rotate_left; · (intro w hSw; skip; (try dsimp only at hSw); go_simp; try with_reducible rfl)
      (try simp only [Act.put, List.setIfInBounds_toArray, List.set_cons_zero, List.set_cons_succ])
      refine wpAnyM_take (v := ?_) 8 rfl (by kernel_rfl) (fun _ _ _ h => h) hS rfl ?_ ?_; rotate_left; · (intro w hSw; skip; (try dsimp only at hSw); go_simp; try with_reducible rfl)
      (try simp only [Act.put, List.setIfInBounds_toArray, List.set_cons_zero, List.set_cons_succ])
      refine wpAnyM_take (v := ?_) 9 rfl (by kernel_rfl) (fun _ _ _ h => h) hS rfl ?_ ?_; rotate_left; · (intro w hSw; skip; (try dsimp only at hSw); go_simp; try with_reducible rfl)
      (try simp only [Act.put, List.setIfInBounds_toArray, List.set_cons_zero, List.set_cons_succ])
      refine wpAnyM_take (v := ?_) 10 rfl (by kernel_rfl) (fun _ _ _ h => h) hS rfl ?_ ?_; rotate_left; · (intro w hSw; skip; (try dsimp only at hSw); go_simp; try with_reducible rfl)
      (try simp only [Act.put, List.setIfInBounds_toArray, List.set_cons_zero, List.set_cons_succ])
      refine wpAnyM_take (v := ?_) 11 rfl (by kernel_rfl) (fun _ _ _ h => h) hS rfl ?_ ?_; rotate_left; · (intro w hSw; skip; (try dsimp only at hSw); go_simp; try with_reducible rfl)
      (try simp only [Act.put, List.setIfInBounds_toArray, List.set_cons_zero, List.set_cons_succ])
      refine wpAnyM_take (v := ?_) 12 rfl (by kernel_rfl) (fun _ _ _ h => h) hS rfl ?_ ?_; rotate_left; · (intro w hSw; skip; (try dsimp only at hSw); go_simp; try with_reducible rfl)
      (try simp only [Act.put, List.setIfInBounds_toArray, List.set_cons_zero, List.set_cons_succ])
      refine wpAnyM_take (v := ?_) 13 rfl (by kernel_rfl) (fun _ _ _ h => h) hS rfl ?_ ?_; rotate_left; · (intro w hSw; skip; (try dsimp only at hSw); go_simp; try with_reducible rfl)
      (try simp only [Act.put, List.setIfInBounds_toArray, List.set_cons_zero, List.set_cons_succ])
      refine wpAnyM_ready [14] (by kernel_rfl) rfl ?_
      refine AllM.late rfl rfl (by kernel_rfl) (fun K hK => ?_) AllM.nil
      go_simp
      refine hK.out _ _ ?_
      (try simp only [Act.put, List.setIfInBounds_toArray, List.set_cons_zero, List.set_cons_succ])
      clear hK K
      refine wpAnyM_done (by kernel_rfl) ?_ _
      refine hK1.out _ _ ?_
      have hnm2 : ((⟨#[114]⟩ : ByteArray) ++ (⟨#[48, 49, 50, 51, 52, 53, 54, 55, 56, 57]⟩ : ByteArray).extract D2 D2s) ++ (⟨#[48, 49, 50, 51, 52, 53, 54, 55, 56, 57]⟩ : ByteArray).extract D3 D3s = nmS k := hnm.out.symm
      rw [hnm2]
      clear hnm hnm2 e3 e5 e6 e7 g2 g2' g3 g3' j2 j2' j3 j3' m1 m2 hS hK1
      have xd : Ext wr wr.drew := Ext.drew _
      have XD := Lib.hid (XX.out.trans xd)
      have b0 := Ext.block xd B0.out
      have b1 := Ext.block xd B1.out
      have b2 := Ext.block xd B2.out
      have OR := Lib.hid (owns_ext OR.out xd)
      have OG := Lib.hid (owns_ext OG.out xd)
      clear B0 B1 B2 XX xd
      generalize wr.drew = W2 at XD b0 b1 b2 OR OG ⊢
      have lt2 : W.heap.size + 2 < W2.heap.size := (Array.getElem?_eq_some_iff.1 b2).1
      have m1 : W2.cell? ⟨W.heap.size + 1, 1, none⟩ = some (.slice aR k cR) := by simp [World.cell?, b1]
      have f1 : W2.frozen? ⟨W.heap.size + 1, 1, none⟩ = false := by simp [World.frozen?, b1]
      have x3 : Ext W2 (W2.alloc (.cells #[.string (nmS k), .int .i64 8, .int .i64 0, .slice none 0 0] 38)) := Ext.alloc _ _
      have ne := owns_two OG.out OR.out (by decide)
      have B0 := Lib.hid b0
      have B1 := Lib.hid b1
      have B2 := Lib.hid b2
      clear b0 b1 b2
      have news : ∀ (j : Nat) (u : Value), [Value.string (nmS k), .int .i64 8, .int .i64 0, .slice none 0 0][j]? = some u → (W2.alloc (.cells #[.string (nmS k), .int .i64 8, .int .i64 0, .slice none 0 0] 38)).cell? (Addr.add ⟨W2.heap.size, 0, none⟩ j) = some u := World.news_of_block (cs := #[.string (nmS k), .int .i64 8, .int .i64 0, .slice none 0 0]) (t := 38) (fr := (0, 0)) (heap_alloc_new W2 _)
      have NEWS := Lib.hid news
      clear news
      go_wp2_with (first
        | (at_builtin; refine wpList_append_lies _ rfl _ _ 22 rfl (W.heap.size + 3) 38 iR _ 4 56 Try.underlying22 hiR zR0 zR1 zR2 rfl (by omega) (.slice aR k cR) k (cellsR k) rfl (OR.out.alloc _) ⟨W2.heap.size, 0, none⟩ 1 1 [.string (nmS k), .int .i64 8, .int .i64 0, .slice none 0 0] rfl rfl NEWS.out (by simp [Value.oneCell']) (by omega) (by unfold maxLen; omega) (by omega) (by simp; omega) _ rfl ?_; intro g1 cp1 w3 hown1 hgrow1 hat1 hlt1; clear NEWS; have b1 := grown_blk OR.out hgrow1 (by omega) B1.out; have b2 := grown_blk OR.out hgrow1 (by omega) B2.out; have m1 := blk_cell b1 1 _ rfl; have f1 := blk_free b1 1; have m2 := blk_cell b2 1 _ rfl; have B1' := Lib.hid b1; have B2' := Lib.hid b2; have HO1 := Lib.hid hown1; have HG1 := Lib.hid hgrow1; clear b1 b2 hown1 hgrow1 hat1)
        | (at_builtin; refine wpList_append_lies _ rfl _ _ 25 rfl (W.heap.size + 3) 9 iS _ 1 16 Try.underlying25 hiS zS0 zS1 zS2 rfl (by omega) (.slice aG k cG) k ((namesS k).map Value.string) rfl ((ownsRow_setCell_below (World.ownsRow.kept (OG.out.alloc _) HG1.out ne) (by show W.heap.size + 1 < W.heap.size + 3; omega) _).alloc _) ⟨w3.heap.size, 0, none⟩ 1 1 [.string (nmS k)] rfl rfl (news_set _ _ _ _ _) (by simp [Value.oneCell']) (by omega) (by unfold maxLen; omega) (by omega) (by have := HG1.out.size; simp [World.setCell] at this ⊢; omega) _ rfl ?_; intro g2 cp2 w5 hown2 hgrow2 hat2 hlt2; have b2 := grown_blk (ownsRow_setCell_below (World.ownsRow.kept (OG.out.alloc _) HG1.out ne) (by show W.heap.size + 1 < W.heap.size + 3; omega) _) hgrow2 (by omega) ((Below.heap_setCell _ _ _ _ (by show W.heap.size + 2 ≠ W.heap.size + 1; omega)).trans B2'.out); have n1 := blk_cell b2 1 _ rfl; have n2 := blk_free b2 1; have B2'' := Lib.hid b2; have HO2 := Lib.hid hown2; have HG2 := Lib.hid hgrow2; clear b2 hown2 hgrow2 hat2))
      refine ⟨⟨k + 1, by omega, by go_num, ?_⟩, by simp [intOf]; omega⟩
      have lq : W.heap.size + 1 < W.heap.size + 3 := by omega
      have lq2 : W.heap.size + 2 < W.heap.size + 3 := by omega
      have q3 := World.ownsRow.kept (OG.out.alloc (.cells #[.string (nmS k), .int .i64 8, .int .i64 0, .slice none 0 0] 38)) HG1.out ne
      have q4 := ownsRow_setCell_below q3 (a := ⟨W.heap.size + 1, 1, none⟩) lq (.slice (some ⟨g1, 0, none⟩) (k + 1) cp1)
      have r4 := ownsRow_setCell_below HO1.out (a := ⟨W.heap.size + 1, 1, none⟩) lq (.slice (some ⟨g1, 0, none⟩) (k + 1) cp1)
      have r5 := World.ownsRow.kept (r4.alloc (.cells #[.string (nmS k)] 9)) HG2.out (owns_two r4 q4 (by decide))
      have x4 : Ext W w3 := Ext.grown (XD.out.trans x3) HG1.out (fun q e => by have := (OR.out.lt q e).1; omega)
      have x5 : Ext W (w3.setCell ⟨W.heap.size + 1, 1, none⟩ (.slice (some ⟨g1, 0, none⟩) (k + 1) cp1)) := Below.setCell x4 (p := ⟨W.heap.size + 1, 1, none⟩) (by show W.heap.size ≤ W.heap.size + 1; omega) _
      have x7 : Ext W w5 := Ext.grown (x5.trans (Ext.alloc _ _)) HG2.out (fun q e => by have := (OG.out.lt q e).1; omega)
      have b0 := grown_blk q4 HG2.out (by omega) ((Below.heap_setCell _ _ _ W.heap.size (by show W.heap.size ≠ W.heap.size + 1; omega)).trans (grown_blk OR.out HG1.out (by omega) B0.out))
      have b1 := grown_blk q4 HG2.out (by omega) (heap_set_cells B1'.out 1 (.slice (some ⟨g1, 0, none⟩) (k + 1) cp1))
      refine Lib.hid ⟨Below.setCell x7 (p := ⟨W.heap.size + 2, 1, none⟩) (by show W.heap.size ≤ W.heap.size + 2; omega) _, _, _, (Below.heap_setCell _ _ _ _ (by show W.heap.size ≠ W.heap.size + 2; omega)).trans b0,
        (Below.heap_setCell _ _ _ _ (by show W.heap.size + 1 ≠ W.heap.size + 2; omega)).trans b1, heap_set_cells B2''.out 1 _, ?_, ?_⟩
      · rw [cellsR_succ]; exact ownsRow_setCell_below r5 lq2 _
      · rw [namesS_succ]; exact ownsRow_setCell_below HO2.out lq2 _
    · have hkz : ¬ (k : Int) < (n : Int) := by omega
      obtain rfl : k = n := by omega
      have B0 := Lib.hid b0
      have B1 := Lib.hid b1
      have B2 := Lib.hid b2
      have OR := Lib.hid oR
      have OG := Lib.hid oG
      have XX := Lib.hid X1
      have lt2 : W.heap.size + 2 < wr.heap.size := (Array.getElem?_eq_some_iff.1 b2).1
      have lt1 : W.heap.size + 1 < wr.heap.size := by omega
      have lt0 : W.heap.size < wr.heap.size := by omega
      have c0 := blk_cell b2 0 _ rfl
      have c1 := blk_cell b2 1 _ rfl
      have m2 := blk_cell b1 2 _ rfl
      have mf2 := blk_free b1 2
      clear b0 b1 b2 oR oG X1 hin
      go_upto_region 10 with (fail)
      have b0 := sa_blk (a := ⟨W.heap.size + 1, 2, none⟩) (v := .slice (some ⟨wr.heap.size, 0, none⟩) 1 1) (o := .cells #[.string gN, .slice aG k cG] 40) (by show W.heap.size ≠ W.heap.size + 1; omega) B0.out
      have b1 : ((wr.setCell ⟨W.heap.size + 1, 2, none⟩ (.slice (some ⟨wr.heap.size, 0, none⟩) 1 1)).alloc (.cells #[.string gN, .slice aG k cG] 40)).heap[W.heap.size + 1]? = some (.cells #[.string mN, .slice aR k cR, .slice (some ⟨wr.heap.size, 0, none⟩) 1 1, .slice none 0 0, .slice none 0 0, .string ⟨#[]⟩, .slice none 0 0, .int .i64 100] 27 (0, 0)) := sa_set B1.out
      have bc := sa_new (w := wr) (a := ⟨W.heap.size + 1, 2, none⟩) (v := .slice (some ⟨wr.heap.size, 0, none⟩) 1 1) (cs := #[.string gN, .slice aG k cG]) (e := 40)
      have sz := sa_size wr ⟨W.heap.size + 1, 2, none⟩ (.slice (some ⟨wr.heap.size, 0, none⟩) 1 1) (.cells #[.string gN, .slice aG k cG] 40)
      have lq : W.heap.size + 1 < W.heap.size + 3 := by omega
      have oR := (ownsRow_setCell_below OR.out (a := ⟨W.heap.size + 1, 2, none⟩) lq (.slice (some ⟨wr.heap.size, 0, none⟩) 1 1)).alloc (.cells #[.string gN, .slice aG k cG] 40)
      have oG := (ownsRow_setCell_below OG.out (a := ⟨W.heap.size + 1, 2, none⟩) lq (.slice (some ⟨wr.heap.size, 0, none⟩) 1 1)).alloc (.cells #[.string gN, .slice aG k cG] 40)
      have X3 : Ext W ((wr.setCell ⟨W.heap.size + 1, 2, none⟩ (.slice (some ⟨wr.heap.size, 0, none⟩) 1 1)).alloc (.cells #[.string gN, .slice aG k cG] 40)) := Ext.trans (Below.setCell XX.out (p := ⟨W.heap.size + 1, 2, none⟩) (by show W.heap.size ≤ W.heap.size + 1; omega) _) (Ext.alloc _ _)
      have hbR : ∀ q, (Value.slice aR k cR).ownBlock = some q → W.heap.size ≤ q ∧ q < wr.heap.size := fun q e => ⟨by have := (OR.out.lt q e).1; omega, (OR.out.lt q e).2⟩
      have hbG : ∀ q, (Value.slice aG k cG).ownBlock = some q → W.heap.size ≤ q ∧ q < wr.heap.size := fun q e => ⟨by have := (OG.out.lt q e).1; omega, (OG.out.lt q e).2⟩
      have HBR := Lib.hid hbR
      have HBG := Lib.hid hbG
      have NE := Lib.hid (owns_two OG.out OR.out (by decide))
      generalize (wr.setCell ⟨W.heap.size + 1, 2, none⟩ (.slice (some ⟨wr.heap.size, 0, none⟩) 1 1)).alloc (.cells #[.string gN, .slice aG k cG] 40) = W3 at b0 b1 bc sz oR oG X3 ⊢
      clear OR OG B0 B1 B2 XX c0 c1 m2 mf2 hbR hbG
      generalize wr.heap.size = s at *
      have B0 := Lib.hid b0
      have B1 := Lib.hid b1
      have BC := Lib.hid bc
      have OR := Lib.hid oR
      have OG := Lib.hid oG
      have X3 := Lib.hid X3
      have SZ := Lib.hid sz
      clear b0 b1 bc oR oG sz
      go_upto_region 11 with (fail)
      have xa : Ext W3 (W3.alloc (.cells #[.string ⟨#[103]⟩, .string ⟨#[]⟩] 42)) := Ext.alloc _ _
      have bg := heap_alloc_new W3 (.cells #[.string ⟨#[103]⟩, .string ⟨#[]⟩] 42)
      have sz : (W3.alloc (.cells #[.string ⟨#[103]⟩, .string ⟨#[]⟩] 42)).heap.size = s + 2 := by simp [SZ.out]
      have b0 := xa.block B0.out
      have b1 := xa.block B1.out
      have bc := xa.block BC.out
      have oR := owns_ext OR.out xa
      have oG := owns_ext OG.out xa
      have X4 := X3.out.trans xa
      rw [SZ.out] at bg ⊢
      clear B0 B1 BC OR OG X3 SZ
      generalize W3.alloc (.cells #[.string ⟨#[103]⟩, .string ⟨#[]⟩] 42) = W4 at xa bg b0 b1 bc sz oR oG X4 ⊢
      clear xa
      have d0 := blk_cell bg 0 _ rfl
      have d1 := blk_cell bg 1 _ rfl
      have m3 := blk_cell b1 3 _ rfl
      have mf3 := blk_free b1 3
      have B0 := Lib.hid b0
      have B1 := Lib.hid b1
      have BC := Lib.hid bc
      have OR := Lib.hid oR
      have OG := Lib.hid oG
      have X4 := Lib.hid X4
      have SZ := Lib.hid sz
      have l0 : W.heap.size + 1 < W4.heap.size := by omega
      have l1 : s + 1 < W4.heap.size := by omega
      have l2 : s < W4.heap.size := by omega
      have l3 : s + 1 < W4.heap.size + 1 := by omega
      have l4 : s + 1 < W4.heap.size + 2 := by omega
      have l5 : s < W4.heap.size + 1 := by omega
      have l6 : s < W4.heap.size + 2 := by omega
      have l7 : W.heap.size < W4.heap.size := by omega
      have l8 : W.heap.size + 1 < W4.heap.size + 1 := by omega
      have l9 : W.heap.size + 1 < W4.heap.size + 2 := by omega
      have l10 : s + 1 < W4.heap.size + 3 := by omega
      have l11 : s < W4.heap.size + 3 := by omega
      have l12 : W.heap.size + 1 < W4.heap.size + 3 := by omega
      clear b0 b1 bc oR oG sz bg
      go_upto_region 12 with (fail)
      simp only [Nat.add_assoc, Nat.reduceAdd]
      have z4 : (W4.setCell ⟨W.heap.size + 1, 3, none⟩ (.slice (some ⟨W4.heap.size + 3, 0, none⟩) 3 3)).heap.size = s + 2 := by rw [set_size]; exact SZ.out
      have al := al4 _ _ z4 (.cells #[.string ⟨#[103]⟩, .string ⟨#[]⟩, .string ⟨#[103]⟩, .string ⟨#[]⟩] 42) (.cells #[.string ⟨#[103]⟩, .string ⟨#[]⟩] 42) (.cells #[.string ⟨#[103]⟩, .string ⟨#[]⟩, .string ⟨#[103]⟩, .string ⟨#[]⟩] 42)
        (.cells #[.string ⟨#[97, 100, 100]⟩, .string ⟨#[103]⟩, .string ⟨#[]⟩, .slice (some ⟨W4.heap.size, 0, none⟩) 2 2, .int .i64 (-1), .slice none 0 0,
          .string ⟨#[110, 111, 116]⟩, .string ⟨#[103]⟩, .string ⟨#[]⟩, .slice (some ⟨W4.heap.size + 1, 0, none⟩) 1 1, .int .i64 (-1), .slice none 0 0,
          .string ⟨#[100, 105, 118]⟩, .string ⟨#[103]⟩, .string ⟨#[]⟩, .slice (some ⟨W4.heap.size + 2, 0, none⟩) 2 2, .int .i64 (-1), .slice none 0 0] 45)
      obtain ⟨xal, sz, g0, g1, g2, g3⟩ := al
      have lq : W.heap.size + 1 < W.heap.size + 3 := by omega
      have b0 := xal.block ((Below.heap_setCell _ _ (.slice (some ⟨W4.heap.size + 3, 0, none⟩) 3 3) W.heap.size (by show W.heap.size ≠ W.heap.size + 1; omega)).trans B0.out)
      have b1 := xal.block (heap_set_cells B1.out 3 (.slice (some ⟨W4.heap.size + 3, 0, none⟩) 3 3))
      have bc := xal.block ((Below.heap_setCell _ _ (.slice (some ⟨W4.heap.size + 3, 0, none⟩) 3 3) s (by show s ≠ W.heap.size + 1; omega)).trans BC.out)
      have oR := owns_ext (ownsRow_setCell_below OR.out (a := ⟨W.heap.size + 1, 3, none⟩) lq (.slice (some ⟨W4.heap.size + 3, 0, none⟩) 3 3)) xal
      have oG := owns_ext (ownsRow_setCell_below OG.out (a := ⟨W.heap.size + 1, 3, none⟩) lq (.slice (some ⟨W4.heap.size + 3, 0, none⟩) 3 3)) xal
      have X5 : Ext W _ := Ext.trans (Below.setCell X4.out (p := ⟨W.heap.size + 1, 3, none⟩) (by show W.heap.size ≤ W.heap.size + 1; omega) _) xal
      have hsz := SZ.out
      clear SZ l0 l1 l2 l3 l4 l5 l6 l7 l8 l9 l10 l11 l12 B0 B1 BC OR OG X4 z4 xal d0 d1 m3 mf3
      simp only [hsz, Nat.add_assoc, Nat.reduceAdd] at sz g0 g1 g2 g3 b0 b1 bc oR oG X5 ⊢
      change W4.heap.size = s + 2 at hsz
      generalize ((((W4.setCell ⟨W.heap.size + 1, 3, none⟩ (.slice (some ⟨s + 5, 0, none⟩) 3 3)).alloc (.cells #[.string ⟨#[103]⟩, .string ⟨#[]⟩, .string ⟨#[103]⟩, .string ⟨#[]⟩] 42)).alloc (.cells #[.string ⟨#[103]⟩, .string ⟨#[]⟩] 42)).alloc (.cells #[.string ⟨#[103]⟩, .string ⟨#[]⟩, .string ⟨#[103]⟩, .string ⟨#[]⟩] 42)).alloc (.cells #[.string ⟨#[97, 100, 100]⟩, .string ⟨#[103]⟩, .string ⟨#[]⟩, .slice (some ⟨s + 2, 0, none⟩) 2 2, .int .i64 (-1), .slice none 0 0, .string ⟨#[110, 111, 116]⟩, .string ⟨#[103]⟩, .string ⟨#[]⟩, .slice (some ⟨s + 3, 0, none⟩) 1 1, .int .i64 (-1), .slice none 0 0, .string ⟨#[100, 105, 118]⟩, .string ⟨#[103]⟩, .string ⟨#[]⟩, .slice (some ⟨s + 4, 0, none⟩) 2 2, .int .i64 (-1), .slice none 0 0] 45) = W5 at sz g0 g1 g2 g3 b0 b1 bc oR oG X5 ⊢
      clear hsz
      simp [Array.setIfInBounds] at b1
      have e0 : (⟨#[114, 48, 48]⟩ : ByteArray) = nmS 0 := by decide +kernel
      have m4 := blk_cell b1 4 _ rfl
      have mf4 := blk_free b1 4
      have B0 := Lib.hid b0
      have B1 := Lib.hid b1
      have BC := Lib.hid bc
      have OR := Lib.hid oR
      have OG := Lib.hid oG
      have X5 := Lib.hid X5
      have SZ := Lib.hid sz
      have G0 := Lib.hid g0
      have G1 := Lib.hid g1
      have G2 := Lib.hid g2
      have G3 := Lib.hid g3
      have l0 : W.heap.size + 1 < W5.heap.size := by omega
      clear b0 b1 bc oR oG sz g0 g1 g2 g3
      go_upto_region 13 with (fail)
      rw [SZ.out]
      have lq : W.heap.size + 1 < W.heap.size + 3 := by omega
      have xal : Ext (W5.setCell ⟨W.heap.size + 1, 4, none⟩ (.slice (some ⟨s + 6, 0, none⟩) 1 1)) ((W5.setCell ⟨W.heap.size + 1, 4, none⟩ (.slice (some ⟨s + 6, 0, none⟩) 1 1)).alloc (.cells #[.string (nmS 0)] 9)) := Ext.alloc _ _
      have b0 := sa_blk (a := ⟨W.heap.size + 1, 4, none⟩) (v := (.slice (some ⟨s + 6, 0, none⟩) 1 1)) (o := (.cells #[.string (nmS 0)] 9)) (by show W.heap.size ≠ W.heap.size + 1; omega) B0.out
      have b1 : ((W5.setCell ⟨W.heap.size + 1, 4, none⟩ (.slice (some ⟨s + 6, 0, none⟩) 1 1)).alloc (.cells #[.string (nmS 0)] 9)).heap[W.heap.size + 1]? = some (.cells #[.string mN, .slice aR k cR, .slice (some ⟨s, 0, none⟩) 1 1, .slice (some ⟨s + 5, 0, none⟩) 3 3, .slice (some ⟨s + 6, 0, none⟩) 1 1, .string ⟨#[]⟩, .slice none 0 0, .int .i64 100] 27 (0, 0)) := sa_set B1.out
      have bc := sa_blk (a := ⟨W.heap.size + 1, 4, none⟩) (v := (.slice (some ⟨s + 6, 0, none⟩) 1 1)) (o := (.cells #[.string (nmS 0)] 9)) (by show s ≠ W.heap.size + 1; omega) BC.out
      have g0 := sa_blk (a := ⟨W.heap.size + 1, 4, none⟩) (v := (.slice (some ⟨s + 6, 0, none⟩) 1 1)) (o := (.cells #[.string (nmS 0)] 9)) (by show s + 2 ≠ W.heap.size + 1; omega) G0.out
      have g1 := sa_blk (a := ⟨W.heap.size + 1, 4, none⟩) (v := (.slice (some ⟨s + 6, 0, none⟩) 1 1)) (o := (.cells #[.string (nmS 0)] 9)) (by show s + 3 ≠ W.heap.size + 1; omega) G1.out
      have g2 := sa_blk (a := ⟨W.heap.size + 1, 4, none⟩) (v := (.slice (some ⟨s + 6, 0, none⟩) 1 1)) (o := (.cells #[.string (nmS 0)] 9)) (by show s + 4 ≠ W.heap.size + 1; omega) G2.out
      have g3 := sa_blk (a := ⟨W.heap.size + 1, 4, none⟩) (v := (.slice (some ⟨s + 6, 0, none⟩) 1 1)) (o := (.cells #[.string (nmS 0)] 9)) (by show s + 5 ≠ W.heap.size + 1; omega) G3.out
      have ga := sa_new (w := W5) (a := ⟨W.heap.size + 1, 4, none⟩) (v := (.slice (some ⟨s + 6, 0, none⟩) 1 1)) (cs := #[.string (nmS 0)]) (e := 9)
      have sz := sa_size W5 ⟨W.heap.size + 1, 4, none⟩ (.slice (some ⟨s + 6, 0, none⟩) 1 1) (.cells #[.string (nmS 0)] 9)
      rw [SZ.out] at ga sz
      have oR := owns_ext (ownsRow_setCell_below OR.out (a := ⟨W.heap.size + 1, 4, none⟩) lq (.slice (some ⟨s + 6, 0, none⟩) 1 1)) xal
      have oG := owns_ext (ownsRow_setCell_below OG.out (a := ⟨W.heap.size + 1, 4, none⟩) lq (.slice (some ⟨s + 6, 0, none⟩) 1 1)) xal
      have X6 : Ext W _ := Ext.trans (Below.setCell X5.out (p := ⟨W.heap.size + 1, 4, none⟩) (by show W.heap.size ≤ W.heap.size + 1; omega) _) xal
      clear SZ l0 B0 B1 BC OR OG X5 G0 G1 G2 G3 xal m4 mf4
      generalize (W5.setCell ⟨W.heap.size + 1, 4, none⟩ (.slice (some ⟨s + 6, 0, none⟩) 1 1)).alloc (.cells #[.string (nmS 0)] 9) = W6 at sz g0 g1 g2 g3 ga b0 b1 bc oR oG X6 ⊢
      have m5 := blk_cell b1 5 _ rfl
      have mf5 := blk_free b1 5
      have m5 : W6.cell? ⟨W.heap.size + 1, 5, none⟩ = some (.string ⟨#[]⟩) := m5
      have l0 : W.heap.size + 1 < W6.heap.size := by omega
      have B0 := Lib.hid b0
      have B1 := Lib.hid b1
      have BC := Lib.hid bc
      have OR := Lib.hid oR
      have OG := Lib.hid oG
      have X6 := Lib.hid X6
      have SZ := Lib.hid sz
      have G0 := Lib.hid g0
      have G1 := Lib.hid g1
      have G2 := Lib.hid g2
      have G3 := Lib.hid g3
      have GA := Lib.hid ga
      clear b0 b1 bc oR oG sz g0 g1 g2 g3 ga
      go_upto_region 14 with (fail)
      have lq : W.heap.size + 1 < W.heap.size + 3 := by omega
      have b0 := (Below.heap_setCell W6 ⟨W.heap.size + 1, 5, none⟩ (.string (nmS 0)) W.heap.size (by show W.heap.size ≠ W.heap.size + 1; omega)).trans B0.out
      have b1 : (W6.setCell ⟨W.heap.size + 1, 5, none⟩ (.string (nmS 0))).heap[W.heap.size + 1]? = some (.cells #[.string mN, .slice aR k cR, .slice (some ⟨s, 0, none⟩) 1 1, .slice (some ⟨s + 5, 0, none⟩) 3 3, .slice (some ⟨s + 6, 0, none⟩) 1 1, .string (nmS 0), .slice none 0 0, .int .i64 100] 27 (0, 0)) := heap_set_cells B1.out 5 (.string (nmS 0))
      have bc := (Below.heap_setCell W6 ⟨W.heap.size + 1, 5, none⟩ (.string (nmS 0)) s (by show s ≠ W.heap.size + 1; omega)).trans BC.out
      have g0 := (Below.heap_setCell W6 ⟨W.heap.size + 1, 5, none⟩ (.string (nmS 0)) (s + 2) (by show (s + 2) ≠ W.heap.size + 1; omega)).trans G0.out
      have g1 := (Below.heap_setCell W6 ⟨W.heap.size + 1, 5, none⟩ (.string (nmS 0)) (s + 3) (by show (s + 3) ≠ W.heap.size + 1; omega)).trans G1.out
      have g2 := (Below.heap_setCell W6 ⟨W.heap.size + 1, 5, none⟩ (.string (nmS 0)) (s + 4) (by show (s + 4) ≠ W.heap.size + 1; omega)).trans G2.out
      have g3 := (Below.heap_setCell W6 ⟨W.heap.size + 1, 5, none⟩ (.string (nmS 0)) (s + 5) (by show (s + 5) ≠ W.heap.size + 1; omega)).trans G3.out
      have ga := (Below.heap_setCell W6 ⟨W.heap.size + 1, 5, none⟩ (.string (nmS 0)) (s + 6) (by show (s + 6) ≠ W.heap.size + 1; omega)).trans GA.out
      have sz := (set_size W6 ⟨W.heap.size + 1, 5, none⟩ (.string (nmS 0))).trans SZ.out
      have oR := ownsRow_setCell_below OR.out (a := ⟨W.heap.size + 1, 5, none⟩) lq (.string (nmS 0))
      have oG := ownsRow_setCell_below OG.out (a := ⟨W.heap.size + 1, 5, none⟩) lq (.string (nmS 0))
      have X7 : Ext W _ := Below.setCell X6.out (p := ⟨W.heap.size + 1, 5, none⟩) (by show W.heap.size ≤ W.heap.size + 1; omega) (.string (nmS 0))
      clear SZ l0 B0 B1 BC OR OG X6 G0 G1 G2 G3 GA m5 mf5
      generalize W6.setCell ⟨W.heap.size + 1, 5, none⟩ (.string (nmS 0)) = W7 at sz g0 g1 g2 g3 ga b0 b1 bc oR oG X7 ⊢
      have m0 := blk_cell b1 0 _ rfl
      have r0 := blk_cell b0 0 _ rfl
      have rf0 := blk_free b0 0
      have m1 := blk_cell b1 1 _ rfl
      have r1 := blk_cell b0 1 _ rfl
      have rf1 := blk_free b0 1
      have m2 := blk_cell b1 2 _ rfl
      have r2 := blk_cell b0 2 _ rfl
      have rf2 := blk_free b0 2
      have m3 := blk_cell b1 3 _ rfl
      have r3 := blk_cell b0 3 _ rfl
      have rf3 := blk_free b0 3
      have m4 := blk_cell b1 4 _ rfl
      have r4 := blk_cell b0 4 _ rfl
      have rf4 := blk_free b0 4
      have m5 := blk_cell b1 5 _ rfl
      have r5 := blk_cell b0 5 _ rfl
      have rf5 := blk_free b0 5
      have m6 := blk_cell b1 6 _ rfl
      have r6 := blk_cell b0 6 _ rfl
      have rf6 := blk_free b0 6
      have m7 := blk_cell b1 7 _ rfl
      have r7 := blk_cell b0 7 _ rfl
      have rf7 := blk_free b0 7
      have l0 : W.heap.size + 1 < W7.heap.size := by omega
      have l1 : W.heap.size < W7.heap.size := by omega
      have BB := Lib.hid (And.intro b0 b1)
      have BC := Lib.hid bc
      have OR := Lib.hid oR
      have OG := Lib.hid oG
      have X7 := Lib.hid X7
      have SZ := Lib.hid sz
      have GG := Lib.hid (And.intro g0 (And.intro g1 (And.intro g2 (And.intro g3 ga))))
      clear b0 b1 bc oR oG sz g0 g1 g2 g3 ga
      go_wp2_with fail
      have off8 : ∀ q, q ≠ W.heap.size → ((((((((W7.setCell ⟨W.heap.size, 0, none⟩ (.string mN)).setCell ⟨W.heap.size, 1, none⟩ (.slice aR k cR)).setCell ⟨W.heap.size, 2, none⟩ (.slice (some ⟨s, 0, none⟩) 1 1)).setCell ⟨W.heap.size, 3, none⟩ (.slice (some ⟨s + 5, 0, none⟩) 3 3)).setCell ⟨W.heap.size, 4, none⟩ (.slice (some ⟨s + 6, 0, none⟩) 1 1)).setCell ⟨W.heap.size, 5, none⟩ (.string (nmS 0))).setCell ⟨W.heap.size, 6, none⟩ (.slice none 0 0)).setCell ⟨W.heap.size, 7, none⟩ (.int .i64 100)).heap[q]? = W7.heap[q]? := by
        intro q hq
        iterate 7 refine (Below.heap_setCell _ _ _ q hq).trans ?_
        exact Below.heap_setCell _ _ _ q hq
      have bB : ((((((((W7.setCell ⟨W.heap.size, 0, none⟩ (.string mN)).setCell ⟨W.heap.size, 1, none⟩ (.slice aR k cR)).setCell ⟨W.heap.size, 2, none⟩ (.slice (some ⟨s, 0, none⟩) 1 1)).setCell ⟨W.heap.size, 3, none⟩ (.slice (some ⟨s + 5, 0, none⟩) 3 3)).setCell ⟨W.heap.size, 4, none⟩ (.slice (some ⟨s + 6, 0, none⟩) 1 1)).setCell ⟨W.heap.size, 5, none⟩ (.string (nmS 0))).setCell ⟨W.heap.size, 6, none⟩ (.slice none 0 0)).setCell ⟨W.heap.size, 7, none⟩ (.int .i64 100)).heap[W.heap.size]? = some (.cells #[.string mN, .slice aR k cR, .slice (some ⟨s, 0, none⟩) 1 1, .slice (some ⟨s + 5, 0, none⟩) 3 3, .slice (some ⟨s + 6, 0, none⟩) 1 1, .string (nmS 0), .slice none 0 0, .int .i64 100] 27 (0, 0)) := (heap_set_cells (heap_set_cells (heap_set_cells (heap_set_cells (heap_set_cells (heap_set_cells (heap_set_cells (heap_set_cells BB.out.1 0 (.string mN)) 1 (.slice aR k cR)) 2 (.slice (some ⟨s, 0, none⟩) 1 1)) 3 (.slice (some ⟨s + 5, 0, none⟩) 3 3)) 4 (.slice (some ⟨s + 6, 0, none⟩) 1 1)) 5 (.string (nmS 0))) 6 (.slice none 0 0)) 7 (.int .i64 100))
      have lq : W.heap.size < W.heap.size + 3 := by omega
      have oR : ((((((((W7.setCell ⟨W.heap.size, 0, none⟩ (.string mN)).setCell ⟨W.heap.size, 1, none⟩ (.slice aR k cR)).setCell ⟨W.heap.size, 2, none⟩ (.slice (some ⟨s, 0, none⟩) 1 1)).setCell ⟨W.heap.size, 3, none⟩ (.slice (some ⟨s + 5, 0, none⟩) 3 3)).setCell ⟨W.heap.size, 4, none⟩ (.slice (some ⟨s + 6, 0, none⟩) 1 1)).setCell ⟨W.heap.size, 5, none⟩ (.string (nmS 0))).setCell ⟨W.heap.size, 6, none⟩ (.slice none 0 0)).setCell ⟨W.heap.size, 7, none⟩ (.int .i64 100)).ownsRow (W.heap.size + 3) 38 4 (.slice aR k cR) k (cellsR k) := by
        iterate 8 refine ownsRow_setCell_below ?_ lq _
        exact OR.out
      have oG : ((((((((W7.setCell ⟨W.heap.size, 0, none⟩ (.string mN)).setCell ⟨W.heap.size, 1, none⟩ (.slice aR k cR)).setCell ⟨W.heap.size, 2, none⟩ (.slice (some ⟨s, 0, none⟩) 1 1)).setCell ⟨W.heap.size, 3, none⟩ (.slice (some ⟨s + 5, 0, none⟩) 3 3)).setCell ⟨W.heap.size, 4, none⟩ (.slice (some ⟨s + 6, 0, none⟩) 1 1)).setCell ⟨W.heap.size, 5, none⟩ (.string (nmS 0))).setCell ⟨W.heap.size, 6, none⟩ (.slice none 0 0)).setCell ⟨W.heap.size, 7, none⟩ (.int .i64 100)).ownsRow (W.heap.size + 3) 9 1 (.slice aG k cG) k ((namesS k).map Value.string) := by
        iterate 8 refine ownsRow_setCell_below ?_ lq _
        exact OG.out
      have X8 : Ext W ((((((((W7.setCell ⟨W.heap.size, 0, none⟩ (.string mN)).setCell ⟨W.heap.size, 1, none⟩ (.slice aR k cR)).setCell ⟨W.heap.size, 2, none⟩ (.slice (some ⟨s, 0, none⟩) 1 1)).setCell ⟨W.heap.size, 3, none⟩ (.slice (some ⟨s + 5, 0, none⟩) 3 3)).setCell ⟨W.heap.size, 4, none⟩ (.slice (some ⟨s + 6, 0, none⟩) 1 1)).setCell ⟨W.heap.size, 5, none⟩ (.string (nmS 0))).setCell ⟨W.heap.size, 6, none⟩ (.slice none 0 0)).setCell ⟨W.heap.size, 7, none⟩ (.int .i64 100)) := by
        iterate 8 refine Below.setCell ?_ (by exact Nat.le_refl W.heap.size) _
        exact X7.out
      have sz : ((((((((W7.setCell ⟨W.heap.size, 0, none⟩ (.string mN)).setCell ⟨W.heap.size, 1, none⟩ (.slice aR k cR)).setCell ⟨W.heap.size, 2, none⟩ (.slice (some ⟨s, 0, none⟩) 1 1)).setCell ⟨W.heap.size, 3, none⟩ (.slice (some ⟨s + 5, 0, none⟩) 3 3)).setCell ⟨W.heap.size, 4, none⟩ (.slice (some ⟨s + 6, 0, none⟩) 1 1)).setCell ⟨W.heap.size, 5, none⟩ (.string (nmS 0))).setCell ⟨W.heap.size, 6, none⟩ (.slice none 0 0)).setCell ⟨W.heap.size, 7, none⟩ (.int .i64 100)).heap.size = s + 7 := by simp only [set_size]; exact SZ.out
      generalize ((((((((W7.setCell ⟨W.heap.size, 0, none⟩ (.string mN)).setCell ⟨W.heap.size, 1, none⟩ (.slice aR k cR)).setCell ⟨W.heap.size, 2, none⟩ (.slice (some ⟨s, 0, none⟩) 1 1)).setCell ⟨W.heap.size, 3, none⟩ (.slice (some ⟨s + 5, 0, none⟩) 3 3)).setCell ⟨W.heap.size, 4, none⟩ (.slice (some ⟨s + 6, 0, none⟩) 1 1)).setCell ⟨W.heap.size, 5, none⟩ (.string (nmS 0))).setCell ⟨W.heap.size, 6, none⟩ (.slice none 0 0)).setCell ⟨W.heap.size, 7, none⟩ (.int .i64 100)) = W8 at off8 bB oR oG X8 sz ⊢
      have t0 := blk_cell bB 0 _ rfl
      have t1 := blk_cell bB 1 _ rfl
      have t2 := blk_cell bB 2 _ rfl
      have t3 := blk_cell bB 3 _ rfl
      have t4 := blk_cell bB 4 _ rfl
      have t5 := blk_cell bB 5 _ rfl
      have t6 := blk_cell bB 6 _ rfl
      have t7 := blk_cell bB 7 _ rfl
      refine bodyPost_ret (v := .agg #[.string mN, .slice aR k cR, .slice (some ⟨s, 0, none⟩) 1 1, .slice (some ⟨s + 5, 0, none⟩) 3 3, .slice (some ⟨s + 6, 0, none⟩) 1 1, .string (nmS 0), .slice none 0 0, .int .i64 100]) (by simp [results, Try.results14, go_sem, t0, t1, t2, t3, t4, t5, t6, t7]) rfl ?_
      obtain ⟨g0, g1, g2, g3, ga⟩ := GG.out
      clear t0 t1 t2 t3 t4 t5 t6 t7
      obtain ⟨k', rfl⟩ : ∃ k', k = k' + 1 := ⟨k - 1, by omega⟩
      obtain ⟨bR, cR', eR⟩ := ownsRow_succ oR
      obtain ⟨bG, cG', eG⟩ := ownsRow_succ oG
      cases eR
      cases eG
      refine ⟨X8, bR, cR, bG, cG, s, rfl, ?_⟩
      have rR := HBR.out bR rfl
      have rG := HBG.out bG rfl
      have wk : ∀ {e sz v xs}, W8.ownsRow (W.heap.size + 3) e sz v (k' + 1) xs → W8.ownsRow W.heap.size e sz v (k' + 1) xs := fun h => World.ownsRow_mono h (by omega)
      exact ⟨wk oR, wk oG, (off8 s (by omega)).trans BC.out, (off8 _ (by omega)).trans g0, (off8 _ (by omega)).trans g1, (off8 _ (by omega)).trans g2, (off8 _ (by omega)).trans g3, (off8 _ (by omega)).trans ga,
        by omega, rR, rG, fun e => NE.out.elim (fun h => by cases h) (fun h => h (by subst e; rfl))⟩
end Go.Proofs.Ythomndfagpeniaa
end

section
namespace Go.Proofs.Ythomndfagpeniaa
open Go.RowKit

theorem small1 : codeOf (checkS (smallM 1)) = 11 := by kernel_rfl
theorem small2 : codeOf (checkS (smallM 2)) = 0 := by kernel_rfl

theorem addr_off (b off j : Nat) : Addr.add ⟨b, off, none⟩ j = ⟨b, off + j, none⟩ := by
  unfold Addr.add; by_cases h0 : j = 0 <;> simp [h0]
theorem flatten_len {rows : List (List Value)} {size : Nat} (hl : ∀ r ∈ rows, r.length = size) : rows.flatten.length = rows.length * size := by
  induction rows with
  | nil => simp
  | cons a rows ih =>
    have ha : a.length = size := hl a (by simp)
    have := ih (fun r hr => hl r (by simp [hr]))
    simp only [List.flatten_cons, List.length_append, List.length_cons, this, ha, Nat.add_mul]; omega
/-- A slice of a block's cells, from some cell on. -/
theorem Tab.of_block {W : World} {b off cap size : Nat} {rows : List (List Value)} {cs : Array Value} {t : TypeId} {fz : Nat × Nat} (h : W.heap[b]? = some (.cells cs t fz)) (hc : ∀ j u, rows.flatten[j]? = some u → cs[off + j]? = some u)
    (hl : ∀ r ∈ rows, r.length = size) (h1 : rows.length ≤ cap) (h2 : cap ≤ maxLen) : Tab W (b + 1) size (.slice (some ⟨b, off, none⟩) rows.length cap) rows := by
  refine ⟨⟨flatten_len hl, Or.inr ⟨_, cap, rfl, h1, h2, fun j u hj => ?_⟩⟩, hl, fun k e _ => by cases e; exact Nat.lt_succ_self _⟩
  rw [addr_off]
  simp only [World.cell?, h]
  simpa using hc j u hj
/-- A block that holds just these rows. -/
theorem Tab.of_new {W : World} {b size : Nat} {rows : List (List Value)} {t : TypeId} {fz : Nat × Nat} (h : W.heap[b]? = some (.cells rows.flatten.toArray t fz))
    (hl : ∀ r ∈ rows, r.length = size) (h2 : rows.length ≤ maxLen) : Tab W (b + 1) size (.slice (some ⟨b, 0, none⟩) rows.length rows.length) rows :=
  Tab.of_block h (fun j u hj => by simpa using hj) hl (Nat.le_refl _) h2
theorem Tab.nil {W : World} {n0 size : Nat} : Tab W n0 size (.slice none 0 0) [] := ⟨⟨by simp, Or.inl ⟨rfl, rfl⟩⟩, by simp, fun k e _ => by cases e⟩
/-- A row that a slice owns. -/
theorem Tab.of_owns {W : World} {base size n : Nat} {e : TypeId} {v : Value} {rows : List (List Value)} (h : W.ownsRow base e size v n rows.flatten) (hl : ∀ r ∈ rows, r.length = size) (hn : rows.length = n) : Tab W W.heap.size size v rows := by
  subst hn
  exact ⟨Row.of_owns h, hl, fun k e _ => (h.lt k e).2⟩
/-- What is set into another block. -/
theorem Tab.other {W : World} {n0 size : Nat} {v : Value} {rows : List (List Value)} (h : Tab W n0 size v rows) {a : Addr} (ha : v.ownBlock ≠ some a.block) (u : Value) : Tab (W.setCell a u) n0 size v rows :=
  ⟨h.row.same fun k e => Below.heap_setCell _ _ _ _ (fun e2 => ha (by rw [e, e2])), h.len, h.blk⟩
theorem flatten_set {rows : List (List Value)} {size i j : Nat} {r : List Value} {u : Value} (hl : ∀ r ∈ rows, r.length = size) (hi : rows[i]? = some r) (hj : j < size) :
    rows.flatten.set (i * size + j) u = (rows.set i (r.set j u)).flatten := by
  induction i generalizing rows with
  | zero =>
    cases rows with
    | nil => simp at hi
    | cons a rows =>
      simp at hi; subst hi
      have ha : a.length = size := hl a (by simp)
      simp only [List.flatten_cons, List.set_cons_zero, Nat.zero_mul, Nat.zero_add]
      rw [List.set_append_left _ _ (by omega)]
  | succ i ih =>
    cases rows with
    | nil => simp at hi
    | cons a rows =>
      have ha : a.length = size := hl a (by simp)
      have := ih (rows := rows) (fun r hr => hl r (by simp [hr])) (by simpa using hi)
      simp only [List.flatten_cons, List.set_cons_succ]
      rw [List.set_append_right _ _ (by rw [ha, Nat.add_mul]; omega), ← this, ha, show (i + 1) * size + j - size = i * size + j by rw [Nat.add_mul]; omega]
/-- What is set into one of the rows' cells. -/
theorem Tab.set {W : World} {n0 size b off n cap : Nat} {rows : List (List Value)} (h : Tab W n0 size (.slice (some ⟨b, off, none⟩) n cap) rows) {i j : Nat} {r : List Value} (hi : rows[i]? = some r) (hj : j < size) (u : Value) :
    Tab (W.setCell ⟨b, off + (i * size + j), none⟩ u) n0 size (.slice (some ⟨b, off, none⟩) n cap) (rows.set i (r.set j u)) := by
  have hr : r.length = size := h.len r (List.mem_of_getElem? hi)
  refine ⟨?_, fun q hq => ?_, fun k e hr => h.blk k e (fun e2 => hr (by rw [e2]; rfl))⟩
  · rw [← flatten_set h.len hi hj, List.length_set]
    obtain ⟨h1, h2⟩ := h.row
    refine ⟨by rw [List.length_set]; exact h1, ?_⟩
    rcases h2 with ⟨e, _⟩ | ⟨a, cp, e, h2, h3, hc⟩
    · cases e
    · injection e with e1 e2 e3
      cases e1; subst e3
      refine Or.inr ⟨_, cap, by rw [e2], h2, h3, fun q v hq => ?_⟩
      have hlen : i * size + j < rows.flatten.length := by
        rw [flatten_len h.len]
        have hlt := (List.getElem?_eq_some_iff.1 hi).1
        have h4 : (i + 1) * size ≤ rows.length * size := Nat.mul_le_mul_right _ (by omega)
        rw [Nat.add_mul] at h4; omega
      obtain ⟨u0, hu0⟩ : ∃ u0, rows.flatten[i * size + j]? = some u0 := ⟨_, List.getElem?_eq_getElem hlen⟩
      have h0 := hc _ _ hu0
      rw [addr_off] at h0 ⊢
      rw [List.getElem?_set] at hq
      split at hq
      · rename_i e5
        subst e5
        have hq : u = v := by simpa [hlen] using hq
        subst hq
        exact World.cell?_setCell_same _ _ _ h0
      · rename_i e5
        have := hc _ _ hq
        rw [addr_off] at this
        exact (World.cell?_setCell_other _ _ _ _ (fun e => e5 (by injection e with _ e; omega))).trans this
  · rcases List.mem_or_eq_of_mem_set hq with hq | rfl
    · exact h.len q hq
    · rw [List.length_set]; exact hr

theorem fits_0 : fits64 0 := by unfold fits64; decide
theorem fits_8 : fits64 8 := by unfold fits64; decide
theorem fits_m1 : fits64 (-1) := by unfold fits64; decide
theorem fits_100 : fits64 100 := by unfold fits64; decide
theorem le_max1 : 1 ≤ maxLen := by decide
theorem le_max2 : 2 ≤ maxLen := by decide
theorem le_max3 : 3 ≤ maxLen := by decide
theorem zip_map {α β γ : Type} (f : α → β → γ) (ps : List (α × β)) : List.zipWith f (ps.map Prod.fst) (ps.map Prod.snd) = ps.map fun p => f p.1 p.2 := by
  induction ps with
  | nil => rfl
  | cons a ps ih => simp [ih]

def flatRow (x : ByteArray × Int) : List Value := [.string x.1, .int .i64 x.2, .int .i64 0, .slice none 0 0]
def flatReg (x : ByteArray × Int) : RegT := .mk x.1 x.2 0 []
theorem regCells_flat (xs : List (ByteArray × Int)) : regCells (xs.map flatReg) (xs.map fun _ => .slice none 0 0) = (xs.map flatRow).flatten := by
  induction xs with
  | nil => rfl
  | cons a xs ih => simp only [List.map_cons, regCells_cons, ih, List.flatten_cons]; rfl
theorem RegsIn.nil {W : World} {n0 : Nat} : RegsIn W n0 (.slice none 0 0) [] := .mk [] rfl ⟨rfl, Or.inl ⟨rfl, rfl⟩⟩ (fun k e _ => by cases e) (by simp) (by simp)
theorem RegsIn.flat {W : World} {n0 : Nat} {v : Value} {xs : List (ByteArray × Int)} (h : Tab W n0 4 v (xs.map flatRow)) (hf : ∀ x ∈ xs, fits64 x.2) : RegsIn W n0 v (xs.map flatReg) := by
  refine .mk (xs.map fun _ => .slice none 0 0) (by simp) ?_ (fun k e hl => h.blk k e (fun e2 => hl (by rw [List.map_eq_nil_iff] at e2 ⊢; exact e2))) (fun r hr => ?_) (fun i r u hr hu => ?_)
  · rw [regCells_flat]
    have := h.row
    simpa using this
  · obtain ⟨x, hx, rfl⟩ := List.mem_map.1 hr
    exact ⟨hf x hx, fits_0⟩
  · have h1 : u = .slice none 0 0 := by
      rw [List.getElem?_map] at hu
      cases hx : xs[i]? with
      | none => rw [hx] at hu; cases hu
      | some x => rw [hx] at hu; cases hu; rfl
    have h2 : r.subs = [] := by
      rw [List.getElem?_map] at hr
      cases hx : xs[i]? with
      | none => rw [hx] at hr; cases hr
      | some x => rw [hx] at hr; cases hr; rfl
    rw [h1, h2]
    exact RegsIn.nil
theorem ClsIn.of {W : World} {n0 : Nat} {v : Value} (ps : List (Cls × Value)) (h : Tab W n0 2 v (ps.map fun p => [.string p.1.name, p.2])) (hs : ∀ p ∈ ps, StrsIn W n0 p.2 p.1.regs) : ClsIn W n0 v (ps.map Prod.fst) := by
  refine ⟨ps.map Prod.snd, by simp, ?_, fun i c u hc hu => ?_⟩
  · rw [zip_map]; exact h
  · cases hp : ps[i]? with
    | none => simp [hp] at hc
    | some p =>
      simp [hp] at hc hu
      subst hc; subst hu
      exact hs p (List.mem_of_getElem? hp)
theorem OpsIn.of {W : World} {n0 : Nat} {v : Value} (ps : List (Opn × (Value × Value))) (h : Tab W n0 6 v (ps.map fun p => [.string p.1.name, .string p.1.dfn.cls, .string p.1.dfn.fix, p.2.1, .int .i64 p.1.tie, p.2.2]))
    (hs : ∀ p ∈ ps, OprsIn W n0 p.2.1 p.1.uses ∧ StrsIn W n0 p.2.2 p.1.clob ∧ fits64 p.1.tie) : OpsIn W n0 v (ps.map Prod.fst) := by
  refine ⟨ps.map Prod.snd, by simp, ?_, fun i c u hc hu => ?_⟩
  · rw [zip_map]; exact h
  · cases hp : ps[i]? with
    | none => simp [hp] at hc
    | some p =>
      simp [hp] at hc hu
      subst hc; subst hu
      exact hs p (List.mem_of_getElem? hp)
theorem StrsIn.nil {W : World} {n0 : Nat} : StrsIn W n0 (.slice none 0 0) [] := Tab.nil

def rsS (n : Nat) : List (ByteArray × Int) := (List.range n).map fun i => (nmS i, 8)
theorem rsS_regs (n : Nat) : (rsS n).map flatReg = regsS n := by
  unfold rsS regsS flatReg; simp
theorem rsS_cells (n : Nat) : ((rsS n).map flatRow).flatten = cellsR n := by
  unfold rsS cellsR; rw [List.flatMap_def, List.map_map]; rfl
theorem rsS_len (n : Nat) : (rsS n).length = n := by simp [rsS]
theorem namesS_len (n : Nat) : (namesS n).length = n := by simp [namesS]
variable {W : World} {n B bR cR bG cG s : Nat}
abbrev vG (bG n cG : Nat) : Value := .slice (some ⟨bG, 0, none⟩) n cG
def opsV (s : Nat) : List (Opn × (Value × Value)) :=
  [(⟨addN, gO, [gO, gO], -1, []⟩, .slice (some ⟨s + 2, 0, none⟩) 2 2, .slice none 0 0), (⟨notN, gO, [gO], -1, []⟩, .slice (some ⟨s + 3, 0, none⟩) 1 1, .slice none 0 0), (⟨divN, gO, [gO, gO], -1, []⟩, .slice (some ⟨s + 4, 0, none⟩) 2 2, .slice none 0 0)]
def opRow (p : Opn × (Value × Value)) : List Value := [.string p.1.name, .string p.1.dfn.cls, .string p.1.dfn.fix, p.2.1, .int .i64 p.1.tie, p.2.2]
theorem SmLay.regsT (h : SmLay W n B bR cR bG cG s) : Tab W W.heap.size 4 (.slice (some ⟨bR, 0, none⟩) n cR) ((rsS n).map flatRow) :=
  Tab.of_owns (by rw [rsS_cells]; exact h.regs) (fun r hr => by obtain ⟨x, _, rfl⟩ := List.mem_map.1 hr; rfl) (by simp [rsS_len])
theorem SmLay.rgT (h : SmLay W n B bR cR bG cG s) : StrsIn W W.heap.size (vG bG n cG) (namesS n) := StrsIn.of_owns h.rg (namesS_len n)
theorem SmLay.clsT (h : SmLay W n B bR cR bG cG s) : Tab W (s + 1) 2 (.slice (some ⟨s, 0, none⟩) 1 1) [[.string gN, vG bG n cG]] :=
  Tab.of_new (rows := [[.string gN, vG bG n cG]]) h.cls (by simp) le_max1
theorem SmLay.u0T (h : SmLay W n B bR cR bG cG s) : OprsIn W (s + 3) (.slice (some ⟨s + 2, 0, none⟩) 2 2) [gO, gO] :=
  Tab.of_new (rows := [[.string gN, .string ⟨#[]⟩], [.string gN, .string ⟨#[]⟩]]) h.u0 (by simp) le_max2
theorem SmLay.u1T (h : SmLay W n B bR cR bG cG s) : OprsIn W (s + 4) (.slice (some ⟨s + 3, 0, none⟩) 1 1) [gO] :=
  Tab.of_new (rows := [[.string gN, .string ⟨#[]⟩]]) h.u1 (by simp) le_max1
theorem SmLay.u2T (h : SmLay W n B bR cR bG cG s) : OprsIn W (s + 5) (.slice (some ⟨s + 4, 0, none⟩) 2 2) [gO, gO] :=
  Tab.of_new (rows := [[.string gN, .string ⟨#[]⟩], [.string gN, .string ⟨#[]⟩]]) h.u2 (by simp) le_max2
theorem SmLay.opsT (h : SmLay W n B bR cR bG cG s) : Tab W (s + 6) 6 (.slice (some ⟨s + 5, 0, none⟩) 3 3) ((opsV s).map opRow) :=
  Tab.of_new (rows := (opsV s).map opRow) h.ops (by simp [opsV, opRow]) le_max3
theorem SmLay.argsT (h : SmLay W n B bR cR bG cG s) : StrsIn W (s + 7) (.slice (some ⟨s + 6, 0, none⟩) 1 1) [nmS 0] :=
  Tab.of_new (rows := [[.string (nmS 0)]]) h.args (by simp) le_max1
theorem SmLay.size (h : SmLay W n B bR cR bG cG s) : s + 7 ≤ W.heap.size := by
  have := (Array.getElem?_eq_some_iff.1 h.args).1
  omega
theorem SmLay.mach (h : SmLay W n B bR cR bG cG s) : MachIn W W.heap.size (.slice (some ⟨bR, 0, none⟩) n cR) (.slice (some ⟨s, 0, none⟩) 1 1) (.slice (some ⟨s + 5, 0, none⟩) 3 3) (.slice (some ⟨s + 6, 0, none⟩) 1 1) (.slice none 0 0) (smallM n) := by
  have hz := h.size
  refine ⟨?_, ?_, ?_, h.argsT.up hz, StrsIn.nil, fits_100⟩
  · have := RegsIn.flat h.regsT (fun x hx => by obtain ⟨i, _, rfl⟩ := List.mem_map.1 hx; exact fits_8)
    rw [rsS_regs] at this; exact this
  · exact ClsIn.of [(⟨gN, namesS n⟩, vG bG n cG)] (h.clsT.up (by omega)) (fun p hp => by simp at hp; subst hp; exact h.rgT)
  · refine OpsIn.of (opsV s) (h.opsT.up (by omega)) (fun p hp => ?_)
    simp only [opsV, List.mem_cons, List.not_mem_nil, or_false] at hp
    rcases hp with rfl | rfl | rfl
    · exact ⟨h.u0T.up (by omega), StrsIn.nil, fits_m1⟩
    · exact ⟨h.u1T.up (by omega), StrsIn.nil, fits_m1⟩
    · exact ⟨h.u2T.up (by omega), StrsIn.nil, fits_m1⟩
end Go.Proofs.Ythomndfagpeniaa
end

section
namespace Go.Proofs.Ythomndfagpeniaa
open Go.RowKit
attribute [local go_sem] Oper.semAt_some

theorem num_any (e : Int) (W : World) : Calls Try.prog 13 #[.int .i64 e] W (fun r W' => r = .returned (.int .i64 e) ∧ W' = W) := by
  go_enter Try.func13, Try.ntmps13
  go_wp2
  exact bodyPost_ret (v := .int .i64 e) (by simp [results, Try.results13, go_sem]) rfl ⟨rfl, rfl⟩
theorem small_check (n : Nat) {W W' : World} {e : Ending} (h : SmallPost W n e W') : ∃ v, e = .returned v ∧ Ext W W' ∧
    Calls Try.prog 11 #[v] W' fun e W2 => e = .returned (.int .i64 (codeOf (checkS (smallM n)))) ∧ Ext W' W2 := by
  obtain ⟨x, bR, cR, bG, cG, s, rfl, hl⟩ := h
  exact ⟨_, rfl, x, checkM hl.mach (Nat.le_refl _)⟩
theorem alive_any (W : World) : Calls Try.prog 9 #[] W (fun e W' => e = .returned (.bool true) ∧ Ext W W') := by
  have hs1 := Lib.hid (fun W => small_any 1 (by decide) (by decide) W)
  have hs2 := Lib.hid (fun W => small_any 2 (by decide) (by decide) W)
  have hk1 := Lib.hid (fun (W W' : World) (e : Ending) => small_check 1 (W := W) (W' := W') (e := e))
  have hk2 := Lib.hid (fun (W W' : World) (e : Ending) => small_check 2 (W := W) (W' := W') (e := e))
  have hn := Lib.hid num_any
  have c1 := small1
  have c2 := small2
  go_enter Try.func9, Try.ntmps9
  go_wp2_with (first
    | (go_at_call 14; refine (hs1.out _).mono ?_; intro e W1 p1; obtain ⟨v1, rfl, x1, hc1⟩ := hk1.out _ _ _ p1; clear p1; have HC1 := Lib.hid hc1; have X1 := Lib.hid x1; clear hc1 x1 hs1 hk1)
    | (go_at_call 14; refine (hs2.out _).mono ?_; intro e W3 p3; obtain ⟨v2, rfl, x3, hc3⟩ := hk2.out _ _ _ p3; clear p3; have HC3 := Lib.hid hc3; have X3 := Lib.hid x3; clear hc3 x3)
    | (go_at_call 11; refine HC1.out.mono ?_; rintro e W2 ⟨rfl, x2⟩; rw [c1]; have X2 := Lib.hid x2; clear x2 HC1)
    | (go_at_call 11; refine HC3.out.mono ?_; rintro e W4 ⟨rfl, x4⟩; rw [c2]; have X4 := Lib.hid x4; clear x4)
    | (go_at_call 13; refine (hn.out _ _).mono ?_; rintro e w ⟨rfl, rfl⟩))
  exact bodyPost_ret (v := .bool true) (by simp [results, Try.results9, go_sem]) rfl ⟨rfl, ((X1.out.trans X2.out).trans X3.out).trans X4.out⟩
end Go.Proofs.Ythomndfagpeniaa
end

section
namespace Go.Proofs.Ythomndfagpeniaa

theorem ba_bne {a b : ByteArray} (h : a ≠ b) : (a == b) = false := by
  cases hh : a == b with
  | false => rfl
  | true => exact absurd ((ba_beq a b).1 hh) h
theorem goS_all {α : Type} {f : Nat → α → Except Int Unit} {l : List α} {j : Nat} (h : ∀ i x, l[i]? = some x → f (j + i) x = .ok ()) : goS f j l = .ok () := by
  induction l generalizing j with
  | nil => rfl
  | cons x l ih =>
    have h0 := h 0 x rfl
    simp only [Nat.add_zero] at h0
    simp only [goS, h0]
    exact ih fun i y hy => by have := h (i + 1) y (by simpa using hy); rwa [show j + (i + 1) = j + 1 + i by omega] at this
theorem goS_first {α : Type} {f : Nat → α → Except Int Unit} {l : List α} {j k : Nat} {x : α} {e : Int} (h : ∀ i y, i < k → l[i]? = some y → f (j + i) y = .ok ()) (hk : l[k]? = some x) (he : f (j + k) x = .error e) : goS f j l = .error e := by
  induction k generalizing l j with
  | zero =>
    cases l with
    | nil => simp at hk
    | cons y l => simp at hk; subst hk; simp only [Nat.add_zero] at he; simp only [goS, he]
  | succ k ih =>
    cases l with
    | nil => simp at hk
    | cons y l =>
      have h0 := h 0 y (by omega) rfl
      simp only [Nat.add_zero] at h0
      simp only [goS, h0]
      refine ih (fun i z hi hz => ?_) (by simpa using hk) (by rwa [show j + 1 + k = j + (k + 1) by omega])
      have := h (i + 1) z (by omega) (by simpa using hz)
      rwa [show j + (i + 1) = j + 1 + i by omega] at this
theorem fidx_at {α : Type} {p : α → Bool} {l : List α} {i : Nat} {x : α} (hx : l[i]? = some x) (hp : p x = true) (hb : ∀ j y, j < i → l[j]? = some y → p y = false) : fidx p l = (i : Int) := by
  obtain ⟨hlt, e⟩ := List.getElem?_eq_some_iff.1 hx
  have : l.findIdx? p = some i := by
    rw [List.findIdx?_eq_some_iff_getElem]
    refine ⟨hlt, by rw [e]; exact hp, fun j hj => ?_⟩
    simpa using hb j _ hj (List.getElem?_eq_getElem (by omega))
  unfold fidx; rw [this]
theorem fidx_none {α : Type} {p : α → Bool} {l : List α} (h : ∀ x ∈ l, p x = false) : fidx p l = -1 := by
  have : l.findIdx? p = none := by rw [List.findIdx?_eq_none_iff]; exact h
  unfold fidx; rw [this]
theorem idx_at {l : List ByteArray} {i : Nat} {s : ByteArray} (hn : l.Nodup) (h : l[i]? = some s) : idx l s = (i : Int) := by
  refine fidx_at (p := fun x => x == s) h ((ba_beq s s).2 rfl) fun j y hj hy => ?_
  have : y ≠ s := fun e => by
    subst e
    obtain ⟨h1, e1⟩ := List.getElem?_eq_some_iff.1 h
    obtain ⟨h2, e2⟩ := List.getElem?_eq_some_iff.1 hy
    have := List.pairwise_iff_getElem.1 hn j i h2 h1 hj
    exact this (e2.trans e1.symm)
  exact ba_bne this
theorem idx_not {l : List ByteArray} {s : ByteArray} (h : s ∉ l) : idx l s = -1 :=
  fidx_none (p := fun x => x == s) fun x hx => by
    have : x ≠ s := fun e => h (e ▸ hx)
    exact ba_bne this
theorem idx_mem {l : List ByteArray} {s : ByteArray} (h : s ∈ l) : ∃ i : Nat, idx l s = (i : Int) ∧ l[i]? = some s := by
  unfold idx
  cases hf : l.findIdx? (fun x => x == s) with
  | none =>
    rw [List.findIdx?_eq_none_iff] at hf
    have := hf s h
    rw [(ba_beq s s).2 rfl] at this
    cases this
  | some i =>
    rw [List.findIdx?_eq_some_iff_getElem] at hf
    obtain ⟨hlt, he, _⟩ := hf
    exact ⟨i, rfl, by rw [List.getElem?_eq_getElem hlt, (ba_beq _ _).1 he]⟩

/-- Registers that can be, each with nothing within. -/
structure GoodR (rs : List (ByteArray × Int)) : Prop where
  dup : (rs.map Prod.fst).Nodup
  named : ∀ x ∈ rs, namedS x.1 = true
  wd : ∀ x ∈ rs, 1 ≤ x.2 ∧ x.2 ≤ 64
  len : rs.length ≤ 200
def plsF (k : Nat) : List (ByteArray × Int) → List Pl
  | [] => []
  | x :: l => ⟨k, 0, x.2⟩ :: plsF (k + 1) l
theorem plsF_snoc (k : Nat) (l : List (ByteArray × Int)) (x : ByteArray × Int) : plsF k (l ++ [x]) = plsF k l ++ [⟨(k + l.length : Nat), 0, x.2⟩] := by
  induction l generalizing k with
  | nil => rfl
  | cons y l ih => simp only [List.cons_append, plsF, ih, List.length_cons]; rw [show k + 1 + l.length = k + (l.length + 1) by omega]
theorem plsF_len (k : Nat) (l : List (ByteArray × Int)) : (plsF k l).length = l.length := by
  induction l generalizing k with
  | nil => rfl
  | cons x l ih => simp [plsF, ih]
theorem plsF_at (k : Nat) (l : List (ByteArray × Int)) (i : Nat) (x : ByteArray × Int) (h : l[i]? = some x) : (plsF k l)[i]? = some ⟨(k + i : Nat), 0, x.2⟩ := by
  induction l generalizing k i with
  | nil => simp at h
  | cons y l ih =>
    cases i with
    | zero => simp at h; subst h; simp [plsF]
    | succ i =>
      simp only [plsF, List.getElem?_cons_succ]
      rw [ih (k + 1) i (by simpa using h)]
      simp; omega
theorem plsF_root (k : Nat) (l : List (ByteArray × Int)) : ∀ p ∈ plsF k l, p.root < (k + l.length : Nat) := by
  intro p hp
  obtain ⟨i, hi⟩ := List.getElem?_of_mem hp
  have hlt := (List.getElem?_eq_some_iff.1 hi).1
  rw [plsF_len] at hlt
  rw [plsF_at k l i _ (List.getElem?_eq_getElem hlt)] at hi
  cases hi
  show ((k + i : Nat) : Int) < _
  omega
/-- The state when these are taken. -/
structure InvF (rs : List (ByteArray × Int)) (σ : Wk) : Prop where
  names : σ.names = rs.map Prod.fst
  places : σ.places = plsF 0 rs
  ways : ∃ rest, σ.ways = (⟨0, 0, 0⟩, σ.places) :: rest
  roots : σ.roots = rs.length
def gStep (σ : Wk) (r : RegT) : Except Int Wk := match oneS σ r.name r.width r.beg 1 with
      | .ok σ' => downS 6 (1 + 1) r.subs σ'
      | .error x => .error x
theorem placesS_eq (l : List RegT) : placesS l = stepsS gStep l wk0 := rfl
theorem stepsS_append {g : Wk → RegT → Except Int Wk} {a b : List RegT} {σ σ' : Wk} (h : stepsS g a σ = .ok σ') : stepsS g (a ++ b) σ = stepsS g b σ' := by
  induction a generalizing σ with
  | nil => simp only [stepsS] at h; cases h; rfl
  | cons r a ih =>
    simp only [stepsS, List.cons_append] at h ⊢
    split at h
    · exact ih h
    · cases h
theorem InvF.nil : InvF [] wk0 := ⟨rfl, rfl, ⟨[], rfl⟩, rfl⟩
/-- An outer register that can be. -/
theorem InvF.one {rs : List (ByteArray × Int)} {σ : Wk} (h : InvF rs σ) (nm : ByteArray) (w : Int) (hl : rs.length < 200) (hn : namedS nm = true) (hm : nm ∉ rs.map Prod.fst) :
    oneS σ nm w 0 1 = if 1 ≤ w ∧ w ≤ 64 then .ok { names := σ.names ++ [nm], places := σ.places ++ [⟨(rs.length : Nat), 0, w⟩], ways := [(⟨0, 0, 0⟩, σ.places ++ [⟨(rs.length : Nat), 0, w⟩]), (⟨(rs.length : Nat), 0, w⟩, [])], roots := (rs.length : Int) + 1 } else .error 6 := by
  obtain ⟨rest, hways⟩ := h.ways
  have hlen : σ.names.length = rs.length := by rw [h.names]; simp
  have hmem : memB nm σ.names = false := by
    cases hh : memB nm σ.names with
    | false => rfl
    | true => rw [memB_iff, h.names] at hh; exact absurd hh hm
  unfold oneS
  rw [if_neg (by omega), hlen, if_neg (by omega), if_neg (by rw [hn, hmem]; simp)]
  by_cases h2 : 1 ≤ w ∧ w ≤ 64
  · rw [if_neg (by omega), if_pos h2]
    have hlap : (σ.places).any (lapS ⟨(rs.length : Nat), 0, w⟩) = false := by
      rw [List.any_eq_false]
      intro p hp
      rw [h.places] at hp
      have := plsF_root 0 rs p hp
      have e : decide (((rs.length : Nat) : Int) = p.root) = false := by simp; omega
      simp [lapS, e]
    simp [placeS, within, tookS, hways, h.roots, hlap]
  · rw [if_neg h2, if_pos (by omega)]
theorem InvF.step {rs : List (ByteArray × Int)} {σ : Wk} (h : InvF rs σ) (x : ByteArray × Int) (hl : rs.length < 200) (hn : namedS x.1 = true) (hm : x.1 ∉ rs.map Prod.fst) (hw : 1 ≤ x.2 ∧ x.2 ≤ 64) :
    ∃ σ', gStep σ (flatReg x) = .ok σ' ∧ InvF (rs ++ [x]) σ' := by
  have h1 := h.one x.1 x.2 hl hn hm
  rw [if_pos hw] at h1
  have hg : gStep σ (flatReg x) = .ok { names := σ.names ++ [x.1], places := σ.places ++ [⟨(rs.length : Nat), 0, x.2⟩], ways := [(⟨0, 0, 0⟩, σ.places ++ [⟨(rs.length : Nat), 0, x.2⟩]), (⟨(rs.length : Nat), 0, x.2⟩, [])], roots := (rs.length : Int) + 1 } := by
    show (match oneS σ x.1 x.2 0 1 with | .ok σ' => downS 6 (1 + 1) [] σ' | .error x => .error x) = _
    rw [h1]; rfl
  refine ⟨_, hg, ?_, ?_, ⟨_, rfl⟩, ?_⟩
  · show σ.names ++ [x.1] = _; rw [h.names]; simp
  · show σ.places ++ [_] = _; rw [h.places, plsF_snoc]; simp
  · show (rs.length : Int) + 1 = _; simp
theorem rows_good {rs : List (ByteArray × Int)} : ∀ {rs0 : List (ByteArray × Int)} {σ : Wk}, GoodR (rs0 ++ rs) → InvF rs0 σ → ∃ σ', stepsS gStep (rs.map flatReg) σ = .ok σ' ∧ InvF (rs0 ++ rs) σ' := by
  induction rs with
  | nil => intro rs0 σ _ h; exact ⟨σ, rfl, by simpa using h⟩
  | cons x rs ih =>
    intro rs0 σ hg h
    have hlen := hg.len
    simp at hlen
    obtain ⟨σ1, e1, h1⟩ := h.step x (by omega) (hg.named x (by simp)) (by
      have := hg.dup
      rw [List.map_append, List.map_cons, List.nodup_append] at this
      intro hm
      exact this.2.2 _ hm _ (by simp) rfl) (hg.wd x (by simp))
    obtain ⟨σ2, e2, h2⟩ := ih (rs0 := rs0 ++ [x]) (by simpa using hg) h1
    refine ⟨σ2, ?_, by simpa using h2⟩
    simp only [List.map_cons, stepsS, e1]
    exact e2
theorem places_good {rs : List (ByteArray × Int)} (h : GoodR rs) : ∃ σ, placesS (rs.map flatReg) = .ok σ ∧ InvF rs σ := by
  have := rows_good (rs0 := []) (rs := rs) h InvF.nil
  simpa [placesS_eq] using this
theorem places_bad {rs : List (ByteArray × Int)} {r : RegT} {rest : List RegT} {e : Int} (h : GoodR rs) (he : ∀ σ, InvF rs σ → gStep σ r = .error e) : placesS (rs.map flatReg ++ r :: rest) = .error e := by
  obtain ⟨σ, h1, h2⟩ := places_good h
  rw [placesS_eq] at h1 ⊢
  rw [stepsS_append h1]
  simp only [stepsS, he σ h2]
theorem head_good {M : Mach} {rs : List (ByteArray × Int)} (hn : namedS M.name = true) (hr : M.regs = rs.map flatReg) (h : GoodR rs) (h1 : rs ≠ []) : headS M = .ok (rs.map Prod.fst, plsF 0 rs) := by
  obtain ⟨σ, e, hi⟩ := places_good h
  unfold headS
  rw [if_pos hn, hr, e]
  have : 0 < σ.names.length := by
    rw [hi.names]
    cases rs with
    | nil => exact absurd rfl h1
    | cons a l => simp
  simp only [if_pos this]
  rw [hi.names, hi.places]
end Go.Proofs.Ythomndfagpeniaa
end

section
namespace Go.Proofs.Ythomndfagpeniaa
variable {M : Mach} {N : List ByteArray} {L : List Pl}

theorem regS_in {r : ByteArray} (h : r ∈ N) (e : Int) : regS N r e = .ok (idx N r) := by
  obtain ⟨i, hi, _⟩ := idx_mem h
  unfold regS; rw [if_pos (by omega)]
theorem regS_out {r : ByteArray} (h : r ∉ N) (e : Int) : regS N r e = .error e := by
  unfold regS; rw [idx_not h, if_neg (by decide)]
theorem widthS_in {c : Cls} {r : ByteArray} {rs : List ByteArray} (hr : c.regs = r :: rs) (h : r ∈ N) : widthS N L c = .ok (plAt L (idx N r)).width := by
  unfold widthS; rw [hr, List.headD_cons, regS_in h]
theorem regOK_good {c : Cls} {i : Nat} {r : ByteArray} {w : Int} (hd : c.regs.Nodup) (hi : c.regs[i]? = some r) (h0 : ∀ r ∈ c.regs.head?, r ∈ N ∧ (plAt L (idx N r)).width = w) (hr : r ∈ N ∧ (plAt L (idx N r)).width = w) : regOK N L c i r = .ok () := by
  unfold regOK
  rw [regS_in hr.1]
  simp only [idx_at hd hi, if_true]
  cases hc : c.regs with
  | nil => rw [hc] at hi; simp at hi
  | cons a l =>
    have := h0 a (by rw [hc]; simp)
    rw [widthS_in hc this.1, this.2]
    simp [hr.2]
theorem class_good {c : Cls} {i : Nat} {w : Int} (hn : namedS c.name = true) (hx : clsIx M c.name = i) (ho : c.name ∉ N) (hl : 1 ≤ c.regs.length ∧ c.regs.length ≤ 64) (hd : c.regs.Nodup) (hr : ∀ r ∈ c.regs, r ∈ N ∧ (plAt L (idx N r)).width = w) :
    classOK M N L i c = .ok () := by
  unfold classOK
  rw [if_pos ⟨hn, hx, by rw [idx_not ho]; decide⟩, if_pos hl]
  refine goS_all fun j r hj => ?_
  rw [Nat.zero_add]
  exact regOK_good hd hj (fun r h => hr r (List.mem_of_mem_head? h)) (hr r (List.mem_of_getElem? hj))
theorem class_bad {c : Cls} {i k : Nat} {w : Int} {r : ByteArray} (hn : namedS c.name = true) (hx : clsIx M c.name = i) (ho : c.name ∉ N) (hl : 1 ≤ c.regs.length ∧ c.regs.length ≤ 64) (hd : c.regs.Nodup)
    (hr : ∀ j r, j < k → c.regs[j]? = some r → r ∈ N ∧ (plAt L (idx N r)).width = w) (hk : c.regs[k]? = some r) (hb : r ∉ N) : classOK M N L i c = .error 8 := by
  unfold classOK
  rw [if_pos ⟨hn, hx, by rw [idx_not ho]; decide⟩, if_pos hl]
  refine goS_first (k := k) (fun j r hj hr2 => ?_) hk ?_
  · rw [Nat.zero_add]
    refine regOK_good hd hr2 (fun r h => hr 0 r (by omega) ?_) (hr j r hj hr2)
    cases hc : c.regs with
    | nil => rw [hc] at h; simp at h
    | cons a l => rw [hc] at h; simp at h; subst h; simp
  · rw [Nat.zero_add]; unfold regOK; rw [regS_out hb]

/-- A machine whose first class there is, of registers of one width. -/
structure Pm (M : Mach) (N : List ByteArray) (L : List Pl) (R : List ByteArray) : Prop where
  c0 : M.classes[0]? = some ⟨gN, R⟩
  ne : R ≠ []
  w8 : ∀ r ∈ R, r ∈ N ∧ (plAt L (idx N r)).width = 8
variable {R : List ByteArray}
theorem Pm.ix (h : Pm M N L R) : clsIx M gN = ((0 : Nat) : Int) := fidx_at h.c0 ((ba_beq _ _).2 rfl) (fun j y hj => by omega)
theorem Pm.wd (h : Pm M N L R) : wdS M N L 0 = .ok 8 := by
  have := wdS_at (N := N) (L := L) h.c0
  rw [show ((0 : Nat) : Int) = 0 from rfl] at this
  rw [this]
  cases hR : R with
  | nil => exact absurd hR h.ne
  | cons a l =>
    have := h.w8 a (by rw [hR]; simp)
    rw [widthS_in (c := ⟨gN, a :: l⟩) rfl this.1, this.2]
theorem Pm.oper (h : Pm M N L R) {u : Opr} (hu : u.cls = gN) (hf : u.fix = ⟨#[]⟩ ∨ u.fix ∈ R) : operS M u = .ok 0 := by
  have hx : clsIx M u.cls = 0 := by rw [hu]; exact h.ix
  unfold operS
  rw [hx, if_pos (by decide)]
  have : M.classes[(0 : Int).toNat]? = some ⟨gN, R⟩ := h.c0
  rw [this, if_pos]
  rcases hf with e | e
  · exact Or.inl ((ba_beq _ _).2 e)
  · obtain ⟨i, hi, _⟩ := idx_mem e
    right; show 0 ≤ idx R u.fix; omega
theorem Pm.use (h : Pm M N L R) {u : Opr} (hu : u.cls = gN) (hf : u.fix = ⟨#[]⟩ ∨ u.fix ∈ R) (j : Nat) : useOK M N L 0 j u = .ok () := by
  unfold useOK
  rw [h.oper hu hf]
  simp [h.wd]
theorem op_good (h : Pm M N L R) {o : Opn} {i : Nat} (ha : 0 < arityOf o.name.data.toList) (hf : fidx (fun x => x.name == o.name) M.ops = (i : Int)) (hu : (o.uses.length : Int) = arityOf o.name.data.toList)
    (hd : o.dfn.cls = gN ∧ (o.dfn.fix = ⟨#[]⟩ ∨ o.dfn.fix ∈ R)) (hus : ∀ u ∈ o.uses, u.cls = gN ∧ (u.fix = ⟨#[]⟩ ∨ u.fix ∈ R)) (ht : o.tie = -1) (hc : o.clob.Nodup ∧ o.clob.length ≤ 64 ∧ ∀ r ∈ o.clob, r ∈ N) : opS M N L i o = .ok () := by
  unfold opS
  rw [if_pos ⟨ha, hf⟩, if_pos hu]
  unfold usesS
  rw [h.oper hd.1 hd.2]
  have e1 : goS (useOK M N L 0) 0 o.uses = .ok () := goS_all fun j u hj => h.use (hus u (List.mem_of_getElem? hj)).1 (hus u (List.mem_of_getElem? hj)).2 _
  simp only [e1]
  unfold tailS tieS
  rw [ht, if_pos ⟨by decide, by omega⟩, if_pos (Or.inl (by decide))]
  show clobS N o = _
  unfold clobS
  rw [if_pos hc.2.1]
  refine goS_all fun j r hj => ?_
  unfold clobOK
  rw [regS_in (hc.2.2 r (List.mem_of_getElem? hj)), Nat.zero_add]
  simp [idx_at hc.1 hj]
theorem conv_good (h : Pm M N L R) {r : ByteArray} (ha : M.args = [r]) (hr : M.result = r) (hs : M.saved = []) (hsl : 0 ≤ M.slots ∧ M.slots ≤ 1000) (hN : r ∈ N) (hR : r ∈ R) : convS M N L = .ok () := by
  have hin : M.classes.any (fun c => decide (0 ≤ idx c.regs r)) = true := by
    rw [List.any_eq_true]
    obtain ⟨i, hi, _⟩ := idx_mem hR
    exact ⟨_, List.mem_of_getElem? h.c0, by simp [hi]⟩
  unfold convS apartS
  rw [ha, if_pos (by simp)]
  simp only [apS, regS_in hN, List.any_nil, hr, Bool.false_eq_true, if_false]
  unfold convRest apartS
  rw [hs, if_pos (by decide)]
  simp only [apS, List.any_nil, Bool.false_eq_true, if_false]
  unfold convSlots
  rw [if_pos hsl]
  unfold convIn
  rw [ha, hr]
  simp [goS, inS, hin]
theorem Pm.may (h : Pm M N L R) : mayO M N L gO = R.map fun r => plAt L (idx N r) := by
  have : regsOf M gO = R := regsOf_eq h.ix h.c0
  unfold mayO mayS
  rw [this]
  have e : R.filter (fun r => (gO.fix == ⟨#[]⟩) || (gO.fix == r)) = R := List.filter_eq_self.2 fun r _ => by
    have : (gO.fix == ⟨#[]⟩) = true := (ba_beq _ _).2 rfl
    rw [this]; rfl
  rw [e]
theorem fits_two {o : Opn} {u t : Opr} (hu : o.uses = [u, t]) (ht : o.tie = -1) {p q d : Pl} (hp : p ∈ mayO M N L u) (hq : q ∈ mayO M N L t) (hl : lapS p q = false) (hd : d ∈ mayO M N L o.dfn) (hs : sparedS N L o.clob d = true) : fitsS M N L o = true := by
  unfold fitsS
  rw [hu, List.any_eq_true]
  refine ⟨[p, q], ?_, ?_⟩
  · simp only [choicesS, List.mem_flatMap, List.mem_map, List.mem_filter]
    exact ⟨p, hp, q, ⟨hq, by rw [hl]; rfl⟩, rfl⟩
  · unfold definedS
    rw [ht, if_neg (by decide), List.any_eq_true]
    exact ⟨d, hd, hs⟩
theorem fits_one {o : Opn} {u : Opr} (hu : o.uses = [u]) (ht : o.tie = -1) {p d : Pl} (hp : p ∈ mayO M N L u) (hd : d ∈ mayO M N L o.dfn) (hs : sparedS N L o.clob d = true) : fitsS M N L o = true := by
  unfold fitsS
  rw [hu, List.any_eq_true]
  refine ⟨[p], ?_, ?_⟩
  · simp only [choicesS, List.mem_map]
    exact ⟨p, hp, rfl⟩
  · unfold definedS
    rw [ht, if_neg (by decide), List.any_eq_true]
    exact ⟨d, hd, hs⟩
theorem pair_good {A B : ByteArray} {p q : Pl} (hp : p ∈ mayO M N L ⟨A, ⟨#[]⟩⟩) (hq : q ∈ mayO M N L ⟨B, ⟨#[]⟩⟩) (hl : lapS p q = false) : pairS M N L A B = true := by
  unfold pairS
  rw [List.any_eq_true]
  refine ⟨p, hp, ?_⟩
  rw [List.any_eq_true]
  exact ⟨q, hq, by rw [hl]; rfl⟩
theorem check_head {x : Int} (h : headS M = .error x) : checkS M = .error x := by unfold checkS; rw [h]
theorem check_classes {x : Int} (h : headS M = .ok (N, L)) (hc : classesS M N L = .error x) : checkS M = .error x := by unfold checkS; simp only [h, hc]
theorem check_ops {x : Int} (h : headS M = .ok (N, L)) (hc : classesS M N L = .ok ()) (ho : opsS M N L = .error x) : checkS M = .error x := by unfold checkS; simp only [h, hc, ho]
theorem check_conv {x : Int} (h : headS M = .ok (N, L)) (hc : classesS M N L = .ok ()) (ho : opsS M N L = .ok ()) (hv : convS M N L = .error x) : checkS M = .error x := by unfold checkS; simp only [h, hc, ho, hv]
theorem check_spills (h : headS M = .ok (N, L)) (hc : classesS M N L = .ok ()) (ho : opsS M N L = .ok ()) (hv : convS M N L = .ok ()) : checkS M = spillsS M N L := by unfold checkS; simp only [h, hc, ho, hv]
end Go.Proofs.Ythomndfagpeniaa
end

section
namespace Go.Proofs.Ythomndfagpeniaa

theorem rsS_names (n : Nat) : (rsS n).map Prod.fst = namesS n := by unfold rsS namesS; simp
theorem namesS_at {n i : Nat} (h : i < n) : (namesS n)[i]? = some (nmS i) := by simp [namesS, h]
theorem rsS_at {n i : Nat} (h : i < n) : (rsS n)[i]? = some (nmS i, 8) := by simp [rsS, h]
theorem namesS_nodup {n : Nat} (hn : n ≤ 100) : (namesS n).Nodup := by
  refine List.pairwise_iff_getElem.2 fun i j hi hj hij => ?_
  rw [namesS_len] at hi hj
  simp only [namesS, List.getElem_map, List.getElem_range]
  intro e
  have := nmS_inj (by omega) (by omega) e
  omega
theorem namesS_mem {n : Nat} {s : ByteArray} (h : s ∈ namesS n) : ∃ i, i < n ∧ s = nmS i := by
  obtain ⟨i, hi, rfl⟩ := List.mem_map.1 h
  exact ⟨i, List.mem_range.1 hi, rfl⟩
theorem mem_namesS {n i : Nat} (h : i < n) : nmS i ∈ namesS n := List.mem_of_getElem? (namesS_at h)
theorem not_namesS {n : Nat} {s : ByteArray} (hn : n ≤ 100) (h : (List.range 100).all (fun i => !(nmS i == s)) = true) : s ∉ namesS n := by
  intro hm
  obtain ⟨i, hi, rfl⟩ := namesS_mem hm
  have := List.all_eq_true.1 h i (List.mem_range.2 (by omega))
  rw [(ba_beq _ _).2 rfl] at this
  cases this
theorem g_not {n : Nat} (hn : n ≤ 100) : gN ∉ namesS n := not_namesS hn (by kernel_rfl)
def hN : ByteArray := ⟨#[104]⟩
theorem h_not {n : Nat} (hn : n ≤ 100) : hN ∉ namesS n := not_namesS hn (by kernel_rfl)
def nothingN : ByteArray := ⟨#[110, 111, 116, 104, 105, 110, 103]⟩
theorem nothing_not {n : Nat} (hn : n ≤ 100) : nothingN ∉ namesS n := not_namesS hn (by kernel_rfl)
theorem empty_not {n : Nat} (hn : n ≤ 100) : (⟨#[]⟩ : ByteArray) ∉ namesS n := not_namesS hn (by kernel_rfl)
theorem good_rsS {n : Nat} (hn : n ≤ 100) : GoodR (rsS n) := by
  refine ⟨by rw [rsS_names]; exact namesS_nodup hn, fun x hx => ?_, fun x hx => ?_, by rw [rsS_len]; omega⟩
  · obtain ⟨i, hi, rfl⟩ := List.mem_map.1 hx
    exact nmS_named i (by have := List.mem_range.1 hi; omega)
  · obtain ⟨i, hi, rfl⟩ := List.mem_map.1 hx
    exact ⟨by show (1 : Int) ≤ 8; decide, by show (8 : Int) ≤ 64; decide⟩
theorem GoodR.take {rs : List (ByteArray × Int)} (h : GoodR rs) (k : Nat) : GoodR (rs.take k) :=
  ⟨by rw [List.map_take]; exact h.dup.sublist (List.take_sublist _ _), fun x hx => h.named x (List.mem_of_mem_take hx), fun x hx => h.wd x (List.mem_of_mem_take hx), by rw [List.length_take]; have := h.len; omega⟩
/-- The places of the small machine. -/
def plsS (n : Nat) : List Pl := plsF 0 (rsS n)
theorem pl_at {n i : Nat} (hn : n ≤ 100) (h : i < n) : plAt (plsS n) (idx (namesS n) (nmS i)) = ⟨(i : Nat), 0, 8⟩ := by
  rw [idx_at (namesS_nodup hn) (namesS_at h)]
  unfold plAt
  rw [Int.toNat_natCast, List.getD_eq_getElem?_getD, plsS, plsF_at 0 _ i _ (rsS_at h)]
  simp
theorem w8_at {n : Nat} {s : ByteArray} (hn : n ≤ 100) (h : s ∈ namesS n) : s ∈ namesS n ∧ (plAt (plsS n) (idx (namesS n) s)).width = 8 := by
  obtain ⟨i, hi, rfl⟩ := namesS_mem h
  exact ⟨h, by rw [pl_at hn hi]⟩
/-- The small machine with other parts behind the registers. -/
theorem head_small {n : Nat} {M : Mach} (h1 : 1 ≤ n) (hn : n ≤ 100) (hnm : namedS M.name = true) (hr : M.regs = regsS n) : headS M = .ok (namesS n, plsS n) := by
  have := head_good hnm (hr.trans (rsS_regs n).symm) (good_rsS hn) (by intro e; have := rsS_len n; rw [e] at this; simp at this; omega)
  rw [this, rsS_names]; rfl
theorem rows_at {rs : List (ByteArray × Int)} {k : Nat} {x : ByteArray × Int} {e : Int} (hk : rs[k]? = some x) (hg : GoodR (rs.take k)) (he : ∀ σ, InvF (rs.take k) σ → gStep σ (flatReg x) = .error e) : placesS (rs.map flatReg) = .error e := by
  obtain ⟨hlt, ex⟩ := List.getElem?_eq_some_iff.1 hk
  have := places_bad (rest := (rs.drop (k + 1)).map flatReg) hg he
  have e2 : rs = rs.take k ++ x :: rs.drop (k + 1) := by
    rw [← ex, ← List.drop_eq_getElem_cons hlt, List.take_append_drop]
  rw [e2, List.map_append, List.map_cons]
  exact this
theorem step_wd {rs : List (ByteArray × Int)} {σ : Wk} (h : InvF rs σ) (x : ByteArray × Int) (hl : rs.length < 200) (hn : namedS x.1 = true) (hm : x.1 ∉ rs.map Prod.fst) (hw : ¬ (1 ≤ x.2 ∧ x.2 ≤ 64)) : gStep σ (flatReg x) = .error 6 := by
  show (match oneS σ x.1 x.2 0 1 with | .ok σ' => downS 6 (1 + 1) [] σ' | .error x => .error x) = _
  rw [h.one x.1 x.2 hl hn hm, if_neg hw]
theorem step_dup {rs : List (ByteArray × Int)} {σ : Wk} (h : InvF rs σ) (x : ByteArray × Int) (hl : rs.length < 200) (hm : x.1 ∈ rs.map Prod.fst) : gStep σ (flatReg x) = .error 5 := by
  have hlen : σ.names.length = rs.length := by rw [h.names]; simp
  have hmem : memB x.1 σ.names = true := by rw [memB_iff, h.names]; exact hm
  show (match oneS σ x.1 x.2 0 1 with | .ok σ' => downS 6 (1 + 1) [] σ' | .error x => .error x) = _
  have : oneS σ x.1 x.2 0 1 = .error 5 := by
    unfold oneS
    rw [if_neg (by decide), hlen, if_neg (by omega), if_pos (by rw [hmem]; simp)]
  rw [this]
theorem head_places {M : Mach} {x : Int} (hn : namedS M.name = true) (h : placesS M.regs = .error x) : headS M = .error x := by
  unfold headS; rw [if_pos hn, h]

/-- The parts of a small machine whose one class there is first. -/
theorem class_small {M : Mach} {n : Nat} {R : List ByteArray} {rest : List Cls} (hn : n ≤ 60) (hc : M.classes = ⟨gN, R⟩ :: rest) (hl : 1 ≤ R.length) (hd : R.Nodup) (hR : ∀ r ∈ R, r ∈ namesS n) (hl2 : R.length ≤ 64) : classOK M (namesS n) (plsS n) 0 ⟨gN, R⟩ = .ok () :=
  class_good (by show namedS gN = true; kernel_rfl) (by unfold clsIx; rw [hc]; exact fidx_at (i := 0) rfl ((ba_beq _ _).2 rfl) (fun j y hj => by omega)) (g_not (by omega)) ⟨hl, hl2⟩ hd (fun r hr => w8_at (by omega) (hR r hr))
theorem pm_small {M : Mach} {n : Nat} {R : List ByteArray} {rest : List Cls} (hn : n ≤ 60) (hc : M.classes = ⟨gN, R⟩ :: rest) (hne : R ≠ []) (hR : ∀ r ∈ R, r ∈ namesS n) : Pm M (namesS n) (plsS n) R :=
  ⟨by rw [hc]; rfl, hne, fun r hr => w8_at (by omega) (hR r hr)⟩
end Go.Proofs.Ythomndfagpeniaa
end

section
namespace Go.Proofs.Ythomndfagpeniaa
variable {n : Nat}

def opA (us : List Opr) (tie : Int) (cl : List ByteArray) : Opn := ⟨addN, gO, us, tie, cl⟩
def opN (tie : Int) : Opn := ⟨notN, gO, [gO], tie, []⟩
def opD (cl : List ByteArray) : Opn := ⟨divN, gO, [gO, gO], -1, cl⟩
theorem ar_add : arityOf addN.data.toList = 2 := by kernel_rfl
theorem ar_not : arityOf notN.data.toList = 1 := by kernel_rfl
theorem ar_div : arityOf divN.data.toList = 2 := by kernel_rfl
variable {M : Mach} {N : List ByteArray} {L : List Pl} {R : List ByteArray}
theorem op0_good (h : Pm M N L R) {us : List Opr} {cl : List ByteArray} {rest : List Opn} (ho : M.ops = opA us (-1) cl :: rest) (hl : us.length = 2) (hus : ∀ u ∈ us, u.cls = gN ∧ (u.fix = ⟨#[]⟩ ∨ u.fix ∈ R)) (hc : cl.Nodup ∧ cl.length ≤ 64 ∧ ∀ r ∈ cl, r ∈ N) : opS M N L 0 (opA us (-1) cl) = .ok () :=
  op_good (i := 0) h (by show 0 < arityOf addN.data.toList; rw [ar_add]; decide) (by rw [ho]; exact fidx_at (i := 0) rfl ((ba_beq _ _).2 rfl) (fun j y hj => by omega)) (by show ((us.length : Nat) : Int) = arityOf addN.data.toList; rw [ar_add, hl]; rfl) ⟨rfl, Or.inl rfl⟩ hus rfl hc
theorem no_clob : ([] : List ByteArray).Nodup ∧ ([] : List ByteArray).length ≤ 64 ∧ ∀ r ∈ ([] : List ByteArray), r ∈ N := ⟨List.Pairwise.nil, by simp, by simp⟩
theorem two_gO : ∀ u ∈ [gO, gO], u.cls = gN ∧ (u.fix = ⟨#[]⟩ ∨ u.fix ∈ R) := by
  intro u hu
  simp at hu; subst hu; exact ⟨rfl, Or.inl rfl⟩
theorem one_gO : ∀ u ∈ [gO], u.cls = gN ∧ (u.fix = ⟨#[]⟩ ∨ u.fix ∈ R) := by
  intro u hu
  simp at hu; subst hu; exact ⟨rfl, Or.inl rfl⟩
theorem op1_good (h : Pm M N L R) {us : List Opr} {tie : Int} {cl : List ByteArray} {rest : List Opn} (ho : M.ops = opA us tie cl :: opN (-1) :: rest) : opS M N L 1 (opN (-1)) = .ok () :=
  op_good (i := 1) h (by show 0 < arityOf notN.data.toList; rw [ar_not]; decide) (by rw [ho]; rfl) (by show ((1 : Nat) : Int) = arityOf notN.data.toList; rw [ar_not]; rfl) ⟨rfl, Or.inl rfl⟩ one_gO rfl no_clob
theorem op2_good (h : Pm M N L R) {us : List Opr} {tie : Int} {cl cl2 : List ByteArray} {rest : List Opn} (ho : M.ops = opA us tie cl :: opN (-1) :: opD cl2 :: rest) (hc : cl2.Nodup ∧ cl2.length ≤ 64 ∧ ∀ r ∈ cl2, r ∈ N) : opS M N L 2 (opD cl2) = .ok () :=
  op_good (i := 2) h (by show 0 < arityOf divN.data.toList; rw [ar_div]; decide) (by rw [ho]; rfl) (by show ((2 : Nat) : Int) = arityOf divN.data.toList; rw [ar_div]; rfl) ⟨rfl, Or.inl rfl⟩ two_gO rfl hc
/-- Operations that can be. -/
theorem ops_good (h : Pm M N L R) {us : List Opr} {cl cl2 : List ByteArray} (ho : M.ops = [opA us (-1) cl, opN (-1), opD cl2]) (hl : us.length = 2) (hus : ∀ u ∈ us, u.cls = gN ∧ (u.fix = ⟨#[]⟩ ∨ u.fix ∈ R))
    (hc : cl.Nodup ∧ cl.length ≤ 64 ∧ ∀ r ∈ cl, r ∈ N) (hc2 : cl2.Nodup ∧ cl2.length ≤ 64 ∧ ∀ r ∈ cl2, r ∈ N) : opsS M N L = .ok () := by
  unfold opsS
  rw [if_pos (by rw [ho]; simp)]
  have e0 := op0_good h ho hl hus hc
  have e1 := op1_good h ho
  have e2 := op2_good h ho hc2
  rw [ho]
  simp only [goS, e0, e1, e2]
theorem ops_plain (h : Pm M N L R) (ho : M.ops = [opA [gO, gO] (-1) [], opN (-1), opD []]) : opsS M N L = .ok () := ops_good h ho rfl two_gO no_clob no_clob
theorem smallM_ops (n : Nat) : (smallM n).ops = [opA [gO, gO] (-1) [], opN (-1), opD []] := rfl

theorem lap_far {i j : Nat} (h : i ≠ j) : lapS ⟨(i : Nat), 0, 8⟩ ⟨(j : Nat), 0, 8⟩ = false := by
  have e : decide (((i : Nat) : Int) = ((j : Nat) : Int)) = false := by simp; omega
  simp [lapS, e]
theorem lap_same {i : Nat} : lapS ⟨(i : Nat), 0, 8⟩ ⟨(i : Nat), 0, 8⟩ = true := by simp [lapS]

/-- A name's place among the places that an operand of the class may be. -/
theorem may_at (h : Pm M (namesS n) (plsS n) R) (hn : n ≤ 60) {i : Nat} (hi : i < n) (hR : nmS i ∈ R) : (⟨(i : Nat), 0, 8⟩ : Pl) ∈ mayO M (namesS n) (plsS n) gO := by
  rw [h.may, List.mem_map]
  exact ⟨nmS i, hR, pl_at (by omega) hi⟩
theorem spared_nil {p : Pl} : sparedS N L [] p = true := rfl
theorem spill_ops (hn : n ≤ 60) (h : Pm M (namesS n) (plsS n) R) (ho : M.ops = [opA [gO, gO] (-1) [], opN (-1), opD []]) {i j : Nat} (hij : i ≠ j) (hi : i < n) (hj : j < n) (hiR : nmS i ∈ R) (hjR : nmS j ∈ R) :
    goS (spillO M (namesS n) (plsS n)) 0 M.ops = .ok () := by
  have mi := may_at h hn hi hiR
  have mj := may_at h hn hj hjR
  have f0 : fitsS M (namesS n) (plsS n) (opA [gO, gO] (-1) []) = true := fits_two rfl rfl mi mj (lap_far hij) mi spared_nil
  have f1 : fitsS M (namesS n) (plsS n) (opN (-1)) = true := fits_one rfl rfl mi mi spared_nil
  have f2 : fitsS M (namesS n) (plsS n) (opD []) = true := fits_two rfl rfl mi mj (lap_far hij) mi spared_nil
  rw [ho]
  simp [goS, spillO, f0, f1, f2]
theorem pair_g (hn : n ≤ 60) (h : Pm M (namesS n) (plsS n) R) {i j : Nat} (hij : i ≠ j) (hi : i < n) (hj : j < n) (hiR : nmS i ∈ R) (hjR : nmS j ∈ R) : pairS M (namesS n) (plsS n) gN gN = true :=
  pair_good (may_at h hn hi hiR) (may_at h hn hj hjR) (lap_far hij)
theorem classes_one {c : Cls} (hc : M.classes = [c]) (h : classOK M N L 0 c = .ok ()) : classesS M N L = .ok () := by
  unfold classesS
  rw [hc, if_pos (by simp)]
  simp only [goS, h]
theorem classes_two {c d : Cls} (hc : M.classes = [c, d]) (h : classOK M N L 0 c = .ok ()) : classesS M N L = classOK M N L 1 d := by
  unfold classesS
  rw [hc, if_pos (by simp)]
  simp only [goS, h]
  cases classOK M N L (0 + 1) d <;> rfl
theorem spills_one {c : Cls} (hc : M.classes = [c]) (h : goS (spillO M N L) 0 M.ops = .ok ()) (hp : pairS M N L c.name c.name = true) : spillsS M N L = .ok () := by
  unfold spillsS
  simp only [h]
  rw [hc]
  simp only [goS, spillC, hc, List.take, spillP, hp, if_true]
theorem small_names {M : Mach} (hn : n ≤ 60) (h1 : 1 ≤ n) {rest : List Cls} (hc : M.classes = ⟨gN, namesS n⟩ :: rest) : Pm M (namesS n) (plsS n) (namesS n) :=
  pm_small hn hc (by intro e; have := namesS_len n; rw [e] at this; simp at this; omega) (fun r h => h)
theorem small_class {M : Mach} (hn : n ≤ 60) (h1 : 1 ≤ n) {rest : List Cls} (hc : M.classes = ⟨gN, namesS n⟩ :: rest) : classOK M (namesS n) (plsS n) 0 ⟨gN, namesS n⟩ = .ok () :=
  class_small hn hc (by rw [namesS_len]; omega) (namesS_nodup (by omega)) (fun r h => h) (by rw [namesS_len]; omega)
theorem small_head {M : Mach} (hn : n ≤ 60) (h1 : 1 ≤ n) (hnm : M.name = mN) (hr : M.regs = regsS n) : headS M = .ok (namesS n, plsS n) :=
  head_small h1 (by omega) (by rw [hnm]; kernel_rfl) hr
/-- All is well. -/
theorem small_ok (h2 : 2 ≤ n) (hn : n ≤ 60) : checkS (smallM n) = .ok () := by
  have hp := small_names (M := smallM n) hn (by omega) rfl
  have hh := small_head (M := smallM n) hn (by omega) rfl rfl
  have hc := classes_one (M := smallM n) rfl (small_class hn (by omega) rfl)
  rw [check_spills hh hc (ops_plain hp rfl) (conv_good hp rfl rfl rfl ⟨by show (0 : Int) ≤ 100; decide, by show (100 : Int) ≤ 1000; decide⟩ (mem_namesS (by omega)) (mem_namesS (by omega)))]
  exact spills_one (M := smallM n) rfl (spill_ops hn hp rfl (i := 0) (j := 1) (by decide) (by omega) (by omega) (mem_namesS (by omega)) (mem_namesS (by omega)))
    (pair_g hn hp (i := 0) (j := 1) (by decide) (by omega) (by omega) (mem_namesS (by omega)) (mem_namesS (by omega)))

/- Each wrong thing. -/
def mut0 (n : Nat) : Mach := { smallM n with name := ⟨#[114, 101, 103]⟩ }
theorem mut0_err : checkS (mut0 n) = .error 5 := check_head (by unfold headS; rw [if_neg]; show ¬ namedS ⟨#[114, 101, 103]⟩ = true; decide +kernel)
def mut1 (n k : Nat) : Mach := { smallM n with regs := ((rsS n).set k (nmS k, 0)).map flatReg }
theorem not_before {i n : Nat} (hn : n ≤ 100) (h : i < n) : nmS i ∉ ((rsS n).take i).map Prod.fst := by
  rw [List.map_take, rsS_names]
  intro hm
  obtain ⟨j, hj⟩ := List.getElem?_of_mem hm
  have hlt := (List.getElem?_eq_some_iff.1 hj).1
  rw [List.length_take] at hlt
  rw [List.getElem?_take, if_pos (by omega), namesS_at (by omega)] at hj
  have := nmS_inj (i := j) (j := i) (by omega) (by omega) (by simpa using hj)
  omega
theorem mut1_err {k : Nat} (hn : n ≤ 60) (hk : k < n) : checkS (mut1 n k) = .error 6 := by
  refine check_head (head_places (by show namedS mN = true; kernel_rfl) ?_)
  refine rows_at (k := k) (x := (nmS k, 0)) (by rw [List.getElem?_set_self]; rw [rsS_len]; exact hk) ?_ (fun σ hσ => ?_)
  · rw [List.take_set_of_le (Nat.le_refl k)]
    exact (good_rsS (by omega)).take k
  · rw [List.take_set_of_le (Nat.le_refl k)] at hσ
    refine step_wd hσ _ (by rw [List.length_take, rsS_len]; omega) (nmS_named k (by omega)) (not_before (by omega) hk) (by simp)
def mut2 (n k : Nat) : Mach := { smallM n with regs := ((rsS n).set k (nmS ((k + 1) % n), 8)).map flatReg }
def mut3 (n k : Nat) : Mach := { smallM n with classes := [⟨gN, (namesS n).set k nothingN⟩] }
theorem mut3_err {k : Nat} (hn : n ≤ 60) (hk : k < n) : checkS (mut3 n k) = .error 8 := by
  have hh := small_head (M := mut3 n k) hn (by omega) rfl rfl
  refine check_classes hh ?_
  have hcl : classOK (mut3 n k) (namesS n) (plsS n) 0 ⟨gN, (namesS n).set k nothingN⟩ = .error 8 := by
    refine class_bad (k := k) (w := 8) (r := nothingN) (by show namedS gN = true; kernel_rfl) (fidx_at (i := 0) rfl ((ba_beq _ _).2 rfl) (fun j y hj => by omega)) (g_not (by omega)) ?_ ?_ (fun j r hj hr => ?_) ?_ (nothing_not (by omega))
    · show 1 ≤ ((namesS n).set k nothingN).length ∧ _; rw [List.length_set, namesS_len]; omega
    · show ((namesS n).set k nothingN).Nodup
      refine List.pairwise_iff_getElem.2 fun i j hi hj hij => ?_
      rw [List.length_set, namesS_len] at hi hj
      simp only [List.getElem_set]
      have hx := List.pairwise_iff_getElem.1 (namesS_nodup (n := n) (by omega)) i j (by rw [namesS_len]; exact hi) (by rw [namesS_len]; exact hj) hij
      split
      · split
        · omega
        · intro e; exact nothing_not (n := n) (by omega) (e ▸ List.getElem_mem _)
      · split
        · intro e; exact nothing_not (n := n) (by omega) (e ▸ List.getElem_mem _)
        · exact hx
    · show r ∈ _ ∧ _
      have hr : ((namesS n).set k nothingN)[j]? = some r := hr
      rw [List.getElem?_set_ne (by omega)] at hr
      exact w8_at (by omega) (List.mem_of_getElem? hr)
    · show ((namesS n).set k nothingN)[k]? = _
      rw [List.getElem?_set_self (by rw [namesS_len]; exact hk)]
  unfold classesS
  rw [if_pos (by show 1 ≤ 64; decide)]
  show goS _ 0 [_] = _
  simp only [goS, hcl]
end Go.Proofs.Ythomndfagpeniaa
end

section
namespace Go.Proofs.Ythomndfagpeniaa
variable {n : Nat} {M : Mach} {N : List ByteArray} {L : List Pl} {R : List ByteArray}

theorem not_take {k j : Nat} (hn : n ≤ 100) (hj : j < 100) (h : k ≤ j) : nmS j ∉ ((rsS n).take k).map Prod.fst := by
  rw [List.map_take, rsS_names]
  intro hm
  obtain ⟨i, hi⟩ := List.getElem?_of_mem hm
  have hlt := (List.getElem?_eq_some_iff.1 hi).1
  rw [List.length_take, namesS_len] at hlt
  rw [List.getElem?_take, if_pos (by omega), namesS_at (by omega)] at hi
  have := nmS_inj (i := i) (j := j) (by omega) (by omega) (by simpa using hi)
  omega
theorem mut2_err {k : Nat} (h3 : 3 ≤ n) (hn : n ≤ 60) (hk : k < n) : checkS (mut2 n k) = .error 5 := by
  refine check_head (head_places (by show namedS mN = true; kernel_rfl) ?_)
  show placesS (((rsS n).set k (nmS ((k + 1) % n), 8)).map flatReg) = _
  by_cases hl : k + 1 < n
  · rw [Nat.mod_eq_of_lt hl]
    have e : ((rsS n).set k (nmS (k + 1), 8)).take (k + 1) = (rsS n).take k ++ [(nmS (k + 1), 8)] := by
      rw [List.take_add_one, List.take_set_of_le (Nat.le_refl k), List.getElem?_set_self (by rw [rsS_len]; exact hk)]; rfl
    have hg := (good_rsS (n := n) (by omega)).take k
    refine rows_at (k := k + 1) (x := (nmS (k + 1), 8)) (by rw [List.getElem?_set_ne (by omega), rsS_at hl]) ?_ (fun σ hσ => ?_)
    · rw [e]
      refine ⟨?_, fun x hx => ?_, fun x hx => ?_, ?_⟩
      · rw [List.map_append, List.nodup_append]
        refine ⟨hg.dup, by simp, fun a ha b hb => ?_⟩
        simp at hb; subst hb
        intro e; subst e
        exact not_take (n := n) (by omega) (by omega) (Nat.le_succ k) ha
      · rcases List.mem_append.1 hx with h | h
        · exact hg.named x h
        · simp at h; subst h; exact nmS_named _ (by omega)
      · rcases List.mem_append.1 hx with h | h
        · exact hg.wd x h
        · simp at h; subst h; exact ⟨by show (1 : Int) ≤ 8; decide, by show (8 : Int) ≤ 64; decide⟩
      · have := hg.len; rw [List.length_append]; rw [List.length_take, rsS_len] at *; simp; omega
    · rw [e] at hσ
      exact step_dup hσ _ (by rw [List.length_append, List.length_take, rsS_len]; simp; omega) (by simp)
  · obtain rfl : k = n - 1 := by omega
    have e0 : (n - 1 + 1) % n = 0 := by rw [show n - 1 + 1 = n by omega, Nat.mod_self]
    rw [e0]
    refine rows_at (k := n - 1) (x := (nmS 0, 8)) (by rw [List.getElem?_set_self]; rw [rsS_len]; exact hk) ?_ (fun σ hσ => ?_)
    · rw [List.take_set_of_le (Nat.le_refl _)]
      exact (good_rsS (by omega)).take _
    · rw [List.take_set_of_le (Nat.le_refl _)] at hσ
      refine step_dup hσ _ (by rw [List.length_take, rsS_len]; omega) ?_
      rw [List.map_take, rsS_names]
      refine List.mem_of_getElem? (i := 0) ?_
      rw [List.getElem?_take, if_pos (by omega), namesS_at (by omega)]
def mut4 (n : Nat) : Mach := { smallM n with classes := [⟨gN, namesS n⟩, ⟨hN, [nmS 0, nmS 0]⟩] }
theorem h_ix {c : Cls} (hc : M.classes = [⟨gN, R⟩, c]) (h : c.name = hN) : clsIx M hN = ((1 : Nat) : Int) := by
  unfold clsIx; rw [hc]
  refine fidx_at (i := 1) rfl ((ba_beq _ _).2 h) (fun j y hj hy => ?_)
  obtain rfl : j = 0 := by omega
  simp at hy; subst hy
  show (gN == hN) = false
  decide +kernel
theorem mut4_err (h3 : 3 ≤ n) (hn : n ≤ 60) : checkS (mut4 n) = .error 8 := by
  refine check_classes (small_head (M := mut4 n) hn (by omega) rfl rfl) ?_
  rw [classes_two (M := mut4 n) rfl (small_class hn (by omega) rfl)]
  unfold classOK
  rw [if_pos ⟨by show namedS hN = true; kernel_rfl, h_ix (M := mut4 n) rfl rfl, by show ¬ 0 ≤ idx (namesS n) hN; rw [idx_not (h_not (by omega))]; decide⟩, if_pos (by show 1 ≤ 2 ∧ 2 ≤ 64; decide)]
  have i0 : idx [nmS 0, nmS 0] (nmS 0) = ((0 : Nat) : Int) := fidx_at (p := fun x => x == nmS 0) (l := [nmS 0, nmS 0]) (i := 0) rfl ((ba_beq _ _).2 rfl) (fun j y hj => by omega)
  have w := w8_at (n := n) (s := nmS 0) (by omega) (mem_namesS (by omega))
  have r0 : regOK (namesS n) (plsS n) ⟨hN, [nmS 0, nmS 0]⟩ 0 (nmS 0) = .ok () := by
    unfold regOK
    rw [regS_in w.1, widthS_in (c := ⟨hN, [nmS 0, nmS 0]⟩) rfl w.1]
    simp [i0]
  have r1 : regOK (namesS n) (plsS n) ⟨hN, [nmS 0, nmS 0]⟩ 1 (nmS 0) = .error 8 := by
    unfold regOK
    rw [regS_in w.1]
    simp [i0]
  simp only [goS, r0, r1]
def moveN : ByteArray := ⟨#[109, 111, 118, 101]⟩
theorem op_move {i : Nat} {o : Opn} (h : o.name = moveN) : opS M N L i o = .error 5 := by
  unfold opS
  have : arityOf moveN.data.toList = 0 := by kernel_rfl
  rw [h, this, if_neg (by omega)]
/-- Behind the classes. -/
theorem ops_err {x : Int} (hn : n ≤ 60) (h1 : 1 ≤ n) (hnm : M.name = mN) (hr : M.regs = regsS n) (hc : M.classes = [⟨gN, namesS n⟩]) (h : opsS M (namesS n) (plsS n) = .error x) : checkS M = .error x :=
  check_ops (small_head hn h1 hnm hr) (classes_one hc (small_class hn h1 hc)) h
theorem opsS_0 {o : Opn} {rest : List Opn} {x : Int} (ho : M.ops = o :: rest) (hl : rest.length ≤ 63) (h : opS M N L 0 o = .error x) : opsS M N L = .error x := by
  unfold opsS; rw [ho, if_pos (by simp; omega)]; simp only [goS, h]
theorem opsS_1 {o p : Opn} {rest : List Opn} {x : Int} (ho : M.ops = p :: o :: rest) (hl : rest.length ≤ 62) (h0 : opS M N L 0 p = .ok ()) (h : opS M N L 1 o = .error x) : opsS M N L = .error x := by
  unfold opsS; rw [ho, if_pos (by simp; omega)]; simp only [goS, h0, h]
theorem opsS_2 {o p q : Opn} {rest : List Opn} {x : Int} (ho : M.ops = p :: q :: o :: rest) (hl : rest.length ≤ 61) (h0 : opS M N L 0 p = .ok ()) (h1 : opS M N L 1 q = .ok ()) (h : opS M N L 2 o = .error x) : opsS M N L = .error x := by
  unfold opsS; rw [ho, if_pos (by simp; omega)]; simp only [goS, h0, h1, h]
def mut5 (n k : Nat) : Mach := { smallM n with ops := (smallM n).ops.set (k % 3) ⟨moveN, gO, ((smallM n).ops[k % 3]'(by show k % 3 < 3; omega)).uses, -1, []⟩ }
theorem mut5_err {k : Nat} (h3 : 3 ≤ n) (hn : n ≤ 60) : checkS (mut5 n k) = .error 5 := by
  refine ops_err hn (by omega) rfl rfl rfl ?_
  have hp := small_names (M := mut5 n k) hn (by omega) rfl
  have h : k % 3 = 0 ∨ k % 3 = 1 ∨ k % 3 = 2 := by omega
  rcases h with h | h | h
  · exact opsS_0 (o := ⟨moveN, gO, [gO, gO], -1, []⟩) (rest := [opN (-1), opD []]) (by simp only [mut5, h]; rfl) (by decide) (op_move rfl)
  · have ho : (mut5 n k).ops = [opA [gO, gO] (-1) [], ⟨moveN, gO, [gO], -1, []⟩, opD []] := by simp only [mut5, h]; rfl
    exact opsS_1 ho (by decide) (op0_good hp ho rfl two_gO no_clob) (op_move rfl)
  · have ho : (mut5 n k).ops = [opA [gO, gO] (-1) [], opN (-1), ⟨moveN, gO, [gO, gO], -1, []⟩] := by simp only [mut5, h]; rfl
    exact opsS_2 ho (by decide) (op0_good hp ho rfl two_gO no_clob) (op1_good hp ho) (op_move rfl)
def mut6 (n : Nat) : Mach := { smallM n with ops := [opA [gO] (-1) [], opN (-1), opD []] }
theorem mut6_err (h3 : 3 ≤ n) (hn : n ≤ 60) : checkS (mut6 n) = .error 9 := by
  refine ops_err hn (by omega) rfl rfl rfl (opsS_0 (M := mut6 n) rfl (by decide) ?_)
  unfold opS
  rw [if_pos ⟨by show 0 < arityOf addN.data.toList; rw [ar_add]; decide, by rfl⟩, if_neg]
  show ¬ ((1 : Nat) : Int) = arityOf addN.data.toList
  rw [ar_add]; decide
def mut7 (n : Nat) : Mach := { smallM n with ops := [opA [gO, gO] (-1) [], opN 1, opD []] }
theorem mut7_err (h3 : 3 ≤ n) (hn : n ≤ 60) : checkS (mut7 n) = .error 9 := by
  have hp := small_names (M := mut7 n) hn (by omega) rfl
  refine ops_err hn (by omega) rfl rfl rfl (opsS_1 (M := mut7 n) rfl (by decide) (op0_good hp rfl rfl two_gO no_clob) ?_)
  unfold opS
  rw [if_pos ⟨by show 0 < arityOf notN.data.toList; rw [ar_not]; decide, by rfl⟩, if_pos (by show ((1 : Nat) : Int) = arityOf notN.data.toList; rw [ar_not]; rfl)]
  unfold usesS
  rw [hp.oper (u := (opN 1).dfn) rfl (Or.inl rfl)]
  have e1 : goS (useOK (mut7 n) (namesS n) (plsS n) 0) 0 (opN 1).uses = .ok () := goS_all fun j u hj => hp.use (one_gO (R := namesS n) u (List.mem_of_getElem? hj)).1 (one_gO u (List.mem_of_getElem? hj)).2 _
  simp only [e1]
  rfl
/-- Behind the operations. -/
theorem conv_err {x : Int} (hn : n ≤ 60) (h1 : 1 ≤ n) (hnm : M.name = mN) (hr : M.regs = regsS n) (hc : M.classes = [⟨gN, namesS n⟩]) (ho : M.ops = [opA [gO, gO] (-1) [], opN (-1), opD []]) (h : convS M (namesS n) (plsS n) = .error x) : checkS M = .error x :=
  check_conv (small_head hn h1 hnm hr) (classes_one hc (small_class hn h1 hc)) (ops_plain (small_names hn h1 hc) ho) h
theorem apart_one {r : ByteArray} (h : r ∈ N) {most : Int} (hm : 1 ≤ most) : apartS N L [r] most = .ok [plAt L (idx N r)] := by
  unfold apartS
  rw [if_pos (by simpa using hm)]
  simp [apS, regS_in h]
def mut8 (n : Nat) : Mach := { smallM n with result := ⟨#[]⟩ }
theorem mut8_err (h3 : 3 ≤ n) (hn : n ≤ 60) : checkS (mut8 n) = .error 10 := by
  refine conv_err hn (by omega) rfl rfl rfl rfl ?_
  unfold convS
  rw [show (mut8 n).args = [nmS 0] from rfl, apart_one (mem_namesS (by omega)) (by decide), show (mut8 n).result = ⟨#[]⟩ from rfl, regS_out (empty_not (by omega))]
def mut9 (n : Nat) : Mach := { smallM n with args := [nmS 0, nmS 1, nmS 0] }
theorem mut9_err (h3 : 3 ≤ n) (hn : n ≤ 60) : checkS (mut9 n) = .error 10 := by
  refine conv_err hn (by omega) rfl rfl rfl rfl ?_
  have e : apartS (namesS n) (plsS n) (mut9 n).args 16 = .error 10 := by
    unfold apartS
    rw [if_pos (by show ((3 : Nat) : Int) ≤ 16; decide)]
    show apS _ _ [nmS 0, nmS 1, nmS 0] [] = _
    have l0 : lapS ⟨0, 0, 8⟩ ⟨0, 0, 8⟩ = true := by decide
    simp only [apS, regS_in (mem_namesS (n := n) (i := 0) (by omega)), regS_in (mem_namesS (n := n) (i := 1) (by omega)), pl_at (n := n) (i := 0) (by omega) (by omega), pl_at (n := n) (i := 1) (by omega) (by omega), List.any_nil, List.nil_append, List.any_cons]
    simp [l0]
  unfold convS
  rw [e]
theorem conv_rest {r : ByteArray} (ha : M.args = [r]) (hr : M.result = r) (hN : r ∈ N) : convS M N L = convRest M N L (plAt L (idx N r)) := by
  unfold convS
  rw [ha, apart_one hN (by decide), hr, regS_in hN]
theorem conv_slots {r : ByteArray} (ha : M.args = [r]) (hr : M.result = r) (hN : r ∈ N) (hs : M.saved = []) : convS M N L = convSlots M := by
  rw [conv_rest ha hr hN]
  unfold convRest
  rw [hs]
  rfl
def mut10 (n : Nat) : Mach := { smallM n with saved := [nmS 0] }
theorem mut10_err (h3 : 3 ≤ n) (hn : n ≤ 60) : checkS (mut10 n) = .error 10 := by
  refine conv_err hn (by omega) rfl rfl rfl rfl ?_
  rw [conv_rest (M := mut10 n) rfl rfl (mem_namesS (by omega))]
  unfold convRest
  rw [show (mut10 n).saved = [nmS 0] from rfl, apart_one (mem_namesS (by omega)) (by decide)]
  have l0 := lap_same (i := 0)
  simp only [pl_at (n := n) (i := 0) (by omega) (by omega), List.any_cons, l0]
  simp
def mut11 (n : Nat) (k : Int) : Mach := { smallM n with slots := k }
theorem mut11_err {k : Int} (h3 : 1 ≤ n) (hn : n ≤ 60) (hk : ¬ (0 ≤ k ∧ k ≤ 1000)) : checkS (mut11 n k) = .error 10 := by
  refine conv_err hn (by omega) rfl rfl rfl rfl ?_
  rw [conv_slots (M := mut11 n k) rfl rfl (mem_namesS (by omega)) rfl]
  unfold convSlots
  rw [if_neg]; exact hk
end Go.Proofs.Ythomndfagpeniaa
end

section
namespace Go.Proofs.Ythomndfagpeniaa
variable {n : Nat} {M : Mach} {N : List ByteArray} {L : List Pl} {R : List ByteArray}

/-- Behind the convention. -/
theorem spill_err {x : Int} {us : List Opr} {cl cl2 : List ByteArray} (hn : n ≤ 60) (h1 : 1 ≤ n) (hnm : M.name = mN) (hr : M.regs = regsS n) (hc : M.classes = [⟨gN, namesS n⟩]) (ho : M.ops = [opA us (-1) cl, opN (-1), opD cl2]) (hl : us.length = 2) (hus : ∀ u ∈ us, u.cls = gN ∧ (u.fix = ⟨#[]⟩ ∨ u.fix ∈ namesS n))
    (hcl : cl.Nodup ∧ cl.length ≤ 64 ∧ ∀ r ∈ cl, r ∈ namesS n) (hcl2 : cl2.Nodup ∧ cl2.length ≤ 64 ∧ ∀ r ∈ cl2, r ∈ namesS n)
    (ha : M.args = [nmS 0]) (hres : M.result = nmS 0) (hs : M.saved = []) (hsl : M.slots = 100) (hx : spillsS M (namesS n) (plsS n) = .error x) : checkS M = .error x := by
  have hp := small_names (M := M) hn h1 hc
  rw [check_spills (small_head hn h1 hnm hr) (classes_one hc (small_class hn h1 hc)) (ops_good hp ho hl hus hcl hcl2) (conv_good hp ha hres hs (by rw [hsl]; decide) (mem_namesS (by omega)) (mem_namesS (by omega)))]
  exact hx
theorem clob_names (hn : n ≤ 60) (c : Nat) : ((namesS n).take c).Nodup ∧ ((namesS n).take c).length ≤ 64 ∧ ∀ r ∈ (namesS n).take c, r ∈ namesS n :=
  ⟨(namesS_nodup (by omega)).sublist (List.take_sublist _ _), by rw [List.length_take, namesS_len]; omega, fun r h => List.mem_of_mem_take h⟩
theorem may_form (h : Pm M (namesS n) (plsS n) (namesS n)) (hn : n ≤ 60) {p : Pl} (hp : p ∈ mayO M (namesS n) (plsS n) gO) : ∃ i, i < n ∧ p = ⟨(i : Nat), 0, 8⟩ := by
  rw [h.may] at hp
  obtain ⟨r, hr, rfl⟩ := List.mem_map.1 hp
  obtain ⟨i, hi, rfl⟩ := namesS_mem hr
  exact ⟨i, hi, pl_at (by omega) hi⟩
theorem lap_iff {i j : Nat} : lapS ⟨(i : Nat), 0, 8⟩ ⟨(j : Nat), 0, 8⟩ = decide (i = j) := by
  by_cases h : i = j
  · subst h; rw [lap_same]; simp
  · rw [lap_far h]; simp [h]
/-- What is spared of the first registers. -/
theorem spared_take (hn : n ≤ 60) {c i : Nat} (hi : i < n) : sparedS (namesS n) (plsS n) ((namesS n).take c) ⟨(i : Nat), 0, 8⟩ = decide (c ≤ i) := by
  unfold sparedS
  rw [Bool.eq_iff_iff, List.all_eq_true]
  simp only [decide_eq_true_eq]
  constructor
  · intro h
    by_cases hc : c ≤ i
    · exact hc
    · have hm : nmS i ∈ (namesS n).take c := List.mem_of_getElem? (i := i) (by rw [List.getElem?_take, if_pos (by omega), namesS_at hi])
      have := h _ hm
      rw [pl_at (by omega) hi, lap_same] at this
      cases this
  · intro h r hr
    obtain ⟨j, hj⟩ := List.getElem?_of_mem hr
    have hlt := (List.getElem?_eq_some_iff.1 hj).1
    rw [List.length_take, namesS_len] at hlt
    rw [List.getElem?_take, if_pos (by omega), namesS_at (by omega)] at hj
    cases hj
    rw [pl_at (by omega) (by omega), lap_far (by omega)]; rfl
theorem fits_none {o : Opn} (ht : o.tie = -1) (hd : ∀ d ∈ mayO M N L o.dfn, sparedS N L o.clob d = false) : fitsS M N L o = false := by
  unfold fitsS
  rw [List.any_eq_false]
  intro l _
  unfold definedS
  rw [ht, if_neg (by decide)]
  have : (mayS N L o.dfn.fix (regsOf M o.dfn)).any (sparedS N L o.clob) = false := by
    rw [List.any_eq_false]
    intro d hd2
    have := hd d hd2
    simp [this]
  simp [this]
/-- An operation whose registers are destroyed, so many of them. -/
theorem fits_clob (hn : n ≤ 60) (h2 : 2 ≤ n) (h : Pm M (namesS n) (plsS n) (namesS n)) {o : Opn} (hu : o.uses = [gO, gO]) (hd : o.dfn = gO) (ht : o.tie = -1) {c : Nat} (hc : o.clob = (namesS n).take c) : fitsS M (namesS n) (plsS n) o = decide (c < n) := by
  by_cases hcn : c < n
  · have m0 := may_at h hn (i := 0) (by omega) (mem_namesS (by omega))
    have m1 := may_at h hn (i := 1) (by omega) (mem_namesS (by omega))
    have mc := may_at h hn (i := c) hcn (mem_namesS hcn)
    rw [fits_two hu ht m0 m1 (lap_far (by decide)) (by rw [hd]; exact mc) (by rw [hc, spared_take hn hcn]; simp)]
    simp [hcn]
  · rw [fits_none ht]
    · simp [hcn]
    · intro d hd2
      rw [hd] at hd2
      obtain ⟨i, hi, rfl⟩ := may_form h hn hd2
      rw [hc, spared_take hn hi]
      simp; omega
def mut12 (n : Nat) : Mach := { smallM n with ops := [opA [⟨gN, nmS 1⟩, ⟨gN, nmS 1⟩] (-1) [], opN (-1), opD []] }
theorem may_fix (h : Pm M (namesS n) (plsS n) (namesS n)) (hn : n ≤ 60) {k : Nat} (hk : k < n) {p : Pl} (hp : p ∈ mayO M (namesS n) (plsS n) ⟨gN, nmS k⟩) : p = ⟨(k : Nat), 0, 8⟩ := by
  have e : regsOf M ⟨gN, nmS k⟩ = namesS n := regsOf_eq h.ix h.c0
  unfold mayO mayS at hp
  rw [e] at hp
  obtain ⟨r, hr, rfl⟩ := List.mem_map.1 hp
  rw [List.mem_filter] at hr
  have h0 : ((nmS k) == (⟨#[]⟩ : ByteArray)) = false := ba_bne (fun e => empty_not (n := n) (by omega) (e ▸ mem_namesS hk))
  have h1 : (nmS k == r) = true := by have := hr.2; rw [h0] at this; simpa using this
  rw [← (ba_beq _ _).1 h1, pl_at (by omega) hk]
theorem mut12_err (h3 : 3 ≤ n) (hn : n ≤ 60) : checkS (mut12 n) = .error 11 := by
  have hp := small_names (M := mut12 n) hn (by omega) rfl
  have hf : fitsS (mut12 n) (namesS n) (plsS n) (opA [⟨gN, nmS 1⟩, ⟨gN, nmS 1⟩] (-1) []) = false := by
    unfold fitsS
    rw [List.any_eq_false]
    intro l hl
    simp only [opA, choicesS, List.mem_flatMap, List.mem_map, List.mem_filter] at hl
    obtain ⟨p, hpm, q, ⟨hqm, hlq⟩, _⟩ := hl
    rw [may_fix hp hn (k := 1) (by omega) hpm, may_fix hp hn (k := 1) (by omega) hqm, lap_same] at hlq
    cases hlq
  have hs : spillsS (mut12 n) (namesS n) (plsS n) = .error 11 := by
    unfold spillsS
    rw [show (mut12 n).ops = [opA [⟨gN, nmS 1⟩, ⟨gN, nmS 1⟩] (-1) [], opN (-1), opD []] from rfl]
    simp [goS, spillO, hf]
  refine spill_err hn (by omega) rfl rfl rfl rfl rfl (fun u hu => ?_) no_clob no_clob rfl rfl rfl rfl hs
  simp at hu; subst hu
  exact ⟨rfl, Or.inr (mem_namesS (by omega))⟩
def mut13 (n : Nat) : Mach := { smallM n with classes := [⟨gN, (namesS n).drop 1⟩] }
theorem mut13_err (h3 : 3 ≤ n) (hn : n ≤ 60) : checkS (mut13 n) = .error 10 := by
  have hlen : ((namesS n).drop 1).length = n - 1 := by rw [List.length_drop, namesS_len]
  have hsub : ∀ r ∈ (namesS n).drop 1, r ∈ namesS n := fun r h => List.mem_of_mem_drop h
  have hp : Pm (mut13 n) (namesS n) (plsS n) ((namesS n).drop 1) := pm_small hn rfl (by intro e; rw [e] at hlen; simp at hlen; omega) hsub
  have hnot : nmS 0 ∉ (namesS n).drop 1 := by
    intro hm
    obtain ⟨j, hj⟩ := List.getElem?_of_mem hm
    have hlt := (List.getElem?_eq_some_iff.1 hj).1
    rw [List.getElem?_drop, namesS_at (by omega)] at hj
    have := nmS_inj (i := 1 + j) (j := 0) (by omega) (by omega) (by simpa using hj)
    omega
  refine check_conv (small_head (M := mut13 n) hn (by omega) rfl rfl) (classes_one (M := mut13 n) rfl (class_small hn rfl (by omega) ((namesS_nodup (by omega)).sublist (List.drop_sublist _ _)) hsub (by omega))) (ops_plain hp rfl) ?_
  rw [conv_slots (M := mut13 n) rfl rfl (mem_namesS (by omega)) rfl]
  unfold convSlots
  rw [if_pos (by show (0 : Int) ≤ 100 ∧ (100 : Int) ≤ 1000; decide)]
  unfold convIn
  show goS (inS (mut13 n)) 0 [nmS 0, nmS 0] = _
  have : inS (mut13 n) 0 (nmS 0) = .error 10 := by
    unfold inS
    show (if [(⟨gN, (namesS n).drop 1⟩ : Cls)].any _ = true then _ else _) = _
    have hi : idx (namesS n).tail (nmS 0) = -1 := by rw [← List.drop_one]; exact idx_not hnot
    simp [hi]
  simp only [goS, this]
def mut14 (n : Nat) : Mach := { smallM n with classes := [⟨gN, namesS n⟩, ⟨hN, [nmS 1]⟩] }
theorem mut14_err (h3 : 3 ≤ n) (hn : n ≤ 60) : checkS (mut14 n) = .error 11 := by
  have hp := small_names (M := mut14 n) hn (by omega) rfl
  have hix := h_ix (M := mut14 n) (R := namesS n) (c := ⟨hN, [nmS 1]⟩) rfl rfl
  have hc : classesS (mut14 n) (namesS n) (plsS n) = .ok () := by
    rw [classes_two (M := mut14 n) rfl (small_class hn (by omega) rfl)]
    refine class_good (w := 8) (by show namedS hN = true; kernel_rfl) hix (h_not (by omega)) (by show 1 ≤ 1 ∧ 1 ≤ 64; decide) (by show [nmS 1].Nodup; simp) (fun r hr => ?_)
    have : r = nmS 1 := by simpa using hr
    subst this
    exact w8_at (by omega) (mem_namesS (by omega))
  rw [check_spills (small_head (M := mut14 n) hn (by omega) rfl rfl) hc (ops_plain hp rfl) (conv_good hp rfl rfl rfl ⟨by show (0 : Int) ≤ 100; decide, by show (100 : Int) ≤ 1000; decide⟩ (mem_namesS (by omega)) (mem_namesS (by omega)))]
  have hmh : mayO (mut14 n) (namesS n) (plsS n) ⟨hN, ⟨#[]⟩⟩ = [⟨((1 : Nat) : Int), 0, 8⟩] := by
    have e : regsOf (mut14 n) ⟨hN, ⟨#[]⟩⟩ = [nmS 1] := regsOf_eq (c := ⟨hN, [nmS 1]⟩) hix rfl
    unfold mayO mayS
    rw [e]
    have : ((⟨#[]⟩ : ByteArray) == ⟨#[]⟩) = true := (ba_beq _ _).2 rfl
    simp only [List.filter, this, Bool.true_or, List.map]
    rw [pl_at (by omega) (by omega)]
  have p1 := pair_g hn hp (i := 0) (j := 1) (by decide) (by omega) (by omega) (mem_namesS (by omega)) (mem_namesS (by omega))
  have p2 : pairS (mut14 n) (namesS n) (plsS n) hN gN = true := pair_good (p := ⟨((1 : Nat) : Int), 0, 8⟩) (by rw [hmh]; simp) (may_at hp hn (i := 0) (by omega) (mem_namesS (by omega))) (lap_far (i := 1) (j := 0) (by decide))
  have p3 : pairS (mut14 n) (namesS n) (plsS n) hN hN = false := by
    unfold pairS
    rw [hmh]
    simp only [List.any_cons, List.any_nil, lap_same]; rfl
  unfold spillsS
  rw [spill_ops hn hp rfl (i := 0) (j := 1) (by decide) (by omega) (by omega) (mem_namesS (by omega)) (mem_namesS (by omega))]
  rw [show (mut14 n).classes = [⟨gN, namesS n⟩, ⟨hN, [nmS 1]⟩] from rfl]
  simp only [goS, spillC, show (mut14 n).classes = [⟨gN, namesS n⟩, ⟨hN, [nmS 1]⟩] from rfl, List.take, spillP, p1, p2, p3, if_true]
  rfl
def mut15 (n : Nat) : Mach := { smallM n with ops := [opA [gO, gO] (-1) [], opN (-1), opD (namesS n)] }
theorem mut15_err (h3 : 3 ≤ n) (hn : n ≤ 60) : checkS (mut15 n) = .error 11 := by
  have hp := small_names (M := mut15 n) hn (by omega) rfl
  have ht : (namesS n).take n = namesS n := by rw [List.take_of_length_le (by rw [namesS_len]; omega)]
  have f2 := fits_clob hn (by omega) hp (o := opD (namesS n)) rfl rfl rfl (c := n) ht.symm
  have mi := may_at hp hn (i := 0) (by omega) (mem_namesS (by omega))
  have mj := may_at hp hn (i := 1) (by omega) (mem_namesS (by omega))
  have f0 : fitsS (mut15 n) (namesS n) (plsS n) (opA [gO, gO] (-1) []) = true := fits_two rfl rfl mi mj (lap_far (by decide)) mi spared_nil
  have f1 : fitsS (mut15 n) (namesS n) (plsS n) (opN (-1)) = true := fits_one rfl rfl mi mi spared_nil
  have hs : spillsS (mut15 n) (namesS n) (plsS n) = .error 11 := by
    unfold spillsS
    rw [show (mut15 n).ops = [opA [gO, gO] (-1) [], opN (-1), opD (namesS n)] from rfl]
    simp [goS, spillO, f0, f1, f2]
  have hcl := clob_names hn n
  rw [ht] at hcl
  exact spill_err hn (by omega) rfl rfl rfl rfl rfl two_gO no_clob hcl rfl rfl rfl rfl hs
/-- So many registers are destroyed. -/
def roomM (n c : Nat) : Mach := { smallM n with ops := [opA [gO, gO] (-1) ((namesS n).take c), opN (-1), opD []] }
theorem room_check {c : Nat} (h2 : 2 ≤ n) (hn : n ≤ 60) : checkS (roomM n c) = if c < n then .ok () else .error 11 := by
  have hp := small_names (M := roomM n c) hn (by omega) rfl
  have f0 := fits_clob hn h2 hp (o := opA [gO, gO] (-1) ((namesS n).take c)) rfl rfl rfl (c := c) rfl
  have mi := may_at hp hn (i := 0) (by omega) (mem_namesS (by omega))
  have mj := may_at hp hn (i := 1) (by omega) (mem_namesS (by omega))
  have f2 : fitsS (roomM n c) (namesS n) (plsS n) (opD []) = true := fits_two rfl rfl mi mj (lap_far (by decide)) mi spared_nil
  have f1 : fitsS (roomM n c) (namesS n) (plsS n) (opN (-1)) = true := fits_one rfl rfl mi mi spared_nil
  have pg := pair_g hn hp (i := 0) (j := 1) (by decide) (by omega) (by omega) (mem_namesS (by omega)) (mem_namesS (by omega))
  rw [check_spills (small_head (M := roomM n c) hn (by omega) rfl rfl) (classes_one (M := roomM n c) rfl (small_class hn (by omega) rfl)) (ops_good hp rfl rfl two_gO (clob_names hn c) no_clob) (conv_good hp rfl rfl rfl ⟨by show (0 : Int) ≤ 100; decide, by show (100 : Int) ≤ 1000; decide⟩ (mem_namesS (by omega)) (mem_namesS (by omega)))]
  by_cases hc : c < n
  · rw [if_pos hc]
    refine spills_one (M := roomM n c) rfl ?_ pg
    rw [show (roomM n c).ops = [opA [gO, gO] (-1) ((namesS n).take c), opN (-1), opD []] from rfl]
    simp [goS, spillO, f0, f1, f2, hc]
  · rw [if_neg hc]
    unfold spillsS
    rw [show (roomM n c).ops = [opA [gO, gO] (-1) ((namesS n).take c), opN (-1), opD []] from rfl]
    simp [goS, spillO, f0, hc]
end Go.Proofs.Ythomndfagpeniaa
end

section
namespace Go.Proofs.Ythomndfagpeniaa
open Go.RowKit

theorem SmLay.ext {W W' : World} {n B bR cR bG cG s : Nat} (h : SmLay W n B bR cR bG cG s) (x : Ext W W') : SmLay W' n B bR cR bG cG s :=
  ⟨owns_ext h.regs x, owns_ext h.rg x, x.block h.cls, x.block h.u0, x.block h.u1, x.block h.u2, x.block h.ops, x.block h.args, h.bs, h.br, h.bg, h.ne⟩
theorem Tab.low {W : World} {n0 n1 size : Nat} {v : Value} {rows : List (List Value)} (h : Tab W n0 size v rows) (hb : ∀ q, v.ownBlock = some q → q < n1) : Tab W n1 size v rows := ⟨h.row, h.len, fun q e _ => hb q e⟩
variable {W : World} {n B bR cR bG cG s : Nat}
theorem SmLay.regsB (h : SmLay W n B bR cR bG cG s) : Tab W s 4 (.slice (some ⟨bR, 0, none⟩) n cR) ((rsS n).map flatRow) := Tab.low h.regsT fun q e => by cases e; exact h.br.2
theorem SmLay.rgB (h : SmLay W n B bR cR bG cG s) : StrsIn W s (vG bG n cG) (namesS n) := Tab.low h.rgT fun q e => by cases e; exact h.bg.2
/-- A machine in memory, of its parts. -/
theorem mach_of {n0 : Nat} {vR vC vO vA vS : Value} {M : Mach} (rs : List (ByteArray × Int)) (cs : List (Cls × Value)) (os : List (Opn × (Value × Value))) (er : M.regs = rs.map flatReg) (ec : M.classes = cs.map Prod.fst) (eo : M.ops = os.map Prod.fst)
    (hr : Tab W n0 4 vR (rs.map flatRow)) (hf : ∀ x ∈ rs, fits64 x.2) (hc : Tab W n0 2 vC (cs.map fun p => [.string p.1.name, p.2])) (hcs : ∀ p ∈ cs, StrsIn W n0 p.2 p.1.regs)
    (ho : Tab W n0 6 vO (os.map opRow)) (hos : ∀ p ∈ os, OprsIn W n0 p.2.1 p.1.uses ∧ StrsIn W n0 p.2.2 p.1.clob ∧ fits64 p.1.tie) (ha : StrsIn W n0 vA M.args) (hs : StrsIn W n0 vS M.saved) (hsl : fits64 M.slots) : MachIn W n0 vR vC vO vA vS M :=
  ⟨by rw [er]; exact RegsIn.flat hr hf, by rw [ec]; exact ClsIn.of cs hc hcs, by rw [eo]; exact OpsIn.of os ho hos, ha, hs, hsl⟩
theorem rsS_fits {n : Nat} : ∀ x ∈ rsS n, fits64 x.2 := fun x hx => by obtain ⟨i, _, rfl⟩ := List.mem_map.1 hx; exact fits_8
theorem SmLay.opsIn (h : SmLay W n B bR cR bG cG s) : ∀ p ∈ opsV s, OprsIn W (s + 7) p.2.1 p.1.uses ∧ StrsIn W (s + 7) p.2.2 p.1.clob ∧ fits64 p.1.tie := fun p hp => by
  simp only [opsV, List.mem_cons, List.not_mem_nil, or_false] at hp
  rcases hp with rfl | rfl | rfl
  · exact ⟨h.u0T.up (by omega), StrsIn.nil, fits_m1⟩
  · exact ⟨h.u1T.up (by omega), StrsIn.nil, fits_m1⟩
  · exact ⟨h.u2T.up (by omega), StrsIn.nil, fits_m1⟩
abbrev vR (bR n cR : Nat) : Value := .slice (some ⟨bR, 0, none⟩) n cR
abbrev vC (s : Nat) : Value := .slice (some ⟨s, 0, none⟩) 1 1
abbrev vO (s : Nat) : Value := .slice (some ⟨s + 5, 0, none⟩) 3 3
abbrev vA (s : Nat) : Value := .slice (some ⟨s + 6, 0, none⟩) 1 1
/-- The small machine, of which parts of the first level may be other ones. -/
theorem SmLay.mach7 (h : SmLay W n B bR cR bG cG s) {M : Mach} (er : M.regs = regsS n) (ec : M.classes = [⟨gN, namesS n⟩]) (eo : M.ops = (smallM n).ops) {n0 : Nat} (hn : s + 7 ≤ n0) {va vs : Value} (ha : StrsIn W n0 va M.args) (hs : StrsIn W n0 vs M.saved) (hsl : fits64 M.slots) :
    MachIn W n0 (vR bR n cR) (vC s) (vO s) va vs M :=
  mach_of (rsS n) [(⟨gN, namesS n⟩, vG bG n cG)] (opsV s) (er.trans (rsS_regs n).symm) ec eo (h.regsB.up (by omega)) rsS_fits (h.clsT.up (by omega)) (fun p hp => by simp at hp; subst hp; exact h.rgB.up (by omega)) (h.opsT.up (by omega))
    (fun p hp => ⟨(h.opsIn p hp).1.up hn, (h.opsIn p hp).2.1.up hn, (h.opsIn p hp).2.2⟩) ha hs hsl
theorem SmLay.argsB (h : SmLay W n B bR cR bG cG s) : StrsIn W (s + 7) (vA s) [nmS 0] := h.argsT
theorem SmLay.same (h : SmLay W n B bR cR bG cG s) {W' : World} (hk : ∀ q, q < s + 7 → W'.heap[q]? = W.heap[q]?) : SmLay W' n B bR cR bG cG s :=
  have hr := h.br.2
  have hg := h.bg.2
  ⟨owns_same h.regs (fun k e => by cases e; exact hk bR (by omega)), owns_same h.rg (fun k e => by cases e; exact hk bG (by omega)), (hk _ (by omega)).trans h.cls, (hk _ (by omega)).trans h.u0, (hk _ (by omega)).trans h.u1, (hk _ (by omega)).trans h.u2, (hk _ (by omega)).trans h.ops, (hk _ (by omega)).trans h.args, h.bs, h.br, h.bg, h.ne⟩
theorem fits_1001 : fits64 1001 := by unfold fits64; decide
theorem SmLay.set (h : SmLay W n B bR cR bG cG s) {a : Addr} (ha : s + 7 ≤ a.block) (v : Value) : SmLay (W.setCell a v) n B bR cR bG cG s :=
  h.same fun q hq => Below.heap_setCell _ _ _ q (by omega)
theorem check_err {M : Mach} {n0 : Nat} {vR vC vO vA vS : Value} {x : Int} (he : checkS M = .error x) (hm : MachIn W n0 vR vC vO vA vS M) (hn : n0 ≤ W.heap.size) :
    Calls Try.prog 11 #[.agg #[.string M.name, vR, vC, vO, vA, .string M.result, vS, .int .i64 M.slots]] W (fun e W' => e = .returned (.int .i64 x) ∧ Ext W W') := by
  have := checkM hm hn
  rw [he] at this
  exact this
theorem check_ok {M : Mach} {n0 : Nat} {vR vC vO vA vS : Value} (he : checkS M = .ok ()) (hm : MachIn W n0 vR vC vO vA vS M) (hn : n0 ≤ W.heap.size) :
    Calls Try.prog 11 #[.agg #[.string M.name, vR, vC, vO, vA, .string M.result, vS, .int .i64 M.slots]] W (fun e W' => e = .returned (.int .i64 0) ∧ Ext W W') := by
  have := checkM hm hn
  rw [he] at this
  exact this

theorem Tab.same2 {W W' : World} {n0 size : Nat} {v : Value} {rows : List (List Value)} (h : Tab W n0 size v rows) (hk : ∀ k, v.ownBlock = some k → rows ≠ [] → W'.heap[k]? = W.heap[k]?) : Tab W' n0 size v rows := ⟨h.row.same0 fun k e hn => hk k e (fun e2 => hn (by rw [e2]; rfl)), h.len, h.blk⟩
theorem Tab.same1 {W W' : World} {n0 size : Nat} {v : Value} {rows : List (List Value)} (h : Tab W n0 size v rows) (hk : ∀ k, v.ownBlock = some k → W'.heap[k]? = W.heap[k]?) : Tab W' n0 size v rows := ⟨h.row.same hk, h.len, h.blk⟩
variable {W' : World}
theorem SmLay.regs' (h : SmLay W n B bR cR bG cG s) (hk : W'.heap[bR]? = W.heap[bR]?) : Tab W' s 4 (vR bR n cR) ((rsS n).map flatRow) := h.regsB.same1 fun k e => by cases e; exact hk
theorem SmLay.rg' (h : SmLay W n B bR cR bG cG s) (hk : W'.heap[bG]? = W.heap[bG]?) : StrsIn W' s (vG bG n cG) (namesS n) := Tab.same1 h.rgB fun k e => by cases e; exact hk
theorem SmLay.cls' (h : SmLay W n B bR cR bG cG s) (hk : W'.heap[s]? = W.heap[s]?) : Tab W' (s + 7) 2 (vC s) [[.string gN, vG bG n cG]] := (h.clsT.same1 fun k e => by cases e; exact hk).up (by omega)
theorem SmLay.ops' (h : SmLay W n B bR cR bG cG s) (hk : W'.heap[s + 5]? = W.heap[s + 5]?) : Tab W' (s + 7) 6 (vO s) ((opsV s).map opRow) := (h.opsT.same1 fun k e => by cases e; exact hk).up (by omega)
theorem SmLay.args' (h : SmLay W n B bR cR bG cG s) (hk : W'.heap[s + 6]? = W.heap[s + 6]?) : StrsIn W' (s + 7) (vA s) [nmS 0] := Tab.same1 h.argsT fun k e => by cases e; exact hk
theorem SmLay.us' (h : SmLay W n B bR cR bG cG s) (h2 : W'.heap[s + 2]? = W.heap[s + 2]?) (h3 : W'.heap[s + 3]? = W.heap[s + 3]?) (h4 : W'.heap[s + 4]? = W.heap[s + 4]?) : ∀ p ∈ opsV s, OprsIn W' (s + 7) p.2.1 p.1.uses ∧ StrsIn W' (s + 7) p.2.2 p.1.clob ∧ fits64 p.1.tie := fun p hp => by
  simp only [opsV, List.mem_cons, List.not_mem_nil, or_false] at hp
  rcases hp with rfl | rfl | rfl
  · exact ⟨(Tab.same1 h.u0T fun k e => by cases e; exact h2).up (by omega), StrsIn.nil, fits_m1⟩
  · exact ⟨(Tab.same1 h.u1T fun k e => by cases e; exact h3).up (by omega), StrsIn.nil, fits_m1⟩
  · exact ⟨(Tab.same1 h.u2T fun k e => by cases e; exact h4).up (by omega), StrsIn.nil, fits_m1⟩
theorem SmLay.regAt (h : SmLay W n B bR cR bG cG s) {i : Nat} (hi : i < n) : W.cell? ⟨bR, i * 4, none⟩ = some (.string (nmS i)) ∧ W.cell? ⟨bR, i * 4 + 1, none⟩ = some (.int .i64 8) ∧ ∀ j, W.frozen? ⟨bR, j, none⟩ = false := by
  obtain ⟨b, off, cap, e, _, _, _, hc⟩ := h.regsB.at (i := i) (r := flatRow (nmS i, 8)) (by rw [List.getElem?_map, rsS_at hi]; rfl) (by decide)
  injection e with e1 e2 e3
  cases e1
  refine ⟨by simpa using hc 0 _ rfl, by simpa using hc 1 _ rfl, fun j => ?_⟩
  rcases h.regs.2 with ⟨e, _⟩ | ⟨g, c, u, e, _, hg, _⟩
  · cases e
  · cases e
    simp [World.frozen?, hg]
theorem SmLay.rgAt (h : SmLay W n B bR cR bG cG s) {i : Nat} (hi : i < n) : W.cell? ⟨bG, i, none⟩ = some (.string (nmS i)) ∧ ∀ j, W.frozen? ⟨bG, j, none⟩ = false := by
  obtain ⟨b, off, cap, e, _, _, _, hc⟩ := h.rgB.at (i := i) (s := nmS i) (namesS_at hi)
  injection e with e1 e2 e3
  cases e1
  refine ⟨by simpa using hc, fun j => ?_⟩
  rcases h.rg.2 with ⟨e, _⟩ | ⟨g, c, u, e, _, hg, _⟩
  · cases e
  · cases e
    simp [World.frozen?, hg]
/-- One register is another one. -/
theorem SmLay.regSet (h : SmLay W n B bR cR bG cG s) {M : Mach} {k j : Nat} (hk : k < n) (hj : j < 4) {v : Value} {x : ByteArray × Int} (hx : (flatRow (nmS k, 8)).set j v = flatRow x) (hf : fits64 x.2) (er : M.regs = ((rsS n).set k x).map flatReg) (ec : M.classes = [⟨gN, namesS n⟩]) (eo : M.ops = (smallM n).ops) (ea : M.args = [nmS 0]) (es : M.saved = []) (hsl : fits64 M.slots) :
    MachIn (W.setCell ⟨bR, k * 4 + j, none⟩ v) (s + 7) (vR bR n cR) (vC s) (vO s) (vA s) (.slice none 0 0) M := by
  have hbr := h.br
  have hne := h.ne
  have ho : ∀ q, q ≠ bR → (W.setCell ⟨bR, k * 4 + j, none⟩ v).heap[q]? = W.heap[q]? := fun q hq => Below.heap_setCell _ _ _ q hq
  have ht := Tab.set h.regsB (i := k) (j := j) (r := flatRow (nmS k, 8)) (by rw [List.getElem?_map, rsS_at hk]; rfl) hj v
  rw [Nat.zero_add, hx, ← List.map_set] at ht
  refine mach_of ((rsS n).set k x) [(⟨gN, namesS n⟩, vG bG n cG)] (opsV s) er ec eo (ht.up (by omega)) (fun y hy => ?_) (h.cls' (ho _ (by omega))) (fun p hp => ?_) (h.ops' (ho _ (by omega))) (h.us' (ho _ (by omega)) (ho _ (by omega)) (ho _ (by omega))) (by rw [ea]; exact h.args' (ho _ (by omega))) (by rw [es]; exact StrsIn.nil) hsl
  · rcases List.mem_or_eq_of_mem_set hy with h1 | rfl
    · exact rsS_fits y h1
    · exact hf
  · simp at hp; subst hp
    exact Tab.up (h.rg' (ho _ (by omega))) (by omega)
theorem mut1_in (h : SmLay W n B bR cR bG cG s) {k : Nat} (hk : k < n) : MachIn (W.setCell ⟨bR, k * 4 + 1, none⟩ (.int .i64 0)) (s + 7) (vR bR n cR) (vC s) (vO s) (vA s) (.slice none 0 0) (mut1 n k) :=
  h.regSet (x := (nmS k, 0)) hk (by decide) rfl fits_0 rfl rfl rfl rfl rfl fits_100
theorem mut2_in (h : SmLay W n B bR cR bG cG s) {k : Nat} (hk : k < n) : MachIn (W.setCell ⟨bR, k * 4, none⟩ (.string (nmS ((k + 1) % n)))) (s + 7) (vR bR n cR) (vC s) (vO s) (vA s) (.slice none 0 0) (mut2 n k) :=
  h.regSet (j := 0) (x := (nmS ((k + 1) % n), 8)) hk (by decide) rfl fits_8 rfl rfl rfl rfl rfl fits_100
/-- The class's registers are other ones. -/
theorem mut3_in (h : SmLay W n B bR cR bG cG s) {k : Nat} (hk : k < n) : MachIn (W.setCell ⟨bG, k, none⟩ (.string nothingN)) (s + 7) (vR bR n cR) (vC s) (vO s) (vA s) (.slice none 0 0) (mut3 n k) := by
  have hbg := h.bg
  have hne := h.ne
  have ho : ∀ q, q ≠ bG → (W.setCell ⟨bG, k, none⟩ (.string nothingN)).heap[q]? = W.heap[q]? := fun q hq => Below.heap_setCell _ _ _ q hq
  have ht := Tab.set (rows := (namesS n).map fun s => [Value.string s]) h.rgB (i := k) (j := 0) (r := [.string (nmS k)]) (by rw [List.getElem?_map, namesS_at hk]; rfl) (by decide) (.string nothingN)
  rw [Nat.zero_add, show [Value.string (nmS k)].set 0 (.string nothingN) = [.string nothingN] from rfl, Nat.mul_one, Nat.add_zero] at ht
  have hg : StrsIn (W.setCell ⟨bG, k, none⟩ (.string nothingN)) s (vG bG n cG) ((namesS n).set k nothingN) := by
    unfold StrsIn; rw [List.map_set]; exact ht
  refine mach_of (rsS n) [(⟨gN, (namesS n).set k nothingN⟩, vG bG n cG)] (opsV s) (rsS_regs n).symm rfl rfl ((h.regs' (ho _ (by omega))).up (by omega)) rsS_fits (h.cls' (ho _ (by omega))) (fun p hp => ?_) (h.ops' (ho _ (by omega))) (h.us' (ho _ (by omega)) (ho _ (by omega)) (ho _ (by omega))) (h.args' (ho _ (by omega))) StrsIn.nil fits_100
  simp at hp; subst hp
  exact Tab.up hg (by omega)
/-- One operation is another one. -/
theorem SmLay.opSet (h : SmLay W n B bR cR bG cG s) {M : Mach} {i j : Nat} {p p' : Opn × (Value × Value)} (hi : (opsV s)[i]? = some p) (hj : j < 6) {v : Value} (hx : (opRow p).set j v = opRow p') (er : M.regs = regsS n) (ec : M.classes = [⟨gN, namesS n⟩]) (eo : M.ops = ((opsV s).set i p').map Prod.fst) (ea : M.args = [nmS 0]) (es : M.saved = []) (hsl : fits64 M.slots)
    (hu : OprsIn (W.setCell ⟨s + 5, i * 6 + j, none⟩ v) (s + 7) p'.2.1 p'.1.uses ∧ StrsIn (W.setCell ⟨s + 5, i * 6 + j, none⟩ v) (s + 7) p'.2.2 p'.1.clob ∧ fits64 p'.1.tie) :
    MachIn (W.setCell ⟨s + 5, i * 6 + j, none⟩ v) (s + 7) (vR bR n cR) (vC s) (vO s) (vA s) (.slice none 0 0) M := by
  have hbr := h.br
  have hbg := h.bg
  have ho : ∀ q, q ≠ s + 5 → (W.setCell ⟨s + 5, i * 6 + j, none⟩ v).heap[q]? = W.heap[q]? := fun q hq => Below.heap_setCell _ _ _ q hq
  have ht := Tab.set h.opsT (i := i) (j := j) (r := opRow p) (by rw [List.getElem?_map, hi]; rfl) hj v
  rw [Nat.zero_add, hx, ← List.map_set] at ht
  refine mach_of (rsS n) [(⟨gN, namesS n⟩, vG bG n cG)] ((opsV s).set i p') (er.trans (rsS_regs n).symm) ec eo ((h.regs' (ho _ (by omega))).up (by omega)) rsS_fits (h.cls' (ho _ (by omega))) (fun q hq => ?_) (ht.up (by omega)) (fun q hq => ?_) (by rw [ea]; exact h.args' (ho _ (by omega))) (by rw [es]; exact StrsIn.nil) hsl
  · simp at hq; subst hq
    exact Tab.up (h.rg' (ho _ (by omega))) (by omega)
  · rcases List.mem_or_eq_of_mem_set hq with h1 | rfl
    · exact h.us' (ho _ (by omega)) (ho _ (by omega)) (ho _ (by omega)) q h1
    · exact hu
theorem mut7_in (h : SmLay W n B bR cR bG cG s) : MachIn (W.setCell ⟨s + 5, 10, none⟩ (.int .i64 1)) (s + 7) (vR bR n cR) (vC s) (vO s) (vA s) (.slice none 0 0) (mut7 n) :=
  h.opSet (i := 1) (j := 4) (p' := (opN 1, .slice (some ⟨s + 3, 0, none⟩) 1 1, .slice none 0 0)) rfl (by decide) rfl rfl rfl rfl rfl rfl fits_100
    ⟨(Tab.same1 h.u1T fun k e => by cases e; exact Below.heap_setCell _ _ _ _ (by show s + 3 ≠ s + 5; omega)).up (by omega), StrsIn.nil, by unfold fits64; simp [opN]⟩
theorem mut6_in (h : SmLay W n B bR cR bG cG s) : MachIn (W.setCell ⟨s + 5, 3, none⟩ (.slice (some ⟨s + 2, 0, none⟩) 1 2)) (s + 7) (vR bR n cR) (vC s) (vO s) (vA s) (.slice none 0 0) (mut6 n) :=
  h.opSet (i := 0) (j := 3) (p' := (opA [gO] (-1) [], .slice (some ⟨s + 2, 0, none⟩) 1 2, .slice none 0 0)) rfl (by decide) rfl rfl rfl rfl rfl rfl fits_100
    ⟨(Tab.of_block (rows := [[.string gN, .string ⟨#[]⟩]]) ((Below.heap_setCell _ _ _ _ (by show s + 2 ≠ s + 5; omega)).trans h.u0) (fun j u hj => by
      have : j = 0 ∨ j = 1 := by have := (List.getElem?_eq_some_iff.1 hj).1; simp at this; omega
      rcases this with rfl | rfl <;> simpa using hj) (by simp) (by decide) le_max2).up (by omega), StrsIn.nil, fits_m1⟩
theorem mut5_in (h : SmLay W n B bR cR bG cG s) (k : Nat) : MachIn (W.setCell ⟨s + 5, k % 3 * 6, none⟩ (.string moveN)) (s + 7) (vR bR n cR) (vC s) (vO s) (vA s) (.slice none 0 0) (mut5 n k) := by
  have hh : ∀ q, q ≠ s + 5 → (W.setCell ⟨s + 5, k % 3 * 6, none⟩ (.string moveN)).heap[q]? = W.heap[q]? := fun q hq => Below.heap_setCell _ _ _ q hq
  have hus := h.us' (W' := W.setCell ⟨s + 5, k % 3 * 6, none⟩ (.string moveN)) (hh _ (by omega)) (hh _ (by omega)) (hh _ (by omega))
  have hc : k % 3 = 0 ∨ k % 3 = 1 ∨ k % 3 = 2 := by omega
  rcases hc with hc | hc | hc
  · have := hus (⟨addN, gO, [gO, gO], -1, []⟩, .slice (some ⟨s + 2, 0, none⟩) 2 2, .slice none 0 0) (by simp [opsV])
    rw [hc] at this ⊢
    exact h.opSet (i := 0) (j := 0) (p' := (⟨moveN, gO, [gO, gO], -1, []⟩, .slice (some ⟨s + 2, 0, none⟩) 2 2, .slice none 0 0)) rfl (by decide) rfl rfl rfl (by simp only [mut5, hc]; rfl) rfl rfl fits_100 this
  · have := hus (⟨notN, gO, [gO], -1, []⟩, .slice (some ⟨s + 3, 0, none⟩) 1 1, .slice none 0 0) (by simp [opsV])
    rw [hc] at this ⊢
    exact h.opSet (i := 1) (j := 0) (p' := (⟨moveN, gO, [gO], -1, []⟩, .slice (some ⟨s + 3, 0, none⟩) 1 1, .slice none 0 0)) rfl (by decide) rfl rfl rfl (by simp only [mut5, hc]; rfl) rfl rfl fits_100 this
  · have := hus (⟨divN, gO, [gO, gO], -1, []⟩, .slice (some ⟨s + 4, 0, none⟩) 2 2, .slice none 0 0) (by simp [opsV])
    rw [hc] at this ⊢
    exact h.opSet (i := 2) (j := 0) (p' := (⟨moveN, gO, [gO, gO], -1, []⟩, .slice (some ⟨s + 4, 0, none⟩) 2 2, .slice none 0 0)) rfl (by decide) rfl rfl rfl (by simp only [mut5, hc]; rfl) rfl rfl fits_100 this
end Go.Proofs.Ythomndfagpeniaa
end

section
namespace Go.Proofs.Ythomndfagpeniaa
open Go.RowKit
variable {W W' : World} {n B bR cR bG cG s : Nat}

theorem mut12_in (h : SmLay W n B bR cR bG cG s) (h2 : W'.heap[s + 2]? = some (.cells #[.string gN, .string (nmS 1), .string gN, .string (nmS 1)] 42 (0, 0))) (ho : ∀ q, q ≠ s + 2 → W'.heap[q]? = W.heap[q]?) :
    MachIn W' (s + 7) (vR bR n cR) (vC s) (vO s) (vA s) (.slice none 0 0) (mut12 n) := by
  have hbr := h.br
  have hbg := h.bg
  refine mach_of (rsS n) [(⟨gN, namesS n⟩, vG bG n cG)] ((opsV s).set 0 (opA [⟨gN, nmS 1⟩, ⟨gN, nmS 1⟩] (-1) [], .slice (some ⟨s + 2, 0, none⟩) 2 2, .slice none 0 0)) (rsS_regs n).symm rfl rfl ((h.regs' (ho _ (by omega))).up (by omega)) rsS_fits (h.cls' (ho _ (by omega))) (fun q hq => ?_) (h.ops' (ho _ (by omega))) (fun q hq => ?_) (h.args' (ho _ (by omega))) StrsIn.nil fits_100
  · simp at hq; subst hq
    exact Tab.up (h.rg' (ho _ (by omega))) (by omega)
  · simp only [opsV, List.set_cons_zero, List.mem_cons, List.not_mem_nil, or_false] at hq
    rcases hq with rfl | rfl | rfl
    · exact ⟨(Tab.of_new (rows := [[.string gN, .string (nmS 1)], [.string gN, .string (nmS 1)]]) h2 (by simp) le_max2).up (by omega), StrsIn.nil, fits_m1⟩
    · exact ⟨(Tab.same1 h.u1T fun k e => by cases e; exact ho (s + 3) (by omega)).up (by omega), StrsIn.nil, fits_m1⟩
    · exact ⟨(Tab.same1 h.u2T fun k e => by cases e; exact ho (s + 4) (by omega)).up (by omega), StrsIn.nil, fits_m1⟩
theorem mut13_in (h : SmLay W n B bR cR bG cG s) {m c : Nat} (hm : m = n - 1) (hc : m ≤ c ∧ c ≤ maxLen) : MachIn (W.setCell ⟨s, 1, none⟩ (.slice (some ⟨bG, 1, none⟩) m c)) (s + 7) (vR bR n cR) (vC s) (vO s) (vA s) (.slice none 0 0) (mut13 n) := by
  have hbr := h.br
  have hbg := h.bg
  subst hm
  have ho : ∀ q, q ≠ s → (W.setCell ⟨s, 1, none⟩ (.slice (some ⟨bG, 1, none⟩) (n - 1) c)).heap[q]? = W.heap[q]? := fun q hq => Below.heap_setCell _ _ _ q hq
  have hcl := heap_set_cells h.cls 1 (.slice (some ⟨bG, 1, none⟩) (n - 1) c)
  have hlen : ((namesS n).drop 1).length = n - 1 := by rw [List.length_drop, namesS_len]
  have hg : StrsIn (W.setCell ⟨s, 1, none⟩ (.slice (some ⟨bG, 1, none⟩) (n - 1) c)) s (.slice (some ⟨bG, 1, none⟩) (n - 1) c) ((namesS n).drop 1) := by
    have hr := (h.rg' (W' := W.setCell ⟨s, 1, none⟩ (.slice (some ⟨bG, 1, none⟩) (n - 1) c)) (ho _ (by omega)))
    refine ⟨⟨by rw [strs_flat]; simp, Or.inr ⟨_, c, by rw [List.length_map, hlen], by rw [List.length_map, hlen]; exact hc.1, hc.2, fun j u hj => ?_⟩⟩, fun r hr => by obtain ⟨q, _, rfl⟩ := List.mem_map.1 hr; rfl, fun k e _ => by cases e; exact hbg.2⟩
    rw [strs_flat] at hj
    rw [addr_off]
    cases hx : (namesS n)[1 + j]? with
    | none => rw [List.getElem?_map, List.getElem?_drop, hx] at hj; cases hj
    | some x =>
      rw [List.getElem?_map, List.getElem?_drop, hx] at hj
      cases hj
      obtain ⟨b, off, cap, e, _, _, _, hcx⟩ := hr.at hx
      injection e with e1 e2 e3
      cases e1
      simpa using hcx
  refine mach_of (rsS n) [(⟨gN, (namesS n).drop 1⟩, .slice (some ⟨bG, 1, none⟩) (n - 1) c)] (opsV s) (rsS_regs n).symm rfl rfl ((h.regs' (ho _ (by omega))).up (by omega)) rsS_fits ((Tab.of_new (rows := [[.string gN, .slice (some ⟨bG, 1, none⟩) (n - 1) c]]) hcl (by simp) le_max1).up (by omega)) (fun q hq => ?_) (h.ops' (ho _ (by omega))) (h.us' (ho _ (by omega)) (ho _ (by omega)) (ho _ (by omega))) (h.args' (ho _ (by omega))) StrsIn.nil fits_100
  rw [List.mem_singleton] at hq; subst hq
  exact Tab.up hg (by omega)
/-- The small machine with other arguments and saved registers, all else as it was. -/
theorem SmLay.mach6 (h : SmLay W n B bR cR bG cG s) (ho : ∀ q, q < s + 6 → W'.heap[q]? = W.heap[q]?) {M : Mach} (er : M.regs = regsS n) (ec : M.classes = [⟨gN, namesS n⟩]) (eo : M.ops = (smallM n).ops) {n0 : Nat} (hn : s + 7 ≤ n0) {va vs : Value} (ha : StrsIn W' n0 va M.args) (hs : StrsIn W' n0 vs M.saved) (hsl : fits64 M.slots) :
    MachIn W' n0 (vR bR n cR) (vC s) (vO s) va vs M := by
  have hbr := h.br
  have hbg := h.bg
  refine mach_of (rsS n) [(⟨gN, namesS n⟩, vG bG n cG)] (opsV s) (er.trans (rsS_regs n).symm) ec eo ((h.regs' (ho _ (by omega))).up (by omega)) rsS_fits ((h.cls' (ho _ (by omega))).up hn) (fun q hq => ?_) ((h.ops' (ho _ (by omega))).up hn) (fun q hq => ?_) ha hs hsl
  · rw [List.mem_singleton] at hq; subst hq
    exact Tab.up (h.rg' (ho _ (by omega))) (by omega)
  · have := h.us' (ho _ (by omega)) (ho _ (by omega)) (ho _ (by omega)) q hq
    exact ⟨Tab.up this.1 hn, Tab.up this.2.1 hn, this.2.2⟩
/-- The small machine with one class more, all else as it was. -/
theorem SmLay.machC (h : SmLay W n B bR cR bG cG s) (ho : ∀ q, q < s + 7 → q ≠ s → W'.heap[q]? = W.heap[q]?) {M : Mach} {c : Cls} {vH : Value} (er : M.regs = regsS n) (ec : M.classes = [⟨gN, namesS n⟩, c]) (eo : M.ops = (smallM n).ops) (ea : M.args = [nmS 0]) (es : M.saved = []) {n0 : Nat} (hn : s + 7 ≤ n0) {vc : Value}
    (hc : Tab W' n0 2 vc [[.string gN, vG bG n cG], [.string c.name, vH]]) (hcs : StrsIn W' n0 vH c.regs) (hsl : fits64 M.slots) :
    MachIn W' n0 (vR bR n cR) vc (vO s) (vA s) (.slice none 0 0) M := by
  have hbr := h.br
  have hbg := h.bg
  refine mach_of (rsS n) [(⟨gN, namesS n⟩, vG bG n cG), (c, vH)] (opsV s) (er.trans (rsS_regs n).symm) ec eo ((h.regs' (ho _ (by omega) (by omega))).up (by omega)) rsS_fits hc (fun q hq => ?_) ((h.ops' (ho _ (by omega) (by omega))).up hn) (fun q hq => ?_) (by rw [ea]; exact Tab.up (h.args' (ho _ (by omega) (by omega))) hn) (by rw [es]; exact StrsIn.nil) hsl
  · simp only [List.mem_cons, List.not_mem_nil, or_false] at hq
    rcases hq with rfl | rfl
    · exact Tab.up (h.rg' (ho _ (by omega) (by omega))) (by omega)
    · exact hcs
  · have := h.us' (ho _ (by omega) (by omega)) (ho _ (by omega) (by omega)) (ho _ (by omega) (by omega)) q hq
    exact ⟨Tab.up this.1 hn, Tab.up this.2.1 hn, this.2.2⟩
/-- The small machine with other operations, all else as it was. -/
theorem SmLay.machO (h : SmLay W n B bR cR bG cG s) (ho : ∀ q, q < s + 7 → q ≠ s + 5 → W'.heap[q]? = W.heap[q]?) {M : Mach} {os : List (Opn × (Value × Value))} (er : M.regs = regsS n) (ec : M.classes = [⟨gN, namesS n⟩]) (eo : M.ops = os.map Prod.fst) (ea : M.args = [nmS 0]) (es : M.saved = []) {n0 : Nat} (hn : s + 7 ≤ n0)
    (hops : Tab W' n0 6 (vO s) (os.map opRow)) (hos : ∀ p ∈ os, OprsIn W' n0 p.2.1 p.1.uses ∧ StrsIn W' n0 p.2.2 p.1.clob ∧ fits64 p.1.tie) (hsl : fits64 M.slots) :
    MachIn W' n0 (vR bR n cR) (vC s) (vO s) (vA s) (.slice none 0 0) M := by
  have hbr := h.br
  have hbg := h.bg
  refine mach_of (rsS n) [(⟨gN, namesS n⟩, vG bG n cG)] os (er.trans (rsS_regs n).symm) ec eo ((h.regs' (ho _ (by omega) (by omega))).up (by omega)) rsS_fits ((h.cls' (ho _ (by omega) (by omega))).up hn) (fun q hq => ?_) hops hos (by rw [ea]; exact Tab.up (h.args' (ho _ (by omega) (by omega))) hn) (by rw [es]; exact StrsIn.nil) hsl
  simp only [List.mem_cons, List.not_mem_nil, or_false] at hq
  subst hq
  exact Tab.up (h.rg' (ho _ (by omega) (by omega))) (by omega)
/-- What operation number i destroys is told by another slice. -/
theorem SmLay.machB (h : SmLay W n B bR cR bG cG s) {M : Mach} {i : Nat} {p : Opn × (Value × Value)} (hi : (opsV s)[i]? = some p) {v : Value} {l : List ByteArray} (er : M.regs = regsS n) (ec : M.classes = [⟨gN, namesS n⟩]) (eo : M.ops = ((opsV s).set i ({ p.1 with clob := l }, p.2.1, v)).map Prod.fst) (ea : M.args = [nmS 0]) (es : M.saved = []) {n0 : Nat} (hn : s + 7 ≤ n0) (hsl : fits64 M.slots)
    (hv : StrsIn (W.setCell ⟨s + 5, i * 6 + 5, none⟩ v) n0 v l) :
    MachIn (W.setCell ⟨s + 5, i * 6 + 5, none⟩ v) n0 (vR bR n cR) (vC s) (vO s) (vA s) (.slice none 0 0) M := by
  have ho : ∀ q, q ≠ s + 5 → (W.setCell ⟨s + 5, i * 6 + 5, none⟩ v).heap[q]? = W.heap[q]? := fun q hq => Below.heap_setCell _ _ _ q hq
  have ht := Tab.set h.opsT (i := i) (j := 5) (r := opRow p) (by rw [List.getElem?_map, hi]; rfl) (by decide) v
  rw [Nat.zero_add, show (opRow p).set 5 v = opRow ({ p.1 with clob := l }, p.2.1, v) from rfl, ← List.map_set] at ht
  have hus := h.us' (W' := W.setCell ⟨s + 5, i * 6 + 5, none⟩ v) (ho _ (by omega)) (ho _ (by omega)) (ho _ (by omega))
  refine h.machO (fun q _ hq => ho q hq) er ec eo ea es hn (ht.up (by omega)) (fun q hq => ?_) hsl
  rcases List.mem_or_eq_of_mem_set hq with h1 | rfl
  · exact ⟨Tab.up (hus q h1).1 hn, Tab.up (hus q h1).2.1 hn, (hus q h1).2.2⟩
  · have := hus p (List.mem_of_getElem? hi)
    exact ⟨Tab.up this.1 hn, hv, this.2.2⟩
end Go.Proofs.Ythomndfagpeniaa
end
