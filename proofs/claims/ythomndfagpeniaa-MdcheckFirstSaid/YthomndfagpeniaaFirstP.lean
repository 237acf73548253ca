/- The machine of MdcheckFirst, plainly: what the check answers of each of its sixty-four forms; and how it lies in memory. No condition. -/
import Derived.Test.YthomndfagpeniaaMgG
namespace Go.Proofs.Ythomndfagpeniaa
open Go.RowKit
def opWord : ByteArray := ⟨#[111, 112]⟩
def xN : ByteArray := ⟨#[120]⟩
def nmF (f : Bool) : ByteArray := if f then opWord else mN
def rsF (f : Bool) : List (ByteArray × Int) := if f then (rsS 4).set 3 (nmS 3, 0) else rsS 4
def grF (f : Bool) : List ByteArray := if f then xN :: namesS 4 else namesS 4
def tieF (f : Bool) : Int := if f then 2 else -1
def slF (f : Bool) : Int := if f then -1 else 100
/-- A machine of four registers, with some of six things wrong. -/
def firstM (f0 f1 f2 f3 f4 f5 : Bool) : Mach :=
  { smallM 4 with
    name := nmF f0
    regs := (rsF f1).map flatReg
    classes := ⟨gN, grF f2⟩ :: (if f5 then [⟨hN, [nmS 1]⟩] else [])
    ops := [opA [gO, gO] (tieF f3) [], opN (-1), opD []]
    slots := slF f4 }
def firstW (f0 f1 f2 f3 f4 f5 : Bool) : Int := if f0 then 5 else if f1 then 6 else if f2 then 8 else if f3 then 9 else if f4 then 10 else if f5 then 11 else 0
theorem first_check (f0 f1 f2 f3 f4 f5 : Bool) : codeOf (checkS (firstM f0 f1 f2 f3 f4 f5)) = firstW f0 f1 f2 f3 f4 f5 := by
  cases f0 <;> cases f1 <;> cases f2 <;> cases f3 <;> cases f4 <;> cases f5 <;> kernel_rfl

variable {W W' : World} {b s bR cR bG q k cq : Nat}
def opsF (s : Nat) (tie : Int) : List (Opn × (Value × Value)) :=
  [(opA [gO, gO] tie [], .slice (some ⟨s + 2, 0, none⟩) 2 2, .slice none 0 0), (opN (-1), .slice (some ⟨s + 3, 0, none⟩) 1 1, .slice none 0 0), (opD [], .slice (some ⟨s + 4, 0, none⟩) 2 2, .slice none 0 0)]
theorem frozen_same {a : Addr} (h : W'.heap[a.block]? = W.heap[a.block]?) (hf : W.frozen? a = false) : W'.frozen? a = false := by
  simp only [World.frozen?] at hf ⊢
  rw [h]; exact hf
/-- What of the machine lies in the blocks of Small's own. -/
structure FFix (W : World) (s bR cR : Nat) (rs : List (ByteArray × Int)) (tie : Int) : Prop where
  regs : Tab W s 4 (vR bR 4 cR) (rs.map flatRow)
  rfz : ∀ j, W.frozen? ⟨bR, j, none⟩ = false
  ops : Tab W (s + 7) 6 (vO s) ((opsF s tie).map opRow)
  ofz : ∀ j, W.frozen? ⟨s + 5, j, none⟩ = false
  us : ∀ p ∈ opsF s tie, OprsIn W (s + 7) p.2.1 p.1.uses ∧ StrsIn W (s + 7) p.2.2 p.1.clob ∧ fits64 p.1.tie
  args : StrsIn W (s + 7) (vA s) [nmS 0]
  lt : bR < s
theorem FFix.same {rs : List (ByteArray × Int)} {tie : Int} (h : FFix W s bR cR rs tie) (hk : ∀ x, x < s + 7 → x ≠ s → W'.heap[x]? = W.heap[x]?) : FFix W' s bR cR rs tie := by
  have hl := h.lt
  refine ⟨h.regs.same1 fun x e => ?_, fun j => frozen_same (hk bR (by omega) (by omega)) (h.rfz j), h.ops.same1 fun x e => ?_, fun j => frozen_same (hk (s + 5) (by omega) (by omega)) (h.ofz j), fun p hp => ?_, Tab.same1 h.args fun x e => ?_, hl⟩
  · cases e; exact hk bR (by omega) (by omega)
  · cases e; exact hk (s + 5) (by omega) (by omega)
  · have h3 := h.us p hp
    simp only [opsF, List.mem_cons, List.not_mem_nil, or_false] at hp
    rcases hp with rfl | rfl | rfl
    · exact ⟨Tab.same1 h3.1 fun x e => by cases e; exact hk (s + 2) (by omega) (by omega), StrsIn.nil, h3.2.2⟩
    · exact ⟨Tab.same1 h3.1 fun x e => by cases e; exact hk (s + 3) (by omega) (by omega), StrsIn.nil, h3.2.2⟩
    · exact ⟨Tab.same1 h3.1 fun x e => by cases e; exact hk (s + 4) (by omega) (by omega), StrsIn.nil, h3.2.2⟩
  · cases e; exact hk (s + 6) (by omega) (by omega)
theorem FFix.reg {tie : Int} (h : FFix W s bR cR (rsF false) tie) : FFix (W.setCell ⟨bR, 13, none⟩ (.int .i64 0)) s bR cR (rsF true) tie := by
  have hl := h.lt
  have ho : ∀ x, x ≠ bR → (W.setCell ⟨bR, 13, none⟩ (.int .i64 0)).heap[x]? = W.heap[x]? := fun x hx => Below.heap_setCell _ _ _ x hx
  have ht := Tab.set h.regs (i := 3) (j := 1) (r := flatRow (nmS 3, 8)) (by rw [List.getElem?_map, show (rsF false)[3]? = some (nmS 3, 8) from rsS_at (by decide)]; rfl) (by decide) (.int .i64 0)
  rw [Nat.zero_add, show (flatRow (nmS 3, 8)).set 1 (.int .i64 0) = flatRow (nmS 3, 0) from rfl, ← List.map_set] at ht
  refine ⟨ht, fun j => ?_, h.ops.same1 fun x e => ?_, fun j => frozen_same (ho (s + 5) (by omega)) (h.ofz j), fun p hp => ?_, Tab.same1 h.args fun x e => ?_, hl⟩
  · have := h.rfz j
    rw [World.frozen?_setCell]; exact this
  · cases e; exact ho (s + 5) (by omega)
  · have h3 := h.us p hp
    simp only [opsF, List.mem_cons, List.not_mem_nil, or_false] at hp
    rcases hp with rfl | rfl | rfl
    · exact ⟨Tab.same1 h3.1 fun x e => by cases e; exact ho (s + 2) (by omega), StrsIn.nil, h3.2.2⟩
    · exact ⟨Tab.same1 h3.1 fun x e => by cases e; exact ho (s + 3) (by omega), StrsIn.nil, h3.2.2⟩
    · exact ⟨Tab.same1 h3.1 fun x e => by cases e; exact ho (s + 4) (by omega), StrsIn.nil, h3.2.2⟩
  · cases e; exact ho (s + 6) (by omega)
theorem FFix.tie {rs : List (ByteArray × Int)} (h : FFix W s bR cR rs (tieF false)) : FFix (W.setCell ⟨s + 5, 4, none⟩ (.int .i64 2)) s bR cR rs (tieF true) := by
  have hl := h.lt
  have ho : ∀ x, x ≠ s + 5 → (W.setCell ⟨s + 5, 4, none⟩ (.int .i64 2)).heap[x]? = W.heap[x]? := fun x hx => Below.heap_setCell _ _ _ x hx
  have ht := Tab.set h.ops (i := 0) (j := 4) (r := opRow (opA [gO, gO] (tieF false) [], .slice (some ⟨s + 2, 0, none⟩) 2 2, .slice none 0 0)) rfl (by decide) (.int .i64 2)
  refine ⟨h.regs.same1 fun x e => ?_, fun j => frozen_same (ho bR (by omega)) (h.rfz j), ht, fun j => ?_, fun p hp => ?_, Tab.same1 h.args fun x e => ?_, hl⟩
  · cases e; exact ho bR (by omega)
  · have := h.ofz j
    rw [World.frozen?_setCell]; exact this
  · simp only [opsF, List.mem_cons, List.not_mem_nil, or_false] at hp
    rcases hp with rfl | rfl | rfl
    · have h3 := h.us (opA [gO, gO] (tieF false) [], .slice (some ⟨s + 2, 0, none⟩) 2 2, .slice none 0 0) (by simp [opsF])
      exact ⟨Tab.same1 h3.1 fun x e => by cases e; exact ho (s + 2) (by omega), StrsIn.nil, by unfold fits64; simp [opA, tieF]⟩
    · have h3 := h.us (opN (-1), .slice (some ⟨s + 3, 0, none⟩) 1 1, .slice none 0 0) (by simp [opsF])
      exact ⟨Tab.same1 h3.1 fun x e => by cases e; exact ho (s + 3) (by omega), StrsIn.nil, h3.2.2⟩
    · have h3 := h.us (opD [], .slice (some ⟨s + 4, 0, none⟩) 2 2, .slice none 0 0) (by simp [opsF])
      exact ⟨Tab.same1 h3.1 fun x e => by cases e; exact ho (s + 4) (by omega), StrsIn.nil, h3.2.2⟩
  · cases e; exact ho (s + 6) (by omega)
def clsRows (two : Bool) (vg vh : Value) : List (List Value) := [.string gN, vg] :: (if two then [[.string hN, vh]] else [])
/-- What of the machine lies in the blocks of its classes. -/
structure FCls (W : World) (b s bG q k cq : Nat) (gr : List ByteArray) (two : Bool) (vg vh : Value) : Prop where
  pos : q = s ∨ b < q
  tab : Tab W W.heap.size 2 (.slice (some ⟨q, 0, none⟩) k cq) (clsRows two vg vh)
  fz : ∀ j, W.frozen? ⟨q, j, none⟩ = false
  g : StrsIn W W.heap.size vg gr
  gb : ∃ r, vg.ownBlock = some r ∧ r ≠ q ∧ (r = bG ∨ b < r)
  h : two = true → StrsIn W W.heap.size vh [nmS 1] ∧ ∃ r, vh.ownBlock = some r ∧ r ≠ q ∧ b < r
theorem FCls.same {gr : List ByteArray} {two : Bool} {vg vh : Value} (h : FCls W b s bG q k cq gr two vg vh) (hk : ∀ x, (x = s ∨ x = bG ∨ b < x) → x < W.heap.size → W'.heap[x]? = W.heap[x]?) (hl : W.heap.size ≤ W'.heap.size) : FCls W' b s bG q k cq gr two vg vh := by
  have hq : q < W.heap.size := h.tab.blk q rfl
  obtain ⟨r, hr1, hr2, hr3⟩ := h.gb
  refine ⟨h.pos, (h.tab.same1 fun x e => ?_).up hl, fun j => frozen_same (hk q ?_ hq) (h.fz j), Tab.up (Tab.same1 h.g fun x e => ?_) hl, h.gb, fun ht => ?_⟩
  · cases e
    refine hk q ?_ hq
    rcases h.pos with h1 | h1
    · exact Or.inl h1
    · exact Or.inr (Or.inr h1)
  · rcases h.pos with h1 | h1
    · exact Or.inl h1
    · exact Or.inr (Or.inr h1)
  · have hx := Tab.blk h.g x e
    rw [hr1] at e; cases e
    refine hk r ?_ hx
    rcases hr3 with h1 | h1
    · exact Or.inr (Or.inl h1)
    · exact Or.inr (Or.inr h1)
  · obtain ⟨h1, r2, e2, h2, h3⟩ := h.h ht
    refine ⟨Tab.up (Tab.same1 h1 fun x e => ?_) hl, r2, e2, h2, h3⟩
    have hx := Tab.blk h1 x e
    rw [e2] at e; cases e
    exact hk r2 (Or.inr (Or.inr h3)) hx
theorem FCls.set {gr gr' : List ByteArray} {two : Bool} {vg vg' vh : Value} (h : FCls W b s bG q k cq gr two vg vh) (hg : StrsIn W W.heap.size vg' gr') (gb : ∃ r, vg'.ownBlock = some r ∧ r ≠ q ∧ (r = bG ∨ b < r)) : FCls (W.setCell ⟨q, 1, none⟩ vg') b s bG q k cq gr' two vg' vh := by
  have ho : ∀ x, x ≠ q → (W.setCell ⟨q, 1, none⟩ vg').heap[x]? = W.heap[x]? := fun x hx => Below.heap_setCell _ _ _ x hx
  have ht := Tab.set h.tab (i := 0) (j := 1) (r := [.string gN, vg]) rfl (by decide) vg'
  have hs : (W.setCell ⟨q, 1, none⟩ vg').heap.size = W.heap.size := set_size _ _ _
  obtain ⟨r, hr1, hr2, hr3⟩ := gb
  refine ⟨h.pos, ?_, fun j => by rw [World.frozen?_setCell]; exact h.fz j, ?_, ⟨r, hr1, hr2, hr3⟩, fun h2 => ?_⟩
  · rw [hs]; exact ht
  · rw [hs]
    refine Tab.same1 hg fun x e => ho x ?_
    rw [hr1] at e; cases e; exact hr2
  · obtain ⟨h1, r2, e2, h3, h4⟩ := h.h h2
    refine ⟨?_, r2, e2, h3, h4⟩
    rw [hs]
    refine Tab.same1 h1 fun x e => ho x ?_
    rw [e2] at e; cases e; exact h3

def macF (f0 f4 : Bool) (bR cR s q k cq : Nat) : List Value := [.string (nmF f0), vR bR 4 cR, .slice (some ⟨q, 0, none⟩) k cq, vO s, vA s, .string (nmS 0), .slice none 0 0, .int .i64 (slF f4)]
/-- The machine in memory, with some of the six things wrong. -/
def FInv (f0 f1 f2 f3 f4 f5 : Bool) (W0 W : World) (b s bR cR bG cG : Nat) : Prop :=
  Ext W0 W ∧ ∃ q k cq vg vh, W.heap[b]? = some (.cells (macF f0 f4 bR cR s q k cq).toArray 27 (0, 0)) ∧ FFix W s bR cR (rsF f1) (tieF f3) ∧ FCls W b s bG q k cq (grF f2) f5 vg vh ∧ (f2 = false → vg = vG bG 4 cG)
/-- The numbers of the blocks. -/
structure FNum (W0 : World) (b s bR bG : Nat) : Prop where
  w : W0.heap.size ≤ bR ∧ W0.heap.size ≤ bG
  r : bR < s
  g : bG < s
  ne : bR ≠ bG
  b : s + 7 ≤ b
variable {W0 : World} {cG : Nat}
theorem FInv.mach {f0 f1 f2 f3 f4 f5 : Bool} {q k cq : Nat} {vg vh : Value} (hn : FNum W0 b s bR bG) (hb : b < W.heap.size) (hf : FFix W s bR cR (rsF f1) (tieF f3)) (hc : FCls W b s bG q k cq (grF f2) f5 vg vh) :
    MachIn W W.heap.size (vR bR 4 cR) (.slice (some ⟨q, 0, none⟩) k cq) (vO s) (vA s) (.slice none 0 0) (firstM f0 f1 f2 f3 f4 f5) := by
  have h1 := hn.b
  have h2 := hn.r
  refine mach_of (rsF f1) ((⟨gN, grF f2⟩, vg) :: (if f5 then [(⟨hN, [nmS 1]⟩, vh)] else [])) (opsF s (tieF f3)) rfl (by cases f5 <;> rfl) rfl (hf.regs.up (by omega)) (fun y hy => ?_) (by have := hc.tab; cases f5 <;> exact this) (fun p hp => ?_) (hf.ops.up (by omega)) (fun p hp => ?_) (Tab.up hf.args (by omega)) StrsIn.nil (by show fits64 (slF f4); cases f4 <;> unfold fits64 slF <;> decide)
  · cases f1
    · exact rsS_fits y hy
    · rcases List.mem_or_eq_of_mem_set hy with h3 | rfl
      · exact rsS_fits y h3
      · exact fits_0
  · rcases List.mem_cons.1 hp with rfl | hp
    · exact hc.g
    · cases f5
      · cases hp
      · rw [if_pos rfl, List.mem_singleton] at hp; subst hp
        exact (hc.h rfl).1
  · have := hf.us p hp
    exact ⟨Tab.up this.1 (by omega), Tab.up this.2.1 (by omega), this.2.2⟩
/-- What is set in the machine's own block. -/
theorem FInv.name {f1 f2 f3 f4 f5 : Bool} (hn : FNum W0 b s bR bG) (h : FInv false f1 f2 f3 f4 f5 W0 W b s bR cR bG cG) : FInv true f1 f2 f3 f4 f5 W0 (W.setCell ⟨b, 0, none⟩ (.string opWord)) b s bR cR bG cG := by
  obtain ⟨hx, q, k, cq, vg, vh, hb, hf, hc, hv⟩ := h
  obtain ⟨⟨n1, n2⟩, n3, n4, n5, n6⟩ := hn
  exact ⟨Below.setCell hx (p := ⟨b, 0, none⟩) (by show W0.heap.size ≤ b; omega) _, q, k, cq, vg, vh, heap_set_cells hb 0 _, hf.same fun x _ _ => Below.heap_setCell _ _ _ x (by show x ≠ b; omega), hc.same (fun x hx _ => Below.heap_setCell _ _ _ x (by show x ≠ b; omega)) (by rw [set_size]; exact Nat.le_refl _), hv⟩
theorem FInv.slots {f0 f1 f2 f3 f5 : Bool} (hn : FNum W0 b s bR bG) (h : FInv f0 f1 f2 f3 false f5 W0 W b s bR cR bG cG) : FInv f0 f1 f2 f3 true f5 W0 (W.setCell ⟨b, 7, none⟩ (.int .i64 (-1))) b s bR cR bG cG := by
  obtain ⟨hx, q, k, cq, vg, vh, hb, hf, hc, hv⟩ := h
  obtain ⟨⟨n1, n2⟩, n3, n4, n5, n6⟩ := hn
  exact ⟨Below.setCell hx (p := ⟨b, 7, none⟩) (by show W0.heap.size ≤ b; omega) _, q, k, cq, vg, vh, heap_set_cells hb 7 _, hf.same fun x _ _ => Below.heap_setCell _ _ _ x (by show x ≠ b; omega), hc.same (fun x hx _ => Below.heap_setCell _ _ _ x (by show x ≠ b; omega)) (by rw [set_size]; exact Nat.le_refl _), hv⟩
theorem FInv.tie {f0 f1 f2 f4 f5 : Bool} (hn : FNum W0 b s bR bG) (h : FInv f0 f1 f2 false f4 f5 W0 W b s bR cR bG cG) : FInv f0 f1 f2 true f4 f5 W0 (W.setCell ⟨s + 5, 4, none⟩ (.int .i64 2)) b s bR cR bG cG := by
  obtain ⟨hx, q, k, cq, vg, vh, hb, hf, hc, hv⟩ := h
  obtain ⟨⟨n1, n2⟩, n3, n4, n5, n6⟩ := hn
  exact ⟨Below.setCell hx (p := ⟨s + 5, 4, none⟩) (by show W0.heap.size ≤ s + 5; omega) _, q, k, cq, vg, vh, (Below.heap_setCell _ _ _ b (by show b ≠ s + 5; omega)).trans hb, hf.tie, hc.same (fun x hx _ => Below.heap_setCell _ _ _ x (by show x ≠ s + 5; omega)) (by rw [set_size]; exact Nat.le_refl _), hv⟩
theorem FInv.reg {f0 f2 f3 f4 f5 : Bool} (hn : FNum W0 b s bR bG) (h : FInv f0 false f2 f3 f4 f5 W0 W b s bR cR bG cG) : FInv f0 true f2 f3 f4 f5 W0 (W.setCell ⟨bR, 13, none⟩ (.int .i64 0)) b s bR cR bG cG := by
  obtain ⟨hx, q, k, cq, vg, vh, hb, hf, hc, hv⟩ := h
  obtain ⟨⟨n1, n2⟩, n3, n4, n5, n6⟩ := hn
  exact ⟨Below.setCell hx (p := ⟨bR, 13, none⟩) (by show W0.heap.size ≤ bR; omega) _, q, k, cq, vg, vh, (Below.heap_setCell _ _ _ b (by show b ≠ bR; omega)).trans hb, hf.reg, hc.same (fun x hx _ => Below.heap_setCell _ _ _ x (by show x ≠ bR; omega)) (by rw [set_size]; exact Nat.le_refl _), hv⟩
theorem FFix.start {B : Nat} (h : SmLay W 4 B bR cR bG cG s) : FFix W s bR cR (rsF false) (tieF false) :=
  ⟨h.regsB, fun j => (h.regAt (i := 0) (by decide)).2.2 j, h.opsT.up (by omega), fun j => blk_free h.ops j, h.opsIn, h.argsT, h.br.2⟩
/-- The machine as Small made it. -/
theorem FInv.start {B : Nat} (hx : Ext W0 W) (h : SmLay W 4 B bR cR bG cG s) (hb : W.heap[b]? = some (.cells (macF false false bR cR s s 1 1).toArray 27 (0, 0))) : FInv false false false false false false W0 W b s bR cR bG cG := by
  have hs := h.size
  exact ⟨hx, s, 1, 1, vG bG 4 cG, .bool false, hb, FFix.start h, ⟨Or.inl rfl, h.clsT.up (by omega), fun j => blk_free h.cls j, h.rgT, ⟨bG, rfl, by have := h.bg; omega, Or.inl rfl⟩, fun h => by cases h⟩, fun _ => rfl⟩
theorem owns_free {w : World} {base size n g c : Nat} {e : TypeId} {xs : List Value} (h : w.ownsRow base e size (.slice (some ⟨g, 0, none⟩) n c) n xs) (j : Nat) : w.frozen? ⟨g, j, none⟩ = false := by
  rcases h.2 with ⟨e, _⟩ | ⟨g2, c2, u, e, _, hg, _⟩
  · cases e
  · cases e
    simp [World.frozen?, hg]
/-- With one class more. -/
theorem FInv.cls {w3 : World} {B g1 cp1 : Nat} {vh : Value} (hn : FNum W0 b s bR bG) (hx : Ext W0 w3) (h : SmLay W 4 B bR cR bG cG s) (hk : ∀ x ob, x ≠ s → W.heap[x]? = some ob → w3.heap[x]? = some ob) (hb : W.heap[b]? = some (.cells (macF false false bR cR s s 1 1).toArray 27 (0, 0)))
    (hown : w3.ownsRow s 40 2 (.slice (some ⟨g1, 0, none⟩) 2 cp1) 2 [.string gN, vG bG 4 cG, .string hN, vh]) (hg : g1 = s ∨ b < g1) (hh : StrsIn w3 w3.heap.size vh [nmS 1]) (hhb : ∃ r, vh.ownBlock = some r ∧ r ≠ g1 ∧ b < r) :
    FInv false false false false false true W0 (w3.setCell ⟨b, 2, none⟩ (.slice (some ⟨g1, 0, none⟩) 2 cp1)) b s bR cR bG cG := by
  obtain ⟨⟨n1, n2⟩, n3, n4, n5, n6⟩ := hn
  have hbl := (Array.getElem?_eq_some_iff.1 hb).1
  have hke : ∀ x, x < W.heap.size → x ≠ s → w3.heap[x]? = W.heap[x]? := fun x hx hxs => by
    have e := Array.getElem?_eq_getElem hx
    rw [hk x _ hxs e, e]
  have hbl3 := (Array.getElem?_eq_some_iff.1 (hk b _ (by omega) hb)).1
  have hf : FFix w3 s bR cR (rsF false) (tieF false) := (FFix.start h).same fun x h1 h2 => hke x (by omega) h2
  have hc : FCls w3 b s bG g1 2 cp1 (grF false) true (vG bG 4 cG) vh := by
    refine ⟨hg, Tab.of_owns (rows := clsRows true (vG bG 4 cG) vh) hown (by intro r hr; simp [clsRows] at hr; rcases hr with rfl | rfl <;> rfl) rfl, owns_free hown, ?_, ⟨bG, rfl, by omega, Or.inl rfl⟩, fun _ => ⟨hh, hhb⟩⟩
    exact Tab.up (h.rg' (hke bG (by omega) (by omega))) (by omega)
  exact ⟨Below.setCell hx (p := ⟨b, 2, none⟩) (by show W0.heap.size ≤ b; omega) _, g1, 2, cp1, vG bG 4 cG, vh, heap_set_cells (hk b _ (by omega) hb) 2 _, hf.same fun x _ _ => Below.heap_setCell _ _ _ x (by show x ≠ b; omega), hc.same (fun x hx _ => Below.heap_setCell _ _ _ x (by show x ≠ b; omega)) (by rw [set_size]; exact Nat.le_refl _), fun _ => rfl⟩
/-- With one name more ahead of the class's registers: the world behind the append, then the store. -/
theorem FInv.names {f0 f1 f3 f4 f5 : Bool} {w3 : World} {q k cq : Nat} {vg vg' vh : Value} (hn : FNum W0 b s bR bG) (hx : Ext W0 W) (hx3 : Ext W w3) (hb : W.heap[b]? = some (.cells (macF f0 f4 bR cR s q k cq).toArray 27 (0, 0))) (hf : FFix W s bR cR (rsF f1) (tieF f3)) (hc : FCls W b s bG q k cq (grF false) f5 vg vh)
    (hg : StrsIn w3 w3.heap.size vg' (grF true)) (gb : ∃ r, vg'.ownBlock = some r ∧ W.heap.size ≤ r) : FInv f0 f1 true f3 f4 f5 W0 (w3.setCell ⟨q, 1, none⟩ vg') b s bR cR bG cG := by
  obtain ⟨⟨n1, n2⟩, n3, n4, n5, n6⟩ := hn
  have hbl := (Array.getElem?_eq_some_iff.1 hb).1
  have hq : q < W.heap.size := hc.tab.blk q rfl
  have hqb : q ≠ b ∧ (q = s ∨ b < q) := by rcases hc.pos with h | h <;> omega
  have hs3 := hx3.size
  obtain ⟨r, hr1, hr2⟩ := gb
  have hf3 : FFix w3 s bR cR (rsF f1) (tieF f3) := hf.same fun x h1 _ => Below.block hx3 x (by omega)
  have hc3 : FCls w3 b s bG q k cq (grF false) f5 vg vh := hc.same (fun x _ h1 => Below.block hx3 x h1) hs3
  have hc4 := hc3.set hg ⟨r, hr1, by omega, Or.inr (by omega)⟩
  exact ⟨Below.setCell (hx.trans hx3) (p := ⟨q, 1, none⟩) (by show W0.heap.size ≤ q; omega) _, q, k, cq, vg', vh, (Below.heap_setCell _ _ _ b (by show b ≠ q; omega)).trans (hx3.block hb), hf3.same fun x h1 h2 => Below.heap_setCell _ _ _ x (by show x ≠ q; omega), hc4, fun h => by cases h⟩
end Go.Proofs.Ythomndfagpeniaa
