/- The laws' own example, and what they begin with. -/
import Derived.Test.YtocloacbbbhkcaaPlaces
namespace Go.Proofs.Ytocloacbbbhkcaa
open Go.RowKit

theorem row_of_block {W : World} {b size n : Nat} {cs : Array Value} {t : TypeId} {fz : Nat × Nat} (h : W.heap[b]? = some (.cells cs t fz)) (hl : cs.toList.length = n * size) (hn : n ≤ maxLen) : Row W size (.slice (some ⟨b, 0, none⟩) n n) n cs.toList := by
  refine ⟨hl, Or.inr ⟨_, _, rfl, Nat.le_refl _, hn, fun j u hj => ?_⟩⟩
  exact World.news_of_block h j u hj
theorem RegsIn.nil (W : World) (n0 : Nat) : RegsIn W n0 (.slice none 0 0) [] :=
  .mk [] rfl ⟨rfl, Or.inl ⟨rfl, rfl⟩⟩ (fun k h => by cases h) (fun r h => by simp at h) (fun i r u h => by simp at h)
theorem RegsIn.ext {W W' : World} {n0 : Nat} {v : Value} {l : List RegT} (h : RegsIn W n0 v l) (x : Ext W W') (hn : n0 ≤ W.heap.size) : RegsIn W' n0 v l := h.same fun k hk => Below.block x k (by omega)
theorem RegsIn.up {W : World} {n0 n1 : Nat} {v : Value} {l : List RegT} (h : RegsIn W n0 v l) (hn : n0 ≤ n1) : RegsIn W n1 v l := by
  induction h with
  | mk vs hl hrow hb hw _ ih => exact .mk vs hl hrow (fun k e => Nat.lt_of_lt_of_le (hb k e) hn) hw ih
/-- Registers that a literal lays. -/
theorem RegsIn.lit {W : World} {b n0 : Nat} {cs : Array Value} {t : TypeId} {fz : Nat × Nat} (l : List RegT) (vs : List Value) (h : W.heap[b]? = some (.cells cs t fz)) (hb : b < n0) (hc : cs.toList = regCells l vs) (hl : vs.length = l.length) (hn : l.length ≤ maxLen)
    (hw : ∀ r ∈ l, fits64 r.width ∧ fits64 r.beg) (hs : ∀ (i : Nat) (r : RegT) (u : Value), l[i]? = some r → vs[i]? = some u → RegsIn W n0 u r.subs) : RegsIn W n0 (.slice (some ⟨b, 0, none⟩) l.length l.length) l := by
  refine .mk vs hl ?_ (fun k e => by cases e; exact hb) hw hs
  rw [← hc]
  refine row_of_block h ?_ hn
  rw [hc]; unfold regCells
  have : ∀ (l : List RegT) (vs : List Value), vs.length = l.length → ((l.zip vs).flatMap fun x => [Value.string x.1.name, .int .i64 x.1.width, .int .i64 x.1.beg, x.2]).length = l.length * 4 := by
    intro l
    induction l with
    | nil => intro vs _; simp
    | cons a l ih =>
      intro vs h
      cases vs with
      | nil => simp at h
      | cons v vs => simp at h; simp [ih vs h]; omega
  exact this l vs hl
theorem one_sub {W : World} {n0 : Nat} {r0 : RegT} {v : Value} (h : RegsIn W n0 v r0.subs) : ∀ (i : Nat) (r : RegT) (u : Value), [r0][i]? = some r → [v][i]? = some u → RegsIn W n0 u r.subs := by
  intro i r u hr hu
  match i, hr, hu with
  | 0, hr, hu => simp at hr hu; subst hr; subst hu; exact h
  | i + 1, hr, _ => simp at hr

def nAl : ByteArray := ⟨#[97, 108]⟩
def nAh : ByteArray := ⟨#[97, 104]⟩
def nAx : ByteArray := ⟨#[97, 120]⟩
def nEax : ByteArray := ⟨#[101, 97, 120]⟩
def nRax : ByteArray := ⟨#[114, 97, 120]⟩
def rAl : RegT := .mk nAl 8 0 []
def rAh : RegT := .mk nAh 8 8 []
def rAx : RegT := .mk nAx 16 0 [rAl, rAh]
def rEax : RegT := .mk nEax 32 0 [rAx]
def rRax : RegT := .mk nRax 64 0 [rEax]
def wkRax : Wk := { names := [nRax, nEax, nAx, nAl, nAh], places := [⟨0, 0, 64⟩, ⟨0, 0, 32⟩, ⟨0, 0, 16⟩, ⟨0, 0, 8⟩, ⟨0, 8, 8⟩], ways := [(⟨0, 0, 0⟩, [⟨0, 0, 64⟩]), (⟨0, 0, 64⟩, [⟨0, 0, 32⟩]), (⟨0, 0, 32⟩, [⟨0, 0, 16⟩]), (⟨0, 0, 16⟩, [⟨0, 0, 8⟩, ⟨0, 8, 8⟩]), (⟨0, 8, 8⟩, [])], roots := 1 }
theorem rax_places : placesS [rRax] = .ok wkRax := by kernel_rfl

theorem rax_any (w : World) : Calls Try.prog 11 #[] w fun e w' => ∃ v, e = .returned v ∧ Ext w w' ∧ RegsIn w' w'.heap.size v [rRax] ∧ ∃ a n c, v = .slice a n c := by
  go_enter Try.func11, Try.ntmps11
  go_wp2
  go_ret
  refine ⟨_, rfl, (((Ext.alloc _ _).trans (Ext.alloc _ _)).trans (Ext.alloc _ _)).trans (Ext.alloc _ _), ?_, _, _, _, rfl⟩
  have f64 : ∀ n : Int, 0 ≤ n → n ≤ 64 → fits64 n := fun n h h' => ⟨by omega, by omega⟩
  refine RegsIn.lit [rRax] [.slice (some ⟨w.heap.size + 1 + 1, 0, none⟩) 1 1] (new_at _ _ _ (by simp)) (by simp) rfl rfl (by decide) (fun r hr => ?_) (one_sub ?_)
  · simp at hr; subst hr; exact ⟨f64 _ (by decide) (by decide), f64 _ (by decide) (by decide)⟩
  refine RegsIn.lit [rEax] [.slice (some ⟨w.heap.size + 1, 0, none⟩) 1 1] ((Ext.alloc _ _).block (new_at _ _ _ (by simp))) (by simp <;> omega) rfl rfl (by decide) (fun r hr => ?_) (one_sub ?_)
  · simp at hr; subst hr; exact ⟨f64 _ (by decide) (by decide), f64 _ (by decide) (by decide)⟩
  refine RegsIn.lit [rAx] [.slice (some ⟨w.heap.size, 0, none⟩) 2 2] ((Ext.alloc _ _).block ((Ext.alloc _ _).block (new_at _ _ _ (by simp)))) (by simp <;> omega) rfl rfl (by decide) (fun r hr => ?_) (one_sub ?_)
  · simp at hr; subst hr; exact ⟨f64 _ (by decide) (by decide), f64 _ (by decide) (by decide)⟩
  refine RegsIn.lit [rAl, rAh] [.slice none 0 0, .slice none 0 0] ((Ext.alloc _ _).block ((Ext.alloc _ _).block ((Ext.alloc _ _).block (new_at _ _ _ (by simp))))) (by simp <;> omega) rfl rfl (by decide) (fun r hr => ?_) ?_
  · simp at hr; rcases hr with rfl | rfl <;> exact ⟨f64 _ (by decide) (by decide), f64 _ (by decide) (by decide)⟩
  · intro i r u hr hu
    match i, hr, hu with
    | 0, hr, hu => simp at hr hu; subst hr; subst hu; exact RegsIn.nil _ _
    | 1, hr, hu => simp at hr hu; subst hr; subst hu; exact RegsIn.nil _ _
    | i + 2, hr, _ => simp at hr

theorem num5_any (e : Int) (w : World) : Calls Try.prog 8 #[.int .i64 e] w fun r w' => r = .returned (.int .i64 e) ∧ w = w' := by
  go_enter Try.func8, Try.ntmps8
  go_wp2
  go_ret
  exact ⟨rfl, rfl⟩

theorem owns_cells {w : World} {size n : Nat} {e : TypeId} {v : Value} {xs : List Value} (h : w.ownsRow 0 e size v n xs) (hn : 0 < n) : ∃ g cap, v = .slice (some ⟨g, 0, none⟩) n cap ∧ n ≤ cap ∧ g < w.heap.size ∧ ∀ j u, xs[j]? = some u → w.cell? ⟨g, j, none⟩ = some u := by
  obtain ⟨g, cap, hv, _, hg⟩ := h.form hn
  rcases (Row.of_owns h).2 with ⟨e, _⟩ | ⟨a, cap', e, h1, _, hc⟩
  · rw [e] at hv; cases hv
  · rw [hv] at e; cases e
    refine ⟨g, cap, hv, h1, hg, fun j u hj => ?_⟩
    have := hc j u hj
    have ad : (Addr.add ⟨g, 0, none⟩ j) = ⟨g, j, none⟩ := by unfold Addr.add; by_cases h0 : j = 0 <;> simp [h0]
    rw [ad] at this; exact this

set_option maxHeartbeats 1000000 in
theorem alive5_any (w : World) : Calls Try.prog 6 #[] w fun e w' => e = .returned (.bool true) ∧ Ext w w' := by
  go_enter Try.func6, Try.ntmps6
  go_wp2_with fail
  refine (rax_any _).mono ?_
  rintro e w1 ⟨v, rfl, x1, hr, a, n, c, rfl⟩
  have X1 := Lib.hid x1
  clear x1
  go_wp2_with fail
  refine (places_any [rRax] a n c _ hr).mono ?_
  rw [rax_places]
  rintro e w2 ⟨x2, vN, vP, rfl, h1, h2, _⟩
  clear hr
  obtain ⟨gN, cN, rfl, _, _, hN⟩ := owns_cells (n := 5) h1 (by decide)
  obtain ⟨gP, cP, rfl, _, _, hP⟩ := owns_cells (n := 5) h2 (by decide)
  have n4 := hN 4 (.string ⟨#[97, 104]⟩) rfl
  have q0 := hP 12 (.int .i64 0) rfl
  have q1 := hP 13 (.int .i64 8) rfl
  have q2 := hP 14 (.int .i64 8) rfl
  have X2 := Lib.hid x2
  clear x2 h1 h2 hN hP
  go_wp2_with fail
  refine (num5_any _ _).mono ?_
  rintro e w3 ⟨rfl, rfl⟩
  go_wp2_with fail
  go_ret
  exact ⟨rfl, X1.out.trans X2.out⟩
end Go.Proofs.Ytocloacbbbhkcaa
