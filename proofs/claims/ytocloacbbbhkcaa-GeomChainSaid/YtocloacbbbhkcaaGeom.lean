/- Places: what geom.need, Lap and Within answer. -/
import Derived.Test.YtocloacbbbhkcaaLex
namespace Go.Proofs.Ytocloacbbbhkcaa
open Go.RowKit

/-- Where a register lies. -/
structure Pl where
  root : Int
  beg : Int
  width : Int
  deriving DecidableEq
def Pl.cells (p : Pl) : List Value := [.int .i64 p.root, .int .i64 p.beg, .int .i64 p.width]
def Pl.fit (p : Pl) : Prop := (-9223372036854775808 ≤ p.root ∧ p.root ≤ 9223372036854775807) ∧ (-9223372036854775808 ≤ p.beg ∧ p.beg ≤ 9223372036854775807) ∧ (-9223372036854775808 ≤ p.width ∧ p.width ≤ 9223372036854775807)

/-- What 'stop' panics with. -/
def stopped (e : Int) : Ending := .panicked [{ v := .iface 40 (.agg #[.int .i64 e]), recovered := false }]

theorem need_ok (e : Int) (w : World) : Calls Try.prog 17 #[.bool true, .int .i64 e] w fun r w' => r = .returned (.tuple #[]) ∧ w = w' := by
  go_enter Try.func17, Try.ntmps17
  go_wp2
  go_end0
  exact ⟨rfl, rfl⟩
theorem need_no (e : Int) (w : World) : Calls Try.prog 17 #[.bool false, .int .i64 e] w fun r w' => r = stopped e ∧ w = w' := by
  go_enter Try.func17, Try.ntmps17
  go_wp2
  exact ⟨rfl, rfl, rfl⟩

/-- Have two places a bit in common? -/
def lapS (a b : Pl) : Bool := decide (a.root = b.root) && (decide (1 ≤ a.width) && (decide (1 ≤ b.width) && (if b.beg < a.beg then decide (a.beg - b.beg < b.width) else decide (b.beg - a.beg < a.width))))

theorem u64_sub (x y : Int) (h : y ≤ x) (hx : x - y < 18446744073709551616) : IntKind.u64.wrap (IntKind.u64.wrap x - IntKind.u64.wrap y) = x - y := by
  rw [IntKind.wrap_u64, IntKind.wrap_u64, IntKind.wrap_u64]; omega
theorem u64_pos (x : Int) (h : 0 ≤ x) (hx : x ≤ 9223372036854775807) : IntKind.u64.wrap x = x := by rw [IntKind.wrap_u64]; omega

theorem lapS_eq (ar aa aw br ba bw : Int) : lapS ⟨ar, aa, aw⟩ ⟨br, ba, bw⟩ = (decide (ar = br) && (decide (1 ≤ aw) && (decide (1 ≤ bw) && (if ba < aa then decide (aa - ba < bw) else decide (ba - aa < aw))))) := rfl
set_option maxHeartbeats 1000000 in
theorem lap_any (a b : Pl) (w : World) (ha : a.fit) (hb : b.fit) :
    Calls Try.prog 9 #[.agg a.cells.toArray, .agg b.cells.toArray] w fun e w' => e = .returned (.bool (lapS a b)) ∧ Below w.heap.size w w' := by
  obtain ⟨ar, aa, aw⟩ := a
  obtain ⟨br, ba, bw⟩ := b
  obtain ⟨⟨_, _⟩, ⟨a1, a2⟩, ⟨a3, a4⟩⟩ := ha
  obtain ⟨⟨_, _⟩, ⟨b1, b2⟩, ⟨b3, b4⟩⟩ := hb
  rw [lapS_eq]
  simp only [Pl.cells] at *
  by_cases h1 : ar = br
  · have t1 : (ar != br) = false := by simp [h1]
    rw [show decide (ar = br) = true by simp [h1], Bool.true_and]
    clear h1
    by_cases h2 : aw < 1
    · rw [show decide (1 ≤ aw) = false by simp; omega, Bool.false_and]
      go_enter Try.func9, Try.ntmps9
      go_wp2
      go_ret
      exact ⟨rfl, below2 _ _ _⟩
    · rw [show decide (1 ≤ aw) = true by simp; omega, Bool.true_and]
      by_cases h3 : bw < 1
      · rw [show decide (1 ≤ bw) = false by simp; omega, Bool.false_and]
        go_enter Try.func9, Try.ntmps9
        go_wp2
        go_ret
        exact ⟨rfl, below2 _ _ _⟩
      · rw [show decide (1 ≤ bw) = true by simp; omega, Bool.true_and]
        by_cases h4 : ba < aa
        · rw [if_pos h4]
          have e1 := u64_sub aa ba (by omega) (by omega)
          have e2 := u64_pos bw (by omega) (by omega)
          cases h5 : decide (aa - ba < bw)
          all_goals
            go_enter Try.func9, Try.ntmps9
            go_wp2
            go_ret
            exact ⟨rfl, below2 _ _ _⟩
        · rw [if_neg h4]
          have e1 := u64_sub ba aa (by omega) (by omega)
          have e2 := u64_pos aw (by omega) (by omega)
          cases h5 : decide (ba - aa < aw)
          all_goals
            go_enter Try.func9, Try.ntmps9
            go_wp2
            go_ret
            exact ⟨rfl, below2 _ _ _⟩
  · have t1 : (ar != br) = true := by simp [h1]
    rw [show decide (ar = br) = false by simp [h1], Bool.false_and]
    clear h1
    go_enter Try.func9, Try.ntmps9
    go_wp2
    go_ret
    exact ⟨rfl, below2 _ _ _⟩

/-- Are all bits of a place bits of another one? -/
def withinS (a b : Pl) : Bool := decide (a.root = b.root) && (decide (a.width < 1) || (decide (1 ≤ b.width) && (decide (b.beg ≤ a.beg) && (decide (a.beg - b.beg ≤ b.width) && decide (a.width ≤ b.width - (a.beg - b.beg))))))
theorem withinS_eq (ar aa aw br ba bw : Int) : withinS ⟨ar, aa, aw⟩ ⟨br, ba, bw⟩ = (decide (ar = br) && (decide (aw < 1) || (decide (1 ≤ bw) && (decide (ba ≤ aa) && (decide (aa - ba ≤ bw) && decide (aw ≤ bw - (aa - ba))))))) := rfl
theorem u64_sub2 (x y : Int) (h : y ≤ x) (h0 : 0 ≤ y) (hx : x ≤ 9223372036854775807) : IntKind.u64.wrap (x - y) = x - y := by
  rw [IntKind.wrap_u64]; omega
set_option maxHeartbeats 1000000 in
theorem within_any (a b : Pl) (w : World) (ha : a.fit) (hb : b.fit) :
    Calls Try.prog 10 #[.agg a.cells.toArray, .agg b.cells.toArray] w fun e w' => e = .returned (.bool (withinS a b)) ∧ Below w.heap.size w w' := by
  obtain ⟨ar, aa, aw⟩ := a
  obtain ⟨br, ba, bw⟩ := b
  obtain ⟨⟨_, _⟩, ⟨a1, a2⟩, ⟨a3, a4⟩⟩ := ha
  obtain ⟨⟨_, _⟩, ⟨b1, b2⟩, ⟨b3, b4⟩⟩ := hb
  rw [withinS_eq]
  simp only [Pl.cells] at *
  by_cases h1 : ar = br
  · have t1 : (ar != br) = false := by simp [h1]
    rw [show decide (ar = br) = true by simp [h1], Bool.true_and]
    clear h1
    by_cases h2 : aw < 1
    · rw [show decide (aw < 1) = true by simp; omega, Bool.true_or]
      go_enter Try.func10, Try.ntmps10
      go_wp2
      go_ret
      exact ⟨rfl, below2 _ _ _⟩
    · rw [show decide (aw < 1) = false by simp; omega, Bool.false_or]
      by_cases h3 : bw < 1
      · rw [show decide (1 ≤ bw) = false by simp; omega, Bool.false_and]
        go_enter Try.func10, Try.ntmps10
        go_wp2
        go_ret
        exact ⟨rfl, below2 _ _ _⟩
      · rw [show decide (1 ≤ bw) = true by simp; omega, Bool.true_and]
        by_cases h4 : aa < ba
        · rw [show decide (ba ≤ aa) = false by simp; omega, Bool.false_and]
          go_enter Try.func10, Try.ntmps10
          go_wp2
          go_ret
          exact ⟨rfl, below2 _ _ _⟩
        · rw [show decide (ba ≤ aa) = true by simp; omega, Bool.true_and]
          have e1 := u64_sub aa ba (by omega) (by omega)
          have e2 := u64_pos bw (by omega) (by omega)
          have e3 := u64_pos aw (by omega) (by omega)
          by_cases h5 : aa - ba ≤ bw
          · rw [show decide (aa - ba ≤ bw) = true by simp; omega, Bool.true_and]
            have e4 := u64_sub2 bw (aa - ba) (by omega) (by omega) (by omega)
            cases h6 : decide (aw ≤ bw - (aa - ba))
            all_goals
              go_enter Try.func10, Try.ntmps10
              go_wp2
              go_ret
              exact ⟨rfl, below2 _ _ _⟩
          · have h5' : decide (aa - ba ≤ bw) = false := by simp; omega
            rw [h5', Bool.false_and]
            go_enter Try.func10, Try.ntmps10
            go_wp2
            go_ret
            exact ⟨rfl, below2 _ _ _⟩
  · have t1 : (ar != br) = true := by simp [h1]
    rw [show decide (ar = br) = false by simp [h1], Bool.false_and]
    clear h1
    go_enter Try.func10, Try.ntmps10
    go_wp2
    go_ret
    exact ⟨rfl, below2 _ _ _⟩
end Go.Proofs.Ytocloacbbbhkcaa
