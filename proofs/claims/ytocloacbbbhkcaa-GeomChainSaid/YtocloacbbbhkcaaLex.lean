/- Names: what lexer.Letter, Digit, Named, desc.Word, Named and the library's Index and Contains on strings answer. -/
import Derived.Test.YtocloacbbbhkcaaProg
import Derived.Test.YtocloacbbbhkcaaReps
import Derived.WalkKit
import Derived.WalkSpells
import Derived.WalkLawsBesides
import Derived.PlainAid
namespace Go.Proofs.Ytocloacbbbhkcaa
open Go.RowKit

def letterB (c : Int) : Bool := (decide (97 ≤ c) && decide (c ≤ 122)) || (decide (65 ≤ c) && decide (c ≤ 90)) || c == 95
def digitB (c : Int) : Bool := decide (48 ≤ c) && decide (c ≤ 57)

set_option maxHeartbeats 400000 in
theorem letter_any (c : Int) (w : World) : Calls Try.prog 21 #[.int .u8 c] w fun e w' => e = .returned (.bool (letterB c)) ∧ w = w' := by
  unfold letterB
  cases h1 : decide (97 ≤ c) <;> cases h2 : decide (c ≤ 122) <;> cases h3 : decide (65 ≤ c) <;> cases h4 : decide (c ≤ 90) <;> cases h5 : c == 95
  all_goals first
    | (exfalso; simp only [decide_eq_true_eq, decide_eq_false_iff_not, beq_iff_eq, beq_eq_false_iff_ne] at h1 h2 h3 h4 h5; omega)
    | (go_enter Try.func21, Try.ntmps21
       go_wp2
       go_ret
       exact ⟨rfl, rfl⟩)

set_option maxHeartbeats 400000 in
theorem digit_any (c : Int) (w : World) : Calls Try.prog 22 #[.int .u8 c] w fun e w' => e = .returned (.bool (digitB c)) ∧ w = w' := by
  unfold digitB
  cases h1 : decide (48 ≤ c) <;> cases h2 : decide (c ≤ 57)
  all_goals first
    | (exfalso; simp only [decide_eq_true_eq, decide_eq_false_iff_not] at h1 h2; omega)
    | (go_enter Try.func22, Try.ntmps22
       go_wp2
       go_ret
       exact ⟨rfl, rfl⟩)

/-- A byte that a name may have. -/
def nameB (c : Int) : Bool := letterB c || digitB c
/-- Is a text a name? -/
def lexS (s : ByteArray) : Bool := decide (0 < s.size) && decide (s.size ≤ 20) && letterB (PlainAid.bt s 0) && (List.range s.size).all (fun i => nameB (PlainAid.bt s i))

theorem lexS_no {s : ByteArray} {j : Nat} (hj : j < s.size) (h : nameB (PlainAid.bt s j) = false) : lexS s = false := by
  have : (List.range s.size).all (fun i => nameB (PlainAid.bt s i)) = false := by
    rw [List.all_eq_false]; exact ⟨j, by simpa using hj, by simp [h]⟩
  simp [lexS, this]
theorem lexS_yes {s : ByteArray} (h0 : 0 < s.size) (h1 : s.size ≤ 20) (h2 : letterB (PlainAid.bt s 0) = true) (h : ∀ j, j < s.size → nameB (PlainAid.bt s j) = true) : lexS s = true := by
  have : (List.range s.size).all (fun i => nameB (PlainAid.bt s i)) = true := by
    rw [List.all_eq_true]; intro i hi; exact h i (by simpa using hi)
  simp [lexS, this, h0, h1, h2]

set_option maxHeartbeats 400000 in
theorem lexNamed_any (s : ByteArray) (w : World) : Calls Try.prog 19 #[.string s] w fun e w' => e = .returned (.bool (lexS s)) ∧ w = w' := by
  by_cases h0 : s.size = 0
  · have t0 : s.toList.isEmpty = true := by rw [ByteArray.toList_eq]; exact List.isEmpty_iff.2 (List.length_eq_zero_iff.1 (by rw [Array.length_toList]; exact h0))
    have e : lexS s = false := by simp [lexS, h0]
    rw [e]; clear e h0
    go_enter Try.func19, Try.ntmps19
    go_wp2_with fail
    go_ret
    exact ⟨rfl, rfl⟩
  · have t0 : s.toList.isEmpty = false := by
      rw [ByteArray.toList_eq]
      cases hd : s.data.toList with
      | nil => exact absurd (show s.data.size = 0 by rw [← Array.length_toList, hd]; rfl) h0
      | cons _ _ => rfl
    have hp : 0 < s.size := by omega
    have hb := PlainAid.get_bt s
    clear h0
    by_cases h1 : (20 : Int) < s.size
    · have e : lexS s = false := by simp only [lexS]; rw [show decide (s.size ≤ 20) = false by simp; omega]; simp
      rw [e]; clear e
      go_enter Try.func19, Try.ntmps19
      go_wp2_with fail
      go_ret
      exact ⟨rfl, rfl⟩
    · cases h2 : letterB (PlainAid.bt s 0) with
      | false =>
        have e : lexS s = false := by simp [lexS, h2]
        rw [e]; clear e
        go_enter Try.func19, Try.ntmps19
        go_wp2_with (go_at_call 21; refine (letter_any _ _).mono ?_; rintro e w' ⟨rfl, rfl⟩)
        go_ret
        exact ⟨rfl, rfl⟩
      | true =>
        go_enter Try.func19, Try.ntmps19
        go_wp2_with (go_at_call 21; refine (letter_any _ _).mono ?_; rintro e w' ⟨rfl, rfl⟩)
        go_loop [19] (fun i => ∃ k : Nat, k ≤ s.size ∧ i = .int .i64 k ∧ Hid (∀ j, j < k → nameB (PlainAid.bt s j) = true)) (fun i => s.size - (intOf i).toNat)
        case atStart => exact ⟨0, by omega, rfl, Lib.hid (fun j hj => by omega)⟩
        case round =>
          obtain ⟨k, hk, rfl, hok⟩ := hrel
          by_cases hlt : k < s.size
          · cases hn : letterB (PlainAid.bt s k) with
            | true =>
              have hstep := Lib.hid (show ∀ j, j < k + 1 → nameB (PlainAid.bt s j) = true from fun j hj => by
                by_cases e : j = k
                · subst e; simp [nameB, hn]
                · exact hok.out j (by omega))
              go_wp2_with (go_at_call 21; refine (letter_any _ _).mono ?_; rintro e w' ⟨rfl, rfl⟩)
              go_round
              case rel => exact ⟨k + 1, by omega, by go_num, hstep⟩
              case measure => simp [intOf]; omega
            | false =>
              cases hd : digitB (PlainAid.bt s k) with
              | true =>
                have hstep := Lib.hid (show ∀ j, j < k + 1 → nameB (PlainAid.bt s j) = true from fun j hj => by
                  by_cases e : j = k
                  · subst e; simp [nameB, hd]
                  · exact hok.out j (by omega))
                go_wp2_with (first | (go_at_call 21; refine (letter_any _ _).mono ?_; rintro e w' ⟨rfl, rfl⟩) | (go_at_call 22; refine (digit_any _ _).mono ?_; rintro e w' ⟨rfl, rfl⟩))
                go_round
                case rel => exact ⟨k + 1, by omega, by go_num, hstep⟩
                case measure => simp [intOf]; omega
              | false =>
                have e : lexS s = false := lexS_no hlt (by simp [nameB, hn, hd])
                have E := Lib.hid e; clear e
                go_wp2_with (first | (go_at_call 21; refine (letter_any _ _).mono ?_; rintro e w' ⟨rfl, rfl⟩) | (go_at_call 22; refine (digit_any _ _).mono ?_; rintro e w' ⟨rfl, rfl⟩))
                go_ret
                exact ⟨by rw [E.out]; rfl, rfl⟩
          · have e : lexS s = true := lexS_yes hp (by omega) h2 (fun j hj => hok.out j (by omega))
            have E := Lib.hid e; clear e
            go_wp2_with fail
            go_ret
            exact ⟨by rw [E.out]; rfl, rfl⟩

/-- A slice that reads as a list of strings. -/
def SliceStrs (w : World) (v : Value) (l : List ByteArray) : Prop := Row w 1 v l.length (l.map Value.string)
theorem SliceStrs.below {w w' : World} {v : Value} {l : List ByteArray} (h : SliceStrs w v l) (hb : Below w.heap.size w w') : SliceStrs w' v l := Row.below h hb
theorem SliceStrs.lit (w : World) (e : TypeId) (l : List ByteArray) (hm : l.length ≤ maxLen) : SliceStrs (w.alloc (.cells (l.map Value.string).toArray e)) (.slice (some ⟨w.heap.size, 0, none⟩) l.length l.length) l := by
  refine ⟨by simp, Or.inr ⟨_, _, rfl, Nat.le_refl _, hm, fun j u hj => ?_⟩⟩
  have e1 : (Addr.add ⟨w.heap.size, 0, none⟩ j) = ⟨w.heap.size, j, none⟩ := by unfold Addr.add; by_cases h0 : j = 0 <;> simp [h0]
  rw [e1]
  simp only [World.cell?, heap_alloc_new]
  simpa using hj

/-- A text's place in a list; -1: it is not there. -/
def idx (l : List ByteArray) (s : ByteArray) : Int := match l.findIdx? (fun x => x == s) with | some i => i | none => -1
theorem str_beq (a b : ByteArray) : (a.toList == b.toList) = (b == a) := by
  rw [ByteArray.toList_eq, ByteArray.toList_eq, Bool.eq_iff_iff]
  cases a with | mk a => cases b with | mk b =>
  have e : ((ByteArray.mk b == ByteArray.mk a) = true) ↔ b = a := by
    show (b == a) = true ↔ b = a
    simp
  rw [e]
  simp only [beq_iff_eq, Array.toList_inj]
  exact eq_comm

set_option maxHeartbeats 400000 in
theorem index_any (v : Value) (l : List ByteArray) (s : ByteArray) (w : World) (hv : SliceStrs w v l) :
    Calls Try.prog 24 #[v, .string s] w fun e w' => e = .returned (.int .i64 (idx l s)) ∧ w = w' := by
  by_cases hl : l = []
  · subst hl
    obtain ⟨a, cap, rfl, _, _⟩ := Row.shape hv
    go_enter Try.func24, Try.ntmps24
    go_wp2
    refine wp_loop_rounds 1 ?_
    rw [rounds_succ]
    go_wp2
    go_ret
    exact ⟨rfl, rfl⟩
  · obtain ⟨b, off, cap, rfl, hnc, hcm, hb, hc⟩ := Row.at hv (by simpa using hl)
    unfold maxLen at hcm
    go_enter Try.func24, Try.ntmps24
    go_wp2
    go_loop [8] (fun i => ∃ k : Nat, k ≤ l.length ∧ i = .int .i64 k ∧ Hid (∀ j x, j < k → l[j]? = some x → (x == s) = false)) (fun i => l.length - (intOf i).toNat)
    case atStart => exact ⟨0, by omega, rfl, Lib.hid (fun j _ hj => by omega)⟩
    case round =>
      obtain ⟨k, hk, rfl, hok⟩ := hrel
      by_cases hlt : k < l.length
      · obtain ⟨x, hx⟩ : ∃ x, l[k]? = some x := ⟨l[k], List.getElem?_eq_getElem hlt⟩
        have hcell := hc k (.string x) (by simp [hx])
        have HX := Lib.hid hx
        have HC := Lib.hid hc
        have hbx := str_beq s x
        clear hx hc
        cases he : (x == s) with
        | true =>
          rw [he] at hbx
          have E := Lib.hid (show idx l s = k by
            unfold idx
            have : l.findIdx? (fun x => x == s) = some k := by
              rw [List.findIdx?_eq_some_iff_getElem]
              obtain ⟨h1, h2⟩ := List.getElem?_eq_some_iff.1 HX.out
              exact ⟨h1, by rw [h2]; exact he, fun j hj => by have := hok.out j l[j] hj (List.getElem?_eq_getElem (by omega)); simp [this]⟩
            rw [this])
          go_wp2
          go_ret
          exact ⟨by rw [E.out]; rfl, rfl⟩
        | false =>
          rw [he] at hbx
          have hstep := Lib.hid (show ∀ j y, j < k + 1 → l[j]? = some y → (y == s) = false from fun j y hj hy => by
            by_cases e : j = k
            · subst e; rw [HX.out] at hy; cases hy; exact he
            · exact hok.out j y (by omega) hy)
          go_wp2
          go_round
          case rel => exact ⟨k + 1, by omega, by go_num, hstep⟩
          case measure => simp [intOf]; omega
      · have E := Lib.hid (show idx l s = -1 by
          unfold idx
          have : l.findIdx? (fun x => x == s) = none := by
            rw [List.findIdx?_eq_none_iff]
            intro x hx
            obtain ⟨j, hj⟩ := List.getElem?_of_mem hx
            exact hok.out j x (by have := (List.getElem?_eq_some_iff.1 hj).1; omega) hj
          rw [this])
        clear hc
        go_wp2
        go_ret
        exact ⟨by rw [E.out]; rfl, rfl⟩

set_option maxHeartbeats 400000 in
theorem contains_any (v : Value) (l : List ByteArray) (s : ByteArray) (w : World) (hv : SliceStrs w v l) :
    Calls Try.prog 23 #[v, .string s] w fun e w' => e = .returned (.bool (decide (0 ≤ idx l s))) ∧ w = w' := by
  obtain ⟨a, cap, rfl, _, _⟩ := Row.shape hv
  cases h : decide (0 ≤ idx l s)
  all_goals
    go_enter Try.func23, Try.ntmps23
    go_wp2_with (go_at_call 24; refine (index_any _ l _ _ hv).mono ?_; rintro e w' ⟨rfl, rfl⟩)
    go_ret
    exact ⟨rfl, rfl⟩

/-- The language's words. -/
def words : List ByteArray := [⟨#[109, 97, 99, 104, 105, 110, 101]⟩, ⟨#[114, 101, 103]⟩, ⟨#[97, 116]⟩, ⟨#[99, 108, 97, 115, 115]⟩, ⟨#[111, 112]⟩, ⟨#[116, 105, 101]⟩, ⟨#[99, 108, 111, 98]⟩, ⟨#[97, 114, 103, 115]⟩, ⟨#[114, 101, 115, 117, 108, 116]⟩, ⟨#[115, 97, 118, 101, 100]⟩, ⟨#[115, 108, 111, 116, 115]⟩]
def wordS (s : ByteArray) : Bool := decide (0 ≤ idx words s)
set_option maxHeartbeats 400000 in
theorem word_any (s : ByteArray) (w : World) : Calls Try.prog 20 #[.string s] w fun e w' => e = .returned (.bool (wordS s)) ∧ Below w.heap.size w w' := by
  have hv := SliceStrs.lit w 9 words (by decide)
  have key := contains_any _ words s _ hv
  go_enter Try.func20, Try.ntmps20
  go_wp2_with fail
  refine key.mono ?_
  rintro e w' ⟨rfl, rfl⟩
  go_wp2_with fail
  go_ret
  exact ⟨rfl, Ext.alloc _ _⟩

/-- May a name be? -/
def namedS (s : ByteArray) : Bool := lexS s && !wordS s
set_option maxHeartbeats 400000 in
theorem named_any (s : ByteArray) (w : World) : Calls Try.prog 18 #[.string s] w fun e w' => e = .returned (.bool (namedS s)) ∧ Below w.heap.size w w' := by
  unfold namedS
  cases h1 : lexS s with
  | false =>
    go_enter Try.func18, Try.ntmps18
    go_wp2_with (go_at_call 19; refine (lexNamed_any _ _).mono ?_; rintro e w' ⟨rfl, rfl⟩)
    go_ret
    exact ⟨rfl, Below.refl _ _⟩
  | true =>
    cases h2 : wordS s
    all_goals
      go_enter Try.func18, Try.ntmps18
      go_wp2_with fail
      refine (lexNamed_any _ _).mono ?_
      rintro e w' ⟨rfl, rfl⟩
      go_wp2_with fail
      refine (word_any _ _).mono ?_
      rintro e w' ⟨rfl, hb⟩
      go_wp2_with fail
      go_ret
      exact ⟨rfl, hb⟩
end Go.Proofs.Ytocloacbbbhkcaa
