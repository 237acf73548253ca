/- Registers in memory, and how desc.down goes over them. -/
import Derived.Test.YtocloacbbbhkcaaRange
import Derived.Test.YtocloacbbbhkcaaOne
import Derived.RangeFuncBound
import Derived.Shelf.Abstract
import Derived.OwnWalkIn
import Derived.TacticsInMore
import Derived.LoopNIn
import Derived.LoopIn
namespace Go.Proofs.Ytocloacbbbhkcaa
open Go.RowKit
attribute [local go_sem] Oper.semAt_some

/-- A register, and those within it. -/
inductive RegT where
  | mk (name : ByteArray) (width beg : Int) (subs : List RegT)
def RegT.name : RegT → ByteArray | .mk n _ _ _ => n
def RegT.width : RegT → Int | .mk _ w _ _ => w
def RegT.beg : RegT → Int | .mk _ _ b _ => b
def RegT.subs : RegT → List RegT | .mk _ _ _ s => s

def regCells (l : List RegT) (vs : List Value) : List Value := (l.zip vs).flatMap fun x => [.string x.1.name, .int .i64 x.1.width, .int .i64 x.1.beg, x.2]
theorem regCells_cons (r : RegT) (l : List RegT) (u : Value) (vs : List Value) : regCells (r :: l) (u :: vs) = .string r.name :: .int .i64 r.width :: .int .i64 r.beg :: u :: regCells l vs := by simp [regCells]
theorem regCells_at {l : List RegT} {vs : List Value} {i : Nat} {r : RegT} {u : Value} (hr : l[i]? = some r) (hu : vs[i]? = some u) :
    (regCells l vs)[i * 4]? = some (.string r.name) ∧ (regCells l vs)[i * 4 + 1]? = some (.int .i64 r.width) ∧ (regCells l vs)[i * 4 + 2]? = some (.int .i64 r.beg) ∧ (regCells l vs)[i * 4 + 3]? = some u := by
  induction i generalizing l vs with
  | zero =>
    cases l with
    | nil => simp at hr
    | cons a l =>
      cases vs with
      | nil => simp at hu
      | cons b vs => simp at hr hu; subst hr; subst hu; simp [regCells_cons]
  | succ i ih =>
    cases l with
    | nil => simp at hr
    | cons a l =>
      cases vs with
      | nil => simp at hu
      | cons b vs =>
        have := ih (l := l) (vs := vs) (by simpa using hr) (by simpa using hu)
        rw [regCells_cons, show (i + 1) * 4 = i * 4 + 4 by omega]
        simpa using this

def fits64 (n : Int) : Prop := -9223372036854775808 ≤ n ∧ n ≤ 9223372036854775807

/-- Registers in memory, all of it below a block's number. -/
inductive RegsIn (W : World) (n0 : Nat) : Value → List RegT → Prop where
  | mk {v : Value} {l : List RegT} (vs : List Value) (hl : vs.length = l.length) (hrow : Row W 4 v l.length (regCells l vs)) (hb : ∀ k, v.ownBlock = some k → k < n0)
      (hw : ∀ r ∈ l, fits64 r.width ∧ fits64 r.beg) (hs : ∀ (i : Nat) (r : RegT) (u : Value), l[i]? = some r → vs[i]? = some u → RegsIn W n0 u r.subs) : RegsIn W n0 v l

theorem Row.same {w w' : World} {size : Nat} {v : Value} {n : Nat} {xs : List Value} (h : Row w size v n xs) (hk : ∀ k, v.ownBlock = some k → w'.heap[k]? = w.heap[k]?) : Row w' size v n xs := by
  refine ⟨h.1, ?_⟩
  rcases h.2 with h2 | ⟨a, cap, rfl, h1, h2, hc⟩
  · exact Or.inl h2
  · refine Or.inr ⟨a, cap, rfl, h1, h2, fun j u hj => ?_⟩
    have := hc j u hj
    rw [World.cell?_of_block (w := w) (hk (a.add j).block (by show some a.block = some (a.add j).block; unfold Addr.add; split <;> rfl))]
    exact this
theorem RegsIn.same {W W' : World} {n0 : Nat} (hk : ∀ k, k < n0 → W'.heap[k]? = W.heap[k]?) {v : Value} {l : List RegT} (h : RegsIn W n0 v l) : RegsIn W' n0 v l := by
  induction h with
  | mk vs hl hrow hb hw _ ih => exact .mk vs hl (hrow.same fun k e => hk k (hb k e)) hb hw ih

/-- What one list of registers makes of the walker's state. -/
def stepsS (g : Wk → RegT → Except Int Wk) : List RegT → Wk → Except Int Wk
  | [], σ => .ok σ
  | r :: l, σ => match g σ r with
    | .ok σ' => stepsS g l σ'
    | .error x => .error x
/-- What registers of a depth make of it. -/
def downS : Nat → Nat → List RegT → Wk → Except Int Wk
  | 0, _, _, σ => .ok σ
  | k + 1, d, l, σ => stepsS (fun σ r => match oneS σ r.name r.width r.beg d with
    | .ok σ' => downS k (d + 1) r.subs σ'
    | .error x => .error x) l σ

/-- How a way ends: the state behind it, and what was kept. -/
def DP (St : (Nat → Prop) → Wk → World → Prop) (ρ : Nat → Prop) (W : World) (d : Nat) (r : Except Int Wk) (e : Ending) (W' : World) : Prop :=
  Keep ρ W W' ∧ match r with
    | .error x => e = stopped x
    | .ok σ' => e = .returned (.bool true) ∧ ∃ ρ', St ρ' σ' W' ∧ (∀ k, ρ' k → ρ k ∨ W.heap.size ≤ k) ∧ d ≤ σ'.ways.length
theorem DP.ok {St : (Nat → Prop) → Wk → World → Prop} {ρ : Nat → Prop} {W W' : World} {d : Nat} {σ' : Wk} {e : Ending} (h : DP St ρ W d (.ok σ') e W') :
    Keep ρ W W' ∧ e = .returned (.bool true) ∧ ∃ ρ', St ρ' σ' W' ∧ (∀ k, ρ' k → ρ k ∨ W.heap.size ≤ k) ∧ d ≤ σ'.ways.length := h
theorem DP.err {St : (Nat → Prop) → Wk → World → Prop} {ρ : Nat → Prop} {W W' : World} {d : Nat} {x : Int} {e : Ending} (h : DP St ρ W d (.error x) e W') : Keep ρ W W' ∧ e = stopped x := h

set_option maxRecDepth 100000 in
set_option maxHeartbeats 2000000 in
theorem down_in (L n0 : Nat) (St : (Nat → Prop) → Wk → World → Prop) (hext : ∀ ρ σ W W', St ρ σ W → Ext W W' → St ρ σ W') (hlt : ∀ ρ σ W, St ρ σ W → n0 ≤ W.heap.size ∧ ∀ k, ρ k → n0 ≤ k ∧ k < W.heap.size)
    (hY : ∀ m ρ σ W name width beg ua (un uc d : Nat), St ρ σ W → fits64 width → fits64 beg → 1 ≤ d → d ≤ 7 → d ≤ σ.ways.length →
      YieldAt Fence.wide m Try.prog L #[.agg #[.string name, .int .i64 width, .int .i64 beg, .slice ua un uc, .int .i64 d]] W (DP St ρ W (d + 1) (oneS σ name width beg d)))
    (k : Nat) : ∀ (d : Nat) (l : List RegT) (v : Value) (ρ : Nat → Prop) (σ : Wk) (W : World) (n : Nat), d + k = 8 → 1 ≤ d → RegsIn W n0 v l → St ρ σ W → d ≤ σ.ways.length →
      CallsIn Fence.wide n Try.prog 16 #[v, .int .i64 d, .func (.yield L) #[] #[]] W (DP St ρ W d (downS k d l σ)) := by
  induction k with
  | zero =>
    intro d l v ρ σ W n hd h1 hr hst hdw
    obtain rfl : d = 8 := by omega
    have e : downS 0 8 l σ = .ok σ := rfl
    rw [e]
    refine callsIn_of_wp Try.func16 rfl trivial ?_
    simp only [Try.ntmps16, List.size_toArray, List.length_cons, List.length_nil, Nat.reduceAdd, Nat.reduceSub, Array.replicate_succ, Array.replicate_zero, List.push_toArray, List.append_toArray, List.nil_append, List.cons_append]
    have fin : DP St ρ W 8 (.ok σ) (.returned (.bool true)) W := ⟨Keep.refl _ _, rfl, ρ, hst, fun k h => Or.inl h, hdw⟩
    have FIN := Lib.hid fin
    clear fin hY hext hlt hr hst hdw e
    gi_wp2
    go_ret
    exact FIN.out
  | succ k ih =>
    intro d l v ρ σ W n hd h1 hr hst hdw
    cases hr with
    | mk vs hl hrow hb hw hs =>
    obtain ⟨ad, cap, rfl, hcap, hmx⟩ := hrow.shape
    unfold maxLen at hmx
    have hd7 : (d : Int) ≤ 7 := by omega
    have hd0 : (1 : Int) ≤ d := by omega
    have hdd : ∀ k : Nat, (Fence.wide.depth.isSome = true → 1 ≤ k) := fun k h => by cases h
    obtain ⟨g, hg⟩ : ∃ g, g = fun σ r => match oneS σ (RegT.name r) r.width r.beg d with
      | .ok σ' => downS k (d + 1) r.subs σ'
      | .error x => .error x := ⟨_, rfl⟩
    have hdn : downS (k + 1) d l σ = stepsS g l σ := by rw [hg]; rfl
    have start : Hid (St ρ σ W ∧ Keep ρ W W ∧ (∀ k, ρ k → ρ k ∨ W.heap.size ≤ k) ∧ d ≤ σ.ways.length ∧ stepsS g (l.drop 0) σ = stepsS g l σ) := Lib.hid ⟨hst, Keep.refl _ _, fun _ h => Or.inl h, hdw, rfl⟩
    have GH := Lib.hid hg
    have HD := Lib.hid hdn
    have HROW := Lib.hid hrow
    have HB := Lib.hid hb
    have HW := Lib.hid hw
    have HS := Lib.hid hs
    have HL := Lib.hid hl
    have HY := Lib.hid hY
    have HE := Lib.hid hext
    have HT := Lib.hid hlt
    have IH := Lib.hid ih
    have hn0 := (hlt _ _ _ hst)
    have HN0 := Lib.hid hn0
    have HDD := Lib.hid hdd
    have hF : Fence.wide.fn 16 := trivial
    clear hg hdn hrow hb hw hs hl hY hext hlt ih hst hdw hn0 hdd
    refine callsIn_of_wp Try.func16 rfl trivial ?_
    simp only [Try.ntmps16, List.size_toArray, List.length_cons, List.length_nil, Nat.reduceAdd, Nat.reduceSub, Array.replicate_succ, Array.replicate_zero, List.push_toArray, List.append_toArray, List.nil_append, List.cons_append]
    gi_wp2_with fail
    gi_loopw [13] (fun i wr => ∃ (j : Nat) (ρj : Nat → Prop) (σj : Wk), j ≤ l.length ∧ i = .int .i64 j ∧ Hid (St ρj σj wr ∧ Keep ρ W wr ∧ (∀ k, ρj k → ρ k ∨ W.heap.size ≤ k) ∧ d ≤ σj.ways.length ∧ stepsS g (l.drop j) σj = stepsS g l σ)) (fun i _ => l.length - (intOf i).toNat)
    case atStart => exact ⟨0, ρ, σ, by omega, rfl, start⟩
    case round =>
      clear start
      obtain ⟨j, ρj, σj, hj, rfl, hin⟩ := hrel
      by_cases hlt : j < l.length
      · obtain ⟨r, hr⟩ : ∃ r, l[j]? = some r := ⟨l[j], List.getElem?_eq_getElem hlt⟩
        obtain ⟨u, hu⟩ : ∃ u, vs[j]? = some u := ⟨vs[j]'(by rw [HL.out]; exact hlt), List.getElem?_eq_getElem _⟩
        obtain ⟨ua, uc, rfl⟩ : ∃ ua uc, u = .slice ua r.subs.length uc := by
          cases HS.out j r u hr hu with
          | mk _ _ hrow' _ _ _ => obtain ⟨a, c, e, _, _⟩ := hrow'.shape; exact ⟨a, c, e⟩
        obtain ⟨s1, s2, s3, s4, s5⟩ := hin.out
        have hkn : ∀ q, q < n0 → wr.heap[q]? = W.heap[q]? := fun q hq => s2.block q (Nat.lt_of_lt_of_le hq HN0.out.1) (fun h => by have := (HN0.out.2 q h).1; omega)
        have hroww := HROW.out.same (w' := wr) (fun q e => hkn q (HB.out q e))
        obtain ⟨b, off, cap', e, _, _, _, hc⟩ := hroww.at (fun e => by have := HROW.out.1; rw [e] at this; simp at this; omega)
        cases e
        obtain ⟨e0, e1, e2, e3⟩ := regCells_at hr hu
        have c0 := hc _ _ e0
        have c1 := hc _ _ e1
        have c2 := hc _ _ e2
        have c3 := hc _ _ e3
        rw [← Nat.add_assoc] at c1 c2 c3
        have st1 := HE.out _ _ _ _ s1 (Ext.alloc wr (.cells #[.string r.name, .int .i64 r.width, .int .i64 r.beg, .slice ua r.subs.length uc] 26))
        obtain ⟨hwid, hbeg⟩ := HW.out r (List.mem_of_getElem? hr)
        have hyr := HY.out (n - 1) ρj σj _ r.name r.width r.beg ua r.subs.length uc d st1 hwid hbeg h1 (by omega) s4
        have hsub : RegsIn wr n0 (.slice ua r.subs.length uc) r.subs := (HS.out j r _ hr hu).same hkn
        have hsz := (HT.out _ _ _ s1).1
        have hnob : ¬ ρj wr.heap.size := fun h => by have := ((HT.out _ _ _ s1).2 _ h).2; omega
        have hdrop : l.drop j = r :: l.drop (j + 1) := by
          obtain ⟨hjl, e⟩ := List.getElem?_eq_some_iff.1 hr
          rw [List.drop_eq_getElem_cons hjl, e]
        have hgo : stepsS g (l.drop j) σj = match oneS σj r.name r.width r.beg d with
            | .ok σ1 => (match downS k (d + 1) r.subs σ1 with | .ok σ2 => stepsS g (l.drop (j + 1)) σ2 | .error x => .error x)
            | .error x => .error x := by
          rw [hdrop]; simp only [stepsS]; rw [GH.out]; simp only []
          cases oneS σj r.name r.width r.beg d with
          | error x => rfl
          | ok σ1 => simp only []
        have bw1 : (wr.alloc (.cells #[.string r.name, .int .i64 r.width, .int .i64 r.beg, .slice ua r.subs.length uc] 26)).cell? ⟨wr.heap.size, 3, none⟩ = some (.slice ua r.subs.length uc) := cell_new wr _ _ 3
        have SUB := Lib.hid hsub
        have DROP := Lib.hid hgo
        have KN := Lib.hid hkn
        have ST1 := Lib.hid st1
        clear hdrop hgo hsub hkn st1 hr hu hc hroww e0 e1 e2 e3 s1 s2 s3 s4 s5
        cases hone : oneS σj r.name r.width r.beg d with
        | error x =>
          rw [hone] at hyr
          obtain ⟨fn, tm, asg, bdy, hy, hR⟩ := hyr
          have hR := Lib.hid hR
          have ONE := Lib.hid hone
          clear hone
          gi_wp2_with ((try refine ⟨trivial, ?_⟩); (try refine ⟨HDD.out _, ?_⟩); refine hR.out.mono ?_; rintro e W2 h2; obtain ⟨hk2, he⟩ := DP.err h2; unfold stopped at he; subst he)
          refine ⟨rfl, ?_⟩
          have hD := DROP.out
          rw [ONE.out] at hD
          obtain ⟨s1, s2, s3, s4, s5⟩ := hin.out
          rw [HD.out, ← s5, hD]
          exact ⟨s2.trans ((Keep.of_ext (Ext.alloc wr _)).trans hk2 (fun _ _ h => h)) (fun q hq h => (s3 q h).resolve_right (by omega)), rfl⟩
        | ok σ1 =>
          rw [hone] at hyr
          obtain ⟨fn, tm, asg, bdy, hy, hR⟩ := hyr
          have hR := Lib.hid hR
          have ONE := Lib.hid hone
          clear hone
          have ih' : Hid (∀ (ρ' : Nat → Prop) (W2 : World) (n : Nat), RegsIn W2 n0 (.slice ua r.subs.length uc) r.subs → St ρ' σ1 W2 → d + 1 ≤ σ1.ways.length → CallsIn Fence.wide n Try.prog 16 #[.slice ua r.subs.length uc, .int .i64 ((d : Int) + 1), .func (.yield L) #[] #[]] W2 (DP St ρ' W2 (d + 1) (downS k (d + 1) r.subs σ1))) :=
            Lib.hid (fun ρ' W2 n a b c => IH.out (d + 1) r.subs _ ρ' σ1 W2 n (by omega) (by omega) a b c)
          clear IH HY
          cases hdn : downS k (d + 1) r.subs σ1 with
          | error x =>
            rw [hdn] at ih'
            have DN := Lib.hid hdn
            clear hdn
            gi_wp2_with (first
              | ((try refine ⟨trivial, ?_⟩); (try refine ⟨HDD.out _, ?_⟩); gi_at_call 16; refine (ih'.out ρ1 W2 _ REG2.out ST2.out hw2).mono ?_; clear ih'; rintro e W3 h3; obtain ⟨hk3, he⟩ := DP.err h3; unfold stopped at he; subst he)
              | ((try refine ⟨trivial, ?_⟩); (try refine ⟨HDD.out _, ?_⟩); refine hR.out.mono ?_; clear hR; rintro e W2 h2; obtain ⟨hk2, rfl, ρ1, st2, hρ1, hw2⟩ := DP.ok h2; have bx2 := hk2.cell bw1 hnob; have REG2 := Lib.hid (SUB.out.same (W' := W2) (fun q hq => by rw [hk2.block q (by simp; omega) (fun h => by have := ((HT.out _ _ _ ST1.out).2 q h).1; omega)]; exact Below.block (Ext.alloc wr _) q (by omega))); have ST2 := Lib.hid st2; have HR1 := Lib.hid hρ1; clear st2 hρ1))
            refine ⟨rfl, ?_⟩
            have hD := DROP.out
            rw [ONE.out] at hD
            simp only [DN.out] at hD
            obtain ⟨s1, s2, s3, s4, s5⟩ := hin.out
            rw [HD.out, ← s5, hD]
            have kA := (Keep.of_ext (S := ρj) (Ext.alloc wr _)).trans hk2 (fun _ _ h => h)
            have kB := kA.trans hk3 (fun q hq h => (HR1.out q h).resolve_right (by simp; omega))
            exact ⟨s2.trans kB (fun q hq h => (s3 q h).resolve_right (by omega)), rfl⟩
          | ok σ2 =>
            rw [hdn] at ih'
            have DN := Lib.hid hdn
            clear hdn
            gi_wp2_with (first
              | ((try refine ⟨trivial, ?_⟩); (try refine ⟨HDD.out _, ?_⟩); gi_at_call 16; refine (ih'.out ρ1 W2 _ REG2.out ST2.out hw2).mono ?_; clear ih'; rintro e W3 h3; obtain ⟨hk3, rfl, ρ2, st3, hρ2, hw3⟩ := DP.ok h3; have ST3 := Lib.hid st3; have HR2 := Lib.hid hρ2; clear st3 hρ2)
              | ((try refine ⟨trivial, ?_⟩); (try refine ⟨HDD.out _, ?_⟩); refine hR.out.mono ?_; clear hR; rintro e W2 h2; obtain ⟨hk2, rfl, ρ1, st2, hρ1, hw2⟩ := DP.ok h2; have bx2 := hk2.cell bw1 hnob; have REG2 := Lib.hid (SUB.out.same (W' := W2) (fun q hq => by rw [hk2.block q (by simp; omega) (fun h => by have := ((HT.out _ _ _ ST1.out).2 q h).1; omega)]; exact Below.block (Ext.alloc wr _) q (by omega))); have ST2 := Lib.hid st2; have HR1 := Lib.hid hρ1; clear st2 hρ1))
            go_roundw
            case rel =>
              have hD := DROP.out
              rw [ONE.out] at hD
              simp only [DN.out] at hD
              obtain ⟨s1, s2, s3, s4, s5⟩ := hin.out
              have kA := (Keep.of_ext (S := ρj) (Ext.alloc wr _)).trans hk2 (fun _ _ h => h)
              have kB := kA.trans hk3 (fun q hq h => (HR1.out q h).resolve_right (by simp; omega))
              refine ⟨j + 1, ρ2, σ2, by omega, by go_num, Lib.hid ⟨ST3.out, s2.trans kB (fun q hq h => (s3 q h).resolve_right (by omega)), fun q h => ?_, by omega, by rw [← s5, hD]⟩⟩
              rcases HR2.out q h with h | h
              · rcases HR1.out q h with h | h
                · exact s3 q h
                · right; have := s2.size; simp at h; omega
              · right; have := kA.size; have := s2.size; omega
            case measure => simp [intOf]; omega
      · gi_wp2_with fail
        go_ret
        obtain ⟨h1', h2', h3', h4', h5'⟩ := hin.out
        rw [HD.out, ← h5', List.drop_eq_nil_of_le (by omega)]
        exact ⟨h2', rfl, ρj, h1', h3', h4'⟩
end Go.Proofs.Ytocloacbbbhkcaa
