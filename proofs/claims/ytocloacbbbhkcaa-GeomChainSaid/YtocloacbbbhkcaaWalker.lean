/- The walker over registers: what one step makes of its state, plainly; and how that state lies in memory. -/
import Derived.Test.YtocloacbbbhkcaaGeom
import Derived.Test.YtocloacbbbhkcaaStrMap
import Derived.WalkSmall
namespace Go.Proofs.Ytocloacbbbhkcaa
open Go.RowKit

theorem ba_beq (a b : ByteArray) : (a == b) = true ↔ a = b := by
  cases a with | mk a => cases b with | mk b =>
  show (a == b) = true ↔ _
  simp
/-- Is a text in a list? -/
def memB (k : ByteArray) (l : List ByteArray) : Bool := l.any (fun x => x == k)
theorem memB_iff (k : ByteArray) (l : List ByteArray) : memB k l = true ↔ k ∈ l := by
  unfold memB
  rw [List.any_eq_true]
  constructor
  · rintro ⟨x, hx, e⟩; rw [ba_beq] at e; exact e ▸ hx
  · intro h; exact ⟨k, h, (ba_beq k k).2 rfl⟩
/-- What the walker holds. -/
structure Wk where
  names : List ByteArray
  places : List Pl
  ways : List (Pl × List Pl)
  roots : Int

/-- A register's place, and how many outer ones there are behind it. -/
def placeS (σ : Wk) (d : Nat) (width beg : Int) : Except Int (Pl × Int) :=
  if d = 1 then (if beg = 0 then .ok (⟨σ.roots, beg, width⟩, σ.roots + 1) else .error 6)
  else match σ.ways[d - 1]? with
    | some q => if beg ≤ q.1.width - width then .ok (⟨q.1.root, q.1.beg + beg, width⟩, σ.roots) else .error 6
    | none => .error 6
/-- The registers within the one around. -/
def within (σ : Wk) (d : Nat) : List Pl := match σ.ways[d - 1]? with | some q => q.2 | none => []
/-- The state behind a register that is taken. -/
def tookS (σ : Wk) (name : ByteArray) (d : Nat) (p : Pl) (roots : Int) : Wk :=
  { names := σ.names ++ [name], places := σ.places ++ [p], roots,
    ways := match σ.ways[d - 1]? with | some q => σ.ways.take (d - 1) ++ [(q.1, q.2 ++ [p]), (p, [])] | none => [] }
/-- A register is taken, or the error. -/
def oneS (σ : Wk) (name : ByteArray) (width beg : Int) (d : Nat) : Except Int Wk :=
  if 6 < d then .error 4
  else if 200 ≤ σ.names.length then .error 2
  else if (namedS name && !(memB name σ.names)) = false then .error 5
  else if ¬ (1 ≤ width ∧ width ≤ 64 ∧ 0 ≤ beg) then .error 6
  else match placeS σ d width beg with
    | .error e => .error e
    | .ok (p, roots) => if (within σ d).any (lapS p) then .error 7 else .ok (tookS σ name d p roots)

/-- The map's entries. -/
def ents (l : List ByteArray) : List MapEntry := l.zipIdx.map fun x => { key := .string x.1, val := .int .i64 x.2, born := x.2 }
theorem ents_snoc (l : List ByteArray) (s : ByteArray) : ents (l ++ [s]) = ents l ++ [{ key := .string s, val := .int .i64 l.length, born := l.length }] := by
  simp [ents, List.zipIdx_append]
theorem strKeys_append (a b : List MapEntry) : strKeys (a ++ b) = (strKeys a && strKeys b) := by
  induction a with
  | nil => simp
  | cons x a ih => simp only [List.cons_append, strKeys, ih, Bool.and_assoc]
theorem strKeys_map (l : List (ByteArray × Nat)) : strKeys (l.map fun x => ({ key := .string x.1, val := .int .i64 x.2, born := x.2 } : MapEntry)) = true := by
  induction l with
  | nil => simp
  | cons x l ih => simpa using ih
theorem ents_str (l : List ByteArray) : strKeys (ents l) = true := strKeys_map _
theorem entryAt_map (k : ByteArray) (l : List (ByteArray × Nat)) (h : ∀ x ∈ l, x.1 ≠ k) : entryAt k.data.toList (l.map fun x => ({ key := .string x.1, val := .int .i64 x.2, born := x.2 } : MapEntry)) = none := by
  induction l with
  | nil => simp
  | cons x l ih =>
    have hx : (x.1.data.toList == k.data.toList) = false := by
      have := h x (by simp)
      simp only [beq_eq_false_iff_ne, ne_eq]
      intro e
      exact this ((bytes_eq' e))
    simp only [List.map_cons, entryAt_cons, hx, Bool.false_eq_true, if_false]
    exact ih (fun y hy => h y (by simp [hy]))
where
  bytes_eq' {a b : ByteArray} (h : a.data.toList = b.data.toList) : a = b := by
    cases a with | mk a => cases b with | mk b => simp at h; simp [h]
theorem ents_none (l : List ByteArray) (k : ByteArray) (h : k ∉ l) : entryAt k.data.toList (ents l) = none := by
  refine entryAt_map k _ fun x hx e => ?_
  have : x.1 ∈ l := by
    have := List.mem_zipIdx hx
    simp only [Nat.zero_add, Nat.sub_zero] at this
    rw [this.2.2]; exact List.getElem_mem _
  rw [e] at this
  exact h this
theorem entryAt_mem (k : ByteArray) (l : List (ByteArray × Nat)) (h : ∃ x ∈ l, x.1 = k) : ∃ n : Nat, entryAt k.data.toList (l.map fun x => ({ key := .string x.1, val := .int .i64 x.2, born := x.2 } : MapEntry)) = some (.int .i64 n) := by
  induction l with
  | nil => obtain ⟨x, hx, _⟩ := h; simp at hx
  | cons x l ih =>
    simp only [List.map_cons, entryAt_cons]
    by_cases e : (x.1.data.toList == k.data.toList) = true
    · exact ⟨x.2, by simp [e]⟩
    · have e' : (x.1.data.toList == k.data.toList) = false := by simpa using e
      rw [e']
      simp only [Bool.false_eq_true, if_false]
      obtain ⟨y, hy, rfl⟩ := h
      rcases List.mem_cons.1 hy with rfl | hy
      · simp at e
      · exact ih ⟨y, hy, rfl⟩
theorem ents_some (l : List ByteArray) (k : ByteArray) (hm : k ∈ l) : ∃ n : Nat, entryAt k.data.toList (ents l) = some (.int .i64 n) := by
  refine entryAt_mem k _ ?_
  obtain ⟨i, hi⟩ := List.getElem?_of_mem hm
  exact ⟨(k, i), by rw [List.mem_zipIdx_iff_getElem?]; exact hi, rfl⟩

section
variable {P : Program} (T K E : TypeId) (hT : P.underlying T = some (.map K E)) (hK : P.underlying K = some .string)
include hT hK
theorem run_lookup_ok (W : World) (es : List MapEntry) (c r : Nat) (k : ByteArray) (v : Value) (hr : W.heap[r]? = some (.map es.toArray c)) (hs : strKeys es = true)
    (hv : entryAt k.data.toList es = some v) :
    (Instr.lookup T (.map (some r)) (.string k) true).run P W = .ok (.tuple #[v, .bool true]) W := by
  obtain ⟨j, hf⟩ := (findNow_str k es hs 0).2 v hv
  simp [Instr.lookup, run_underlying hT, run_underlying hK, MapKept.run_getObj_map hr, run_check_str hK, Instr.findKey, hf, Result.andThen]
theorem run_lookup_no (W : World) (es : List MapEntry) (c r : Nat) (k : ByteArray) (z : Value) (hr : W.heap[r]? = some (.map es.toArray c)) (hs : strKeys es = true)
    (hv : entryAt k.data.toList es = none) (hz : ∀ w : World, (zeroValue E).run P w = .ok z w) :
    (Instr.lookup T (.map (some r)) (.string k) true).run P W = .ok (.tuple #[z, .bool false]) W := by
  have hf := (findNow_str k es hs 0).1 hv
  simp [Instr.lookup, run_underlying hT, run_underlying hK, MapKept.run_getObj_map hr, run_check_str hK, Instr.findKey, hf, hz, Result.andThen]
theorem run_update_new (W : World) (es : List MapEntry) (c r : Nat) (k : ByteArray) (v : Value) (hr : W.heap[r]? = some (.map es.toArray c)) (hs : strKeys es = true)
    (hn : entryAt k.data.toList es = none) :
    (Instr.mapUpdate T (.map (some r)) (.string k) v).run P W = .ok () { W with heap := W.heap.setIfInBounds r (.map (es ++ [({ key := .string k, val := v, born := c } : MapEntry)]).toArray (c + 1)) } := by
  have hf := (findNow_str k es hs 0).1 hn
  simp [Instr.mapUpdate, run_underlying hT, run_underlying hK, MapKept.run_getObj_map hr, MapKept.run_setObj_map _ hr, run_check_str hK, Instr.findKey, hf, Result.andThen]
end

/-- All but some blocks is as it was. -/
structure Keep (S : Nat → Prop) (w w' : World) : Prop where
  os : w'.os = w.os
  tape : w'.tape = w.tape
  output : w'.output = w.output
  size : w.heap.size ≤ w'.heap.size
  block : ∀ k, k < w.heap.size → ¬ S k → w'.heap[k]? = w.heap[k]?
theorem Keep.of_ext {S : Nat → Prop} {w w' : World} (h : Ext w w') : Keep S w w' := ⟨Below.os h, Below.tape h, Below.output h, Below.size h, fun k hk _ => Below.block h k hk⟩
theorem Keep.refl (S : Nat → Prop) (w : World) : Keep S w w := Keep.of_ext (Ext.refl w)
theorem Keep.trans {S S' : Nat → Prop} {a b c : World} (h : Keep S a b) (k : Keep S' b c) (hs : ∀ i, i < a.heap.size → S' i → S i) : Keep S a c :=
  ⟨k.os.trans h.os, k.tape.trans h.tape, k.output.trans h.output, Nat.le_trans h.size k.size,
   fun i hi hn => (k.block i (Nat.lt_of_lt_of_le hi h.size) (fun x => hn (hs i hi x))).trans (h.block i hi hn)⟩
theorem Keep.setCell (S : Nat → Prop) (w : World) (a : Addr) (v : Value) (h : S a.block) : Keep S w (w.setCell a v) :=
  ⟨rfl, rfl, rfl, by simp [World.setCell], fun k _ hn => Below.heap_setCell _ _ _ _ (fun e => hn (e ▸ h))⟩
theorem Keep.grown {S : Nat → Prop} {w w' : World} {row : Option Nat} (h : w.grownBy w' row) (hr : ∀ k, row = some k → S k) : Keep S w w' :=
  ⟨h.os, h.tape, h.output, h.size, fun k hk hn => h.block k hk (fun e => hn (hr k e.symm))⟩
theorem Keep.putObj (S : Nat → Prop) (w : World) (r : Nat) (o : Obj) (h : S r) : Keep S w { w with heap := w.heap.setIfInBounds r o } :=
  ⟨rfl, rfl, rfl, by simp, fun k _ hn => by
    have hne : r ≠ k := fun e => hn (e ▸ h)
    simp only [Array.getElem?_setIfInBounds]; rw [if_neg hne]⟩

theorem owns_same {w w' : World} {base size : Nat} {e : TypeId} {v : Value} {n : Nat} {xs : List Value} (h : w.ownsRow base e size v n xs) (hk : ∀ k, v.ownBlock = some k → w'.heap[k]? = w.heap[k]?) : w'.ownsRow base e size v n xs := by
  refine ⟨h.1, ?_⟩
  rcases h.2 with h2 | ⟨g, cap, cur, rfl, hb, hg, r⟩
  · exact Or.inl h2
  · exact Or.inr ⟨g, cap, cur, rfl, hb, by rw [hk g rfl]; exact hg, r⟩
theorem owns_take {w : World} {base size : Nat} {e : TypeId} {a : Option Addr} {n cap : Nat} {xs : List Value} (h : w.ownsRow base e size (.slice a n cap) n xs) (m : Nat) (hm : m ≤ n) (h0 : 0 < n) : w.ownsRow base e size (.slice a m cap) m (xs.take (m * size)) := by
  obtain ⟨hl, h⟩ := h
  have hle : m * size ≤ n * size := Nat.mul_le_mul_right _ hm
  refine ⟨by rw [List.length_take, hl]; omega, ?_⟩
  rcases h with ⟨_, rfl⟩ | ⟨g, cap', cur, hv, hb, hg, hn, hcm, hcs, hxs⟩
  · omega
  · cases hv
    refine Or.inr ⟨g, cap, cur, rfl, hb, hg, by omega, hcm, hcs, ?_⟩
    rw [← hxs, List.take_take, Nat.min_eq_left hle]
end Go.Proofs.Ytocloacbbbhkcaa
