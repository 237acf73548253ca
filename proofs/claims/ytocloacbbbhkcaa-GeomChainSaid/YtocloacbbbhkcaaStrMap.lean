/- Laws for a map with string keys in the newest block: its look-up and its update, as equations on the run. -/
import Derived.WalkKit
import Derived.Maps.Own
namespace Go.Proofs.Ytocloacbbbhkcaa
open Go.RowKit

/-- The entry's value under a string, in the entries' order. -/
def entryAt (k : List UInt8) : List MapEntry → Option Value
  | [] => none
  | e :: es => match e.key with
    | .string s => if s.data.toList == k then some e.val else entryAt k es
    | _ => none

/-- Every key is a string. -/
def strKeys : List MapEntry → Bool
  | [] => true
  | e :: es => (match e.key with | .string _ => true | _ => false) && strKeys es

@[simp] theorem strKeys_nil : strKeys [] = true := by unfold strKeys; simp
@[simp] theorem strKeys_cons (s : ByteArray) (v : Value) (b : Nat) (es : List MapEntry) : strKeys ({ key := .string s, val := v, born := b } :: es) = strKeys es := by rw [strKeys]; simp
@[simp] theorem entryAt_nil (k : List UInt8) : entryAt k [] = none := by unfold entryAt; simp
@[simp] theorem entryAt_cons (k : List UInt8) (s : ByteArray) (v : Value) (b : Nat) (es : List MapEntry) : entryAt k ({ key := .string s, val := v, born := b } :: es) = if s.data.toList == k then some v else entryAt k es := by rw [entryAt]

theorem bytes_beq (a b : ByteArray) : (a == b) = (b.data.toList == a.data.toList) := by
  rw [Bool.eq_iff_iff]
  cases a with | mk a => cases b with | mk b =>
  have e : ((ByteArray.mk a == ByteArray.mk b) = true) ↔ a = b := by
    show (a == b) = true ↔ a = b
    simp
  rw [e]
  simp only [beq_iff_eq, ← Array.toList_inj]
  exact eq_comm

theorem run_check_str {P : Program} {K : TypeId} (hK : P.underlying K = some .string) (em : Bool) (k : ByteArray) (w : World) : (Instr.checkKey em 10000 K (.string k)).run P w = .ok () w := by
  rw [show (10000 : Nat) = 9999 + 1 from rfl, Instr.checkKey]
  simp [run_underlying hK]

theorem findNow_str (k : ByteArray) (es : List MapEntry) (h : strKeys es = true) : ∀ i, (entryAt k.data.toList es = none → Instr.findNow .string (.string k) es i = some none) ∧
    (∀ v, entryAt k.data.toList es = some v → ∃ j, Instr.findNow .string (.string k) es i = some (some (j, v))) := by
  induction es with
  | nil => intro i; simp [entryAt, Instr.findNow]
  | cons e es ih =>
    intro i
    obtain ⟨key, val, born⟩ := e
    simp only [strKeys, Bool.and_eq_true] at h
    obtain ⟨h1, h2⟩ := h
    cases key <;> simp at h1
    rename_i s
    have ih' := ih h2 (i + 1)
    by_cases hb : (s.data.toList == k.data.toList) = true
    · simp only [entryAt, hb, if_true, Instr.findNow, Instr.sameNow, bytes_beq k s]
      exact ⟨fun x => by simp at x, fun v x => ⟨i, by simp at x; rw [x]⟩⟩
    · have hb' : (s.data.toList == k.data.toList) = false := by simpa using hb
      simp only [entryAt, hb', Instr.findNow, Instr.sameNow, bytes_beq k s]
      exact ih'

theorem set_last (W : World) (o o' : Obj) : ({ heap := (W.alloc o).heap.setIfInBounds W.heap.size o', tape := W.tape, drawn := W.drawn, os := (W.alloc o).os, output := (W.alloc o).output } : World) = W.alloc o' := by
  show (World.mk ((W.heap.push o).setIfInBounds W.heap.size o') _ _ _ _) = World.mk (W.heap.push o') _ _ _ _
  congr 1
  apply Array.ext'
  simp [← Array.length_toList]

section
variable {P : Program} (T K E : TypeId) (hT : P.underlying T = some (.map K E)) (hK : P.underlying K = some .string)
include hT hK

theorem run_update_last (W : World) (es : List MapEntry) (c r : Nat) (k : ByteArray) (v : Value) (hr : r = W.heap.size) (hs : strKeys es = true)
    (hn : entryAt k.data.toList es = none) :
    (Instr.mapUpdate T (.map (some r)) (.string k) v).run P (W.alloc (.map es.toArray c)) = .ok () (W.alloc (.map (es ++ [({ key := .string k, val := v, born := c } : MapEntry)]).toArray (c + 1))) := by
  subst hr
  have hf := (findNow_str k es hs 0).1 hn
  have hg : (W.alloc (.map es.toArray c)).heap[W.heap.size]? = some (.map es.toArray c) := heap_alloc_new W _
  simp [Instr.mapUpdate, run_underlying hT, run_underlying hK, MapKept.run_getObj_map hg, MapKept.run_setObj_map _ hg, run_check_str hK, Instr.findKey, hf, Result.andThen]
  exact set_last W _ _

theorem run_lookup_last (W : World) (es : List MapEntry) (c r : Nat) (k : ByteArray) (v : Value) (hr : r = W.heap.size) (hs : strKeys es = true)
    (hv : entryAt k.data.toList es = some v) :
    (Instr.lookup T (.map (some r)) (.string k) false).run P (W.alloc (.map es.toArray c)) = .ok v (W.alloc (.map es.toArray c)) := by
  subst hr
  obtain ⟨j, hf⟩ := (findNow_str k es hs 0).2 v hv
  have hg : (W.alloc (.map es.toArray c)).heap[W.heap.size]? = some (.map es.toArray c) := heap_alloc_new W _
  simp [Instr.lookup, run_underlying hT, run_underlying hK, MapKept.run_getObj_map hg, run_check_str hK, Instr.findKey, hf, Result.andThen]
end
end Go.Proofs.Ytocloacbbbhkcaa
