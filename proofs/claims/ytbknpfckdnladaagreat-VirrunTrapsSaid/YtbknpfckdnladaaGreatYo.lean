/- Cells that came in, as they lie in memory. No condition. -/
import Derived.Test.YtbknpfckdnladaaGreatBq
import Derived.Test.YtbknpfckdnladaaGreatYp
import Derived.ChangeArms
import Derived.ChangeSame
import Derived.DataReads
import Derived.WideShapes
set_option linter.unusedVariables false
set_option maxHeartbeats 1000000
namespace Go.Proofs.YtbknpfckdnladaaGreat
open Go.RowKit Go.ChangeShapes Go.WideShapes
theorem alive11 : law (X0 Tryz.prog) 100000 18 [] = 0 := by kernel_rfl
def CellsIn (w : World) (v : Value) : Prop := v = .slice none 0 0 ∨ ∃ (a : Addr) (len cap : Nat) (ad vl : Nat → Int), v = .slice (some a) len cap ∧ a.spot = none ∧ len ≤ cap ∧ ∀ i, i < len → w.cell? (a.add (i * 2)) = some (.int .i64 (ad i)) ∧ w.cell? ((a.add (i * 2)).add 1) = some (.int .i64 (vl i))
theorem rv_cells {w : World} {b o len cap : Nat} {ad vl : Nat → Int} (hl : len ≤ cap) (hc : ∀ i, i < len → w.cell? ((⟨b, o, none⟩ : Addr).add (i * 2)) = some (.int .i64 (ad i)) ∧ w.cell? (((⟨b, o, none⟩ : Addr).add (i * 2)).add 1) = some (.int .i64 (vl i))) : RV (Gw w) (.slice (some ⟨b, o, none⟩) len cap) (.lst false false len (gcl ad vl)) := by
  refine RV.lst (sz := 2) (fun i j => if j = 0 then .int .i64 (ad i) else .int .i64 (vl i)) hl (fun h => by cases h) (fun i _ => rfl) (fun i j a hi h => ?_) (fun i j a hi h => ?_)
  · obtain ⟨h0, h1⟩ := hc i hi
    rw [add_none] at h0 h1
    rw [add_none] at h1
    match j, h with
    | 0, h => exact h0
    | 1, h => exact h1
    | j + 2, h => simp [gcl] at h
  · match j, h with
    | 0, h =>
      have : a = .int .i64 (ad i) := by simpa [gcl] using h.symm
      subst this
      exact .int _ _
    | 1, h =>
      have : a = .int .i64 (vl i) := by simpa [gcl] using h.symm
      subst this
      exact .int _ _
    | j + 2, h => simp [gcl] at h
section
variable {H : Type} {enc : TypeId × Value → H} {w : World} {base : Nat} {held : Bool}
theorem cells_int : Tryz.prog.cellsOf 3 = 1 := by kernel_rfl
theorem cells_cell : Tryz.prog.cellsOf 70 = 2 := by kernel_rfl
theorem open_int1 {n : Nat} {v : Value} {y : DataW H × List MemPlace} (h : DataW.trod enc Tryz.prog w base (fun _ => true) held n 3 [v] = some y) : ∃ k : Int, v = .int .i64 k := by
  obtain ⟨k, h1, _, h2⟩ := DataW.trod_int Tryz.underlying3 h
  exact ⟨k, by simpa using h1⟩
theorem open_cells {n : Nat} {v : Value} {y : DataW H × List MemPlace} (hsp : ∀ x l c, v = .slice (some x) l c → x.spot = none) (h : DataW.trod enc Tryz.prog w base (fun _ => true) held n 48 [v] = some y) : CellsIn w v := by
  rcases DataW.trod_slice Tryz.underlying48 h with ⟨hcs, _⟩ | ⟨a, len, cap, elems, rest, n, hf, hcs, _, hb, hl, hm, hlen, hel, _, _⟩
  · exact .inl (by simpa using hcs)
  · have hv : v = .slice (some a) len cap := by simpa using hcs
    have each : ∀ i, ∃ p : Int × Int, i < len → w.cell? (a.add (i * 2)) = some (.int .i64 p.1) ∧ w.cell? ((a.add (i * 2)).add 1) = some (.int .i64 p.2) := fun i => by
      by_cases hi : i < len
      · have k := hel i hi
        rw [List.getElem?_eq_getElem (by omega), cells_cell] at k
        obtain ⟨r, h1, h2⟩ := Option.bind_eq_some_iff.1 k
        obtain ⟨_, h3, h4⟩ := World.cells?_some h1
        match r, h3 with
        | [u0, u1], _ =>
          obtain ⟨y0, y1, q, _, _, g0, g1⟩ := trod_struct2 Tryz.underlying70 h2
          rw [cells_int] at g0 g1
          obtain ⟨k0, e0⟩ := open_int1 g0
          obtain ⟨k1, e1⟩ := open_int1 g1
          subst e0
          subst e1
          refine ⟨(k0, k1), fun _ => ⟨?_, ?_⟩⟩
          · have := h4 0 (by omega)
            rw [show (a.add (i * 2)).add 0 = a.add (i * 2) by unfold Addr.add; simp] at this
            exact this
          · exact h4 1 (by omega)
      · exact ⟨(0, 0), fun h => absurd h hi⟩
    obtain ⟨f, hf⟩ := Classical.skolem.1 each
    exact .inr ⟨a, len, cap, fun i => (f i).1, fun i => (f i).2, hv, hsp _ _ _ hv, hl, fun i hi => hf i hi⟩
end
end Go.Proofs.YtbknpfckdnladaaGreat
