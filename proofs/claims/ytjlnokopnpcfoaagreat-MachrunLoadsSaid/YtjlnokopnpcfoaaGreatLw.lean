/- MachrunLoads answers true for every input. No condition. -/
import Derived.Test.YtjlnokopnpcfoaaGreatLa
import Derived.Test.YtjlnokopnpcfoaaGreatLb
import Derived.Test.YtjlnokopnpcfoaaGreatLc
import Derived.Test.YtjlnokopnpcfoaaGreatLd
import Derived.Test.YtjlnokopnpcfoaaGreatLe
import Derived.Test.YtjlnokopnpcfoaaGreatLf
import Derived.Test.YtjlnokopnpcfoaaGreatLg
import Derived.Test.YtjlnokopnpcfoaaGreatLh
import Derived.Test.YtjlnokopnpcfoaaGreatLi
import Derived.Test.YtjlnokopnpcfoaaGreatBq
import Derived.Test.YtjlnokopnpcfoaaGreatLp
import Derived.ChangeArms
import Derived.ChangeSame
import Derived.DataReads
import Derived.WideShapes
set_option linter.unusedVariables false
set_option maxHeartbeats 1000000
namespace Go.Proofs.YtjlnokopnpcfoaaGreat
open Go.RowKit Go.ChangeShapes Go.WideShapes
def CellsIn (w : World) (v : Value) : Prop := v = .slice none 0 0 ∨ ∃ (a : Addr) (len cap : Nat) (ad vl : Nat → Int), v = .slice (some a) len cap ∧ a.spot = none ∧ len ≤ cap ∧ ∀ i, i < len → w.cell? (a.add (i * 2)) = some (.int .i64 (ad i)) ∧ w.cell? ((a.add (i * 2)).add 1) = some (.int .i64 (vl i))
theorem rv_cells {w : World} {b o len cap : Nat} {ad vl : Nat → Int} (hl : len ≤ cap) (hc : ∀ i, i < len → w.cell? ((⟨b, o, none⟩ : Addr).add (i * 2)) = some (.int .i64 (ad i)) ∧ w.cell? (((⟨b, o, none⟩ : Addr).add (i * 2)).add 1) = some (.int .i64 (vl i))) : RV (Gw w) (.slice (some ⟨b, o, none⟩) len cap) (.lst false false len (gcl ad vl)) := by
  refine RV.lst (sz := 2) (fun i j => if j = 0 then .int .i64 (ad i) else .int .i64 (vl i)) hl (fun h => by cases h) (fun i _ => rfl) (fun i j a hi h => ?_) (fun i j a hi h => ?_)
  · obtain ⟨h0, h1⟩ := hc i hi
    rw [add_none] at h0 h1
    rw [add_none] at h1
    match j, h with
    | 0, h => exact h0
    | 1, h => exact h1
    | j + 2, h => simp [gcl] at h
  · match j, h with
    | 0, h =>
      have : a = .int .i64 (ad i) := by simpa [gcl] using h.symm
      subst this
      exact .int _ _
    | 1, h =>
      have : a = .int .i64 (vl i) := by simpa [gcl] using h.symm
      subst this
      exact .int _ _
    | j + 2, h => simp [gcl] at h
section
variable {H : Type} {enc : TypeId × Value → H} {w : World} {base : Nat} {held : Bool}
theorem cells_int : Tryz.prog.cellsOf 3 = 1 := by kernel_rfl
theorem cells_cell : Tryz.prog.cellsOf 82 = 2 := by kernel_rfl
theorem open_int1 {n : Nat} {v : Value} {y : DataW H × List MemPlace} (h : DataW.trod enc Tryz.prog w base (fun _ => true) held n 3 [v] = some y) : ∃ k : Int, v = .int .i64 k := by
  obtain ⟨k, h1, _, h2⟩ := DataW.trod_int Tryz.underlying3 h
  exact ⟨k, by simpa using h1⟩
theorem open_cells {n : Nat} {v : Value} {y : DataW H × List MemPlace} (hsp : ∀ x l c, v = .slice (some x) l c → x.spot = none) (h : DataW.trod enc Tryz.prog w base (fun _ => true) held n 32 [v] = some y) : CellsIn w v := by
  rcases DataW.trod_slice Tryz.underlying32 h with ⟨hcs, _⟩ | ⟨a, len, cap, elems, rest, n, hf, hcs, _, hb, hl, hm, hlen, hel, _, _⟩
  · exact .inl (by simpa using hcs)
  · have hv : v = .slice (some a) len cap := by simpa using hcs
    have each : ∀ i, ∃ p : Int × Int, i < len → w.cell? (a.add (i * 2)) = some (.int .i64 p.1) ∧ w.cell? ((a.add (i * 2)).add 1) = some (.int .i64 p.2) := fun i => by
      by_cases hi : i < len
      · have k := hel i hi
        rw [List.getElem?_eq_getElem (by omega), cells_cell] at k
        obtain ⟨r, h1, h2⟩ := Option.bind_eq_some_iff.1 k
        obtain ⟨_, h3, h4⟩ := World.cells?_some h1
        match r, h3 with
        | [u0, u1], _ =>
          obtain ⟨y0, y1, q, _, _, g0, g1⟩ := trod_struct2 Tryz.underlying82 h2
          rw [cells_int] at g0 g1
          obtain ⟨k0, e0⟩ := open_int1 g0
          obtain ⟨k1, e1⟩ := open_int1 g1
          subst e0
          subst e1
          refine ⟨(k0, k1), fun _ => ⟨?_, ?_⟩⟩
          · have := h4 0 (by omega)
            rw [show (a.add (i * 2)).add 0 = a.add (i * 2) by unfold Addr.add; simp] at this
            exact this
          · exact h4 1 (by omega)
      · exact ⟨(0, 0), fun h => absurd h hi⟩
    obtain ⟨f, hf⟩ := Classical.skolem.1 each
    exact .inr ⟨a, len, cap, fun i => (f i).1, fun i => (f i).2, hv, hsp _ _ _ hv, hl, fun i hi => hf i hi⟩
end
theorem load_lst (a v : Int) (ad vl : Nat → Int) (n : Nat) : law XL 100000 10 [.int .i64 a, .int .i64 v, .lst false false n (gcl ad vl)] = 0 := by
  match n with
  | 0 => exact (load0 a v ad vl).trans (lT_zero a v ad vl 0)
  | 1 => exact (load1 a v ad vl).trans (lT_zero a v ad vl 1)
  | 2 => exact (load2 a v ad vl).trans (lT_zero a v ad vl 2)
  | 3 => exact (load3 a v ad vl).trans (lT_zero a v ad vl 3)
  | 4 => exact (load4 a v ad vl).trans (lT_zero a v ad vl 4)
  | 5 => exact (load5 a v ad vl).trans (lT_zero a v ad vl 5)
  | 6 => exact (load6 a v ad vl).trans (lT_zero a v ad vl 6)
  | 7 => exact (load7 a v ad vl).trans (lT_zero a v ad vl 7)
  | 8 => exact (load8 a v ad vl).trans (lT_zero a v ad vl 8)
  | 9 => exact (load9 a v ad vl).trans (lT_zero a v ad vl 9)
  | 10 => exact (load10 a v ad vl).trans (lT_zero a v ad vl 10)
  | 11 => exact (load11 a v ad vl).trans (lT_zero a v ad vl 11)
  | 12 => exact (load12 a v ad vl).trans (lT_zero a v ad vl 12)
  | 13 => exact (load13 a v ad vl).trans (lT_zero a v ad vl 13)
  | 14 => exact (load14 a v ad vl).trans (lT_zero a v ad vl 14)
  | 15 => exact (load15 a v ad vl).trans (lT_zero a v ad vl 15)
  | 16 => exact (load16 a v ad vl).trans (lT_zero a v ad vl 16)
  | 17 => exact (load17 a v ad vl).trans (lT_zero a v ad vl 17)
  | 18 => exact (load18 a v ad vl).trans (lT_zero a v ad vl 18)
  | 19 => exact (load19 a v ad vl).trans (lT_zero a v ad vl 19)
  | 20 => exact (load20 a v ad vl).trans (lT_zero a v ad vl 20)
  | 21 => exact (load21 a v ad vl).trans (lT_zero a v ad vl 21)
  | 22 => exact (load22 a v ad vl).trans (lT_zero a v ad vl 22)
  | 23 => exact (load23 a v ad vl).trans (lT_zero a v ad vl 23)
  | 24 => exact (load24 a v ad vl).trans (lT_zero a v ad vl 24)
  | 25 => exact (load25 a v ad vl).trans (lT_zero a v ad vl 25)
  | 26 => exact (load26 a v ad vl).trans (lT_zero a v ad vl 26)
  | 27 => exact (load27 a v ad vl).trans (lT_zero a v ad vl 27)
  | 28 => exact (load28 a v ad vl).trans (lT_zero a v ad vl 28)
  | 29 => exact (load29 a v ad vl).trans (lT_zero a v ad vl 29)
  | 30 => exact (load30 a v ad vl).trans (lT_zero a v ad vl 30)
  | 31 => exact (load31 a v ad vl).trans (lT_zero a v ad vl 31)
  | 32 => exact (load32 a v ad vl).trans (lT_zero a v ad vl 32)
  | 33 => exact (load33 a v ad vl).trans (lT_zero a v ad vl 33)
  | 34 => exact (load34 a v ad vl).trans (lT_zero a v ad vl 34)
  | 35 => exact (load35 a v ad vl).trans (lT_zero a v ad vl 35)
  | 36 => exact (load36 a v ad vl).trans (lT_zero a v ad vl 36)
  | 37 => exact (load37 a v ad vl).trans (lT_zero a v ad vl 37)
  | 38 => exact (load38 a v ad vl).trans (lT_zero a v ad vl 38)
  | 39 => exact (load39 a v ad vl).trans (lT_zero a v ad vl 39)
  | 40 => exact (load40 a v ad vl).trans (lT_zero a v ad vl 40)
  | 41 => exact (load41 a v ad vl).trans (lT_zero a v ad vl 41)
  | 42 => exact (load42 a v ad vl).trans (lT_zero a v ad vl 42)
  | 43 => exact (load43 a v ad vl).trans (lT_zero a v ad vl 43)
  | 44 => exact (load44 a v ad vl).trans (lT_zero a v ad vl 44)
  | 45 => exact (load45 a v ad vl).trans (lT_zero a v ad vl 45)
  | 46 => exact (load46 a v ad vl).trans (lT_zero a v ad vl 46)
  | 47 => exact (load47 a v ad vl).trans (lT_zero a v ad vl 47)
  | 48 => exact (load48 a v ad vl).trans (lT_zero a v ad vl 48)
  | 49 => exact (load49 a v ad vl).trans (lT_zero a v ad vl 49)
  | 50 => exact (load50 a v ad vl).trans (lT_zero a v ad vl 50)
  | k + 51 => exact loadz a v ad vl k
theorem ctL : CtOK XL := ct1 (X := X0 Tryz.prog) pok (ct0 _) (n := 100000) alive13
open Go.RowKit in
theorem machrunLoads_any (a v : Int) (m : Value) (w : World) (hm : CellsIn w m) :
    Calls Tryz.prog 10 #[.int .i64 a, .int .i64 v, m] w fun e w' => e = .returned (.bool true) ∧ Below w.heap.size w w' := by
  rcases hm with rfl | ⟨x, len, cap, ad, vl, rfl, hs, hl, hc⟩
  · exact law_walkG (X := XL) pok ctL (((RVs.one (.int _ _)).append (RVs.one (.int _ _))).append (RVs.one (.lstn (full := true) (g := fun _ => [])))) ((loadn a v).trans (lT_zero a v (fun _ => 0) (fun _ => 0) 0))
  · obtain ⟨b, o, s⟩ := x
    have hs : s = none := hs
    subst hs
    exact law_walkG (X := XL) pok ctL (((RVs.one (.int _ _)).append (RVs.one (.int _ _))).append (RVs.one (rv_cells hl hc))) (load_lst a v ad vl len)
end Go.Proofs.YtjlnokopnpcfoaaGreat
