/- The law GeomOuter. -/
import Derived.Test.YtocloacbbbhkcaaAlive5
import Derived.Test.YtocloacbbbhkcaaOuterPlain
import Derived.Deep.CutBlock
import Derived.Deep.DeepCutAuto
namespace Go.Proofs.Ytocloacbbbhkcaa
open Go.RowKit

theorem infoReg : (Try.prog.info? 26).map (fun i => (i.zero, i.size, i.bytes)) = some (some (.agg #[.string ByteArray.empty, .int .i64 0, .int .i64 0, .slice none 0 0]), 4, 56) := by kernel_rfl
theorem regCells_snoc (l : List RegT) (vs : List Value) (r : RegT) (u : Value) (h : vs.length = l.length) : regCells (l ++ [r]) (vs ++ [u]) = regCells l vs ++ [.string r.name, .int .i64 r.width, .int .i64 r.beg, u] := by
  unfold regCells; rw [List.zip_append h.symm, List.flatMap_append]; simp
/-- The cells of the first so many registers. -/
def cellsO (l : List Int) (k : Nat) : List Value := regCells (regsO 0 (l.take k)) (List.replicate k (.slice none 0 0))
theorem cellsO_succ (l : List Int) (k : Nat) (h : k < l.length) : cellsO l (k + 1) = cellsO l k ++ [.string (nmO k), .int .i64 (l.getD k 0), .int .i64 0, .slice none 0 0] := by
  have e : l.take (k + 1) = l.take k ++ [l.getD k 0] := by
    rw [List.take_add_one, List.getElem?_eq_getElem h]; simp [List.getD_eq_getElem?_getD, List.getElem?_eq_getElem h]
  unfold cellsO
  rw [e, regsO_snoc, List.replicate_succ', regCells_snoc _ _ _ _ (by rw [regsO_len]; simp; omega)]
  simp [RegT.name, RegT.width, RegT.beg, Nat.min_eq_left (Nat.le_of_lt h)]
theorem regsO_fits (l : List Int) (k : Nat) (h : ∀ x ∈ l, fits64 x) : ∀ r ∈ regsO k l, fits64 r.width ∧ fits64 r.beg := by
  induction l generalizing k with
  | nil => intro r hr; simp [regsO] at hr
  | cons x l ih =>
    intro r hr
    simp only [regsO, List.mem_cons] at hr
    rcases hr with rfl | hr
    · exact ⟨h x (by simp), (show fits64 0 from ⟨by decide, by decide⟩)⟩
    · exact ih (k + 1) (fun y hy => h y (by simp [hy])) r hr
theorem regsO_subs (l : List Int) (k : Nat) : ∀ r ∈ regsO k l, r.subs = [] := by
  induction l generalizing k with
  | nil => intro r hr; simp [regsO] at hr
  | cons x l ih =>
    intro r hr
    simp only [regsO, List.mem_cons] at hr
    rcases hr with rfl | hr
    · rfl
    · exact ih (k + 1) r hr

/-- How Places of outer registers ends. -/
def PostO (l : List Int) (w : World) (e : Ending) (w' : World) : Prop :=
  ∃ aN nN cN aP nP cP, e = .returned (.tuple #[.slice aN nN cN, .slice aP nP cP, .int .i64 (wantO 0 l)]) ∧ Ext w w' ∧ nP ≤ l.length ∧ (wantO 0 l = 0 → nP = l.length) ∧
    ∀ i, i < nP → ∃ gP, aP = some ⟨gP, 0, none⟩ ∧ w'.cell? ⟨gP, i * 3, none⟩ = some (.int .i64 i) ∧ w'.cell? ⟨gP, i * 3 + 1, none⟩ = some (.int .i64 0) ∧ w'.cell? ⟨gP, i * 3 + 2, none⟩ = some (.int .i64 (l.getD i 0))
theorem postO (l : List Int) (hl : l.length ≤ 220) (w : World) (e : Ending) (w' : World) (h : PlacesPost w (placesS (regsO 0 l)) e w') : PostO l w e w' := by
  rcases outer_places l hl with ⟨hw0, hp⟩ | ⟨hw0, σ', hp, hpl⟩
  · rw [hp] at h
    obtain ⟨x, he⟩ := h
    exact ⟨_, _, _, _, _, _, he, x, Nat.zero_le _, fun h => absurd h hw0, fun i hi => by omega⟩
  · rw [hp] at h
    obtain ⟨x, vN, vP, he, h1, h2, _⟩ := h
    obtain ⟨aN, cN, rfl, _, _⟩ := (Row.of_owns h1).shape
    obtain ⟨aP, cP, rfl, _, _⟩ := (Row.of_owns h2).shape
    have hlen : σ'.places.length = l.length := by rw [hpl, plsO_len]
    refine ⟨_, _, _, _, _, _, by rw [hw0]; exact he, x, by omega, fun _ => hlen, fun i hi => ?_⟩
    have hat := plsO_at 0 l i (by omega)
    rw [← hpl] at hat
    obtain ⟨gP, cap, e, c0, c1, c2⟩ := places_at h2 hat
    cases e
    exact ⟨gP, rfl, by simpa using c0, c1, c2⟩

set_option maxRecDepth 100000 in
set_option maxHeartbeats 4000000 in
theorem geomOuter_any (l : List Int) (v : Value) (w : World) (hv : SliceInts w v l) (hx : ∀ x ∈ l, fits64 x) :
    Calls Try.prog 3 #[v] w fun e w' => e = .returned (.bool true) ∧ Below w.heap.size w w' := by
  obtain ⟨iR, hiR, zR0, zR1, zR2⟩ := info_parts infoReg
  obtain ⟨ad, cap, rfl, hcells⟩ := SliceInts.open hv
  have HV := Lib.hid hv
  have HX := Lib.hid hx
  have HC := Lib.hid hcells
  clear hv hx hcells
  go_enter Try.func3, Try.ntmps3
  go_wp2_with fail
  refine (alive5_any _).mono ?_
  rintro e w1 ⟨rfl, x1⟩
  have X1 := Lib.hid x1
  clear x1
  by_cases h220 : (220 : Int) < l.length
  · go_wp2_with fail
    go_ret
    exact ⟨rfl, X1.out⟩
  go_wp2_with fail
  go_loopw [4, 6] (fun v i wr => ∃ (k : Nat), k ≤ l.length ∧ i = .int .i64 k ∧ Hid (Ext w1 wr ∧ wr.ownsRow w1.heap.size 26 4 v k (cellsO l k))) (fun _ i _ => l.length - (intOf i).toNat)
  case atStart => exact ⟨0, by omega, rfl, Lib.hid ⟨Ext.refl _, World.ownsRow_nil _ _ _ _⟩⟩
  case round =>
    obtain ⟨k, hk, rfl, hin⟩ := hrel
    by_cases hlt : k < l.length
    · obtain ⟨b, off, rfl, hbl, hcl⟩ := HC.out (fun e => by rw [e] at hlt; simp at hlt)
      have ck := (X1.out.trans hin.out.1).cell (hcl k hlt)
      have bb : (0 : Int) ≤ k := by omega
      have bk : (k : Int) < l.length := by omega
      have b1 : (k : Int) ≤ 219 := by omega
      clear hcl
      obtain ⟨a4, c4, rfl⟩ : ∃ a c, u4 = .slice a k c := by
        obtain ⟨a, c, e, _, _⟩ := (Row.of_owns hin.out.2).shape; exact ⟨a, c, e⟩
      obtain ⟨xk, hxk⟩ : ∃ x, l.getD k 0 = x := ⟨_, rfl⟩
      rw [hxk] at ck
      have HXK := Lib.hid hxk
      clear hxk
      go_wp2_with fail
      refine wp_region_M (fun w' => w'.cell? ⟨b, off + k, none⟩ = some (.int .i64 xk)) 31 (by kernel_rfl) ck (fun hS => ?_)
      have e1 : IntKind.i64.wrap ((k : Int) / 100) = ((k / 100 : Nat) : Int) := by rw [IntWalk.i64_in _ (by omega)]; omega
      have e2 : IntKind.i64.wrap (((k / 100 : Nat) : Int) + 1) = ((k / 100 + 1 : Nat) : Int) := by rw [IntWalk.i64_in _ (by omega)]; omega
      have e3 : IntKind.i64.wrap ((k : Int) / 10) = ((k / 10 : Nat) : Int) := by rw [IntWalk.i64_in _ (by omega)]; omega
      have e4 : ((k / 10 : Nat) : Int).tmod 10 = ((k / 10 % 10 : Nat) : Int) := by rw [Int.tmod_eq_emod_of_nonneg (by omega)]; omega
      have e5 : IntKind.i64.wrap (((k / 10 % 10 : Nat) : Int) + 1) = ((k / 10 % 10 + 1 : Nat) : Int) := by rw [IntWalk.i64_in _ (by omega)]; omega
      have e6 : (k : Int).tmod 10 = ((k % 10 : Nat) : Int) := by rw [Int.tmod_eq_emod_of_nonneg (by omega)]; omega
      have e7 : IntKind.i64.wrap (((k % 10 : Nat) : Int) + 1) = ((k % 10 + 1 : Nat) : Int) := by rw [IntWalk.i64_in _ (by omega)]; omega
      have g1 : ((k / 100 + 1 : Nat) : Int) ≤ 10 := by omega
      have g1' : ((k / 100 : Nat) : Int) ≤ ((k / 100 + 1 : Nat) : Int) := by omega
      have g2 : ((k / 10 % 10 + 1 : Nat) : Int) ≤ 10 := by omega
      have g2' : ((k / 10 % 10 : Nat) : Int) ≤ ((k / 10 % 10 + 1 : Nat) : Int) := by omega
      have g3 : ((k % 10 + 1 : Nat) : Int) ≤ 10 := by omega
      have g3' : ((k % 10 : Nat) : Int) ≤ ((k % 10 + 1 : Nat) : Int) := by omega
      have j1 : (0 : Int) ≤ ((k / 100 + 1 : Nat) : Int) := by omega
      have j1' : (0 : Int) ≤ ((k / 100 : Nat) : Int) := by omega
      have j2 : (0 : Int) ≤ ((k / 10 % 10 + 1 : Nat) : Int) := by omega
      have j2' : (0 : Int) ≤ ((k / 10 % 10 : Nat) : Int) := by omega
      have j3 : (0 : Int) ≤ ((k % 10 + 1 : Nat) : Int) := by omega
      have j3' : (0 : Int) ≤ ((k % 10 : Nat) : Int) := by omega
      obtain ⟨D1, hD1⟩ : ∃ n, k / 100 = n := ⟨_, rfl⟩
      obtain ⟨D1s, hD1s⟩ : ∃ n, k / 100 + 1 = n := ⟨_, rfl⟩
      obtain ⟨T1, hT1⟩ : ∃ n, k / 10 = n := ⟨_, rfl⟩
      obtain ⟨D2, hD2⟩ : ∃ n, k / 10 % 10 = n := ⟨_, rfl⟩
      obtain ⟨D2s, hD2s⟩ : ∃ n, k / 10 % 10 + 1 = n := ⟨_, rfl⟩
      obtain ⟨D3, hD3⟩ : ∃ n, k % 10 = n := ⟨_, rfl⟩
      obtain ⟨D3s, hD3s⟩ : ∃ n, k % 10 + 1 = n := ⟨_, rfl⟩
      simp only [hD1s, hD2s, hD3s] at e1 e2 e3 e4 e5 e6 e7 g1 g1' g2 g2' g3 g3' j1 j1' j2 j2' j3 j3'
      simp only [hD1, hD2, hD3] at e1 e2 e3 e4 e5 e6 e7 g1 g1' g2 g2' g3 g3' j1 j1' j2 j2' j3 j3'
      simp only [hT1] at e3 e4
      have hnm : Hid (nmO k = ((⟨#[114]⟩ ++ digs.extract D1 D1s) ++ digs.extract D2 D2s) ++ digs.extract D3 D3s) := Lib.hid (by unfold nmO; rw [hD1s, hD2s, hD3s, hD1, hD2, hD3])
      clear hD1 hD1s hT1 hD2 hD2s hD3 hD3s
      have m1 : ¬ 9223372036854775807 < 1 + (min D1s 10 - D1) := by omega
      have m2 : ¬ 9223372036854775807 < 1 + (min D1s 10 - D1) + (min D2s 10 - D2) := by omega
      have m3 : ¬ 9223372036854775807 < 1 + (min D1s 10 - D1) + (min D2s 10 - D2) + (min D3s 10 - D3) := by omega
      refine wpAnyM_take (v := ?_) 0 rfl (by kernel_rfl) (fun _ _ _ h => h) hS rfl ?_ ?_; rotate_left; · (intro w hSw; (try dsimp only at hSw); go_simp; try with_reducible rfl)
      (try simp only [Act.put, List.setIfInBounds_toArray, List.set_cons_zero, List.set_cons_succ])
      refine wpAnyM_take (v := ?_) 1 rfl (by kernel_rfl) (fun _ _ _ h => h) hS rfl ?_ ?_; rotate_left; · (intro w hSw; (try dsimp only at hSw); go_simp; try with_reducible rfl)
      (try simp only [Act.put, List.setIfInBounds_toArray, List.set_cons_zero, List.set_cons_succ])
      refine wpAnyM_take (v := ?_) 2 rfl (by kernel_rfl) (fun _ _ _ h => h) hS rfl ?_ ?_; rotate_left; · (intro w hSw; (try dsimp only at hSw); go_simp; try with_reducible rfl)
      (try simp only [Act.put, List.setIfInBounds_toArray, List.set_cons_zero, List.set_cons_succ])
      refine wpAnyM_take (v := ?_) 3 rfl (by kernel_rfl) (fun _ _ _ h => h) hS rfl ?_ ?_; rotate_left; · (intro w hSw; (try dsimp only at hSw); go_simp; try with_reducible rfl)
      (try simp only [Act.put, List.setIfInBounds_toArray, List.set_cons_zero, List.set_cons_succ])
      refine wpAnyM_take (v := ?_) 4 rfl (by kernel_rfl) (fun _ _ _ h => h) hS rfl ?_ ?_; rotate_left; · (intro w hSw; (try dsimp only at hSw); go_simp; try with_reducible rfl)
      (try simp only [Act.put, List.setIfInBounds_toArray, List.set_cons_zero, List.set_cons_succ])
      refine wpAnyM_take (v := ?_) 5 rfl (by kernel_rfl) (fun _ _ _ h => h) hS rfl ?_ ?_; rotate_left; · (intro w hSw; (try dsimp only at hSw); go_simp; try with_reducible rfl)
      (try simp only [Act.put, List.setIfInBounds_toArray, List.set_cons_zero, List.set_cons_succ])
      refine wpAnyM_take (v := ?_) 6 rfl (by kernel_rfl) (fun _ _ _ h => h) hS rfl ?_ ?_; rotate_left; · (intro w hSw; (try dsimp only at hSw); go_simp; try with_reducible rfl)
      (try simp only [Act.put, List.setIfInBounds_toArray, List.set_cons_zero, List.set_cons_succ])
      refine wpAnyM_take (v := ?_) 7 rfl (by kernel_rfl) (fun _ _ _ h => h) hS rfl ?_ ?_; rotate_left; · (intro w hSw; (try dsimp only at hSw); go_simp; try with_reducible rfl)
      (try simp only [Act.put, List.setIfInBounds_toArray, List.set_cons_zero, List.set_cons_succ])
      refine wpAnyM_take (v := ?_) 8 rfl (by kernel_rfl) (fun _ _ _ h => h) hS rfl ?_ ?_; rotate_left; · (intro w hSw; (try dsimp only at hSw); go_simp; try with_reducible rfl)
      (try simp only [Act.put, List.setIfInBounds_toArray, List.set_cons_zero, List.set_cons_succ])
      refine wpAnyM_take (v := ?_) 9 rfl (by kernel_rfl) (fun _ _ _ h => h) hS rfl ?_ ?_; rotate_left; · (intro w hSw; (try dsimp only at hSw); go_simp; try with_reducible rfl)
      (try simp only [Act.put, List.setIfInBounds_toArray, List.set_cons_zero, List.set_cons_succ])
      refine wpAnyM_take (v := ?_) 10 rfl (by kernel_rfl) (fun _ _ _ h => h) hS rfl ?_ ?_; rotate_left; · (intro w hSw; (try dsimp only at hSw); go_simp; try with_reducible rfl)
      (try simp only [Act.put, List.setIfInBounds_toArray, List.set_cons_zero, List.set_cons_succ])
      refine wpAnyM_take (v := ?_) 11 rfl (by kernel_rfl) (fun _ _ _ h => h) hS rfl ?_ ?_; rotate_left; · (intro w hSw; (try dsimp only at hSw); go_simp; try with_reducible rfl)
      (try simp only [Act.put, List.setIfInBounds_toArray, List.set_cons_zero, List.set_cons_succ])
      refine wpAnyM_take (v := ?_) 12 rfl (by kernel_rfl) (fun _ _ _ h => h) hS rfl ?_ ?_; rotate_left; · (intro w hSw; (try dsimp only at hSw); go_simp; try with_reducible rfl)
      (try simp only [Act.put, List.setIfInBounds_toArray, List.set_cons_zero, List.set_cons_succ])
      refine wpAnyM_take (v := ?_) 13 rfl (by kernel_rfl) (fun _ _ _ h => h) hS rfl ?_ ?_; rotate_left; · (intro w hSw; (try dsimp only at hSw); go_simp; try with_reducible rfl)
      (try simp only [Act.put, List.setIfInBounds_toArray, List.set_cons_zero, List.set_cons_succ])
      refine wpAnyM_take (v := ?_) 14 rfl (by kernel_rfl) (fun _ _ _ h => h) hS rfl ?_ ?_; rotate_left; · (intro w hSw; (try dsimp only at hSw); go_simp; try with_reducible rfl)
      (try simp only [Act.put, List.setIfInBounds_toArray, List.set_cons_zero, List.set_cons_succ])
      refine wpAnyM_take (v := ?_) 15 rfl (by kernel_rfl) (fun _ _ _ h => h) hS rfl ?_ ?_; rotate_left; · (intro w hSw; (try dsimp only at hSw); go_simp; try with_reducible rfl)
      (try simp only [Act.put, List.setIfInBounds_toArray, List.set_cons_zero, List.set_cons_succ])
      refine wpAnyM_take (v := ?_) 16 rfl (by kernel_rfl) (fun _ _ _ h => h) hS rfl ?_ ?_; rotate_left; · (intro w hSw; (try dsimp only at hSw); go_simp; try with_reducible rfl)
      (try simp only [Act.put, List.setIfInBounds_toArray, List.set_cons_zero, List.set_cons_succ])
      refine wpAnyM_take (v := ?_) 17 rfl (by kernel_rfl) (fun _ _ _ h => h) hS rfl ?_ ?_; rotate_left; · (intro w hSw; (try dsimp only at hSw); go_simp; try with_reducible rfl)
      (try simp only [Act.put, List.setIfInBounds_toArray, List.set_cons_zero, List.set_cons_succ])
      refine wpAnyM_take (v := ?_) 18 rfl (by kernel_rfl) (fun _ _ _ h => h) hS rfl ?_ ?_; rotate_left; · (intro w hSw; (try dsimp only at hSw); go_simp; try with_reducible rfl)
      (try simp only [Act.put, List.setIfInBounds_toArray, List.set_cons_zero, List.set_cons_succ])
      refine wpAnyM_take (v := ?_) 19 rfl (by kernel_rfl) (fun _ _ _ h => h) hS rfl ?_ ?_; rotate_left; · (intro w hSw; (try dsimp only at hSw); go_simp; try with_reducible rfl)
      (try simp only [Act.put, List.setIfInBounds_toArray, List.set_cons_zero, List.set_cons_succ])
      refine wpAnyM_take (v := ?_) 20 rfl (by kernel_rfl) (fun _ _ _ h => h) hS rfl ?_ ?_; rotate_left; · (intro w hSw; (try dsimp only at hSw); go_simp; try with_reducible rfl)
      (try simp only [Act.put, List.setIfInBounds_toArray, List.set_cons_zero, List.set_cons_succ])
      refine wpAnyM_take (v := ?_) 21 rfl (by kernel_rfl) (fun _ _ _ h => h) hS rfl ?_ ?_; rotate_left; · (intro w hSw; (try dsimp only at hSw); go_simp; try with_reducible rfl)
      (try simp only [Act.put, List.setIfInBounds_toArray, List.set_cons_zero, List.set_cons_succ])
      refine wpAnyM_take (v := ?_) 22 rfl (by kernel_rfl) (fun _ _ _ h => h) hS rfl ?_ ?_; rotate_left; · (intro w hSw; (try dsimp only at hSw); go_simp; try with_reducible rfl)
      (try simp only [Act.put, List.setIfInBounds_toArray, List.set_cons_zero, List.set_cons_succ])
      refine wpAnyM_take (v := ?_) 23 rfl (by kernel_rfl) (fun _ _ _ h => h) hS rfl ?_ ?_; rotate_left; · (intro w hSw; (try dsimp only at hSw); go_simp; try with_reducible rfl)
      (try simp only [Act.put, List.setIfInBounds_toArray, List.set_cons_zero, List.set_cons_succ])
      refine wpAnyM_take (v := ?_) 24 rfl (by kernel_rfl) (fun _ _ _ h => h) hS rfl ?_ ?_; rotate_left; · (intro w hSw; (try dsimp only at hSw); go_simp; try with_reducible rfl)
      (try simp only [Act.put, List.setIfInBounds_toArray, List.set_cons_zero, List.set_cons_succ])
      refine wpAnyM_take (v := ?_) 25 rfl (by kernel_rfl) (fun _ _ _ h => h) hS rfl ?_ ?_; rotate_left; · (intro w hSw; (try dsimp only at hSw); go_simp; try with_reducible rfl)
      (try simp only [Act.put, List.setIfInBounds_toArray, List.set_cons_zero, List.set_cons_succ])
      refine wpAnyM_take (v := ?_) 26 rfl (by kernel_rfl) (fun _ _ _ h => h) hS rfl ?_ ?_; rotate_left; · (intro w hSw; (try dsimp only at hSw); go_simp; try with_reducible rfl)
      (try simp only [Act.put, List.setIfInBounds_toArray, List.set_cons_zero, List.set_cons_succ])
      refine wpAnyM_take (v := ?_) 27 rfl (by kernel_rfl) (fun _ _ _ h => h) hS rfl ?_ ?_; rotate_left; · (intro w hSw; (try dsimp only at hSw); go_simp; try with_reducible rfl)
      (try simp only [Act.put, List.setIfInBounds_toArray, List.set_cons_zero, List.set_cons_succ])
      refine wpAnyM_take (v := ?_) 28 rfl (by kernel_rfl) (fun _ _ _ h => h) hS rfl ?_ ?_; rotate_left; · (intro w hSw; (try dsimp only at hSw); go_simp; try with_reducible rfl)
      (try simp only [Act.put, List.setIfInBounds_toArray, List.set_cons_zero, List.set_cons_succ])
      refine wpAnyM_ready [29] (by kernel_rfl) rfl ?_
      refine AllM.cons rfl rfl (fun K hK => ?_) AllM.nil
      go_simp
      have xa : Ext wr (wr.alloc (.cells #[.string (((⟨#[114]⟩ ++ digs.extract D1 D1s) ++ digs.extract D2 D2s) ++ digs.extract D3 D3s), .int .i64 xk, .int .i64 0, .slice none 0 0] 26)).drew := (Ext.alloc wr _).trans (Ext.drew _)
      refine hK.out _ _ (xa.cell ck) ?_
      (try simp only [Act.put, List.setIfInBounds_toArray, List.set_cons_zero, List.set_cons_succ])
      clear hK K
      refine wpAnyM_ready [30] (by kernel_rfl) rfl ?_
      refine AllM.cons rfl rfl (fun K hK => ?_) AllM.nil
      refine wp_append_lies _ _ _ _ rfl w1.heap.size 26 iR _ 4 56 Try.underlying24 hiR zR0 zR1 zR2 rfl (by omega) (.slice a4 k c4) k (cellsO l k) rfl ((hin.out.2.alloc _).drew) ⟨wr.heap.size, 0, none⟩ 1 1 [.string (((⟨#[114]⟩ ++ digs.extract D1 D1s) ++ digs.extract D2 D2s) ++ digs.extract D3 D3s), .int .i64 xk, .int .i64 0, .slice none 0 0] rfl rfl (World.news_of_block (cs := #[.string (((⟨#[114]⟩ ++ digs.extract D1 D1s) ++ digs.extract D2 D2s) ++ digs.extract D3 D3s), .int .i64 xk, .int .i64 0, .slice none 0 0]) (t := 26) (fr := (0, 0)) (heap_alloc_new wr _)) (by simp [Value.oneCell']) (by omega) (by unfold maxLen; omega) (by omega) (by have := hin.out.1.size; simp; omega) (wr.heap.size + 1) (by simp) ?_
      intro gg cap4 wa hown hgrow hat hlt4
      have hne : (Value.slice a4 k c4).ownBlock ≠ some b := fun e => by
        have := (hin.out.2.lt b e).1; have := X1.out.size; omega
      have hS' : wa.cell? ⟨b, off + k, none⟩ = some (.int .i64 xk) := (Keep.ofGrown xa hgrow (S := fun q => (Value.slice a4 k c4).ownBlock = some q) (fun q e => e)).cell ck hne
      refine hK.out _ _ hS' ?_
      (try simp only [Act.put, List.setIfInBounds_toArray, List.set_cons_zero, List.set_cons_succ])
      clear hK K hS
      refine wpAnyM_ready [31] (by kernel_rfl) rfl ?_
      refine AllM.late rfl rfl (by kernel_rfl) (fun K hK => ?_) AllM.nil
      go_simp
      refine hK.out _ _ ?_
      (try simp only [Act.put, List.setIfInBounds_toArray, List.set_cons_zero, List.set_cons_succ])
      clear hK K
      refine wpAnyM_done (by kernel_rfl) ?_ _
      have key : Ext w1 wa ∧ wa.ownsRow w1.heap.size 26 4 (.slice (some ⟨gg, 0, none⟩) (k + 1) cap4) (k + 1) (cellsO l (k + 1)) := by
        rw [cellsO_succ l k hlt, hnm.out, HXK.out]
        exact ⟨hin.out.1.keep (Keep.ofGrown xa hgrow (S := fun q => (Value.slice a4 k c4).ownBlock = some q) (fun q e => e)) (fun q e => (hin.out.2.lt q e).1), hown⟩
      have KEY := Lib.hid key
      clear key hown hgrow xa hS' hne hnm e1 e2 e3 e4 e5 e6 e7 m1 m2 m3
      go_wp2_with fail
      go_roundw
      case rel => exact ⟨k + 1, by omega, by go_num, KEY⟩
      case measure => simp [intOf]; omega
    · obtain rfl : k = l.length := by omega
      obtain ⟨a4, c4, rfl⟩ : ∃ a c, u4 = .slice a l.length c := by
        obtain ⟨a, c, e, _, _⟩ := (Row.of_owns hin.out.2).shape; exact ⟨a, c, e⟩
      have hregs : RegsIn wr wr.heap.size (.slice a4 l.length c4) (regsO 0 l) := by
        refine .mk (List.replicate l.length (.slice none 0 0)) (by rw [regsO_len]; simp) ?_ (fun q e => (hin.out.2.lt q e).2) (regsO_fits l 0 HX.out) (fun i r u hr hu => ?_)
        · have := Row.of_owns hin.out.2
          unfold cellsO at this
          rw [List.take_length] at this
          rw [regsO_len]; exact this
        · rw [regsO_subs l 0 r (List.mem_of_getElem? hr)]
          have : u = .slice none 0 0 := List.eq_of_mem_replicate (List.mem_of_getElem? hu)
          subst this; exact RegsIn.nil _ _
      have HREG := Lib.hid hregs
      clear hregs
      go_wp2_with fail
      refine (places_any (regsO 0 l) a4 l.length c4 _ HREG.out).mono ?_
      have X2 := Lib.hid (X1.out.trans hin.out.1)
      intro e w3 hpost
      obtain ⟨aN, nN, cN, aP, nP, cP, rfl, x3, hnP, hnP0, hcP⟩ := postO l (by omega) _ _ _ hpost
      have X3 := Lib.hid (X2.out.trans x3)
      have HP0 := Lib.hid hnP0
      have HCP := Lib.hid hcP
      clear hpost x3 hnP0 hcP X2 HREG hin
      have W26 := Lib.hid (wantO_01 0 l)
      obtain ⟨wt, hwt⟩ : ∃ x, wantO 0 l = x := ⟨_, rfl⟩
      rw [hwt] at HP0 W26 ⊢
      have HWT := Lib.hid hwt
      clear hwt
      go_upto_block 2 with (fail)
      go_cut [10] (fun want wx => want = .int .i64 wt ∧ wx = w3)
      case first =>
        go_wp2_with fail
        go_loop [10, 11] (fun want i => ∃ (k : Nat) (wv : Int), k ≤ l.length ∧ i = .int .i64 k ∧ want = .int .i64 wv ∧ Hid ((wv = 0 ∧ wantO 0 l = wantO k (l.drop k)) ∨ (wv ≠ 0 ∧ wantO 0 l = wv))) (fun _ i => l.length - (intOf i).toNat)
        case atStart => exact ⟨0, 0, by omega, rfl, rfl, Lib.hid (Or.inl ⟨rfl, rfl⟩)⟩
        case round =>
          obtain ⟨k, wv, hk, rfl, rfl, hor⟩ := hrel
          by_cases hz : wv = 0
          case neg =>
            have hzb : (wv == 0) = false := by simpa using hz
            have hfin : Hid (wv = wt) := Lib.hid (by
              rcases hor.out with ⟨h, _⟩ | ⟨_, h⟩
              · exact absurd h hz
              · rw [← HWT.out]; exact h.symm)
            clear hz hor
            by_cases hlt : k < l.length
            · go_wp2_with fail
              go_meet
              exact ⟨by rw [hfin.out], rfl⟩
            · go_wp2_with fail
              go_meet
              exact ⟨by rw [hfin.out], rfl⟩
          subst hz
          have hcur : Hid (wantO 0 l = wantO k (l.drop k)) := Lib.hid (by
            rcases hor.out with ⟨_, h⟩ | ⟨h, _⟩
            · exact h
            · exact absurd rfl h)
          clear hor
          by_cases hlt : k < l.length
          case neg =>
            have hfin : Hid (wt = 0) := Lib.hid (by rw [← HWT.out, hcur.out, List.drop_eq_nil_of_le (by omega)]; rfl)
            go_wp2_with fail
            go_meet
            exact ⟨by rw [hfin.out], rfl⟩
          have hstep := Lib.hid (wantO_drop l k hlt)
          by_cases h200 : (200 : Int) ≤ k
          · go_wp2_with fail
            go_round
            case rel => exact ⟨k + 1, 2, by omega, by go_num, rfl, Lib.hid (Or.inr ⟨by decide, by rw [hcur.out, hstep.out, if_pos (by omega)]⟩)⟩
            case measure => simp [intOf]; omega
          · obtain ⟨b, off, rfl, hbl, hcl⟩ := HC.out (fun e => by rw [e] at hlt; simp at hlt)
            have ck := X3.out.cell (hcl k hlt)
            clear hcl
            obtain ⟨xk, hxk⟩ : ∃ x, l.getD k 0 = x := ⟨_, rfl⟩
            rw [hxk] at ck hstep
            clear hxk
            have bb : (0 : Int) ≤ k := by omega
            have bk : (k : Int) < l.length := by omega
            by_cases q1 : xk < 1
            · go_wp2_with fail
              go_round
              case rel => exact ⟨k + 1, 6, by omega, by go_num, rfl, Lib.hid (Or.inr ⟨by decide, by rw [hcur.out, hstep.out, if_neg (by omega), if_pos (Or.inl q1)]⟩)⟩
              case measure => simp [intOf]; omega
            · by_cases q2 : 64 < xk
              · go_wp2_with fail
                go_round
                case rel => exact ⟨k + 1, 6, by omega, by go_num, rfl, Lib.hid (Or.inr ⟨by decide, by rw [hcur.out, hstep.out, if_neg (by omega), if_pos (Or.inr q2)]⟩)⟩
                case measure => simp [intOf]; omega
              · go_wp2_with fail
                go_round
                case rel => exact ⟨k + 1, 0, by omega, by go_num, rfl, Lib.hid (Or.inl ⟨rfl, by rw [hcur.out, hstep.out, if_neg (by omega), if_neg (by omega)]⟩)⟩
                case measure => simp [intOf]; omega
      case rest =>
        obtain ⟨rfl, rfl⟩ := hcut
        go_wp2_with fail
        refine (num5_any _ _).mono ?_
        rintro e w4 ⟨rfl, rfl⟩
        go_wp2_with fail
        go_loopw [5, 12] (fun ok i wr => ∃ (k : Nat), k ≤ nP ∧ i = .int .i64 k ∧ ok = .bool true ∧ Hid (Ext wc wr)) (fun _ i _ => nP - (intOf i).toNat)
        case atStart => exact ⟨0, by omega, rfl, rfl, Lib.hid (Ext.refl _)⟩
        case round =>
          obtain ⟨k, hk, rfl, rfl, hex⟩ := hrel
          by_cases hlt : k < nP
          · obtain ⟨gP, rfl, c0, c1, c2⟩ := HCP.out k hlt
            obtain ⟨b, off, rfl, hbl, hcl⟩ := HC.out (fun e => by rw [e] at hnP; simp at hnP; omega)
            have ck := (X3.out.trans hex.out).cell (hcl k (by omega))
            have c0 := hex.out.cell c0
            have c1 := hex.out.cell c1
            have c2 := hex.out.cell c2
            clear hcl
            obtain ⟨xk, hxk⟩ : ∃ x, l.getD k 0 = x := ⟨_, rfl⟩
            rw [hxk] at ck c2
            clear hxk
            have bb : (0 : Int) ≤ k := by omega
            have bk : (k : Int) < l.length := by omega
            have bp : (k : Int) < nP := by omega
            go_wp2_with fail
            go_quiet (fail)
            have hex' := Lib.hid (hex.out.trans (Ext.drewN _ nq))
            go_wp2_with fail
            go_roundw
            case rel => exact ⟨k + 1, by omega, by go_num, rfl, hex'⟩
            case measure => simp [intOf]; omega
          · obtain rfl : k = nP := by omega
            have hb : Hid (Below w.heap.size w wr) := Lib.hid (X3.out.trans hex.out)
            by_cases hz : wt = 0
            · subst hz
              obtain rfl := HP0.out rfl
              go_wp2_with fail
              go_ret
              exact ⟨rfl, hb.out⟩
            · have hzb : (wt != 0) = true := by simpa using hz
              clear hz
              go_wp2_with fail
              go_ret
              exact ⟨rfl, hb.out⟩
end Go.Proofs.Ytocloacbbbhkcaa
