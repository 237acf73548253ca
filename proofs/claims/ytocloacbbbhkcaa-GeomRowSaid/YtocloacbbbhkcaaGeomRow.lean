/- The law GeomRow. -/
import Derived.Test.YtocloacbbbhkcaaAlive5
import Derived.Test.YtocloacbbbhkcaaRowPlain
import Derived.Deep.CutBlock
import Derived.Deep.DeepCutAuto
namespace Go.Proofs.Ytocloacbbbhkcaa
open Go.RowKit

theorem infoRegR : (Try.prog.info? 26).map (fun i => (i.zero, i.size, i.bytes)) = some (some (.agg #[.string ByteArray.empty, .int .i64 0, .int .i64 0, .slice none 0 0]), 4, 56) := by kernel_rfl
theorem regCells_snocR (l : List RegT) (vs : List Value) (r : RegT) (u : Value) (h : vs.length = l.length) : regCells (l ++ [r]) (vs ++ [u]) = regCells l vs ++ [.string r.name, .int .i64 r.width, .int .i64 r.beg, u] := by
  unfold regCells; rw [List.zip_append h.symm, List.flatMap_append]; simp
def cellsR (w k : Nat) : List Value := regCells (subsR w k) (List.replicate k (.slice none 0 0))
theorem cellsR_succ (w k : Nat) : cellsR w (k + 1) = cellsR w k ++ [.string (nmR k), .int .i64 w, .int .i64 (k * w : Nat), .slice none 0 0] := by
  unfold cellsR
  rw [subsR_succ, List.replicate_succ', regCells_snocR _ _ _ _ (by rw [subsR_len]; simp)]
  simp [RegT.name, RegT.width, RegT.beg]
/-- How Places of such a register ends. -/
def PostR (ww n : Nat) (w : World) (e : Ending) (w' : World) : Prop :=
  ∃ aN nN cN gP cP, e = .returned (.tuple #[.slice aN nN cN, .slice (some ⟨gP, 0, none⟩) (n + 1) cP, .int .i64 0]) ∧ Ext w w' ∧ n + 1 ≤ cP ∧
    (w'.cell? ⟨gP, 0, none⟩ = some (.int .i64 0) ∧ w'.cell? ⟨gP, 1, none⟩ = some (.int .i64 0) ∧ w'.cell? ⟨gP, 2, none⟩ = some (.int .i64 64)) ∧
    ∀ i, i < n → w'.cell? ⟨gP, (i + 1) * 3, none⟩ = some (.int .i64 0) ∧ w'.cell? ⟨gP, (i + 1) * 3 + 1, none⟩ = some (.int .i64 (i * ww : Nat)) ∧ w'.cell? ⟨gP, (i + 1) * 3 + 2, none⟩ = some (.int .i64 ww)
theorem postR (ww n : Nat) (h1 : 1 ≤ n) (h2 : n ≤ 16) (h3 : 1 ≤ ww) (h4 : ww ≤ 64) (h5 : n * ww ≤ 64) (w : World) (e : Ending) (w' : World) (h : PlacesPost w (placesS [rowT ww n]) e w') : PostR ww n w e w' := by
  obtain ⟨σ, hp, hpl⟩ := row_places ww n h1 h2 h3 h4 h5
  rw [hp] at h
  obtain ⟨x, vN, vP, he, q1, q2, _⟩ := h
  obtain ⟨aN, cN, rfl, _, _⟩ := (Row.of_owns q1).shape
  have hlen : σ.places.length = n + 1 := by rw [hpl, plsR_len]
  obtain ⟨gP, cP, rfl, hc, _, _⟩ := owns_cells q2 (by omega)
  rw [hlen] at he hc
  have at0 : σ.places[0]? = some ⟨0, 0, 64⟩ := by rw [hpl]; rfl
  obtain ⟨g0, _, e0, a0, a1, a2⟩ := places_at q2 at0
  cases e0
  refine ⟨_, _, _, _, _, he, x, hc, ⟨by simpa using a0, by simpa using a1, by simpa using a2⟩, fun i hi => ?_⟩
  have hat := plsR_at ww n i hi
  rw [← hpl] at hat
  obtain ⟨g1, _, e1, b0, b1, b2⟩ := places_at q2 hat
  cases e1
  exact ⟨b0, b1, b2⟩

set_option maxRecDepth 100000 in
set_option maxHeartbeats 4000000 in
theorem geomRow_any (n width : Int) (w : World) (hn : fits64 n) (hw : fits64 width) :
    Calls Try.prog 4 #[.int .i64 n, .int .i64 width] w fun e w' => e = .returned (.bool true) ∧ Below w.heap.size w w' := by
  obtain ⟨iR, hiR, zR0, zR1, zR2⟩ := info_parts infoRegR
  obtain ⟨hn1, hn2⟩ := hn
  obtain ⟨hw1, hw2⟩ := hw
  go_enter Try.func4, Try.ntmps4
  go_wp2_with fail
  refine (alive5_any _).mono ?_
  rintro e w1 ⟨rfl, x1⟩
  have X1 := Lib.hid x1
  clear x1
  by_cases q1 : n < 1
  · go_wp2_with fail
    go_ret
    exact ⟨rfl, X1.out⟩
  by_cases q2 : 16 < n
  · go_wp2_with fail
    go_ret
    exact ⟨rfl, X1.out⟩
  by_cases q3 : width < 1
  · go_wp2_with fail
    go_ret
    exact ⟨rfl, X1.out⟩
  by_cases q4 : 64 < width
  · go_wp2_with fail
    go_ret
    exact ⟨rfl, X1.out⟩
  obtain ⟨nn, rfl⟩ : ∃ k : Nat, n = k := ⟨n.toNat, by omega⟩
  obtain ⟨ww, rfl⟩ : ∃ k : Nat, width = k := ⟨width.toNat, by omega⟩
  have hle : nn * ww ≤ 16 * 64 := Nat.mul_le_mul (by omega) (by omega)
  obtain ⟨m, hm⟩ : ∃ m, nn * ww = m := ⟨_, rfl⟩
  rw [hm] at hle
  have hmi : (nn : Int) * (ww : Int) = (m : Int) := by rw [← hm]; simp
  have e1 : IntKind.i64.wrap ((nn : Int) * (ww : Int)) = (m : Int) := by rw [hmi]; exact IntWalk.i64_in _ (by omega)
  have e2 : wrap64 ((nn : Int) * (ww : Int)) = (m : Int) := by rw [hmi]; exact IntWalk.wrap64_in _ (by omega)
  have HM := Lib.hid hm
  clear hm hmi
  by_cases q5 : (64 : Int) < m
  · go_wp2_with fail
    go_ret
    exact ⟨rfl, X1.out⟩
  have q5b : decide ((64 : Int) < m) = false := by simpa using q5
  have q1b : decide ((nn : Int) < 1) = false := by simpa using q1
  have q2b : decide ((16 : Int) < nn) = false := by simpa using q2
  have q3b : decide ((ww : Int) < 1) = false := by simpa using q3
  have q4b : decide ((64 : Int) < ww) = false := by simpa using q4
  go_upto_block 0 with (fail)
  rename_i K1 hK1
  have hK1h := Lib.hid hK1
  clear hK1
  go_wp2_with fail
  have xR : Ext w1 (w1.alloc (.cells #[.string ⟨#[119, 105, 100, 101]⟩, .int .i64 64, .int .i64 0, .slice none 0 0] 26)) := Ext.alloc _ _
  have bR : (w1.alloc (.cells #[.string ⟨#[119, 105, 100, 101]⟩, .int .i64 64, .int .i64 0, .slice none 0 0] 26)).heap[w1.heap.size]? = some (.cells #[.string ⟨#[119, 105, 100, 101]⟩, .int .i64 64, .int .i64 0, .slice none 0 0] 26 (0, 0)) := heap_alloc_new _ _
  have sR : (w1.alloc (.cells #[.string ⟨#[119, 105, 100, 101]⟩, .int .i64 64, .int .i64 0, .slice none 0 0] 26)).heap.size = w1.heap.size + 1 := by simp
  generalize w1.alloc (.cells #[.string ⟨#[119, 105, 100, 101]⟩, .int .i64 64, .int .i64 0, .slice none 0 0] 26) = W0 at xR bR sR ⊢
  have start : Hid (Ext w1 W0 ∧ w1.heap.size + 1 ≤ W0.heap.size ∧ ∃ v, W0.heap[w1.heap.size]? = some (.cells #[.string ⟨#[119, 105, 100, 101]⟩, .int .i64 64, .int .i64 0, v] 26 (0, 0)) ∧ W0.ownsRow (w1.heap.size + 1) 26 4 v 0 (cellsR ww 0)) := Lib.hid ⟨xR, by omega, _, bR, World.ownsRow_nil _ _ _ _⟩
  clear xR bR sR e1 e2
  go_loopw [7] (fun i wr => ∃ (k : Nat), k ≤ nn ∧ i = .int .i64 k ∧ Hid (Ext w1 wr ∧ w1.heap.size + 1 ≤ wr.heap.size ∧ ∃ v, wr.heap[w1.heap.size]? = some (.cells #[.string ⟨#[119, 105, 100, 101]⟩, .int .i64 64, .int .i64 0, v] 26 (0, 0)) ∧ wr.ownsRow (w1.heap.size + 1) 26 4 v k (cellsR ww k))) (fun i _ => nn - (intOf i).toNat)
  case atStart => exact ⟨0, by omega, rfl, start⟩
  case round =>
    clear start
    obtain ⟨k, hk, rfl, hin⟩ := hrel
    obtain ⟨xw, hsz, v, hbv, hown⟩ := hin.out
    obtain ⟨a4, c4, rfl⟩ : ∃ a c, v = .slice a k c := by
      obtain ⟨a, c, e, _, _⟩ := (Row.of_owns hown).shape; exact ⟨a, c, e⟩
    have XW := Lib.hid xw
    have OWN := Lib.hid hown
    have BV := Lib.hid hbv
    clear hin xw hown
    by_cases hlt : k < nn
    · have v3 : wr.cell? ⟨w1.heap.size, 3, none⟩ = some (.slice a4 k c4) := by simp [World.cell?, hbv]
      have f3 : wr.frozen? ⟨w1.heap.size, 3, none⟩ = false := by simp [World.frozen?, hbv]
      clear hbv
      have hPle : k * ww ≤ 16 * 64 := Nat.mul_le_mul (by omega) (by omega)
      obtain ⟨p, hp⟩ : ∃ p, k * ww = p := ⟨_, rfl⟩
      rw [hp] at hPle
      have e3 : IntKind.i64.wrap ((k : Int) * (ww : Int)) = (p : Int) := by rw [show (k : Int) * (ww : Int) = (p : Int) by rw [← hp]; simp]; exact IntWalk.i64_in _ (by omega)
      have e4 : IntKind.i64.wrap ((k : Int) + 1) = ((k + 1 : Nat) : Int) := by rw [IntWalk.i64_in _ (by omega)]; omega
      obtain ⟨k1, hk1⟩ : ∃ n, k + 1 = n := ⟨_, rfl⟩
      rw [hk1] at e4
      have g1 : (k1 : Int) ≤ 16 := by omega
      have g2 : (k : Int) ≤ k1 := by omega
      have g3 : (0 : Int) ≤ k := by omega
      have g4 : (0 : Int) ≤ k1 := by omega
      have m1 : ¬ 9223372036854775807 < 1 + (min k1 16 - k) := by omega
      have PK := Lib.hid hp
      have KK := Lib.hid hk1
      clear hp hk1
      have hnm : Hid (nmR k = ⟨#[112]⟩ ++ hexs.extract k k1) := Lib.hid (by unfold nmR; rw [KK.out])
      have lR : w1.heap.size < wr.heap.size := by omega
      have nR : (Value.slice a4 k c4).ownBlock ≠ some w1.heap.size := fun e => by have := (OWN.out.lt _ e).1; omega
      go_wp2_with fail
      refine wp_region_M (fun w' => w'.cell? ⟨w1.heap.size, 3, none⟩ = some (.slice a4 k c4)) 15 (by kernel_rfl) v3 (fun hS => ?_)
      refine wpAnyM_take (v := ?_) 0 rfl (by kernel_rfl) (fun _ _ _ h => h) hS rfl ?_ ?_; rotate_left; · (intro w hSw; (try dsimp only at hSw); go_simp; try with_reducible rfl)
      (try simp only [Act.put, List.setIfInBounds_toArray, List.set_cons_zero, List.set_cons_succ])
      refine wpAnyM_take (v := ?_) 1 rfl (by kernel_rfl) (fun _ _ _ h => h) hS rfl ?_ ?_; rotate_left; · (intro w hSw; (try dsimp only at hSw); go_simp; try with_reducible rfl)
      (try simp only [Act.put, List.setIfInBounds_toArray, List.set_cons_zero, List.set_cons_succ])
      refine wpAnyM_take (v := ?_) 2 rfl (by kernel_rfl) (fun _ _ _ h => h) hS rfl ?_ ?_; rotate_left; · (intro w hSw; (try dsimp only at hSw); go_simp; try with_reducible rfl)
      (try simp only [Act.put, List.setIfInBounds_toArray, List.set_cons_zero, List.set_cons_succ])
      refine wpAnyM_take (v := ?_) 3 rfl (by kernel_rfl) (fun _ _ _ h => h) hS rfl ?_ ?_; rotate_left; · (intro w hSw; (try dsimp only at hSw); go_simp; try with_reducible rfl)
      (try simp only [Act.put, List.setIfInBounds_toArray, List.set_cons_zero, List.set_cons_succ])
      refine wpAnyM_take (v := ?_) 4 rfl (by kernel_rfl) (fun _ _ _ h => h) hS rfl ?_ ?_; rotate_left; · (intro w hSw; (try dsimp only at hSw); go_simp; try with_reducible rfl)
      (try simp only [Act.put, List.setIfInBounds_toArray, List.set_cons_zero, List.set_cons_succ])
      refine wpAnyM_take (v := ?_) 5 rfl (by kernel_rfl) (fun _ _ _ h => h) hS rfl ?_ ?_; rotate_left; · (intro w hSw; (try dsimp only at hSw); go_simp; try with_reducible rfl)
      (try simp only [Act.put, List.setIfInBounds_toArray, List.set_cons_zero, List.set_cons_succ])
      refine wpAnyM_take (v := ?_) 6 rfl (by kernel_rfl) (fun _ _ _ h => h) hS rfl ?_ ?_; rotate_left; · (intro w hSw; (try dsimp only at hSw); go_simp; try with_reducible rfl)
      (try simp only [Act.put, List.setIfInBounds_toArray, List.set_cons_zero, List.set_cons_succ])
      refine wpAnyM_take (v := ?_) 7 rfl (by kernel_rfl) (fun _ _ _ h => h) hS rfl ?_ ?_; rotate_left; · (intro w hSw; (try dsimp only at hSw); go_simp; try with_reducible rfl)
      (try simp only [Act.put, List.setIfInBounds_toArray, List.set_cons_zero, List.set_cons_succ])
      refine wpAnyM_take (v := ?_) 8 rfl (by kernel_rfl) (fun _ _ _ h => h) hS rfl ?_ ?_; rotate_left; · (intro w hSw; (try dsimp only at hSw); go_simp; try with_reducible rfl)
      (try simp only [Act.put, List.setIfInBounds_toArray, List.set_cons_zero, List.set_cons_succ])
      refine wpAnyM_take (v := ?_) 9 rfl (by kernel_rfl) (fun _ _ _ h => h) hS rfl ?_ ?_; rotate_left; · (intro w hSw; (try dsimp only at hSw); go_simp; try with_reducible rfl)
      (try simp only [Act.put, List.setIfInBounds_toArray, List.set_cons_zero, List.set_cons_succ])
      refine wpAnyM_take (v := ?_) 10 rfl (by kernel_rfl) (fun _ _ _ h => h) hS rfl ?_ ?_; rotate_left; · (intro w hSw; (try dsimp only at hSw); go_simp; try with_reducible rfl)
      (try simp only [Act.put, List.setIfInBounds_toArray, List.set_cons_zero, List.set_cons_succ])
      refine wpAnyM_take (v := ?_) 11 rfl (by kernel_rfl) (fun _ _ _ h => h) hS rfl ?_ ?_; rotate_left; · (intro w hSw; (try dsimp only at hSw); go_simp; try with_reducible rfl)
      (try simp only [Act.put, List.setIfInBounds_toArray, List.set_cons_zero, List.set_cons_succ])
      refine wpAnyM_ready [12] (by kernel_rfl) rfl ?_
      refine AllM.cons rfl rfl (fun K hK => ?_) AllM.nil
      go_simp
      have xa : Ext wr (wr.alloc (.cells #[.string (⟨#[112]⟩ ++ hexs.extract k k1), .int .i64 ww, .int .i64 p, .slice none 0 0] 26)).drew := (Ext.alloc wr _).trans (Ext.drew _)
      refine hK.out _ _ (xa.cell v3) ?_
      (try simp only [Act.put, List.setIfInBounds_toArray, List.set_cons_zero, List.set_cons_succ])
      clear hK K
      refine wpAnyM_ready [13] (by kernel_rfl) rfl ?_
      refine AllM.cons rfl rfl (fun K hK => ?_) AllM.nil
      refine wp_append_lies _ _ _ _ rfl (w1.heap.size + 1) 26 iR _ 4 56 Try.underlying24 hiR zR0 zR1 zR2 rfl (by omega) (.slice a4 k c4) k (cellsR ww k) rfl ((OWN.out.alloc _).drew) ⟨wr.heap.size, 0, none⟩ 1 1 [.string (⟨#[112]⟩ ++ hexs.extract k k1), .int .i64 ww, .int .i64 p, .slice none 0 0] rfl rfl (World.news_of_block (cs := #[.string (⟨#[112]⟩ ++ hexs.extract k k1), .int .i64 ww, .int .i64 p, .slice none 0 0]) (t := 26) (fr := (0, 0)) (heap_alloc_new wr _)) (by simp [Value.oneCell']) (by omega) (by unfold maxLen; omega) (by omega) (by simp; omega) (wr.heap.size + 1) (by simp) ?_
      intro gg cap4 wa hown hgrow hat hlt4
      have ka : Keep (fun q => (Value.slice a4 k c4).ownBlock = some q) wr wa := Keep.ofGrown xa hgrow (fun q e => e)
      have v3' := ka.cell v3 nR
      have f3' : wa.frozen? ⟨w1.heap.size, 3, none⟩ = false := by rw [World.frozen?_of_block (w := wr) (ka.block _ lR nR)]; exact f3
      refine hK.out _ _ v3' ?_
      (try simp only [Act.put, List.setIfInBounds_toArray, List.set_cons_zero, List.set_cons_succ])
      clear hK K hS
      have hS := v3'
      refine wpAnyM_take (v := ?_) 14 rfl (by kernel_rfl) (fun _ _ _ h => h) hS rfl ?_ ?_; rotate_left; · (intro w hSw; (try dsimp only at hSw); go_simp; try with_reducible rfl)
      (try simp only [Act.put, List.setIfInBounds_toArray, List.set_cons_zero, List.set_cons_succ])
      refine wpAnyM_ready [15] (by kernel_rfl) rfl ?_
      refine AllM.late rfl rfl (by kernel_rfl) (fun K hK => ?_) AllM.nil
      go_simp
      refine hK.out _ _ ?_
      (try simp only [Act.put, List.setIfInBounds_toArray, List.set_cons_zero, List.set_cons_succ])
      clear hK K
      refine wpAnyM_done (by kernel_rfl) ?_ _
      have kb := Keep.setCell (fun q => q = w1.heap.size) wa ⟨w1.heap.size, 3, none⟩ (.slice (some ⟨gg, 0, none⟩) (k + 1) cap4) rfl
      have bva : wa.heap[w1.heap.size]? = some (.cells #[.string ⟨#[119, 105, 100, 101]⟩, .int .i64 64, .int .i64 0, .slice a4 k c4] 26 (0, 0)) := by rw [ka.block _ lR nR]; exact BV.out
      have key : Ext w1 (wa.setCell ⟨w1.heap.size, 3, none⟩ (.slice (some ⟨gg, 0, none⟩) (k + 1) cap4)) ∧ w1.heap.size + 1 ≤ (wa.setCell ⟨w1.heap.size, 3, none⟩ (.slice (some ⟨gg, 0, none⟩) (k + 1) cap4)).heap.size ∧ ∃ v, (wa.setCell ⟨w1.heap.size, 3, none⟩ (.slice (some ⟨gg, 0, none⟩) (k + 1) cap4)).heap[w1.heap.size]? = some (.cells #[.string ⟨#[119, 105, 100, 101]⟩, .int .i64 64, .int .i64 0, v] 26 (0, 0)) ∧ (wa.setCell ⟨w1.heap.size, 3, none⟩ (.slice (some ⟨gg, 0, none⟩) (k + 1) cap4)).ownsRow (w1.heap.size + 1) 26 4 v (k + 1) (cellsR ww (k + 1)) := by
        refine ⟨(XW.out.keep ka (fun q e => by have := (OWN.out.lt q e).1; omega)).keep kb (fun q (e : q = w1.heap.size) => by omega), by have := ka.size; have := kb.size; omega, .slice (some ⟨gg, 0, none⟩) (k + 1) cap4, heap_set_cells bva 3 _, ?_⟩
        rw [cellsR_succ, hnm.out, PK.out]
        exact owns_same hown (fun q e => kb.block q (hown.lt q e).2 (fun (h : q = w1.heap.size) => by have := (hown.lt q e).1; omega))
      have KEY := Lib.hid key
      clear key hown hgrow xa v3' f3' ka kb bva hnm e3 e4 m1 OWN BV v3 f3 hS nR
      go_wp2_with fail
      go_roundw
      case rel => exact ⟨k + 1, by omega, by go_num, KEY⟩
      case measure => simp [intOf]; omega
    · obtain rfl : k = nn := by omega
      clear hbv
      go_wp2_with fail
      refine hK1h.out _ _ ?_
      have r0 : wr.cell? ⟨w1.heap.size, 0, none⟩ = some (.string ⟨#[119, 105, 100, 101]⟩) := by simp [World.cell?, BV.out]
      have r1 : wr.cell? ⟨w1.heap.size, 1, none⟩ = some (.int .i64 64) := by simp [World.cell?, BV.out]
      have r2 : wr.cell? ⟨w1.heap.size, 2, none⟩ = some (.int .i64 0) := by simp [World.cell?, BV.out]
      have r3 : wr.cell? ⟨w1.heap.size, 3, none⟩ = some (.slice a4 k c4) := by simp [World.cell?, BV.out]
      have f64 : ∀ n : Nat, n ≤ 1024 → fits64 n := fun n h => ⟨by omega, by omega⟩
      have hreg : Hid (RegsIn (wr.alloc (.cells #[.string ⟨#[119, 105, 100, 101]⟩, .int .i64 64, .int .i64 0, .slice a4 k c4] 26)) (wr.alloc (.cells #[.string ⟨#[119, 105, 100, 101]⟩, .int .i64 64, .int .i64 0, .slice a4 k c4] 26)).heap.size (.slice (some ⟨wr.heap.size, 0, none⟩) 1 1) [rowT ww k]) := Lib.hid (by
        refine RegsIn.lit [rowT ww k] [.slice a4 k c4] (heap_alloc_new wr _) (by simp) rfl rfl (by show 1 ≤ maxLen; decide) (fun r hr => ?_) (one_sub ?_)
        · simp at hr; subst hr; exact ⟨f64 64 (by omega), f64 0 (by omega)⟩
        · refine (RegsIn.ext (W := wr) (n0 := wr.heap.size) ?_ (Ext.alloc _ _) (Nat.le_refl _)).up (by simp)
          refine .mk (List.replicate k (.slice none 0 0)) (by simp [rowT, RegT.subs, subsR_len]) ?_ (fun q e => (OWN.out.lt q e).2) (fun r hr => ?_) (fun i r u hr hu => ?_)
          · have := Row.of_owns OWN.out
            unfold cellsR at this
            show Row wr 4 _ (subsR ww k).length _
            rw [subsR_len]; exact this
          · obtain ⟨i, hi, rfl⟩ := List.mem_map.1 hr
            have hi' := List.mem_range.1 hi
            have : i * ww ≤ 16 * 64 := Nat.mul_le_mul (by omega) (by omega)
            exact ⟨f64 ww (by omega), f64 (i * ww) (by omega)⟩
          · obtain ⟨i, hi, rfl⟩ := List.mem_map.1 (List.mem_of_getElem? hr)
            have : u = .slice none 0 0 := List.eq_of_mem_replicate (List.mem_of_getElem? hu)
            subst this; exact RegsIn.nil _ _)
      have XA := Lib.hid (X1.out.trans (XW.out.trans (Ext.alloc wr (.cells #[.string ⟨#[119, 105, 100, 101]⟩, .int .i64 64, .int .i64 0, .slice a4 k c4] 26))))
      clear OWN BV f64
      go_wp2_with fail
      refine (places_any [rowT ww k] _ 1 1 _ hreg.out).mono ?_
      intro e w3 hpost
      obtain ⟨aN, nN, cN, gP, cP, rfl, x3, hcP, ⟨z0, z1, z2⟩, hcell⟩ := postR ww k (by omega) (by omega) (by omega) (by omega) (by rw [HM.out]; omega) _ _ _ hpost
      have X3 := Lib.hid (XA.out.trans x3)
      have HC := Lib.hid hcell
      clear hpost x3 hcell hreg XA r0 r1 r2 r3
      go_wp2_with fail
      refine (num5_any _ _).mono ?_
      rintro e w4 ⟨rfl, rfl⟩
      go_wp2_with fail
      have st2 : Hid (Ext w3 w3) := Lib.hid (Ext.refl _)
      go_loopw [11] (fun v wr => ∃ (i : Nat), 1 ≤ i ∧ i ≤ k + 1 ∧ v = .int .i64 i ∧ Hid (Ext w3 wr)) (fun v _ => k + 1 - (intOf v).toNat)
      case atStart => exact ⟨1, by omega, by omega, rfl, st2⟩
      case round =>
        clear st2
        obtain ⟨i, hi1, hi2, rfl, hex⟩ := hrel
        by_cases hlt : i ≤ k
        case neg =>
          have hb : Hid (Below w.heap.size w wr) := Lib.hid (X3.out.trans hex.out)
          go_wp2_with fail
          go_ret
          exact ⟨rfl, hb.out⟩
        obtain ⟨j, hj⟩ : ∃ j, i = j + 1 := ⟨i - 1, by omega⟩
        obtain ⟨q, hq⟩ : ∃ q, j * ww = q := ⟨_, rfl⟩
        obtain ⟨c0, c1, c2⟩ := HC.out j (by omega)
        rw [← hj, hq] at c1
        rw [← hj] at c0 c2
        have hroom : q + ww ≤ 64 := by rw [← hq]; exact mul_room (n := k) (by omega) (by rw [HM.out]; omega)
        have L1 := Lib.hid (lapR_wide (a := q) (w := ww) (by omega) hroom)
        have L2 := Lib.hid (withinR_wide (a := q) (w := ww) (by omega) hroom)
        have e5 : IntKind.i64.wrap ((i : Int) - 1) = (j : Int) := by rw [IntWalk.i64_in _ (by omega)]; omega
        have e6 : IntKind.i64.wrap ((j : Int) * (ww : Int)) = (q : Int) := by rw [show (j : Int) * (ww : Int) = (q : Int) by rw [← hq]; simp]; exact IntWalk.i64_in _ (by omega)
        have fA : Pl.fit ⟨0, 0, 64⟩ := ⟨⟨by decide, by decide⟩, ⟨by decide, by decide⟩, ⟨by decide, by decide⟩⟩
        have fB : Pl.fit ⟨0, q, ww⟩ := by refine ⟨⟨?_, ?_⟩, ⟨?_, ?_⟩, ⟨?_, ?_⟩⟩ <;> simp only [] <;> omega
        have JQ := Lib.hid hq
        have IJ := Lib.hid hj
        clear hq hj
        have d0 := hex.out.cell z0
        have d1 := hex.out.cell z1
        have d2 := hex.out.cell z2
        have c0 := hex.out.cell c0
        have c1 := hex.out.cell c1
        have c2 := hex.out.cell c2
        have b0 : (0 : Int) ≤ i := by omega
        have b1 : (i : Int) < ((k + 1 : Nat) : Int) := by omega
        have b1' : (i : Int) < (k : Int) + 1 := by omega
        have b2 : (0 : Int) < (k : Int) + 1 := by omega
        go_wp2_with fail
        refine wp_region_M (fun w' => w'.cell? ⟨gP, 0, none⟩ = some (.int .i64 0) ∧ w'.cell? ⟨gP, 1, none⟩ = some (.int .i64 0) ∧ w'.cell? ⟨gP, 2, none⟩ = some (.int .i64 64) ∧ w'.cell? ⟨gP, i * 3, none⟩ = some (.int .i64 0) ∧ w'.cell? ⟨gP, i * 3 + 1, none⟩ = some (.int .i64 q) ∧ w'.cell? ⟨gP, i * 3 + 2, none⟩ = some (.int .i64 ww)) 32 (by kernel_rfl) ⟨d0, d1, d2, c0, c1, c2⟩ (fun hS => ?_)
        refine wpAnyM_take (v := ?_) 0 rfl (by kernel_rfl) (fun _ _ _ h => h) hS rfl ?_ ?_; rotate_left; · (intro w hSw; (try dsimp only at hSw); go_simp; try with_reducible rfl)
        (try simp only [Act.put, List.setIfInBounds_toArray, List.set_cons_zero, List.set_cons_succ])
        refine wpAnyM_take (v := ?_) 1 rfl (by kernel_rfl) (fun _ _ _ h => h) hS rfl ?_ ?_; rotate_left; · (intro w hSw; (try dsimp only at hSw); go_simp; try with_reducible rfl)
        (try simp only [Act.put, List.setIfInBounds_toArray, List.set_cons_zero, List.set_cons_succ])
        refine wpAnyM_take (v := ?_) 2 rfl (by kernel_rfl) (fun _ _ _ h => h) hS rfl ?_ ?_; rotate_left; · (intro w hSw; (try dsimp only at hSw); go_simp; try with_reducible rfl)
        (try simp only [Act.put, List.setIfInBounds_toArray, List.set_cons_zero, List.set_cons_succ])
        refine wpAnyM_take (v := ?_) 3 rfl (by kernel_rfl) (fun _ _ _ h => h) hS rfl ?_ ?_; rotate_left; · (intro w hSw; (try dsimp only at hSw); go_simp; try with_reducible rfl)
        (try simp only [Act.put, List.setIfInBounds_toArray, List.set_cons_zero, List.set_cons_succ])
        refine wpAnyM_take (v := ?_) 4 rfl (by kernel_rfl) (fun _ _ _ h => h) hS rfl ?_ ?_; rotate_left; · (intro w hSw; (try dsimp only at hSw); go_simp; try with_reducible rfl)
        (try simp only [Act.put, List.setIfInBounds_toArray, List.set_cons_zero, List.set_cons_succ])
        refine wpAnyM_take (v := ?_) 5 rfl (by kernel_rfl) (fun _ _ _ h => h) hS rfl ?_ ?_; rotate_left; · (intro w hSw; (try dsimp only at hSw); go_simp; try with_reducible rfl)
        (try simp only [Act.put, List.setIfInBounds_toArray, List.set_cons_zero, List.set_cons_succ])
        refine wpAnyM_take (v := ?_) 6 rfl (by kernel_rfl) (fun _ _ _ h => h) hS rfl ?_ ?_; rotate_left; · (intro w hSw; (try dsimp only at hSw); go_simp; try with_reducible rfl)
        (try simp only [Act.put, List.setIfInBounds_toArray, List.set_cons_zero, List.set_cons_succ])
        refine wpAnyM_take (v := ?_) 7 rfl (by kernel_rfl) (fun _ _ _ h => h) hS rfl ?_ ?_; rotate_left; · (intro w hSw; (try dsimp only at hSw); go_simp; try with_reducible rfl)
        (try simp only [Act.put, List.setIfInBounds_toArray, List.set_cons_zero, List.set_cons_succ])
        refine wpAnyM_take (v := ?_) 8 rfl (by kernel_rfl) (fun _ _ _ h => h) hS rfl ?_ ?_; rotate_left; · (intro w hSw; (try dsimp only at hSw); go_simp; try with_reducible rfl)
        (try simp only [Act.put, List.setIfInBounds_toArray, List.set_cons_zero, List.set_cons_succ])
        refine wpAnyM_take (v := ?_) 9 rfl (by kernel_rfl) (fun _ _ _ h => h) hS rfl ?_ ?_; rotate_left; · (intro w hSw; (try dsimp only at hSw); go_simp; try with_reducible rfl)
        (try simp only [Act.put, List.setIfInBounds_toArray, List.set_cons_zero, List.set_cons_succ])
        refine wpAnyM_take (v := ?_) 10 rfl (by kernel_rfl) (fun _ _ _ h => h) hS rfl ?_ ?_; rotate_left; · (intro w hSw; (try dsimp only at hSw); go_simp; try with_reducible rfl)
        (try simp only [Act.put, List.setIfInBounds_toArray, List.set_cons_zero, List.set_cons_succ])
        refine wpAnyM_take (v := ?_) 11 rfl (by kernel_rfl) (fun _ _ _ h => h) hS rfl ?_ ?_; rotate_left; · (intro w hSw; (try dsimp only at hSw); go_simp; try with_reducible rfl)
        (try simp only [Act.put, List.setIfInBounds_toArray, List.set_cons_zero, List.set_cons_succ])
        refine wpAnyM_take (v := ?_) 12 rfl (by kernel_rfl) (fun _ _ _ h => h) hS rfl ?_ ?_; rotate_left; · (intro w hSw; (try dsimp only at hSw); go_simp; try with_reducible rfl)
        (try simp only [Act.put, List.setIfInBounds_toArray, List.set_cons_zero, List.set_cons_succ])
        refine wpAnyM_take (v := ?_) 13 rfl (by kernel_rfl) (fun _ _ _ h => h) hS rfl ?_ ?_; rotate_left; · (intro w hSw; (try dsimp only at hSw); go_simp; try with_reducible rfl)
        (try simp only [Act.put, List.setIfInBounds_toArray, List.set_cons_zero, List.set_cons_succ])
        refine wpAnyM_take (v := ?_) 14 rfl (by kernel_rfl) (fun _ _ _ h => h) hS rfl ?_ ?_; rotate_left; · (intro w hSw; (try dsimp only at hSw); go_simp; try with_reducible rfl)
        (try simp only [Act.put, List.setIfInBounds_toArray, List.set_cons_zero, List.set_cons_succ])
        refine wpAnyM_take (v := ?_) 15 rfl (by kernel_rfl) (fun _ _ _ h => h) hS rfl ?_ ?_; rotate_left; · (intro w hSw; (try dsimp only at hSw); go_simp; try with_reducible rfl)
        (try simp only [Act.put, List.setIfInBounds_toArray, List.set_cons_zero, List.set_cons_succ])
        refine wpAnyM_take (v := ?_) 16 rfl (by kernel_rfl) (fun _ _ _ h => h) hS rfl ?_ ?_; rotate_left; · (intro w hSw; (try dsimp only at hSw); go_simp; try with_reducible rfl)
        (try simp only [Act.put, List.setIfInBounds_toArray, List.set_cons_zero, List.set_cons_succ])
        refine wpAnyM_take (v := ?_) 17 rfl (by kernel_rfl) (fun _ _ _ h => h) hS rfl ?_ ?_; rotate_left; · (intro w hSw; (try dsimp only at hSw); go_simp; try with_reducible rfl)
        (try simp only [Act.put, List.setIfInBounds_toArray, List.set_cons_zero, List.set_cons_succ])
        refine wpAnyM_take (v := ?_) 18 rfl (by kernel_rfl) (fun _ _ _ h => h) hS rfl ?_ ?_; rotate_left; · (intro w hSw; (try dsimp only at hSw); go_simp; try with_reducible rfl)
        (try simp only [Act.put, List.setIfInBounds_toArray, List.set_cons_zero, List.set_cons_succ])
        refine wpAnyM_ready [19] (by kernel_rfl) rfl ?_
        refine AllM.cons rfl rfl (fun K hK => ?_) AllM.nil
        go_simp
        refine (lap_any ⟨0, 0, 64⟩ ⟨0, q, ww⟩ _ fA fB).mono ?_
        rintro e wb ⟨rfl, hb⟩
        rw [L1.out]
        have xb : Ext wr wb := (Ext.drew wr).trans hb
        have S1 : (fun w' => w'.cell? ⟨gP, 0, none⟩ = some (.int .i64 0) ∧ w'.cell? ⟨gP, 1, none⟩ = some (.int .i64 0) ∧ w'.cell? ⟨gP, 2, none⟩ = some (.int .i64 64) ∧ w'.cell? ⟨gP, i * 3, none⟩ = some (.int .i64 0) ∧ w'.cell? ⟨gP, i * 3 + 1, none⟩ = some (.int .i64 q) ∧ w'.cell? ⟨gP, i * 3 + 2, none⟩ = some (.int .i64 ww)) wb := ⟨xb.cell d0, xb.cell d1, xb.cell d2, xb.cell c0, xb.cell c1, xb.cell c2⟩
        refine hK.out _ _ S1 ?_
        (try simp only [Act.put, List.setIfInBounds_toArray, List.set_cons_zero, List.set_cons_succ])
        clear hK K hS
        have hS := S1
        refine wpAnyM_take (v := ?_) 20 rfl (by kernel_rfl) (fun _ _ _ h => h) hS rfl ?_ ?_; rotate_left; · (intro w hSw; (try dsimp only at hSw); go_simp; try with_reducible rfl)
        (try simp only [Act.put, List.setIfInBounds_toArray, List.set_cons_zero, List.set_cons_succ])
        refine wpAnyM_take (v := ?_) 21 rfl (by kernel_rfl) (fun _ _ _ h => h) hS rfl ?_ ?_; rotate_left; · (intro w hSw; (try dsimp only at hSw); go_simp; try with_reducible rfl)
        (try simp only [Act.put, List.setIfInBounds_toArray, List.set_cons_zero, List.set_cons_succ])
        refine wpAnyM_take (v := ?_) 22 rfl (by kernel_rfl) (fun _ _ _ h => h) hS rfl ?_ ?_; rotate_left; · (intro w hSw; (try dsimp only at hSw); go_simp; try with_reducible rfl)
        (try simp only [Act.put, List.setIfInBounds_toArray, List.set_cons_zero, List.set_cons_succ])
        refine wpAnyM_take (v := ?_) 23 rfl (by kernel_rfl) (fun _ _ _ h => h) hS rfl ?_ ?_; rotate_left; · (intro w hSw; (try dsimp only at hSw); go_simp; try with_reducible rfl)
        (try simp only [Act.put, List.setIfInBounds_toArray, List.set_cons_zero, List.set_cons_succ])
        refine wpAnyM_take (v := ?_) 24 rfl (by kernel_rfl) (fun _ _ _ h => h) hS rfl ?_ ?_; rotate_left; · (intro w hSw; (try dsimp only at hSw); go_simp; try with_reducible rfl)
        (try simp only [Act.put, List.setIfInBounds_toArray, List.set_cons_zero, List.set_cons_succ])
        refine wpAnyM_take (v := ?_) 25 rfl (by kernel_rfl) (fun _ _ _ h => h) hS rfl ?_ ?_; rotate_left; · (intro w hSw; (try dsimp only at hSw); go_simp; try with_reducible rfl)
        (try simp only [Act.put, List.setIfInBounds_toArray, List.set_cons_zero, List.set_cons_succ])
        refine wpAnyM_take (v := ?_) 26 rfl (by kernel_rfl) (fun _ _ _ h => h) hS rfl ?_ ?_; rotate_left; · (intro w hSw; (try dsimp only at hSw); go_simp; try with_reducible rfl)
        (try simp only [Act.put, List.setIfInBounds_toArray, List.set_cons_zero, List.set_cons_succ])
        refine wpAnyM_take (v := ?_) 27 rfl (by kernel_rfl) (fun _ _ _ h => h) hS rfl ?_ ?_; rotate_left; · (intro w hSw; (try dsimp only at hSw); go_simp; try with_reducible rfl)
        (try simp only [Act.put, List.setIfInBounds_toArray, List.set_cons_zero, List.set_cons_succ])
        refine wpAnyM_take (v := ?_) 28 rfl (by kernel_rfl) (fun _ _ _ h => h) hS rfl ?_ ?_; rotate_left; · (intro w hSw; (try dsimp only at hSw); go_simp; try with_reducible rfl)
        (try simp only [Act.put, List.setIfInBounds_toArray, List.set_cons_zero, List.set_cons_succ])
        refine wpAnyM_take (v := ?_) 29 rfl (by kernel_rfl) (fun _ _ _ h => h) hS rfl ?_ ?_; rotate_left; · (intro w hSw; (try dsimp only at hSw); go_simp; try with_reducible rfl)
        (try simp only [Act.put, List.setIfInBounds_toArray, List.set_cons_zero, List.set_cons_succ])
        refine wpAnyM_ready [30] (by kernel_rfl) rfl ?_
        refine AllM.cons rfl rfl (fun K hK => ?_) AllM.nil
        go_simp
        refine (within_any ⟨0, q, ww⟩ ⟨0, 0, 64⟩ _ fB fA).mono ?_
        rintro e wd ⟨rfl, hb2⟩
        rw [L2.out]
        have xd : Ext wr wd := xb.trans hb2
        have S2 : (fun w' => w'.cell? ⟨gP, 0, none⟩ = some (.int .i64 0) ∧ w'.cell? ⟨gP, 1, none⟩ = some (.int .i64 0) ∧ w'.cell? ⟨gP, 2, none⟩ = some (.int .i64 64) ∧ w'.cell? ⟨gP, i * 3, none⟩ = some (.int .i64 0) ∧ w'.cell? ⟨gP, i * 3 + 1, none⟩ = some (.int .i64 q) ∧ w'.cell? ⟨gP, i * 3 + 2, none⟩ = some (.int .i64 ww)) wd := ⟨xd.cell d0, xd.cell d1, xd.cell d2, xd.cell c0, xd.cell c1, xd.cell c2⟩
        refine hK.out _ _ S2 ?_
        (try simp only [Act.put, List.setIfInBounds_toArray, List.set_cons_zero, List.set_cons_succ])
        clear hK K hS
        have hS := S2
        refine wpAnyM_take (v := ?_) 31 rfl (by kernel_rfl) (fun _ _ _ h => h) hS rfl ?_ ?_; rotate_left; · (intro w hSw; (try dsimp only at hSw); go_simp; try with_reducible rfl)
        (try simp only [Act.put, List.setIfInBounds_toArray, List.set_cons_zero, List.set_cons_succ])
        refine wpAnyM_ready [32] (by kernel_rfl) rfl ?_
        refine AllM.late rfl rfl (by kernel_rfl) (fun K hK => ?_) AllM.nil
        go_simp
        refine hK.out _ _ ?_
        (try simp only [Act.put, List.setIfInBounds_toArray, List.set_cons_zero, List.set_cons_succ])
        clear hK K hS S1 S2
        refine wpAnyM_done (by kernel_rfl) ?_ _
        have XD := Lib.hid (hex.out.trans xd)
        clear hb hb2 xb xd hex d0 d1 d2 e5 e6 c0 c1 c2
        go_wp2_with fail
        have st3 : Hid (Ext w3 wd) := XD
        clear XD
        go_loopw [12] (fun v wr => ∃ (h : Nat), 1 ≤ h ∧ h ≤ i ∧ v = .int .i64 h ∧ Hid (Ext w3 wr)) (fun v _ => i - (intOf v).toNat)
        case atStart => exact ⟨1, by omega, by omega, rfl, st3⟩
        case round =>
          clear st3
          obtain ⟨h, hh1, hh2, rfl, hex⟩ := hrel
          by_cases hlt2 : h < i
          case neg =>
            go_wp2_with fail
            go_roundw
            case rel => exact ⟨i + 1, by omega, by omega, by go_num, hex⟩
            case measure => simp [intOf]; omega
          obtain ⟨j2, hj2⟩ : ∃ j, h = j + 1 := ⟨h - 1, by omega⟩
          obtain ⟨q2, hq2⟩ : ∃ q, j2 * ww = q := ⟨_, rfl⟩
          obtain ⟨c0, c1, c2⟩ := HC.out j (by have := IJ.out; omega)
          rw [← IJ.out, JQ.out] at c1
          rw [← IJ.out] at c0 c2
          obtain ⟨f0, f1, f2⟩ := HC.out j2 (by omega)
          rw [← hj2, hq2] at f1
          rw [← hj2] at f0 f2
          have hap : q2 + ww ≤ q := by rw [← hq2, ← JQ.out]; exact mul_apart (by have := IJ.out; omega)
          have L3 := Lib.hid (lapR_apart (a := q) (b := q2) (w := ww) hap (by omega))
          have fC : Pl.fit ⟨0, q2, ww⟩ := by refine ⟨⟨?_, ?_⟩, ⟨?_, ?_⟩, ⟨?_, ?_⟩⟩ <;> simp only [] <;> omega
          clear hq2 hj2
          have c0 := hex.out.cell c0
          have c1 := hex.out.cell c1
          have c2 := hex.out.cell c2
          have f0 := hex.out.cell f0
          have f1 := hex.out.cell f1
          have f2 := hex.out.cell f2
          have b3 : (0 : Int) ≤ h := by omega
          have b4 : (h : Int) < (k : Int) + 1 := by omega
          go_wp2_with fail
          refine wp_region_M (fun w' => w'.cell? ⟨gP, i * 3, none⟩ = some (.int .i64 0) ∧ w'.cell? ⟨gP, i * 3 + 1, none⟩ = some (.int .i64 q) ∧ w'.cell? ⟨gP, i * 3 + 2, none⟩ = some (.int .i64 ww) ∧ w'.cell? ⟨gP, h * 3, none⟩ = some (.int .i64 0) ∧ w'.cell? ⟨gP, h * 3 + 1, none⟩ = some (.int .i64 q2) ∧ w'.cell? ⟨gP, h * 3 + 2, none⟩ = some (.int .i64 ww)) 8 (by kernel_rfl) ⟨c0, c1, c2, f0, f1, f2⟩ (fun hS => ?_)
          refine wpAnyM_take (v := ?_) 0 rfl (by kernel_rfl) (fun _ _ _ h => h) hS rfl ?_ ?_; rotate_left; · (intro w hSw; (try dsimp only at hSw); go_simp; try with_reducible rfl)
          (try simp only [Act.put, List.setIfInBounds_toArray, List.set_cons_zero, List.set_cons_succ])
          refine wpAnyM_take (v := ?_) 1 rfl (by kernel_rfl) (fun _ _ _ h => h) hS rfl ?_ ?_; rotate_left; · (intro w hSw; (try dsimp only at hSw); go_simp; try with_reducible rfl)
          (try simp only [Act.put, List.setIfInBounds_toArray, List.set_cons_zero, List.set_cons_succ])
          refine wpAnyM_take (v := ?_) 2 rfl (by kernel_rfl) (fun _ _ _ h => h) hS rfl ?_ ?_; rotate_left; · (intro w hSw; (try dsimp only at hSw); go_simp; try with_reducible rfl)
          (try simp only [Act.put, List.setIfInBounds_toArray, List.set_cons_zero, List.set_cons_succ])
          refine wpAnyM_take (v := ?_) 3 rfl (by kernel_rfl) (fun _ _ _ h => h) hS rfl ?_ ?_; rotate_left; · (intro w hSw; (try dsimp only at hSw); go_simp; try with_reducible rfl)
          (try simp only [Act.put, List.setIfInBounds_toArray, List.set_cons_zero, List.set_cons_succ])
          refine wpAnyM_take (v := ?_) 4 rfl (by kernel_rfl) (fun _ _ _ h => h) hS rfl ?_ ?_; rotate_left; · (intro w hSw; (try dsimp only at hSw); go_simp; try with_reducible rfl)
          (try simp only [Act.put, List.setIfInBounds_toArray, List.set_cons_zero, List.set_cons_succ])
          refine wpAnyM_take (v := ?_) 5 rfl (by kernel_rfl) (fun _ _ _ h => h) hS rfl ?_ ?_; rotate_left; · (intro w hSw; (try dsimp only at hSw); go_simp; try with_reducible rfl)
          (try simp only [Act.put, List.setIfInBounds_toArray, List.set_cons_zero, List.set_cons_succ])
          refine wpAnyM_take (v := ?_) 6 rfl (by kernel_rfl) (fun _ _ _ h => h) hS rfl ?_ ?_; rotate_left; · (intro w hSw; (try dsimp only at hSw); go_simp; try with_reducible rfl)
          (try simp only [Act.put, List.setIfInBounds_toArray, List.set_cons_zero, List.set_cons_succ])
          refine wpAnyM_take (v := ?_) 7 rfl (by kernel_rfl) (fun _ _ _ h => h) hS rfl ?_ ?_; rotate_left; · (intro w hSw; (try dsimp only at hSw); go_simp; try with_reducible rfl)
          (try simp only [Act.put, List.setIfInBounds_toArray, List.set_cons_zero, List.set_cons_succ])
          refine wpAnyM_ready [8] (by kernel_rfl) rfl ?_
          refine AllM.late rfl rfl (by kernel_rfl) (fun K hK => ?_) AllM.nil
          go_simp
          refine (lap_any ⟨0, q, ww⟩ ⟨0, q2, ww⟩ _ fB fC).mono ?_
          rintro e we ⟨rfl, hb⟩
          rw [L3.out]
          have XE := Lib.hid (hex.out.trans ((Ext.drew wr).trans hb))
          refine hK.out _ _ ?_
          (try simp only [Act.put, List.setIfInBounds_toArray, List.set_cons_zero, List.set_cons_succ])
          clear hK K hS hb hex c0 c1 c2 f0 f1 f2
          refine wpAnyM_done (by kernel_rfl) ?_ _
          go_wp2_with fail
          go_roundw
          case rel => exact ⟨h + 1, by omega, by omega, by go_num, XE⟩
          case measure => simp [intOf]; omega
end Go.Proofs.Ytocloacbbbhkcaa
