/- One step of the walker, walked. -/
import Derived.Test.YtocloacbbbhkcaaOneLoop
namespace Go.Proofs.Ytocloacbbbhkcaa
open Go.RowKit

/-- What holds of the walker's state at all times. -/
structure Wk.Good (σ : Wk) : Prop where
  lp : σ.places.length = σ.names.length
  ro : 0 ≤ σ.roots ∧ σ.roots ≤ 200
  ln : σ.names.length ≤ 200
  rn : σ.roots ≤ σ.names.length
  wy : ∀ (j : Nat) (x : Pl × List Pl), σ.ways[j]? = some x → (0 ≤ x.1.root ∧ x.1.root ≤ 200) ∧ (0 ≤ x.1.beg ∧ 0 ≤ x.1.width ∧ x.1.beg + x.1.width ≤ 64)
  wi : ∀ (j : Nat) (x : Pl × List Pl), σ.ways[j]? = some x → x.2.length ≤ σ.names.length ∧ ∀ q ∈ x.2, q.fit
theorem ways_took (ways : List (Pl × List Pl)) (i : Nat) (x : Pl × List Pl) (p : Pl) (hx : ways[i]? = some x) : (ways.take (i + 1)).set i (x.1, x.2 ++ [p]) ++ [(p, [])] = ways.take i ++ [(x.1, x.2 ++ [p]), (p, [])] := by
  have hi : i < ways.length := (List.getElem?_eq_some_iff.1 hx).1
  have e : ways.take (i + 1) = ways.take i ++ [x] := by
    rw [List.take_add_one, hx]; rfl
  rw [e, List.set_append, if_neg (by simp; omega)]
  simp only [List.length_take, Nat.min_eq_left (Nat.le_of_lt hi), Nat.sub_self, List.set_cons_zero, List.append_assoc, List.cons_append, List.nil_append]
theorem oneS_eq {σ : Wk} {name : ByteArray} {width beg : Int} {i : Nat} {x : Pl × List Pl} {p : Pl} {roots : Int} (g1 : (i : Int) + 1 ≤ 6) (hn : σ.names.length < 200) (h1 : namedS name = true) (h2 : memB name σ.names = false) (hw : 1 ≤ width ∧ width ≤ 64 ∧ 0 ≤ beg)
    (hp : placeS σ (i + 1) width beg = .ok (p, roots)) (hx : σ.ways[i]? = some x) :
    oneS σ name width beg (i + 1) = if x.2.any (lapS p) then .error 7 else .ok { names := σ.names ++ [name], places := σ.places ++ [p], ways := (σ.ways.take (i + 1)).set i (x.1, x.2 ++ [p]) ++ [(p, [])], roots := roots } := by
  unfold oneS
  rw [if_neg (by omega), if_neg (by omega), if_neg (by rw [h1, h2]; simp), if_neg (by simpa using hw), hp]
  have e : within σ (i + 1) = x.2 := by simp [within, hx]
  have e2 : tookS σ name (i + 1) p roots = { names := σ.names ++ [name], places := σ.places ++ [p], ways := (σ.ways.take (i + 1)).set i (x.1, x.2 ++ [p]) ++ [(p, [])], roots := roots } := by
    rw [ways_took _ _ _ _ hx]; simp [tookS, hx]
  simp only [e, e2]

theorem quiet_same {P : Program} {f : FuncId} {args : Array Value} {w : World} {n : Nat} {v : Value} (h : Calls P f args (w.drewN n) fun e w' => e = .returned v ∧ w.drewN n = w') : Calls P f args (w.drewN n) fun e w'' => e = .returned v ∧ ∃ m, w'' = w.drewN m :=
  h.mono fun _ _ ⟨he, hm⟩ => ⟨he, n, hm.symm⟩
theorem zero_int (w : World) : (zeroValue 3).run Try.prog w = .ok (.int .i64 0) w := by kernel_rfl

theorem look_any {w : World} {bw bm : Nat} {vN vP vW : Value} {ws : List Value} {σ : Wk} (h : WkIn w bw bm vN vP vW ws σ) (name : ByteArray) :
    ∃ lk : Int, ∀ (o : Obj) (n : Nat), Sem.run Try.prog (Instr.lookup 43 (.map (some bm)) (.string name) true) ((w.alloc o).drewN n) = .ok (.tuple #[.int .i64 lk, .bool (memB name σ.names)]) ((w.alloc o).drewN n) := by
  have hb : ∀ (o : Obj) (n : Nat), ((w.alloc o).drewN n).heap[bm]? = some (.map (ents σ.names).toArray σ.names.length) := fun o n => ((h.ext (Ext.alloc w o)).ext (Ext.drewN _ n)).mp
  cases hm : memB name σ.names with
  | false =>
    refine ⟨0, fun o n => ?_⟩
    exact run_lookup_no 43 9 3 Try.underlying43 Try.underlying9 _ _ _ _ _ _ (hb o n) (ents_str _) (ents_none _ _ (fun x => by rw [(memB_iff _ _).2 x] at hm; cases hm)) zero_int
  | true =>
    obtain ⟨n0, hn0⟩ := ents_some σ.names name ((memB_iff _ _).1 hm)
    exact ⟨n0, fun o n => run_lookup_ok 43 9 3 Try.underlying43 Try.underlying9 _ _ _ _ _ _ (hb o n) (ents_str _) hn0⟩

set_option maxRecDepth 100000 in
set_option maxHeartbeats 2000000 in
theorem one_any (bw bm bW capW : Nat) (vN vP : Value) (ws : List Value) (σ : Wk) (name : ByteArray) (width beg : Int) (vS : Value) (i : Nat) (w : World)
    (hK : WkIn w bw bm vN vP (.slice (some ⟨bW, 0, none⟩) σ.ways.length capW) ws σ) (hd2 : i < σ.ways.length) (hlc : σ.ways.length ≤ capW)
    (hw1 : -9223372036854775808 ≤ width ∧ width ≤ 9223372036854775807) (hb1 : -9223372036854775808 ≤ beg ∧ beg ≤ 9223372036854775807) (hd7 : i < 7) (hG : σ.Good) :
    Calls Try.prog 14 #[.pointer (some ⟨bw, 0, none⟩), .agg #[.string name, .int .i64 width, .int .i64 beg, vS, .int .i64 ((i : Int) + 1)]] w
      (OnePost w bw (parts bw bm vN vP (.slice (some ⟨bW, 0, none⟩) σ.ways.length capW) ws) (oneS σ name width beg (i + 1))) := by
  obtain ⟨c0, c1, c2, c3, c4⟩ := hK.cells
  have hbw : bw < w.heap.size := hK.lt bw ⟨0, rfl⟩
  obtain ⟨lk, hlk⟩ := look_any hK name
  have KH := Lib.hid hK
  have HF := Lib.hid hG
  have hro := hG.ro
  clear hG
  clear hK
  obtain ⟨aN, nN, cN, rfl, hnN⟩ : ∃ aN nN cN, vN = .slice aN nN cN ∧ nN = σ.names.length := by
    obtain ⟨a, cap, e, _, _⟩ := (Row.of_owns KH.out.nm).shape; exact ⟨a, _, cap, e, rfl⟩
  by_cases g1 : (i : Int) + 1 ≤ 6
  case neg =>
    have E := Lib.hid (show oneS σ name width beg (i + 1) = .error 4 by unfold oneS; rw [if_pos (by omega)])
    go_enter Try.func14, Try.ntmps14
    go_wp2_with fail
    (with_reducible refine (need_no _ _).mono ?_)
    rintro e w' ⟨rfl, rfl⟩
    exact ⟨rfl, onePost_no E.out (Keep.of_ext (Ext.alloc _ _))⟩
  go_enter Try.func14, Try.ntmps14
  go_wp2_with fail
  (with_reducible refine (need_ok _ _).mono ?_)
  rintro e w' ⟨rfl, rfl⟩
  by_cases g2 : (nN : Int) < 200
  case neg =>
    have E := Lib.hid (show oneS σ name width beg (i + 1) = .error 2 by unfold oneS; rw [if_neg (by omega), if_pos (by omega)])
    have t2 : decide ((nN : Int) < 200) = false := by simp; omega
    clear hnN
    go_wp2_with fail
    (with_reducible refine (need_no _ _).mono ?_)
    rintro e w' ⟨rfl, rfl⟩
    exact ⟨rfl, onePost_no E.out (Keep.of_ext (Ext.alloc _ _))⟩
  have HN := Lib.hid hnN
  clear hnN
  go_wp2_with fail
  (with_reducible refine (need_ok _ _).mono ?_)
  rintro e w' ⟨rfl, rfl⟩
  go_wp2_with fail
  go_quiet (fail)
  go_wp2_with fail
  refine (named_any _ _).mono ?_
  rintro e w2 ⟨rfl, hb⟩
  have x2 : Ext w w2 := ((Ext.alloc w _).trans (Ext.drewN _ nq)).trans hb
  have K2 := Lib.hid (KH.out.ext x2)
  obtain ⟨d0, d1, d2, d3, d4⟩ := K2.out.cells
  have r0 : w2.cell? ⟨w.heap.size, 0, none⟩ = some (.string name) := Ext.cell hb (cell_new w _ _ 0)
  have r1 : w2.cell? ⟨w.heap.size, 1, none⟩ = some (.int .i64 width) := Ext.cell hb (cell_new w _ _ 1)
  have r2 : w2.cell? ⟨w.heap.size, 2, none⟩ = some (.int .i64 beg) := Ext.cell hb (cell_new w _ _ 2)
  have r4 : w2.cell? ⟨w.heap.size, 4, none⟩ = some (.int .i64 ((i : Int) + 1)) := Ext.cell hb (cell_new w _ _ 4)
  have g3 := K2.out.free 3
  have g4 := K2.out.free 4
  have hlt2 : w.heap.size < w2.heap.size := by have := Below.size hb; simp at this; omega
  have HX := Lib.hid x2
  clear c0 c1 c2 c3 c4 hlk hb x2
  by_cases g3' : (namedS name && !(memB name σ.names)) = true
  case neg =>
    have E := Lib.hid (show oneS σ name width beg (i + 1) = .error 5 by
      have := HN.out
      unfold oneS; rw [if_neg (by omega), if_neg (by omega), if_pos (by simpa using g3')])
    cases hnm : namedS name with
    | false =>
      go_wp2_with fail
      (with_reducible refine (need_no _ _).mono ?_)
      rintro e w' ⟨rfl, rfl⟩
      exact ⟨rfl, onePost_no E.out (Keep.of_ext HX.out)⟩
    | true =>
      have hme : memB name σ.names = true := by rw [hnm] at g3'; simpa using g3'
      clear g3'
      go_wp2_with fail
      (with_reducible refine (need_no _ _).mono ?_)
      rintro e w' ⟨rfl, rfl⟩
      exact ⟨rfl, onePost_no E.out (Keep.of_ext HX.out)⟩
  have hnm : namedS name = true := by cases h : namedS name <;> simp_all
  have hme : memB name σ.names = false := by cases h : memB name σ.names <;> simp_all
  clear g3'
  go_wp2_with fail
  (with_reducible refine (need_ok _ _).mono ?_)
  rintro e w' ⟨rfl, rfl⟩
  go_wp2_with fail
  have i1 : (0 : Int) ≤ (i : Int) + 1 := by omega
  have i2 : (i : Int) + 1 ≤ (σ.ways.length : Int) := by omega
  have i3 : (i : Int) + 1 ≤ (capW : Int) := by omega
  have i4 : ((i : Int) + 1).toNat = i + 1 := by omega
  have hne : w.heap.size ≠ bw := by omega
  go_region
  have K3 := (K2.out.cut rfl (i + 1) (by omega) (by omega)).drew
  have X3 : Keep (· = bw) w2 (w2.setCell ⟨bw, 3, none⟩ (.slice (some ⟨bW, 0, none⟩) (i + 1) capW)).drew := (Keep.setCell (· = bw) w2 ⟨bw, 3, none⟩ _ rfl).drew
  generalize (w2.setCell ⟨bw, 3, none⟩ (.slice (some ⟨bW, 0, none⟩) (i + 1) capW)).drew = w3 at K3 X3 ⊢
  have r0 := X3.cell r0 hne
  have r1 := X3.cell r1 hne
  have r2 := X3.cell r2 hne
  have r4 := X3.cell r4 hne
  have hlt3 := Nat.lt_of_lt_of_le hlt2 X3.size
  clear d0 d1 d2 d3 d4 g3 g4 hlt2
  obtain ⟨d0, d1, d2, d3, d4⟩ := K3.cells
  have g4 := K3.free 4
  have K3h := Lib.hid K3
  have X3h := Lib.hid X3
  clear K3 X3
  go_wp2_with fail
  go_quiet (fail)
  have X4 : Keep (· = bw) w2 (w3.drewN nq) := X3h.out.trans (Keep.of_ext (S := fun _ => False) (Ext.drewN w3 nq)) (fun _ _ h => h.elim)
  have K4 := K3h.out.ext (Ext.drewN w3 nq)
  have r0 := (Ext.drewN w3 nq).cell r0
  have r1 := (Ext.drewN w3 nq).cell r1
  have r2 := (Ext.drewN w3 nq).cell r2
  have r4 := (Ext.drewN w3 nq).cell r4
  have hlt4 := Nat.lt_of_lt_of_le hlt3 (Ext.drewN w3 nq).size
  generalize w3.drewN nq = w4 at X4 K4 r0 r1 r2 r4 hlt4 ⊢
  clear d0 d1 d2 d3 d4 g4 hlt3 K3h X3h
  obtain ⟨d0, d1, d2, d3, d4⟩ := K4.cells
  have g4 := K4.free 4
  have hbw4 : bw < w4.heap.size := K4.lt bw ⟨0, rfl⟩
  have K4h := Lib.hid K4
  have X4h := Lib.hid X4
  clear K4 X4
  go_wp2_with fail
  go_region
  have x5 : Ext w4 (w4.alloc (.cells #[.int .i64 σ.roots, .int .i64 beg, .int .i64 width] 34)).drew := (Ext.alloc w4 _).trans (Ext.drew _)
  have K5 := K4h.out.ext x5
  have X5 : Keep (· = bw) w2 (w4.alloc (.cells #[.int .i64 σ.roots, .int .i64 beg, .int .i64 width] 34)).drew := X4h.out.trans (Keep.of_ext (S := fun _ => False) x5) (fun _ _ h => h.elim)
  have hp : (w4.alloc (.cells #[.int .i64 σ.roots, .int .i64 beg, .int .i64 width] 34)).drew.heap[w4.heap.size]? = some (.cells #[.int .i64 σ.roots, .int .i64 beg, .int .i64 width] 34 (0, 0)) := heap_alloc_new w4 _
  have r0 := x5.cell r0
  have r1 := x5.cell r1
  have r2 := x5.cell r2
  have r4 := x5.cell r4
  have hlt5 := Nat.lt_of_lt_of_le hlt4 x5.size
  have hpn : ∀ k, Has (parts bw bm (.slice aN nN cN) vP (.slice (some ⟨bW, 0, none⟩) (i + 1) capW) (ws.take (i + 1))) k → k < w4.heap.size := K4h.out.lt
  have HPN := Lib.hid hpn
  have h24 : w2.heap.size ≤ w4.heap.size := X4h.out.size
  clear x5 hpn d0 d1 d2 d3 d4 g4 hbw4 K4h X4h
  generalize (w4.alloc (.cells #[.int .i64 σ.roots, .int .i64 beg, .int .i64 width] 34)).drew = w5 at K5 X5 hp r0 r1 r2 r4 hlt5 ⊢
  generalize w4.heap.size = bp at HPN h24 hp hlt4 ⊢
  obtain ⟨d0, d1, d2, d3, d4⟩ := K5.cells
  have g4 := K5.free 4
  have p0 : w5.cell? ⟨bp, 0, none⟩ = some (.int .i64 σ.roots) := by simp [World.cell?, hp]
  have p1 : w5.cell? ⟨bp, 1, none⟩ = some (.int .i64 beg) := by simp [World.cell?, hp]
  have p2 : w5.cell? ⟨bp, 2, none⟩ = some (.int .i64 width) := by simp [World.cell?, hp]
  have f0 : w5.frozen? ⟨bp, 0, none⟩ = false := by simp [World.frozen?, hp]
  have f1 : w5.frozen? ⟨bp, 1, none⟩ = false := by simp [World.frozen?, hp]
  have K5h := Lib.hid K5
  have X5h := Lib.hid X5
  have HP := Lib.hid hp
  clear K5 X5 hp
  have kfin : Hid (Keep (Has (parts bw bm (.slice aN nN cN) vP (.slice (some ⟨bW, 0, none⟩) σ.ways.length capW) ws)) w w5) := Lib.hid ((Keep.of_ext HX.out).trans X5h.out (fun k hk e => by subst e; exact ⟨0, rfl⟩))
  by_cases hwb : 1 ≤ width ∧ width ≤ 64 ∧ 0 ≤ beg
  case neg =>
    have E := Lib.hid (show oneS σ name width beg (i + 1) = .error 6 by
      have := HN.out
      unfold oneS; rw [if_neg (by omega), if_neg (by omega), if_neg (by rw [hnm, hme]; simp), if_pos hwb])
    by_cases q1 : 1 ≤ width
    · by_cases q2 : width ≤ 64
      · have q3 : decide (0 ≤ beg) = false := by simp; omega
        clear hwb
        go_wp2_with fail
        (with_reducible refine (need_no _ _).mono ?_)
        rintro e w' ⟨rfl, rfl⟩
        exact ⟨rfl, onePost_no E.out kfin.out⟩
      · clear hwb
        go_wp2_with fail
        (with_reducible refine (need_no _ _).mono ?_)
        rintro e w' ⟨rfl, rfl⟩
        exact ⟨rfl, onePost_no E.out kfin.out⟩
    · clear hwb
      go_wp2_with fail
      (with_reducible refine (need_no _ _).mono ?_)
      rintro e w' ⟨rfl, rfl⟩
      exact ⟨rfl, onePost_no E.out kfin.out⟩
  obtain ⟨q1, q2, q3⟩ := hwb
  go_wp2_with fail
  (with_reducible refine (need_ok _ _).mono ?_)
  rintro e w' ⟨rfl, rfl⟩
  obtain ⟨x, hx⟩ : ∃ x, σ.ways[i]? = some x := ⟨σ.ways[i], List.getElem?_eq_getElem hd2⟩
  obtain ⟨vO, hvO⟩ : ∃ v, ws[i]? = some v := ⟨ws[i]'(by rw [KH.out.lw]; exact hd2), List.getElem?_eq_getElem _⟩
  have HX1 := Lib.hid hx
  have HV1 := Lib.hid hvO
  obtain ⟨o0, o1, o2, o3, fo3⟩ := WkG.around K5h.out (i := i) (x := x) (v := vO) (by simp [hx]) (by simp [hvO])
  have hwo := WkG.wi K5h.out i x vO (by simp [hx]) (by simp [hvO])
  obtain ⟨aO, mO, cO, rfl, hmO, hmc, hmm⟩ : ∃ aO mO cO, vO = .slice aO mO cO ∧ mO = x.2.length ∧ mO ≤ cO ∧ cO ≤ maxLen := by
    obtain ⟨a, cap, e, h1, h2⟩ := (Row.of_owns hwo).shape; exact ⟨a, _, cap, e, rfl, h1, h2⟩
  have HM := Lib.hid hmO
  unfold maxLen at hmm
  clear hx hvO hwo hmO
  go_upto_if 89 with (fail)
  rename_i K1 hK1
  have hK1h := Lib.hid hK1
  clear hK1
  have hwi := HF.out.wi i x HX1.out
  have hm200 : mO < 200 := by have := HM.out; have := HN.out; omega
  have hqf := Lib.hid hwi.2
  have hpl := HF.out.lp
  have hnn := HN.out
  obtain ⟨hx0, hx1⟩ := HF.out.wy i x HX1.out
  obtain ⟨x0, x0'⟩ := hx0
  obtain ⟨x1, x2, x2'⟩ := hx1
  clear hwi
  have hlen : (σ.ways.take (i + 1)).length = i + 1 := by rw [List.length_take]; omega
  have HL := Lib.hid hlen
  have HPL := Lib.hid hpl
  clear hlen hpl hnn
  have hbp5 : Hid (¬ Has (parts bw bm (.slice aN nN cN) vP (.slice (some ⟨bW, 0, none⟩) (i + 1) capW) (ws.take (i + 1))) bp) := Lib.hid (fun h => by have := HPN.out bp h; omega)
  have hbr5 : Hid (¬ Has (parts bw bm (.slice aN nN cN) vP (.slice (some ⟨bW, 0, none⟩) (i + 1) capW) (ws.take (i + 1))) w.heap.size) := Lib.hid (fun h => by have := KH.out.lt _ (parts_cut _ h); omega)
  by_cases hi0 : i = 0
  · subst hi0
    have tz : ((0 : Nat) : Int) + 1 = 1 := by omega
    by_cases hbz : beg = 0
    case neg =>
      have E := Lib.hid (show oneS σ name width beg (0 + 1) = .error 6 by
        have := HN.out
        unfold oneS; rw [if_neg (by omega), if_neg (by omega), if_neg (by rw [hnm, hme]; simp), if_neg (by omega)]
        simp [placeS, hbz])
      have hb0 : (beg == 0) = false := by simpa using hbz
      clear hbz
      go_wp2_with fail
      (with_reducible refine (need_no _ _).mono ?_)
      rintro e w' ⟨rfl, rfl⟩
      exact ⟨rfl, onePost_no E.out kfin.out⟩
    have hb0 : (beg == 0) = true := by simpa using hbz
    have HB := Lib.hid hbz
    clear hbz
    go_wp2_with fail
    (with_reducible refine (need_ok _ _).mono ?_)
    rintro e w' ⟨rfl, rfl⟩
    have K6 := Lib.hid (K5h.out.root (σ.roots + 1))
    have k6 : Keep (fun k => k = bw) w5 (w5.setCell ⟨bw, 4, none⟩ (.int .i64 (σ.roots + 1))) := Keep.setCell _ w5 ⟨bw, 4, none⟩ _ rfl
    have hnbp : bp ≠ bw := fun e => hbp5.out (e ▸ ⟨0, rfl⟩)
    go_wp2_with fail
    refine hK1h.out _ _ ?_
    have hres := oneS_eq (x := x) (p := ⟨σ.roots, beg, width⟩) (roots := σ.roots + 1) g1 (by have := HN.out; omega) hnm hme ⟨q1, q2, q3⟩ (by simp [placeS, HB.out]) HX1.out
    refine one_loop bw bm w.heap.size bW capW bp 0 cO mO aO (.slice aN nN cN) vP (ws.take (0 + 1)) { σ with ways := σ.ways.take (0 + 1), roots := σ.roots + 1 } name ⟨σ.roots, beg, width⟩ x _ _ K6.out HL.out (by simp [HX1.out]) (by simp [HV1.out]) HM.out (by rw [k6.block bp (Array.getElem?_eq_some_iff.1 HP.out).1 hnbp]; exact HP.out) hbp5.out (k6.cell r0 (fun e => hbr5.out (e ▸ ⟨0, rfl⟩))) hbr5.out (by have := HN.out; simp only []; omega) (by have := HN.out; have := HPL.out; simp only []; omega) (by omega) hm200 hme (by refine ⟨⟨?_, ?_⟩, ⟨?_, ?_⟩, ⟨?_, ?_⟩⟩ <;> simp only [] <;> omega) hqf.out (fun e w' h => ?_) _ _ _ _ _ _ _ _ _ _ _ _ _ _ _ _ _ _ _ _ _ _ _ _ _ _ _ _ _ _ _ _ _ _ _ _ _ _ _ _ _ _ _ _ _ _ _ _ _ _ _ _ _ _ _ _ _ _ _ _ _ _ _ _ _ _ _ _ _ _ _ _ _ _ _ _ _ _ _ _ _ _ _ _ _ _ _ _ _ _ _ _ _ _ _ _ _ _ _ _ _ _ _ _ _ _ _ _ _ _ _ _ _ _ _ _ _ _ _ _ _ _ _ _ _ _ _ _ _ _ _ _ _ _ _ _ _ _ _ _ _ _ _ _ _ _ _ _ _ _ _ _ _ _ _ _ _ _ _ _ _ _ _ _ _ _ _ _ _ _ _ _ _ _ _ _ _ _ _ _ _ _ _ _ _ _ _ _ _ _ _ _ _ _ _ _ _ _
    rw [hres]
    exact OnePost.trans (kfin.out.trans k6 (fun k _ e => e ▸ ⟨0, rfl⟩)) (fun k h => Or.inl (parts_cut k h)) h
  · have hi1 : ((i : Int) + 1 == 1) = false := by rw [beq_eq_false_iff_ne]; omega
    have wr : IntKind.i64.wrap (x.1.width - width) = x.1.width - width := IntWalk.i64_in _ (by omega)
    by_cases hle : beg ≤ x.1.width - width
    case neg =>
      have tle : decide (beg ≤ x.1.width - width) = false := by simpa using hle
      have E := Lib.hid (show oneS σ name width beg (i + 1) = .error 6 by
        have := HN.out
        unfold oneS; rw [if_neg (by omega), if_neg (by omega), if_neg (by rw [hnm, hme]; simp), if_neg (by omega)]
        simp [placeS, hi0, HX1.out, hle])
      go_wp2_with fail
      refine wp_region_M (fun w' => w'.cell? ⟨w.heap.size, 2, none⟩ = some (.int .i64 beg) ∧ w'.cell? ⟨w.heap.size, 1, none⟩ = some (.int .i64 width) ∧ w'.cell? ⟨bW, i * 4 + 2, none⟩ = some (.int .i64 x.1.width)) 13 (by kernel_rfl) ⟨r2, r1, o2⟩ (fun hS => ?_)
      refine wpAnyM_take (v := ?_) 0 rfl (by kernel_rfl) (fun _ _ _ h => h) hS rfl ?_ ?_; rotate_left; · (intro w hSw; (try dsimp only at hSw); go_simp; try with_reducible rfl)
      (try simp only [Act.put, List.setIfInBounds_toArray, List.set_cons_zero, List.set_cons_succ])
      refine wpAnyM_take (v := ?_) 1 rfl (by kernel_rfl) (fun _ _ _ h => h) hS rfl ?_ ?_; rotate_left; · (intro w hSw; (try dsimp only at hSw); go_simp; try with_reducible rfl)
      (try simp only [Act.put, List.setIfInBounds_toArray, List.set_cons_zero, List.set_cons_succ])
      refine wpAnyM_take (v := ?_) 2 rfl (by kernel_rfl) (fun _ _ _ h => h) hS rfl ?_ ?_; rotate_left; · (intro w hSw; (try dsimp only at hSw); go_simp; try with_reducible rfl)
      (try simp only [Act.put, List.setIfInBounds_toArray, List.set_cons_zero, List.set_cons_succ])
      refine wpAnyM_take (v := ?_) 3 rfl (by kernel_rfl) (fun _ _ _ h => h) hS rfl ?_ ?_; rotate_left; · (intro w hSw; (try dsimp only at hSw); go_simp; try with_reducible rfl)
      (try simp only [Act.put, List.setIfInBounds_toArray, List.set_cons_zero, List.set_cons_succ])
      refine wpAnyM_take (v := ?_) 4 rfl (by kernel_rfl) (fun _ _ _ h => h) hS rfl ?_ ?_; rotate_left; · (intro w hSw; (try dsimp only at hSw); go_simp; try with_reducible rfl)
      (try simp only [Act.put, List.setIfInBounds_toArray, List.set_cons_zero, List.set_cons_succ])
      refine wpAnyM_take (v := ?_) 5 rfl (by kernel_rfl) (fun _ _ _ h => h) hS rfl ?_ ?_; rotate_left; · (intro w hSw; (try dsimp only at hSw); go_simp; try with_reducible rfl)
      (try simp only [Act.put, List.setIfInBounds_toArray, List.set_cons_zero, List.set_cons_succ])
      refine wpAnyM_take (v := ?_) 6 rfl (by kernel_rfl) (fun _ _ _ h => h) hS rfl ?_ ?_; rotate_left; · (intro w hSw; (try dsimp only at hSw); go_simp; try with_reducible rfl)
      (try simp only [Act.put, List.setIfInBounds_toArray, List.set_cons_zero, List.set_cons_succ])
      refine wpAnyM_take (v := ?_) 7 rfl (by kernel_rfl) (fun _ _ _ h => h) hS rfl ?_ ?_; rotate_left; · (intro w hSw; (try dsimp only at hSw); go_simp; try with_reducible rfl)
      (try simp only [Act.put, List.setIfInBounds_toArray, List.set_cons_zero, List.set_cons_succ])
      refine wpAnyM_take (v := ?_) 8 rfl (by kernel_rfl) (fun _ _ _ h => h) hS rfl ?_ ?_; rotate_left; · (intro w hSw; (try dsimp only at hSw); go_simp; try with_reducible rfl)
      (try simp only [Act.put, List.setIfInBounds_toArray, List.set_cons_zero, List.set_cons_succ])
      refine wpAnyM_take (v := ?_) 9 rfl (by kernel_rfl) (fun _ _ _ h => h) hS rfl ?_ ?_; rotate_left; · (intro w hSw; (try dsimp only at hSw); go_simp; try with_reducible rfl)
      (try simp only [Act.put, List.setIfInBounds_toArray, List.set_cons_zero, List.set_cons_succ])
      refine wpAnyM_take (v := ?_) 10 rfl (by kernel_rfl) (fun _ _ _ h => h) hS rfl ?_ ?_; rotate_left; · (intro w hSw; (try dsimp only at hSw); go_simp; try with_reducible rfl)
      (try simp only [Act.put, List.setIfInBounds_toArray, List.set_cons_zero, List.set_cons_succ])
      refine wpAnyM_take (v := ?_) 11 rfl (by kernel_rfl) (fun _ _ _ h => h) hS rfl ?_ ?_; rotate_left; · (intro w hSw; (try dsimp only at hSw); go_simp; try with_reducible rfl)
      (try simp only [Act.put, List.setIfInBounds_toArray, List.set_cons_zero, List.set_cons_succ])
      refine wpAnyM_take (v := ?_) 12 rfl (by kernel_rfl) (fun _ _ _ h => h) hS rfl ?_ ?_; rotate_left; · (intro w hSw; (try dsimp only at hSw); go_simp; try with_reducible rfl)
      (try simp only [Act.put, List.setIfInBounds_toArray, List.set_cons_zero, List.set_cons_succ])
      refine wpAnyM_ready [13] (by kernel_rfl) rfl ?_
      refine AllM.late rfl rfl (by kernel_rfl) (fun K hK => ?_) AllM.nil
      go_simp
      (with_reducible refine (need_no _ _).mono ?_)
      rintro e w' ⟨rfl, rfl⟩
      exact ⟨rfl, onePost_no E.out (kfin.out.trans (Keep.of_ext (S := fun _ => False) (Ext.drew w5)) (fun _ _ h => h.elim))⟩
    have tle : decide (beg ≤ x.1.width - width) = true := by simpa using hle
    go_wp2_with fail
    go_quiet ((go_at_call 17; exact quiet_same (need_ok _ _)))
    have x6 := Ext.drewN w5 nq
    have wr2 : IntKind.i64.wrap (x.1.beg + beg) = x.1.beg + beg := IntWalk.i64_in _ (by omega)
    have o0 := x6.cell o0
    have o1 := x6.cell o1
    have r2 := x6.cell r2
    have K6 := Lib.hid (K5h.out.ext x6)
    have k6 := Lib.hid (Keep.of_ext (S := fun k => k = bp) x6)
    have HP6 := Lib.hid (x6.block HP.out)
    generalize w5.drewN nq = w6 at o0 o1 r2 K6 k6 HP6 ⊢
    clear x6
    have p0 : w6.cell? ⟨bp, 0, none⟩ = some (.int .i64 σ.roots) := by simp [World.cell?, HP6.out]
    have p1 : w6.cell? ⟨bp, 1, none⟩ = some (.int .i64 beg) := by simp [World.cell?, HP6.out]
    have f0 : w6.frozen? ⟨bp, 0, none⟩ = false := by simp [World.frozen?, HP6.out]
    have f1 : w6.frozen? ⟨bp, 1, none⟩ = false := by simp [World.frozen?, HP6.out]
    have nbW : bp ≠ bW := fun e => hbp5.out (e ▸ ⟨4, rfl⟩)
    have nbr : w.heap.size ≠ bp := by omega
    go_wp2_with fail
    refine wp_region_M (fun w' => w'.cell? ⟨bW, i * 4, none⟩ = some (.int .i64 x.1.root) ∧ w'.cell? ⟨bW, i * 4 + 1, none⟩ = some (.int .i64 x.1.beg) ∧ w'.cell? ⟨w.heap.size, 2, none⟩ = some (.int .i64 beg)) 17 (by kernel_rfl) ⟨o0, o1, r2⟩ (fun hS => ?_)
    refine wpAnyM_take (v := ?_) 0 rfl (by kernel_rfl) (fun _ _ _ h => h) hS rfl ?_ ?_; rotate_left; · (intro w hSw; (try dsimp only at hSw); go_simp; try with_reducible rfl)
    (try simp only [Act.put, List.setIfInBounds_toArray, List.set_cons_zero, List.set_cons_succ])
    refine wpAnyM_take (v := ?_) 1 rfl (by kernel_rfl) (fun _ _ _ h => h) hS rfl ?_ ?_; rotate_left; · (intro w hSw; (try dsimp only at hSw); go_simp; try with_reducible rfl)
    (try simp only [Act.put, List.setIfInBounds_toArray, List.set_cons_zero, List.set_cons_succ])
    refine wpAnyM_take (v := ?_) 2 rfl (by kernel_rfl) (fun _ _ _ h => h) hS rfl ?_ ?_; rotate_left; · (intro w hSw; (try dsimp only at hSw); go_simp; try with_reducible rfl)
    (try simp only [Act.put, List.setIfInBounds_toArray, List.set_cons_zero, List.set_cons_succ])
    refine wpAnyM_take (v := ?_) 3 rfl (by kernel_rfl) (fun _ _ _ h => h) hS rfl ?_ ?_; rotate_left; · (intro w hSw; (try dsimp only at hSw); go_simp; try with_reducible rfl)
    (try simp only [Act.put, List.setIfInBounds_toArray, List.set_cons_zero, List.set_cons_succ])
    refine wpAnyM_take (v := ?_) 4 rfl (by kernel_rfl) (fun _ _ _ h => h) hS rfl ?_ ?_; rotate_left; · (intro w hSw; (try dsimp only at hSw); go_simp; try with_reducible rfl)
    (try simp only [Act.put, List.setIfInBounds_toArray, List.set_cons_zero, List.set_cons_succ])
    refine wpAnyM_take (v := ?_) 5 rfl (by kernel_rfl) (fun _ _ _ h => h) hS rfl ?_ ?_; rotate_left; · (intro w hSw; (try dsimp only at hSw); go_simp; try with_reducible rfl)
    (try simp only [Act.put, List.setIfInBounds_toArray, List.set_cons_zero, List.set_cons_succ])
    refine wpAnyM_take (v := ?_) 6 rfl (by kernel_rfl) (fun _ _ _ h => h) hS rfl ?_ ?_; rotate_left; · (intro w hSw; (try dsimp only at hSw); go_simp; try with_reducible rfl)
    (try simp only [Act.put, List.setIfInBounds_toArray, List.set_cons_zero, List.set_cons_succ])
    refine wpAnyM_take (v := ?_) 7 rfl (by kernel_rfl) (fun _ _ _ h => h) hS rfl ?_ ?_; rotate_left; · (intro w hSw; (try dsimp only at hSw); go_simp; try with_reducible rfl)
    (try simp only [Act.put, List.setIfInBounds_toArray, List.set_cons_zero, List.set_cons_succ])
    refine wpAnyM_take (v := ?_) 8 rfl (by kernel_rfl) (fun _ _ _ h => h) hS rfl ?_ ?_; rotate_left; · (intro w hSw; (try dsimp only at hSw); go_simp; try with_reducible rfl)
    (try simp only [Act.put, List.setIfInBounds_toArray, List.set_cons_zero, List.set_cons_succ])
    refine wpAnyM_take (v := ?_) 9 rfl (by kernel_rfl) (fun _ _ _ h => h) hS rfl ?_ ?_; rotate_left; · (intro w hSw; (try dsimp only at hSw); go_simp; try with_reducible rfl)
    (try simp only [Act.put, List.setIfInBounds_toArray, List.set_cons_zero, List.set_cons_succ])
    refine wpAnyM_take (v := ?_) 10 rfl (by kernel_rfl) (fun _ _ _ h => h) hS rfl ?_ ?_; rotate_left; · (intro w hSw; (try dsimp only at hSw); go_simp; try with_reducible rfl)
    (try simp only [Act.put, List.setIfInBounds_toArray, List.set_cons_zero, List.set_cons_succ])
    refine wpAnyM_take (v := ?_) 11 rfl (by kernel_rfl) (fun _ _ _ h => h) hS rfl ?_ ?_; rotate_left; · (intro w hSw; (try dsimp only at hSw); go_simp; try with_reducible rfl)
    (try simp only [Act.put, List.setIfInBounds_toArray, List.set_cons_zero, List.set_cons_succ])
    refine wpAnyM_take (v := ?_) 12 rfl (by kernel_rfl) (fun _ _ _ h => h) hS rfl ?_ ?_; rotate_left; · (intro w hSw; (try dsimp only at hSw); go_simp; try with_reducible rfl)
    (try simp only [Act.put, List.setIfInBounds_toArray, List.set_cons_zero, List.set_cons_succ])
    refine wpAnyM_take (v := ?_) 13 rfl (by kernel_rfl) (fun _ _ _ h => h) hS rfl ?_ ?_; rotate_left; · (intro w hSw; (try dsimp only at hSw); go_simp; try with_reducible rfl)
    (try simp only [Act.put, List.setIfInBounds_toArray, List.set_cons_zero, List.set_cons_succ])
    refine wpAnyM_take (v := ?_) 14 rfl (by kernel_rfl) (fun _ _ _ h => h) hS rfl ?_ ?_; rotate_left; · (intro w hSw; (try dsimp only at hSw); go_simp; try with_reducible rfl)
    (try simp only [Act.put, List.setIfInBounds_toArray, List.set_cons_zero, List.set_cons_succ])
    refine wpAnyM_ready [15] (by kernel_rfl) rfl ?_
    refine AllM.cons rfl rfl (fun K hK => ?_) AllM.nil
    go_simp
    have k7 : Keep (fun k => k = bp) w6 (w6.setCell ⟨bp, 0, none⟩ (.int .i64 x.1.root)).drew := (Keep.setCell (fun k => k = bp) w6 ⟨bp, 0, none⟩ _ rfl).drew
    have S7 : (fun w' => w'.cell? ⟨bW, i * 4, none⟩ = some (.int .i64 x.1.root) ∧ w'.cell? ⟨bW, i * 4 + 1, none⟩ = some (.int .i64 x.1.beg) ∧ w'.cell? ⟨w.heap.size, 2, none⟩ = some (.int .i64 beg)) (w6.setCell ⟨bp, 0, none⟩ (.int .i64 x.1.root)).drew := ⟨k7.cell o0 (Ne.symm nbW), k7.cell o1 (Ne.symm nbW), k7.cell r2 nbr⟩
    refine hK.out _ _ S7 ?_
    (try simp only [Act.put, List.setIfInBounds_toArray, List.set_cons_zero, List.set_cons_succ])
    clear hK K hS
    have hS := S7
    refine wpAnyM_take (v := ?_) 16 rfl (by kernel_rfl) (fun _ _ _ h => h) hS rfl ?_ ?_; rotate_left; · (intro w hSw; (try dsimp only at hSw); go_simp; try with_reducible rfl)
    (try simp only [Act.put, List.setIfInBounds_toArray, List.set_cons_zero, List.set_cons_succ])
    refine wpAnyM_ready [17] (by kernel_rfl) rfl ?_
    refine AllM.late rfl rfl (by kernel_rfl) (fun K hK => ?_) AllM.nil
    go_simp
    refine hK.out _ _ ?_
    (try simp only [Act.put, List.setIfInBounds_toArray, List.set_cons_zero, List.set_cons_succ])
    clear hK K hS S7 k7
    refine wpAnyM_done (by kernel_rfl) ?_ _
    have k8 : Keep (fun k => k = bp) w6 (((w6.setCell ⟨bp, 0, none⟩ (.int .i64 x.1.root)).setCell ⟨bp, 1, none⟩ (.int .i64 (x.1.beg + beg))).drew) := (((Keep.setCell (fun k => k = bp) w6 ⟨bp, 0, none⟩ (.int .i64 x.1.root) rfl).trans (Keep.setCell (fun k => k = bp) _ ⟨bp, 1, none⟩ (.int .i64 (x.1.beg + beg)) rfl) (fun _ _ h => h))).drew
    have hp8 : ((w6.setCell ⟨bp, 0, none⟩ (.int .i64 x.1.root)).setCell ⟨bp, 1, none⟩ (.int .i64 (x.1.beg + beg))).drew.heap[bp]? = some (.cells #[.int .i64 x.1.root, .int .i64 (x.1.beg + beg), .int .i64 width] 34 (0, 0)) := heap_set_cells (heap_set_cells HP6.out 0 (.int .i64 x.1.root)) 1 (.int .i64 (x.1.beg + beg))
    have K8 : Hid (WkIn (((w6.setCell ⟨bp, 0, none⟩ (.int .i64 x.1.root)).setCell ⟨bp, 1, none⟩ (.int .i64 (x.1.beg + beg))).drew) bw bm (.slice aN nN cN) vP (.slice (some ⟨bW, 0, none⟩) (i + 1) capW) (ws.take (i + 1)) { σ with ways := σ.ways.take (i + 1) }) := Lib.hid (WkG.same K6.out (fun r k hk => k8.block k (WkG.lt K6.out r k hk) (fun e => hbp5.out (e ▸ ⟨r, hk⟩))))
    go_wp2_with fail
    refine hK1h.out _ _ ?_
    have hres := oneS_eq (x := x) (p := ⟨x.1.root, x.1.beg + beg, width⟩) (roots := σ.roots) g1 (by have := HN.out; omega) hnm hme ⟨q1, q2, q3⟩ (by simp [placeS, hi0, HX1.out, hle]) HX1.out
    refine one_loop bw bm w.heap.size bW capW bp i cO mO aO (.slice aN nN cN) vP (ws.take (i + 1)) { σ with ways := σ.ways.take (i + 1) } name ⟨x.1.root, x.1.beg + beg, width⟩ x _ _ K8.out HL.out (by simp [HX1.out]) (by simp [HV1.out]) HM.out hp8 hbp5.out (k8.cell (k6.out.cell r0 nbr) nbr) hbr5.out (by have := HN.out; simp only []; omega) (by have := HN.out; have := HPL.out; simp only []; omega) (by omega) hm200 hme (by refine ⟨⟨?_, ?_⟩, ⟨?_, ?_⟩, ⟨?_, ?_⟩⟩ <;> simp only [] <;> omega) hqf.out (fun e w' h => ?_) _ _ _ _ _ _ _ _ _ _ _ _ _ _ _ _ _ _ _ _ _ _ _ _ _ _ _ _ _ _ _ _ _ _ _ _ _ _ _ _ _ _ _ _ _ _ _ _ _ _ _ _ _ _ _ _ _ _ _ _ _ _ _ _ _ _ _ _ _ _ _ _ _ _ _ _ _ _ _ _ _ _ _ _ _ _ _ _ _ _ _ _ _ _ _ _ _ _ _ _ _ _ _ _ _ _ _ _ _ _ _ _ _ _ _ _ _ _ _ _ _ _ _ _ _ _ _ _ _ _ _ _ _ _ _ _ _ _ _ _ _ _ _ _ _ _ _ _ _ _ _ _ _ _ _ _ _ _ _ _ _ _ _ _ _ _ _ _ _ _ _ _ _ _ _ _ _ _ _ _ _ _ _ _ _ _ _ _ _ _ _ _ _ _ _ _ _ _
    rw [hres]
    refine OnePost.trans (kfin.out.trans (k6.out.trans k8 (fun _ _ h => h)) (fun k hk e => ?_)) (fun k h => Or.inl (parts_cut k h)) h
    exact absurd e (by omega)
end Go.Proofs.Ytocloacbbbhkcaa
