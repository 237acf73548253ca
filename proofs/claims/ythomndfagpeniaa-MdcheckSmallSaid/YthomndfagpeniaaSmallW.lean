/- MdcheckSmall: its walk. -/
import Derived.Test.YthomndfagpeniaaMgG
import Derived.IntWalk
import Derived.WalkSpells
namespace Go.Proofs.Ythomndfagpeniaa
open Go.RowKit
attribute [local go_sem] Oper.semAt_some

theorem infoCls : (Try.prog.info? 40).map (fun i => (i.zero, i.size, i.bytes)) = some (some (.agg #[.string ByteArray.empty, .slice none 0 0]), 2, 40) := by kernel_rfl
set_option maxRecDepth 100000 in
set_option maxHeartbeats 16000000 in
theorem mdSmall_any (n which k : Int) (W : World) (hn : fits64 n) (hk : fits64 k) :
    Calls Try.prog 4 #[.int .i64 n, .int .i64 which, .int .i64 k] W fun e W' => e = .returned (.bool true) ∧ Ext W W' := by
  obtain ⟨hn1, hn2⟩ := hn
  obtain ⟨hk1, hk2⟩ := hk
  go_enter Try.func4, Try.ntmps4
  go_wp2_with fail
  refine (alive_any _).mono ?_
  rintro e w1 ⟨rfl, x1⟩
  have X1 := Lib.hid x1
  clear x1
  by_cases q1 : n < 3
  · go_wp2_with fail
    go_ret
    exact ⟨rfl, X1.out⟩
  by_cases q2 : 60 < n
  · go_wp2_with fail
    go_ret
    exact ⟨rfl, X1.out⟩
  by_cases q3 : k < 0
  · go_wp2_with fail
    go_ret
    exact ⟨rfl, X1.out⟩
  by_cases q4 : n ≤ k
  · go_wp2_with fail
    go_ret
    exact ⟨rfl, X1.out⟩
  obtain ⟨nn, rfl⟩ : ∃ k : Nat, n = k := ⟨n.toNat, by omega⟩
  obtain ⟨kk, rfl⟩ : ∃ m : Nat, k = m := ⟨k.toNat, by omega⟩
  go_upto_region 5 with (go_at_call 14; refine (small_any nn (by omega) (by omega) _).mono ?_; rintro e W1 ⟨x2, bR, cR, bG, cG, s, rfl, hl⟩; have X2 := Lib.hid x2; have HL := Lib.hid hl; clear x2 hl)
  have xa : Ext W1 (W1.alloc (.cells #[.string mN, .slice (some ⟨bR, 0, none⟩) nn cR, .slice (some ⟨s, 0, none⟩) 1 1, .slice (some ⟨s + 5, 0, none⟩) 3 3, .slice (some ⟨s + 6, 0, none⟩) 1 1, .string (nmS 0), .slice none 0 0, .int .i64 100] 27)) := Ext.alloc _ _
  have bm := heap_alloc_new W1 (.cells #[.string mN, .slice (some ⟨bR, 0, none⟩) nn cR, .slice (some ⟨s, 0, none⟩) 1 1, .slice (some ⟨s + 5, 0, none⟩) 3 3, .slice (some ⟨s + 6, 0, none⟩) 1 1, .string (nmS 0), .slice none 0 0, .int .i64 100] 27)
  have sz : (W1.alloc (.cells #[.string mN, .slice (some ⟨bR, 0, none⟩) nn cR, .slice (some ⟨s, 0, none⟩) 1 1, .slice (some ⟨s + 5, 0, none⟩) 3 3, .slice (some ⟨s + 6, 0, none⟩) 1 1, .string (nmS 0), .slice none 0 0, .int .i64 100] 27)).heap.size = W1.heap.size + 1 := by simp
  have hs7 := HL.out.size
  have hB : W.heap.size ≤ w1.heap.size := X1.out.size
  have HL := Lib.hid (HL.out.ext xa)
  have X3 := Lib.hid ((X1.out.trans X2.out).trans xa)
  clear X1 X2
  generalize W1.alloc (.cells #[.string mN, .slice (some ⟨bR, 0, none⟩) nn cR, .slice (some ⟨s, 0, none⟩) 1 1, .slice (some ⟨s + 5, 0, none⟩) 3 3, .slice (some ⟨s + 6, 0, none⟩) 1 1, .string (nmS 0), .slice none 0 0, .int .i64 100] 27) = W2 at xa bm sz HL X3 ⊢
  clear xa
  generalize W1.heap.size = b at *
  generalize w1.heap.size = B at *
  have m0 := blk_cell bm 0 _ rfl
  have mf0 := blk_free bm 0
  have m1 := blk_cell bm 1 _ rfl
  have mf1 := blk_free bm 1
  have m2 := blk_cell bm 2 _ rfl
  have mf2 := blk_free bm 2
  have m3 := blk_cell bm 3 _ rfl
  have mf3 := blk_free bm 3
  have m4 := blk_cell bm 4 _ rfl
  have mf4 := blk_free bm 4
  have m5 := blk_cell bm 5 _ rfl
  have mf5 := blk_free bm 5
  have m6 := blk_cell bm 6 _ rfl
  have mf6 := blk_free bm 6
  have m7 := blk_cell bm 7 _ rfl
  have mf7 := blk_free bm 7
  have lb : b < W2.heap.size := by omega
  have hBs := HL.out.bs
  have hBR := HL.out.br
  have hBG := HL.out.bg
  have hne := HL.out.ne
  have BM := Lib.hid bm
  have SZ := Lib.hid sz
  clear bm sz
  go_upto_region 6 with (fail)
  by_cases h0 : which = 0
  · subst h0
    have hl : SmLay (W2.setCell ⟨b, 0, none⟩ (.string ⟨#[114, 101, 103]⟩)) nn B bR cR bG cG s := HL.out.set (by show s + 7 ≤ b; omega) _
    have HC := Lib.hid (check_err (W := (W2.setCell ⟨b, 0, none⟩ (.string ⟨#[114, 101, 103]⟩))) (M := mut0 nn) (mut0_err) (hl.mach7 (M := mut0 nn) rfl rfl rfl (Nat.le_refl _) hl.argsB StrsIn.nil fits_100) (by have := hl.size; omega))
    have XX : Hid (Ext W (W2.setCell ⟨b, 0, none⟩ (.string ⟨#[114, 101, 103]⟩))) := Lib.hid (Below.setCell X3.out (p := ⟨b, 0, none⟩) (by show W.heap.size ≤ b; omega) _)
    clear HL X3 BM SZ hl
    go_wp2_with (first
      | (go_at_call 11; refine HC.out.mono ?_; rintro e W5 ⟨rfl, x5⟩; have X5 := Lib.hid x5; clear x5)
      | (go_at_call 13; refine (num_any _ _).mono ?_; rintro e w ⟨rfl, rfl⟩))
    go_ret
    exact ⟨rfl, XX.out.trans X5.out⟩
  by_cases h8 : which = 8
  · subst h8
    have hl : SmLay (W2.setCell ⟨b, 5, none⟩ (.string ⟨#[]⟩)) nn B bR cR bG cG s := HL.out.set (by show s + 7 ≤ b; omega) _
    have HC := Lib.hid (check_err (W := (W2.setCell ⟨b, 5, none⟩ (.string ⟨#[]⟩))) (M := mut8 nn) (mut8_err (by omega) (by omega)) (hl.mach7 (M := mut8 nn) rfl rfl rfl (Nat.le_refl _) hl.argsB StrsIn.nil fits_100) (by have := hl.size; omega))
    have XX : Hid (Ext W (W2.setCell ⟨b, 5, none⟩ (.string ⟨#[]⟩))) := Lib.hid (Below.setCell X3.out (p := ⟨b, 5, none⟩) (by show W.heap.size ≤ b; omega) _)
    clear HL X3 BM SZ hl
    go_wp2_with (first
      | (go_at_call 11; refine HC.out.mono ?_; rintro e W5 ⟨rfl, x5⟩; have X5 := Lib.hid x5; clear x5)
      | (go_at_call 13; refine (num_any _ _).mono ?_; rintro e w ⟨rfl, rfl⟩))
    go_ret
    exact ⟨rfl, XX.out.trans X5.out⟩
  by_cases h11 : which = 11
  · subst h11
    have hl : SmLay (W2.setCell ⟨b, 7, none⟩ (.int .i64 1001)) nn B bR cR bG cG s := HL.out.set (by show s + 7 ≤ b; omega) _
    have HC := Lib.hid (check_err (W := (W2.setCell ⟨b, 7, none⟩ (.int .i64 1001))) (M := mut11 nn 1001) (mut11_err (by omega) (by omega) (by decide)) (hl.mach7 (M := mut11 nn 1001) rfl rfl rfl (Nat.le_refl _) hl.argsB StrsIn.nil fits_1001) (by have := hl.size; omega))
    have XX : Hid (Ext W (W2.setCell ⟨b, 7, none⟩ (.int .i64 1001))) := Lib.hid (Below.setCell X3.out (p := ⟨b, 7, none⟩) (by show W.heap.size ≤ b; omega) _)
    clear HL X3 BM SZ hl
    go_wp2_with (first
      | (go_at_call 11; refine HC.out.mono ?_; rintro e W5 ⟨rfl, x5⟩; have X5 := Lib.hid x5; clear x5)
      | (go_at_call 13; refine (num_any _ _).mono ?_; rintro e w ⟨rfl, rfl⟩))
    go_ret
    exact ⟨rfl, XX.out.trans X5.out⟩
  by_cases h10 : which = 10
  · subst h10
    have hl : SmLay ((W2.setCell ⟨b, 6, none⟩ (.slice (some ⟨W2.heap.size, 0, none⟩) 1 1)).alloc (.cells #[.string ⟨#[114, 48, 48]⟩] 9)) nn B bR cR bG cG s := (HL.out.set (by show s + 7 ≤ b; omega) _).ext (Ext.alloc _ _)
    have hb : ((W2.setCell ⟨b, 6, none⟩ (.slice (some ⟨W2.heap.size, 0, none⟩) 1 1)).alloc (.cells #[.string ⟨#[114, 48, 48]⟩] 9)).heap[W2.heap.size]? = some (.cells #[.string (nmS 0)] 9 (0, 0)) := by rw [show nmS 0 = ⟨#[114, 48, 48]⟩ by decide +kernel]; exact sa_new
    have HC := Lib.hid (check_err (W := ((W2.setCell ⟨b, 6, none⟩ (.slice (some ⟨W2.heap.size, 0, none⟩) 1 1)).alloc (.cells #[.string ⟨#[114, 48, 48]⟩] 9))) (mut10_err (by omega) (by omega)) (hl.mach7 (M := mut10 nn) rfl rfl rfl (n0 := W2.heap.size + 1) (by omega) (hl.argsB.up (by omega)) (Tab.of_new (rows := [[.string (nmS 0)]]) hb (by simp) le_max1) fits_100) (by rw [sa_size]; omega))
    have XX : Hid (Ext W ((W2.setCell ⟨b, 6, none⟩ (.slice (some ⟨W2.heap.size, 0, none⟩) 1 1)).alloc (.cells #[.string ⟨#[114, 48, 48]⟩] 9))) := Lib.hid (Ext.trans (Below.setCell X3.out (p := ⟨b, 6, none⟩) (by show W.heap.size ≤ b; omega) _) (Ext.alloc _ _))
    clear HL X3 BM SZ hl hb
    go_wp2_with (first
      | (go_at_call 11; refine HC.out.mono ?_; rintro e W5 ⟨rfl, x5⟩; have X5 := Lib.hid x5; clear x5)
      | (go_at_call 13; refine (num_any _ _).mono ?_; rintro e w ⟨rfl, rfl⟩))
    go_ret
    exact ⟨rfl, XX.out.trans X5.out⟩
  by_cases h1 : which = 1
  · subst h1
    obtain ⟨_, r1, rf⟩ := HL.out.regAt (i := kk) (by omega)
    have rf := rf (kk * 4 + 1)
    have lw : bR < W2.heap.size := by omega
    have lb2 : bR ≠ b := by omega
    have lb3 : b ≠ bR := by omega
    have HC := Lib.hid (check_err (W := (W2.setCell ⟨bR, kk * 4 + 1, none⟩ (.int .i64 0))) (mut1_err (k := kk) (by omega) (by omega)) (mut1_in HL.out (by omega)) (by rw [set_size]; omega))
    have XX : Hid (Ext W (W2.setCell ⟨bR, kk * 4 + 1, none⟩ (.int .i64 0))) := Lib.hid (Below.setCell X3.out (p := ⟨bR, kk * 4 + 1, none⟩) (by show W.heap.size ≤ bR; omega) _)
    clear HL X3 BM SZ
    go_wp2_with (first
      | (go_at_call 11; refine HC.out.mono ?_; rintro e W5 ⟨rfl, x5⟩; have X5 := Lib.hid x5; clear x5)
      | (go_at_call 13; refine (num_any _ _).mono ?_; rintro e w ⟨rfl, rfl⟩))
    go_ret
    exact ⟨rfl, XX.out.trans X5.out⟩
  by_cases h3 : which = 3
  · subst h3
    obtain ⟨g1, gf⟩ := HL.out.rgAt (i := kk) (by omega)
    have gf := gf kk
    have c1 := blk_cell HL.out.cls 1 _ rfl
    have lw : bG < W2.heap.size := by omega
    have lb2 : bG ≠ b := by omega
    have lb3 : b ≠ bG := by omega
    have HC := Lib.hid (check_err (W := (W2.setCell ⟨bG, kk, none⟩ (.string nothingN))) (mut3_err (k := kk) (by omega) (by omega)) (mut3_in HL.out (by omega)) (by rw [set_size]; omega))
    have XX : Hid (Ext W (W2.setCell ⟨bG, kk, none⟩ (.string nothingN))) := Lib.hid (Below.setCell X3.out (p := ⟨bG, kk, none⟩) (by show W.heap.size ≤ bG; omega) _)
    clear HL X3 BM SZ
    go_wp2_with (first
      | (go_at_call 11; refine HC.out.mono ?_; rintro e W5 ⟨rfl, x5⟩; have X5 := Lib.hid x5; clear x5)
      | (go_at_call 13; refine (num_any _ _).mono ?_; rintro e w ⟨rfl, rfl⟩))
    go_ret
    exact ⟨rfl, XX.out.trans X5.out⟩
  by_cases h5 : which = 5
  · subst h5
    have of := blk_free HL.out.ops (kk % 3 * 6)
    have o1 : ∃ u, W2.cell? ⟨s + 5, kk % 3 * 6, none⟩ = some u := by
      have hc : kk % 3 = 0 ∨ kk % 3 = 1 ∨ kk % 3 = 2 := by omega
      rcases hc with hc | hc | hc <;> rw [hc]
      · exact ⟨_, blk_cell HL.out.ops 0 _ rfl⟩
      · exact ⟨_, blk_cell HL.out.ops 6 _ rfl⟩
      · exact ⟨_, blk_cell HL.out.ops 12 _ rfl⟩
    obtain ⟨u1, o1⟩ := o1
    have lw : s + 5 < W2.heap.size := by omega
    have lb2 : s + 5 ≠ b := by omega
    have lb3 : b ≠ s + 5 := by omega
    have HC := Lib.hid (check_err (W := (W2.setCell ⟨s + 5, kk % 3 * 6, none⟩ (.string moveN))) (mut5_err (k := kk) (by omega) (by omega)) (mut5_in HL.out kk) (by rw [set_size]; omega))
    have XX : Hid (Ext W (W2.setCell ⟨s + 5, kk % 3 * 6, none⟩ (.string moveN))) := Lib.hid (Below.setCell X3.out (p := ⟨s + 5, kk % 3 * 6, none⟩) (by show W.heap.size ≤ s + 5; omega) _)
    clear HL X3 BM SZ
    go_wp2_with (first
      | (go_at_call 11; refine HC.out.mono ?_; rintro e W5 ⟨rfl, x5⟩; have X5 := Lib.hid x5; clear x5)
      | (go_at_call 13; refine (num_any _ _).mono ?_; rintro e w ⟨rfl, rfl⟩))
    go_ret
    exact ⟨rfl, XX.out.trans X5.out⟩
  by_cases h7 : which = 7
  · subst h7
    have of := blk_free HL.out.ops 10
    have o1 := blk_cell HL.out.ops 10 _ rfl
    have lw : s + 5 < W2.heap.size := by omega
    have lb2 : s + 5 ≠ b := by omega
    have lb3 : b ≠ s + 5 := by omega
    have HC := Lib.hid (check_err (W := (W2.setCell ⟨s + 5, 10, none⟩ (.int .i64 1))) (mut7_err (by omega) (by omega)) (mut7_in HL.out) (by rw [set_size]; omega))
    have XX : Hid (Ext W (W2.setCell ⟨s + 5, 10, none⟩ (.int .i64 1))) := Lib.hid (Below.setCell X3.out (p := ⟨s + 5, 10, none⟩) (by show W.heap.size ≤ s + 5; omega) _)
    clear HL X3 BM SZ
    go_wp2_with (first
      | (go_at_call 11; refine HC.out.mono ?_; rintro e W5 ⟨rfl, x5⟩; have X5 := Lib.hid x5; clear x5)
      | (go_at_call 13; refine (num_any _ _).mono ?_; rintro e w ⟨rfl, rfl⟩))
    go_ret
    exact ⟨rfl, XX.out.trans X5.out⟩
  by_cases h12 : which = 12
  · subst h12
    have e1 : (⟨#[114, 48, 49]⟩ : ByteArray) = nmS 1 := by decide +kernel
    have o3 := blk_cell HL.out.ops 3 _ rfl
    have y1 := blk_cell HL.out.u0 1 _ rfl
    have y3 := blk_cell HL.out.u0 3 _ rfl
    have yf1 := blk_free HL.out.u0 1
    have yf3 := blk_free HL.out.u0 3
    have lw : s + 2 < W2.heap.size := by omega
    have lb2 : s + 2 ≠ b := by omega
    have lb3 : b ≠ s + 2 := by omega
    have lb4 : s + 2 ≠ s + 5 := by omega
    have h2 : ((W2.setCell ⟨s + 2, 1, none⟩ (.string ⟨#[114, 48, 49]⟩)).setCell ⟨s + 2, 3, none⟩ (.string ⟨#[114, 48, 49]⟩)).heap[s + 2]? = some (.cells #[.string gN, .string (nmS 1), .string gN, .string (nmS 1)] 42 (0, 0)) := by
      rw [← e1]; exact heap_set_cells (heap_set_cells HL.out.u0 1 _) 3 _
    have ho : ∀ q, q ≠ s + 2 → ((W2.setCell ⟨s + 2, 1, none⟩ (.string ⟨#[114, 48, 49]⟩)).setCell ⟨s + 2, 3, none⟩ (.string ⟨#[114, 48, 49]⟩)).heap[q]? = W2.heap[q]? := fun q hq => (Below.heap_setCell _ _ _ q hq).trans (Below.heap_setCell _ _ _ q hq)
    have HC := Lib.hid (check_err (W := ((W2.setCell ⟨s + 2, 1, none⟩ (.string ⟨#[114, 48, 49]⟩)).setCell ⟨s + 2, 3, none⟩ (.string ⟨#[114, 48, 49]⟩))) (mut12_err (by omega) (by omega)) (mut12_in HL.out h2 ho) (by rw [set_size, set_size]; omega))
    have XX : Hid (Ext W ((W2.setCell ⟨s + 2, 1, none⟩ (.string ⟨#[114, 48, 49]⟩)).setCell ⟨s + 2, 3, none⟩ (.string ⟨#[114, 48, 49]⟩))) := Lib.hid (Below.setCell (Below.setCell X3.out (p := ⟨s + 2, 1, none⟩) (by show W.heap.size ≤ s + 2; omega) _) (p := ⟨s + 2, 3, none⟩) (by show W.heap.size ≤ s + 2; omega) _)
    clear HL X3 BM SZ h2 ho e1
    go_wp2_with (first
      | (go_at_call 11; refine HC.out.mono ?_; rintro e W5 ⟨rfl, x5⟩; have X5 := Lib.hid x5; clear x5)
      | (go_at_call 13; refine (num_any _ _).mono ?_; rintro e w ⟨rfl, rfl⟩))
    go_ret
    exact ⟨rfl, XX.out.trans X5.out⟩
  by_cases h13 : which = 13
  · subst h13
    have c1 := blk_cell HL.out.cls 1 _ rfl
    have cg := (Tab.form HL.out.rgB)
    obtain ⟨ag, cgc, eg, hcg1, hcg2⟩ := cg
    injection eg with eg1 eg2 eg3
    have hcg1 : nn ≤ cG := by rw [eg3, List.length_map, namesS_len] at *; omega
    have hcg2 : cG ≤ maxLen := by rw [eg3]; exact hcg2
    have hg9 : cG ≤ 9223372036854775807 := hcg2
    clear eg1 eg2 eg3
    have hz1 : (1 : Int) ≤ (nn : Int) := by omega
    have hz2 : cG ≠ 1 := by omega
    have hz3 : (cG = 1) = False := by simp; omega
    go_upto_region 49 with (fail)
    rename_i K1 hK1
    have hK1 := Lib.hid hK1
    refine wp_region_M (fun w' => Ext W2 w') 10 (by kernel_rfl) (Ext.drew _) (fun hS => ?_)
    refine wpAnyM_take (v := ?_) 0 rfl (by kernel_rfl) (fun _ _ _ h => h) hS rfl ?_ ?_; rotate_left; · (intro w hSw; have p0 := Ext.cell hSw m2; have p1 := Ext.cell hSw c1; (try dsimp only at hSw); go_simp; try with_reducible rfl)
    (try simp only [Act.put, List.setIfInBounds_toArray, List.set_cons_zero, List.set_cons_succ])
    refine wpAnyM_take (v := ?_) 1 rfl (by kernel_rfl) (fun _ _ _ h => h) hS rfl ?_ ?_; rotate_left; · (intro w hSw; have p0 := Ext.cell hSw m2; have p1 := Ext.cell hSw c1; (try dsimp only at hSw); go_simp; try with_reducible rfl)
    (try simp only [Act.put, List.setIfInBounds_toArray, List.set_cons_zero, List.set_cons_succ])
    refine wpAnyM_take (v := ?_) 2 rfl (by kernel_rfl) (fun _ _ _ h => h) hS rfl ?_ ?_; rotate_left; · (intro w hSw; have p0 := Ext.cell hSw m2; have p1 := Ext.cell hSw c1; (try dsimp only at hSw); go_simp; try with_reducible rfl)
    (try simp only [Act.put, List.setIfInBounds_toArray, List.set_cons_zero, List.set_cons_succ])
    refine wpAnyM_take (v := ?_) 3 rfl (by kernel_rfl) (fun _ _ _ h => h) hS rfl ?_ ?_; rotate_left; · (intro w hSw; have p0 := Ext.cell hSw m2; have p1 := Ext.cell hSw c1; (try dsimp only at hSw); go_simp; try with_reducible rfl)
    (try simp only [Act.put, List.setIfInBounds_toArray, List.set_cons_zero, List.set_cons_succ])
    refine wpAnyM_take (v := ?_) 4 rfl (by kernel_rfl) (fun _ _ _ h => h) hS rfl ?_ ?_; rotate_left; · (intro w hSw; have p0 := Ext.cell hSw m2; have p1 := Ext.cell hSw c1; (try dsimp only at hSw); go_simp; try with_reducible rfl)
    (try simp only [Act.put, List.setIfInBounds_toArray, List.set_cons_zero, List.set_cons_succ])
    refine wpAnyM_take (v := ?_) 5 rfl (by kernel_rfl) (fun _ _ _ h => h) hS rfl ?_ ?_; rotate_left; · (intro w hSw; have p0 := Ext.cell hSw m2; have p1 := Ext.cell hSw c1; (try dsimp only at hSw); go_simp; try with_reducible rfl)
    (try simp only [Act.put, List.setIfInBounds_toArray, List.set_cons_zero, List.set_cons_succ])
    refine wpAnyM_take (v := ?_) 6 rfl (by kernel_rfl) (fun _ _ _ h => h) hS rfl ?_ ?_; rotate_left; · (intro w hSw; have p0 := Ext.cell hSw m2; have p1 := Ext.cell hSw c1; (try dsimp only at hSw); go_simp; try with_reducible rfl)
    (try simp only [Act.put, List.setIfInBounds_toArray, List.set_cons_zero, List.set_cons_succ])
    refine wpAnyM_take (v := ?_) 7 rfl (by kernel_rfl) (fun _ _ _ h => h) hS rfl ?_ ?_; rotate_left; · (intro w hSw; have p0 := Ext.cell hSw m2; have p1 := Ext.cell hSw c1; (try dsimp only at hSw); go_simp; try with_reducible rfl)
    (try simp only [Act.put, List.setIfInBounds_toArray, List.set_cons_zero, List.set_cons_succ])
    refine wpAnyM_take (v := ?_) 8 rfl (by kernel_rfl) (fun _ _ _ h => h) hS rfl ?_ ?_; rotate_left; · (intro w hSw; have p0 := Ext.cell hSw m2; have p1 := Ext.cell hSw c1; (try dsimp only at hSw); go_simp; try with_reducible rfl)
    (try simp only [Act.put, List.setIfInBounds_toArray, List.set_cons_zero, List.set_cons_succ])
    refine wpAnyM_take (v := ?_) 9 rfl (by kernel_rfl) (fun _ _ _ h => h) hS rfl ?_ ?_; rotate_left; · (intro w hSw; have p0 := Ext.cell hSw m2; have p1 := Ext.cell hSw c1; (try dsimp only at hSw); go_simp; try with_reducible rfl)
    (try simp only [Act.put, List.setIfInBounds_toArray, List.set_cons_zero, List.set_cons_succ])
    generalize W2.drew = W3 at hS ⊢
    have HL3 := Lib.hid (HL.out.ext hS)
    have X33 := Lib.hid (X3.out.trans hS)
    have sz3 := hS.size
    have c1 := blk_cell HL3.out.cls 1 _ rfl
    have cf1 := blk_free HL3.out.cls 1
    refine wpAnyM_ready [10] (by kernel_rfl) rfl ?_
    refine AllM.late rfl rfl (by kernel_rfl) (fun K hK => ?_) AllM.nil
    go_simp
    refine hK.out _ _ ?_
    (try simp only [Act.put, List.setIfInBounds_toArray, List.set_cons_zero, List.set_cons_succ])
    clear hK K
    refine wpAnyM_done (by kernel_rfl) ?_ _
    refine hK1.out _ _ ?_
    have m0 := Ext.cell hS m0
    have m1 := Ext.cell hS m1
    have m2 := Ext.cell hS m2
    have m3 := Ext.cell hS m3
    have m4 := Ext.cell hS m4
    have m5 := Ext.cell hS m5
    have m6 := Ext.cell hS m6
    have m7 := Ext.cell hS m7
    have HC := Lib.hid (check_err (W := (W3.setCell ⟨s, 1, none⟩ (.slice (some ⟨bG, 1, none⟩) (nn - 1) (cG - 1)))) (mut13_err (by omega) (by omega)) (mut13_in HL3.out rfl ⟨by omega, by unfold maxLen; omega⟩) (by rw [set_size]; omega))
    have XX : Hid (Ext W (W3.setCell ⟨s, 1, none⟩ (.slice (some ⟨bG, 1, none⟩) (nn - 1) (cG - 1)))) := Lib.hid (Below.setCell X33.out (p := ⟨s, 1, none⟩) (by show W.heap.size ≤ s; omega) _)
    have lw : s < W3.heap.size := by omega
    have lw2 : b < W3.heap.size := by omega
    have lb2 : s ≠ b := by omega
    have lb3 : b ≠ s := by omega
    clear HL X3 BM SZ HL3 X33 hS hcg1 hcg2
    go_wp2_with (first
      | (go_at_call 11; refine HC.out.mono ?_; rintro e W5 ⟨rfl, x5⟩; have X5 := Lib.hid x5; clear x5)
      | (go_at_call 13; refine (num_any _ _).mono ?_; rintro e w ⟨rfl, rfl⟩))
    go_ret
    exact ⟨rfl, XX.out.trans X5.out⟩
  by_cases h6 : which = 6
  · subst h6
    have o3 := blk_cell HL.out.ops 3 _ rfl
    go_upto_region 27 with (fail)
    rename_i K1 hK1
    have hK1 := Lib.hid hK1
    refine wp_region_M (fun w' => Ext W2 w') 10 (by kernel_rfl) (Ext.drew _) (fun hS => ?_)
    refine wpAnyM_take (v := ?_) 0 rfl (by kernel_rfl) (fun _ _ _ h => h) hS rfl ?_ ?_; rotate_left; · (intro w hSw; have p0 := Ext.cell hSw m3; have p1 := Ext.cell hSw o3; (try dsimp only at hSw); go_simp; try with_reducible rfl)
    (try simp only [Act.put, List.setIfInBounds_toArray, List.set_cons_zero, List.set_cons_succ])
    refine wpAnyM_take (v := ?_) 1 rfl (by kernel_rfl) (fun _ _ _ h => h) hS rfl ?_ ?_; rotate_left; · (intro w hSw; have p0 := Ext.cell hSw m3; have p1 := Ext.cell hSw o3; (try dsimp only at hSw); go_simp; try with_reducible rfl)
    (try simp only [Act.put, List.setIfInBounds_toArray, List.set_cons_zero, List.set_cons_succ])
    refine wpAnyM_take (v := ?_) 2 rfl (by kernel_rfl) (fun _ _ _ h => h) hS rfl ?_ ?_; rotate_left; · (intro w hSw; have p0 := Ext.cell hSw m3; have p1 := Ext.cell hSw o3; (try dsimp only at hSw); go_simp; try with_reducible rfl)
    (try simp only [Act.put, List.setIfInBounds_toArray, List.set_cons_zero, List.set_cons_succ])
    refine wpAnyM_take (v := ?_) 3 rfl (by kernel_rfl) (fun _ _ _ h => h) hS rfl ?_ ?_; rotate_left; · (intro w hSw; have p0 := Ext.cell hSw m3; have p1 := Ext.cell hSw o3; (try dsimp only at hSw); go_simp; try with_reducible rfl)
    (try simp only [Act.put, List.setIfInBounds_toArray, List.set_cons_zero, List.set_cons_succ])
    refine wpAnyM_take (v := ?_) 4 rfl (by kernel_rfl) (fun _ _ _ h => h) hS rfl ?_ ?_; rotate_left; · (intro w hSw; have p0 := Ext.cell hSw m3; have p1 := Ext.cell hSw o3; (try dsimp only at hSw); go_simp; try with_reducible rfl)
    (try simp only [Act.put, List.setIfInBounds_toArray, List.set_cons_zero, List.set_cons_succ])
    refine wpAnyM_take (v := ?_) 5 rfl (by kernel_rfl) (fun _ _ _ h => h) hS rfl ?_ ?_; rotate_left; · (intro w hSw; have p0 := Ext.cell hSw m3; have p1 := Ext.cell hSw o3; (try dsimp only at hSw); go_simp; try with_reducible rfl)
    (try simp only [Act.put, List.setIfInBounds_toArray, List.set_cons_zero, List.set_cons_succ])
    refine wpAnyM_take (v := ?_) 6 rfl (by kernel_rfl) (fun _ _ _ h => h) hS rfl ?_ ?_; rotate_left; · (intro w hSw; have p0 := Ext.cell hSw m3; have p1 := Ext.cell hSw o3; (try dsimp only at hSw); go_simp; try with_reducible rfl)
    (try simp only [Act.put, List.setIfInBounds_toArray, List.set_cons_zero, List.set_cons_succ])
    refine wpAnyM_take (v := ?_) 7 rfl (by kernel_rfl) (fun _ _ _ h => h) hS rfl ?_ ?_; rotate_left; · (intro w hSw; have p0 := Ext.cell hSw m3; have p1 := Ext.cell hSw o3; (try dsimp only at hSw); go_simp; try with_reducible rfl)
    (try simp only [Act.put, List.setIfInBounds_toArray, List.set_cons_zero, List.set_cons_succ])
    refine wpAnyM_take (v := ?_) 8 rfl (by kernel_rfl) (fun _ _ _ h => h) hS rfl ?_ ?_; rotate_left; · (intro w hSw; have p0 := Ext.cell hSw m3; have p1 := Ext.cell hSw o3; (try dsimp only at hSw); go_simp; try with_reducible rfl)
    (try simp only [Act.put, List.setIfInBounds_toArray, List.set_cons_zero, List.set_cons_succ])
    refine wpAnyM_take (v := ?_) 9 rfl (by kernel_rfl) (fun _ _ _ h => h) hS rfl ?_ ?_; rotate_left; · (intro w hSw; have p0 := Ext.cell hSw m3; have p1 := Ext.cell hSw o3; (try dsimp only at hSw); go_simp; try with_reducible rfl)
    (try simp only [Act.put, List.setIfInBounds_toArray, List.set_cons_zero, List.set_cons_succ])
    generalize W2.drew = W3 at hS ⊢
    have HL3 := Lib.hid (HL.out.ext hS)
    have X33 := Lib.hid (X3.out.trans hS)
    have sz3 := hS.size
    have o3 := blk_cell HL3.out.ops 3 _ rfl
    have of := blk_free HL3.out.ops 3
    refine wpAnyM_ready [10] (by kernel_rfl) rfl ?_
    refine AllM.late rfl rfl (by kernel_rfl) (fun K hK => ?_) AllM.nil
    go_simp
    refine hK.out _ _ ?_
    (try simp only [Act.put, List.setIfInBounds_toArray, List.set_cons_zero, List.set_cons_succ])
    clear hK K
    refine wpAnyM_done (by kernel_rfl) ?_ _
    refine hK1.out _ _ ?_
    have m0 := Ext.cell hS m0
    have m1 := Ext.cell hS m1
    have m2 := Ext.cell hS m2
    have m3 := Ext.cell hS m3
    have m4 := Ext.cell hS m4
    have m5 := Ext.cell hS m5
    have m6 := Ext.cell hS m6
    have m7 := Ext.cell hS m7
    have HC := Lib.hid (check_err (W := (W3.setCell ⟨s + 5, 3, none⟩ (.slice (some ⟨s + 2, 0, none⟩) 1 2))) (mut6_err (by omega) (by omega)) (mut6_in HL3.out) (by rw [set_size]; omega))
    have XX : Hid (Ext W (W3.setCell ⟨s + 5, 3, none⟩ (.slice (some ⟨s + 2, 0, none⟩) 1 2))) := Lib.hid (Below.setCell X33.out (p := ⟨s + 5, 3, none⟩) (by show W.heap.size ≤ s + 5; omega) _)
    have lw : s + 5 < W3.heap.size := by omega
    have lw2 : b < W3.heap.size := by omega
    have lb2 : s + 5 ≠ b := by omega
    have lb3 : b ≠ s + 5 := by omega
    clear HL X3 BM SZ HL3 X33 hS 
    go_wp2_with (first
      | (go_at_call 11; refine HC.out.mono ?_; rintro e W5 ⟨rfl, x5⟩; have X5 := Lib.hid x5; clear x5)
      | (go_at_call 13; refine (num_any _ _).mono ?_; rintro e w ⟨rfl, rfl⟩))
    go_ret
    exact ⟨rfl, XX.out.trans X5.out⟩
  by_cases h2 : which = 2
  · subst h2
    have e1 : IntKind.i64.wrap ((kk : Int) + 1) = (kk : Int) + 1 := by rw [IntWalk.i64_in _ (by omega)]
    have e2 : ((kk : Int) + 1).tmod (nn : Int) = (((kk + 1) % nn : Nat) : Int) := by rw [Int.tmod_eq_emod_of_nonneg (by omega)]; simp
    have hmd : (kk + 1) % nn < nn := Nat.mod_lt _ (by omega)
    have hz : nn ≠ 0 := by omega
    obtain ⟨r1, _, _⟩ := HL.out.regAt (i := (kk + 1) % nn) hmd
    obtain ⟨J, hJ⟩ : ∃ J, (kk + 1) % nn = J := ⟨_, rfl⟩
    have HMUT := Lib.hid (fun W h => mut2_in (W := W) (n := nn) (B := B) (bR := bR) (cR := cR) (bG := bG) (cG := cG) (s := s) h (k := kk) (by omega))
    rw [hJ] at e2 hmd r1 HMUT
    clear hJ
    have hJ1 : (0 : Int) ≤ (J : Int) := by omega
    have hJ2 : (J : Int) < (nn : Int) := by omega
    go_upto_region 15 with (fail)
    rename_i K1 hK1
    have hK1 := Lib.hid hK1
    refine wp_region_M (fun w' => Ext W2 w') 14 (by kernel_rfl) (Ext.drew _) (fun hS => ?_)
    refine wpAnyM_take (v := ?_) 0 rfl (by kernel_rfl) (fun _ _ _ h => h) hS rfl ?_ ?_; rotate_left; · (intro w hSw; have p0 := Ext.cell hSw m1; have p1 := Ext.cell hSw r1; (try dsimp only at hSw); go_simp; try with_reducible rfl)
    (try simp only [Act.put, List.setIfInBounds_toArray, List.set_cons_zero, List.set_cons_succ])
    refine wpAnyM_take (v := ?_) 1 rfl (by kernel_rfl) (fun _ _ _ h => h) hS rfl ?_ ?_; rotate_left; · (intro w hSw; have p0 := Ext.cell hSw m1; have p1 := Ext.cell hSw r1; (try dsimp only at hSw); go_simp; try with_reducible rfl)
    (try simp only [Act.put, List.setIfInBounds_toArray, List.set_cons_zero, List.set_cons_succ])
    refine wpAnyM_take (v := ?_) 2 rfl (by kernel_rfl) (fun _ _ _ h => h) hS rfl ?_ ?_; rotate_left; · (intro w hSw; have p0 := Ext.cell hSw m1; have p1 := Ext.cell hSw r1; (try dsimp only at hSw); go_simp; try with_reducible rfl)
    (try simp only [Act.put, List.setIfInBounds_toArray, List.set_cons_zero, List.set_cons_succ])
    refine wpAnyM_take (v := ?_) 3 rfl (by kernel_rfl) (fun _ _ _ h => h) hS rfl ?_ ?_; rotate_left; · (intro w hSw; have p0 := Ext.cell hSw m1; have p1 := Ext.cell hSw r1; (try dsimp only at hSw); go_simp; try with_reducible rfl)
    (try simp only [Act.put, List.setIfInBounds_toArray, List.set_cons_zero, List.set_cons_succ])
    refine wpAnyM_take (v := ?_) 4 rfl (by kernel_rfl) (fun _ _ _ h => h) hS rfl ?_ ?_; rotate_left; · (intro w hSw; have p0 := Ext.cell hSw m1; have p1 := Ext.cell hSw r1; (try dsimp only at hSw); go_simp; try with_reducible rfl)
    (try simp only [Act.put, List.setIfInBounds_toArray, List.set_cons_zero, List.set_cons_succ])
    refine wpAnyM_take (v := ?_) 5 rfl (by kernel_rfl) (fun _ _ _ h => h) hS rfl ?_ ?_; rotate_left; · (intro w hSw; have p0 := Ext.cell hSw m1; have p1 := Ext.cell hSw r1; (try dsimp only at hSw); go_simp; try with_reducible rfl)
    (try simp only [Act.put, List.setIfInBounds_toArray, List.set_cons_zero, List.set_cons_succ])
    refine wpAnyM_take (v := ?_) 6 rfl (by kernel_rfl) (fun _ _ _ h => h) hS rfl ?_ ?_; rotate_left; · (intro w hSw; have p0 := Ext.cell hSw m1; have p1 := Ext.cell hSw r1; (try dsimp only at hSw); go_simp; try with_reducible rfl)
    (try simp only [Act.put, List.setIfInBounds_toArray, List.set_cons_zero, List.set_cons_succ])
    refine wpAnyM_take (v := ?_) 7 rfl (by kernel_rfl) (fun _ _ _ h => h) hS rfl ?_ ?_; rotate_left; · (intro w hSw; have p0 := Ext.cell hSw m1; have p1 := Ext.cell hSw r1; (try dsimp only at hSw); go_simp; try with_reducible rfl)
    (try simp only [Act.put, List.setIfInBounds_toArray, List.set_cons_zero, List.set_cons_succ])
    refine wpAnyM_take (v := ?_) 8 rfl (by kernel_rfl) (fun _ _ _ h => h) hS rfl ?_ ?_; rotate_left; · (intro w hSw; have p0 := Ext.cell hSw m1; have p1 := Ext.cell hSw r1; (try dsimp only at hSw); go_simp; try with_reducible rfl)
    (try simp only [Act.put, List.setIfInBounds_toArray, List.set_cons_zero, List.set_cons_succ])
    refine wpAnyM_take (v := ?_) 9 rfl (by kernel_rfl) (fun _ _ _ h => h) hS rfl ?_ ?_; rotate_left; · (intro w hSw; have p0 := Ext.cell hSw m1; have p1 := Ext.cell hSw r1; (try dsimp only at hSw); go_simp; try with_reducible rfl)
    (try simp only [Act.put, List.setIfInBounds_toArray, List.set_cons_zero, List.set_cons_succ])
    refine wpAnyM_take (v := ?_) 10 rfl (by kernel_rfl) (fun _ _ _ h => h) hS rfl ?_ ?_; rotate_left; · (intro w hSw; have p0 := Ext.cell hSw m1; have p1 := Ext.cell hSw r1; (try dsimp only at hSw); go_simp; try with_reducible rfl)
    (try simp only [Act.put, List.setIfInBounds_toArray, List.set_cons_zero, List.set_cons_succ])
    refine wpAnyM_take (v := ?_) 11 rfl (by kernel_rfl) (fun _ _ _ h => h) hS rfl ?_ ?_; rotate_left; · (intro w hSw; have p0 := Ext.cell hSw m1; have p1 := Ext.cell hSw r1; (try dsimp only at hSw); go_simp; try with_reducible rfl)
    (try simp only [Act.put, List.setIfInBounds_toArray, List.set_cons_zero, List.set_cons_succ])
    refine wpAnyM_take (v := ?_) 12 rfl (by kernel_rfl) (fun _ _ _ h => h) hS rfl ?_ ?_; rotate_left; · (intro w hSw; have p0 := Ext.cell hSw m1; have p1 := Ext.cell hSw r1; (try dsimp only at hSw); go_simp; try with_reducible rfl)
    (try simp only [Act.put, List.setIfInBounds_toArray, List.set_cons_zero, List.set_cons_succ])
    refine wpAnyM_take (v := ?_) 13 rfl (by kernel_rfl) (fun _ _ _ h => h) hS rfl ?_ ?_; rotate_left; · (intro w hSw; have p0 := Ext.cell hSw m1; have p1 := Ext.cell hSw r1; (try dsimp only at hSw); go_simp; try with_reducible rfl)
    (try simp only [Act.put, List.setIfInBounds_toArray, List.set_cons_zero, List.set_cons_succ])
    generalize W2.drew = W3 at hS ⊢
    have HL3 := Lib.hid (HL.out.ext hS)
    have X33 := Lib.hid (X3.out.trans hS)
    have sz3 := hS.size
    obtain ⟨r0, _, rf⟩ := HL3.out.regAt (i := kk) (by omega)
    have rf := rf (kk * 4)
    refine wpAnyM_ready [14] (by kernel_rfl) rfl ?_
    refine AllM.late rfl rfl (by kernel_rfl) (fun K hK => ?_) AllM.nil
    go_simp
    refine hK.out _ _ ?_
    (try simp only [Act.put, List.setIfInBounds_toArray, List.set_cons_zero, List.set_cons_succ])
    clear hK K
    refine wpAnyM_done (by kernel_rfl) ?_ _
    refine hK1.out _ _ ?_
    have m0 := Ext.cell hS m0
    have m1 := Ext.cell hS m1
    have m2 := Ext.cell hS m2
    have m3 := Ext.cell hS m3
    have m4 := Ext.cell hS m4
    have m5 := Ext.cell hS m5
    have m6 := Ext.cell hS m6
    have m7 := Ext.cell hS m7
    have HC := Lib.hid (check_err (W := (W3.setCell ⟨bR, kk * 4, none⟩ (.string (nmS J)))) (mut2_err (k := kk) (by omega) (by omega) (by omega)) (HMUT.out _ HL3.out) (by rw [set_size]; omega))
    have XX : Hid (Ext W (W3.setCell ⟨bR, kk * 4, none⟩ (.string (nmS J)))) := Lib.hid (Below.setCell X33.out (p := ⟨bR, kk * 4, none⟩) (by show W.heap.size ≤ bR; omega) _)
    have lw : bR < W3.heap.size := by omega
    have lw2 : b < W3.heap.size := by omega
    have lb2 : bR ≠ b := by omega
    have lb3 : b ≠ bR := by omega
    clear HL X3 BM SZ HL3 X33 hS 
    go_wp2_with (first
      | (go_at_call 11; refine HC.out.mono ?_; rintro e W5 ⟨rfl, x5⟩; have X5 := Lib.hid x5; clear x5)
      | (go_at_call 13; refine (num_any _ _).mono ?_; rintro e w ⟨rfl, rfl⟩))
    go_ret
    exact ⟨rfl, XX.out.trans X5.out⟩
  by_cases h4 : which = 4
  · subst h4
    obtain ⟨iC, hiC, zC0, zC1, zC2⟩ := info_parts infoCls
    have OC : Hid (((W2.alloc (.cells #[.string ⟨#[114, 48, 48]⟩, .string ⟨#[114, 48, 48]⟩] 9)).alloc (.cells #[.string ⟨#[104]⟩, .slice (some ⟨W2.heap.size, 0, none⟩) 2 2] 40)).ownsRow s 40 2 (.slice (some ⟨s, 0, none⟩) 1 1) 1 [.string gN, vG bG nn cG]) := Lib.hid (owns_ext ⟨rfl, Or.inr ⟨s, 1, #[.string gN, vG bG nn cG], rfl, Nat.le_refl _, HL.out.cls, Nat.le_refl _, le_max1, rfl, rfl⟩⟩ ((Ext.alloc _ _).trans (Ext.alloc _ _)))
    have zA : (W2.alloc (.cells #[.string ⟨#[114, 48, 48]⟩, .string ⟨#[114, 48, 48]⟩] 9)).heap.size = W2.heap.size + 1 := by simp
    have hnb : ((W2.alloc (.cells #[.string ⟨#[114, 48, 48]⟩, .string ⟨#[114, 48, 48]⟩] 9)).alloc (.cells #[.string ⟨#[104]⟩, .slice (some ⟨W2.heap.size, 0, none⟩) 2 2] 40)).heap[W2.heap.size + 1]? = some (.cells #[.string ⟨#[104]⟩, .slice (some ⟨W2.heap.size, 0, none⟩) 2 2] 40 (0, 0)) := by
      have := heap_alloc_new (W2.alloc (.cells #[.string ⟨#[114, 48, 48]⟩, .string ⟨#[114, 48, 48]⟩] 9)) (.cells #[.string ⟨#[104]⟩, .slice (some ⟨W2.heap.size, 0, none⟩) 2 2] 40)
      rwa [zA] at this
    have hna := Lib.hid ((Ext.alloc (W2.alloc (.cells #[.string ⟨#[114, 48, 48]⟩, .string ⟨#[114, 48, 48]⟩] 9)) (.cells #[.string ⟨#[104]⟩, .slice (some ⟨W2.heap.size, 0, none⟩) 2 2] 40)).block (heap_alloc_new W2 (.cells #[.string ⟨#[114, 48, 48]⟩, .string ⟨#[114, 48, 48]⟩] 9)))
    have NEWS : Hid (∀ (j : Nat) (u : Value), [Value.string ⟨#[104]⟩, .slice (some ⟨W2.heap.size, 0, none⟩) 2 2][j]? = some u → ((W2.alloc (.cells #[.string ⟨#[114, 48, 48]⟩, .string ⟨#[114, 48, 48]⟩] 9)).alloc (.cells #[.string ⟨#[104]⟩, .slice (some ⟨W2.heap.size, 0, none⟩) 2 2] 40)).cell? (Addr.add ⟨W2.heap.size + 1, 0, none⟩ j) = some u) := Lib.hid (World.news_of_block (cs := #[.string ⟨#[104]⟩, .slice (some ⟨W2.heap.size, 0, none⟩) 2 2]) (t := 40) (fr := (0, 0)) hnb)
    have lz : W2.heap.size = b + 1 := SZ.out
    have LZ := Lib.hid lz
    clear lz zA hnb
    go_wp2_with (first
      | (at_builtin; refine wpList_append_lies _ rfl _ _ 23 rfl s 40 iC _ 2 40 Try.underlying23 hiC zC0 zC1 zC2 rfl (by omega) (.slice (some ⟨s, 0, none⟩) 1 1) 1 [.string gN, vG bG nn cG] rfl OC.out ⟨W2.heap.size + 1, 0, none⟩ 1 1 [.string ⟨#[104]⟩, .slice (some ⟨W2.heap.size, 0, none⟩) 2 2] rfl rfl NEWS.out (by simp [Value.oneCell']) (by omega) (by unfold maxLen; omega) (by omega) (by simp; omega) _ rfl ?_; intro g1 cp1 w3 hown1 hgrow1 hat1 hlt1; have hk3 : ∀ q ob, q ≠ s → W2.heap[q]? = some ob → w3.heap[q]? = some ob := (fun q ob h1 h2 => (hgrow1.block q (by have := (Array.getElem?_eq_some_iff.1 h2).1; simp; omega) (fun e => by cases e; exact h1 rfl)).trans (((Ext.alloc W2 _).trans (Ext.alloc _ _)).block h2)); have bm3 := hk3 b _ (by omega) BM.out; have m0 := blk_cell bm3 0 _ rfl; have mf0 := blk_free bm3 0; have m1 := blk_cell bm3 1 _ rfl; have mf1 := blk_free bm3 1; have m2 := blk_cell bm3 2 _ rfl; have mf2 := blk_free bm3 2; have m3 := blk_cell bm3 3 _ rfl; have mf3 := blk_free bm3 3; have m4 := blk_cell bm3 4 _ rfl; have mf4 := blk_free bm3 4; have m5 := blk_cell bm3 5 _ rfl; have mf5 := blk_free bm3 5; have m6 := blk_cell bm3 6 _ rfl; have mf6 := blk_free bm3 6; have m7 := blk_cell bm3 7 _ rfl; have mf7 := blk_free bm3 7; have lb := (Array.getElem?_eq_some_iff.1 bm3).1; have hn3 := (hgrow1.block W2.heap.size (by simp; omega) (fun e => by have h8 : W2.heap.size ≠ s := (by omega); cases e; exact h8 rfl)).trans hna.out; have HN3 := Lib.hid hn3; have HK3 := Lib.hid hk3; have HO3 := Lib.hid hown1; have HG3 := Lib.hid hgrow1; clear hk3 hown1 hgrow1 bm3 hn3))
    have h3 : Ext W w3 := Ext.grown ((X3.out.trans (Ext.alloc _ _)).trans (Ext.alloc _ _)) HG3.out (fun q e => by cases e; show W.heap.size ≤ s; omega)
    have XX : Hid (Ext W (w3.setCell ⟨b, 2, none⟩ (.slice (some ⟨g1, 0, none⟩) 2 cp1))) := Lib.hid (Below.setCell h3 (p := ⟨b, 2, none⟩) (by show W.heap.size ≤ b; omega) _)
    have hc3 := ownsRow_setCell_other HO3.out (a := ⟨b, 2, none⟩) (owns_ne HO3.out (HK3.out b _ (by omega) BM.out) (by decide)) (.slice (some ⟨g1, 0, none⟩) 2 cp1)
    have hcT : Tab (w3.setCell ⟨b, 2, none⟩ (.slice (some ⟨g1, 0, none⟩) 2 cp1)) (w3.setCell ⟨b, 2, none⟩ (.slice (some ⟨g1, 0, none⟩) 2 cp1)).heap.size 2 (.slice (some ⟨g1, 0, none⟩) 2 cp1) [[.string gN, vG bG nn cG], [.string hN, .slice (some ⟨W2.heap.size, 0, none⟩) 2 2]] := Tab.of_owns hc3 (by simp) rfl
    have hs3 : W2.heap.size < w3.heap.size := (Array.getElem?_eq_some_iff.1 HN3.out).1
    have hcS : StrsIn (w3.setCell ⟨b, 2, none⟩ (.slice (some ⟨g1, 0, none⟩) 2 cp1)) (w3.setCell ⟨b, 2, none⟩ (.slice (some ⟨g1, 0, none⟩) 2 cp1)).heap.size (.slice (some ⟨W2.heap.size, 0, none⟩) 2 2) [nmS 0, nmS 0] := by
      have h5 : (w3.setCell ⟨b, 2, none⟩ (.slice (some ⟨g1, 0, none⟩) 2 cp1)).heap[W2.heap.size]? = some (.cells #[.string ⟨#[114, 48, 48]⟩, .string ⟨#[114, 48, 48]⟩] 9 (0, 0)) := (Below.heap_setCell _ _ _ _ (by show W2.heap.size ≠ b; omega)).trans HN3.out
      rw [show (⟨#[114, 48, 48]⟩ : ByteArray) = nmS 0 by decide +kernel] at h5
      exact Tab.up (Tab.of_new (rows := [[.string (nmS 0)], [.string (nmS 0)]]) h5 (by simp) le_max2) (by rw [set_size]; omega)
    have HC := check_err (W := (w3.setCell ⟨b, 2, none⟩ (.slice (some ⟨g1, 0, none⟩) 2 cp1))) (mut4_err (n := nn) (by omega) (by omega)) (HL.out.machC (M := mut4 nn) (fun q hq hqs => by
      obtain ⟨ob, hob⟩ : ∃ ob, W2.heap[q]? = some ob := ⟨_, Array.getElem?_eq_getElem (by omega)⟩
      rw [Below.heap_setCell _ _ _ q (by show q ≠ b; omega), HK3.out q ob hqs hob, hob]) rfl rfl rfl rfl rfl (n0 := (w3.setCell ⟨b, 2, none⟩ (.slice (some ⟨g1, 0, none⟩) 2 cp1)).heap.size) (by rw [set_size]; omega) hcT hcS fits_100) (Nat.le_refl _)
    refine HC.mono ?_
    rintro e W5 ⟨rfl, x5⟩
    have X5 := Lib.hid x5
    clear x5 HC hcS hcT hc3 h3
    go_wp2_with (go_at_call 13; refine (num_any _ _).mono ?_; rintro e w ⟨rfl, rfl⟩)
    go_ret
    exact ⟨rfl, XX.out.trans X5.out⟩
  by_cases h9 : which = 9
  · subst h9
    obtain ⟨iS, hiS, zS0, zS1, zS2⟩ := info_parts infoStr
    have OA : Hid (W2.ownsRow (s + 6) 9 1 (.slice (some ⟨s + 6, 0, none⟩) 1 1) 1 [.string (nmS 0)]) := Lib.hid ⟨rfl, Or.inr ⟨s + 6, 1, #[.string (nmS 0)], rfl, Nat.le_refl _, HL.out.args, Nat.le_refl _, le_max1, rfl, rfl⟩⟩
    have NEWS : Hid (∀ (j : Nat) (u : Value), [Value.string ⟨#[114, 48, 49]⟩, .string ⟨#[114, 48, 48]⟩][j]? = some u → (W2.alloc (.cells #[.string ⟨#[114, 48, 49]⟩, .string ⟨#[114, 48, 48]⟩] 9)).cell? (Addr.add ⟨W2.heap.size, 0, none⟩ j) = some u) := Lib.hid (World.news_of_block (cs := #[.string ⟨#[114, 48, 49]⟩, .string ⟨#[114, 48, 48]⟩]) (t := 9) (fr := (0, 0)) (heap_alloc_new W2 _))
    have lz : W2.heap.size = b + 1 := SZ.out
    have LZ := Lib.hid lz
    clear lz
    go_wp2_with (first
      | (at_builtin; refine wpList_append_lies _ rfl _ _ 25 rfl (s + 6) 9 iS _ 1 16 Try.underlying25 hiS zS0 zS1 zS2 rfl (by omega) (.slice (some ⟨s + 6, 0, none⟩) 1 1) 1 [.string (nmS 0)] rfl (OA.out.alloc _) ⟨W2.heap.size, 0, none⟩ 2 2 [.string ⟨#[114, 48, 49]⟩, .string ⟨#[114, 48, 48]⟩] rfl rfl NEWS.out (by simp [Value.oneCell']) (by omega) (by unfold maxLen; omega) (by omega) (by simp; omega) _ rfl ?_; intro g1 cp1 w3 hown1 hgrow1 hat1 hlt1; have b3 := grown_blk OA.out hgrow1 (by omega) HL.out.ops; have hk3 : ∀ q ob, q ≠ s + 6 → W2.heap[q]? = some ob → w3.heap[q]? = some ob := (fun q ob h1 h2 => (hgrow1.block q (by have := (Array.getElem?_eq_some_iff.1 h2).1; simp; omega) (fun e => by cases e; exact h1 rfl)).trans ((Ext.alloc W2 _).block h2)); have bm3 := hk3 b _ (by omega) BM.out; have m0 := blk_cell bm3 0 _ rfl; have mf0 := blk_free bm3 0; have m1 := blk_cell bm3 1 _ rfl; have mf1 := blk_free bm3 1; have m2 := blk_cell bm3 2 _ rfl; have mf2 := blk_free bm3 2; have m3 := blk_cell bm3 3 _ rfl; have mf3 := blk_free bm3 3; have m4 := blk_cell bm3 4 _ rfl; have mf4 := blk_free bm3 4; have m5 := blk_cell bm3 5 _ rfl; have mf5 := blk_free bm3 5; have m6 := blk_cell bm3 6 _ rfl; have mf6 := blk_free bm3 6; have m7 := blk_cell bm3 7 _ rfl; have mf7 := blk_free bm3 7; have lb := (Array.getElem?_eq_some_iff.1 bm3).1; have HK3 := Lib.hid hk3; have HO3 := Lib.hid hown1; have HG3 := Lib.hid hgrow1; clear hk3 hown1 hgrow1 bm3 b3))
    have h3 : Ext W w3 := Ext.grown (X3.out.trans (Ext.alloc _ _)) HG3.out (fun q e => by cases e; show W.heap.size ≤ s + 6; omega)
    have XX : Hid (Ext W (w3.setCell ⟨b, 4, none⟩ (.slice (some ⟨g1, 0, none⟩) 3 cp1))) := Lib.hid (Below.setCell h3 (p := ⟨b, 4, none⟩) (by show W.heap.size ≤ b; omega) _)
    have hc3 := ownsRow_setCell_other HO3.out (a := ⟨b, 4, none⟩) (owns_ne HO3.out (HK3.out b _ (by omega) BM.out) (by decide)) (.slice (some ⟨g1, 0, none⟩) 3 cp1)
    have ha : StrsIn (w3.setCell ⟨b, 4, none⟩ (.slice (some ⟨g1, 0, none⟩) 3 cp1)) w3.heap.size (.slice (some ⟨g1, 0, none⟩) 3 cp1) [nmS 0, nmS 1, nmS 0] := by
      have := StrsIn.of_owns (l := [nmS 0, nmS 1, nmS 0]) hc3 rfl
      rwa [set_size] at this
    have HC := check_err (W := w3.setCell ⟨b, 4, none⟩ (.slice (some ⟨g1, 0, none⟩) 3 cp1)) (mut9_err (n := nn) (by omega) (by omega)) (HL.out.mach6 (M := mut9 nn) (fun q hq => by
      obtain ⟨ob, hob⟩ : ∃ ob, W2.heap[q]? = some ob := ⟨_, Array.getElem?_eq_getElem (by omega)⟩
      rw [Below.heap_setCell _ _ _ q (by show q ≠ b; omega), HK3.out q ob (by omega) hob, hob]) rfl rfl rfl (n0 := w3.heap.size) (by omega) ha StrsIn.nil fits_100) (by rw [set_size]; exact Nat.le_refl _)
    refine HC.mono ?_
    rintro e W5 ⟨rfl, x5⟩
    have X5 := Lib.hid x5
    clear x5 HC ha hc3 h3
    go_wp2_with (go_at_call 13; refine (num_any _ _).mono ?_; rintro e w ⟨rfl, rfl⟩)
    go_ret
    exact ⟨rfl, XX.out.trans X5.out⟩
  by_cases h14 : which = 14
  · subst h14
    obtain ⟨iC, hiC, zC0, zC1, zC2⟩ := info_parts infoCls
    have OC : Hid (((W2.alloc (.cells #[.string ⟨#[114, 48, 49]⟩] 9)).alloc (.cells #[.string ⟨#[104]⟩, .slice (some ⟨W2.heap.size, 0, none⟩) 1 1] 40)).ownsRow s 40 2 (.slice (some ⟨s, 0, none⟩) 1 1) 1 [.string gN, vG bG nn cG]) := Lib.hid (owns_ext ⟨rfl, Or.inr ⟨s, 1, #[.string gN, vG bG nn cG], rfl, Nat.le_refl _, HL.out.cls, Nat.le_refl _, le_max1, rfl, rfl⟩⟩ ((Ext.alloc _ _).trans (Ext.alloc _ _)))
    have zA : (W2.alloc (.cells #[.string ⟨#[114, 48, 49]⟩] 9)).heap.size = W2.heap.size + 1 := by simp
    have hnb : ((W2.alloc (.cells #[.string ⟨#[114, 48, 49]⟩] 9)).alloc (.cells #[.string ⟨#[104]⟩, .slice (some ⟨W2.heap.size, 0, none⟩) 1 1] 40)).heap[W2.heap.size + 1]? = some (.cells #[.string ⟨#[104]⟩, .slice (some ⟨W2.heap.size, 0, none⟩) 1 1] 40 (0, 0)) := by
      have := heap_alloc_new (W2.alloc (.cells #[.string ⟨#[114, 48, 49]⟩] 9)) (.cells #[.string ⟨#[104]⟩, .slice (some ⟨W2.heap.size, 0, none⟩) 1 1] 40)
      rwa [zA] at this
    have hna := Lib.hid ((Ext.alloc (W2.alloc (.cells #[.string ⟨#[114, 48, 49]⟩] 9)) (.cells #[.string ⟨#[104]⟩, .slice (some ⟨W2.heap.size, 0, none⟩) 1 1] 40)).block (heap_alloc_new W2 (.cells #[.string ⟨#[114, 48, 49]⟩] 9)))
    have NEWS : Hid (∀ (j : Nat) (u : Value), [Value.string ⟨#[104]⟩, .slice (some ⟨W2.heap.size, 0, none⟩) 1 1][j]? = some u → ((W2.alloc (.cells #[.string ⟨#[114, 48, 49]⟩] 9)).alloc (.cells #[.string ⟨#[104]⟩, .slice (some ⟨W2.heap.size, 0, none⟩) 1 1] 40)).cell? (Addr.add ⟨W2.heap.size + 1, 0, none⟩ j) = some u) := Lib.hid (World.news_of_block (cs := #[.string ⟨#[104]⟩, .slice (some ⟨W2.heap.size, 0, none⟩) 1 1]) (t := 40) (fr := (0, 0)) hnb)
    have lz : W2.heap.size = b + 1 := SZ.out
    have LZ := Lib.hid lz
    clear lz zA hnb
    go_wp2_with (first
      | (at_builtin; refine wpList_append_lies _ rfl _ _ 23 rfl s 40 iC _ 2 40 Try.underlying23 hiC zC0 zC1 zC2 rfl (by omega) (.slice (some ⟨s, 0, none⟩) 1 1) 1 [.string gN, vG bG nn cG] rfl OC.out ⟨W2.heap.size + 1, 0, none⟩ 1 1 [.string ⟨#[104]⟩, .slice (some ⟨W2.heap.size, 0, none⟩) 1 1] rfl rfl NEWS.out (by simp [Value.oneCell']) (by omega) (by unfold maxLen; omega) (by omega) (by simp; omega) _ rfl ?_; intro g1 cp1 w3 hown1 hgrow1 hat1 hlt1; have hk3 : ∀ q ob, q ≠ s → W2.heap[q]? = some ob → w3.heap[q]? = some ob := (fun q ob h1 h2 => (hgrow1.block q (by have := (Array.getElem?_eq_some_iff.1 h2).1; simp; omega) (fun e => by cases e; exact h1 rfl)).trans (((Ext.alloc W2 _).trans (Ext.alloc _ _)).block h2)); have bm3 := hk3 b _ (by omega) BM.out; have m0 := blk_cell bm3 0 _ rfl; have mf0 := blk_free bm3 0; have m1 := blk_cell bm3 1 _ rfl; have mf1 := blk_free bm3 1; have m2 := blk_cell bm3 2 _ rfl; have mf2 := blk_free bm3 2; have m3 := blk_cell bm3 3 _ rfl; have mf3 := blk_free bm3 3; have m4 := blk_cell bm3 4 _ rfl; have mf4 := blk_free bm3 4; have m5 := blk_cell bm3 5 _ rfl; have mf5 := blk_free bm3 5; have m6 := blk_cell bm3 6 _ rfl; have mf6 := blk_free bm3 6; have m7 := blk_cell bm3 7 _ rfl; have mf7 := blk_free bm3 7; have lb := (Array.getElem?_eq_some_iff.1 bm3).1; have hn3 := (hgrow1.block W2.heap.size (by simp; omega) (fun e => by have h8 : W2.heap.size ≠ s := (by omega); cases e; exact h8 rfl)).trans hna.out; have HN3 := Lib.hid hn3; have HK3 := Lib.hid hk3; have HO3 := Lib.hid hown1; have HG3 := Lib.hid hgrow1; clear hk3 hown1 hgrow1 bm3 hn3))
    have h3 : Ext W w3 := Ext.grown ((X3.out.trans (Ext.alloc _ _)).trans (Ext.alloc _ _)) HG3.out (fun q e => by cases e; show W.heap.size ≤ s; omega)
    have XX : Hid (Ext W (w3.setCell ⟨b, 2, none⟩ (.slice (some ⟨g1, 0, none⟩) 2 cp1))) := Lib.hid (Below.setCell h3 (p := ⟨b, 2, none⟩) (by show W.heap.size ≤ b; omega) _)
    have hc3 := ownsRow_setCell_other HO3.out (a := ⟨b, 2, none⟩) (owns_ne HO3.out (HK3.out b _ (by omega) BM.out) (by decide)) (.slice (some ⟨g1, 0, none⟩) 2 cp1)
    have hcT : Tab (w3.setCell ⟨b, 2, none⟩ (.slice (some ⟨g1, 0, none⟩) 2 cp1)) (w3.setCell ⟨b, 2, none⟩ (.slice (some ⟨g1, 0, none⟩) 2 cp1)).heap.size 2 (.slice (some ⟨g1, 0, none⟩) 2 cp1) [[.string gN, vG bG nn cG], [.string hN, .slice (some ⟨W2.heap.size, 0, none⟩) 1 1]] := Tab.of_owns hc3 (by simp) rfl
    have hs3 : W2.heap.size < w3.heap.size := (Array.getElem?_eq_some_iff.1 HN3.out).1
    have hcS : StrsIn (w3.setCell ⟨b, 2, none⟩ (.slice (some ⟨g1, 0, none⟩) 2 cp1)) (w3.setCell ⟨b, 2, none⟩ (.slice (some ⟨g1, 0, none⟩) 2 cp1)).heap.size (.slice (some ⟨W2.heap.size, 0, none⟩) 1 1) [nmS 1] := by
      have h5 : (w3.setCell ⟨b, 2, none⟩ (.slice (some ⟨g1, 0, none⟩) 2 cp1)).heap[W2.heap.size]? = some (.cells #[.string ⟨#[114, 48, 49]⟩] 9 (0, 0)) := (Below.heap_setCell _ _ _ _ (by show W2.heap.size ≠ b; omega)).trans HN3.out
      rw [show (⟨#[114, 48, 49]⟩ : ByteArray) = nmS 1 by decide +kernel] at h5
      exact Tab.up (Tab.of_new (rows := [[.string (nmS 1)]]) h5 (by simp) le_max1) (by rw [set_size]; omega)
    have HC := check_err (W := (w3.setCell ⟨b, 2, none⟩ (.slice (some ⟨g1, 0, none⟩) 2 cp1))) (mut14_err (n := nn) (by omega) (by omega)) (HL.out.machC (M := mut14 nn) (fun q hq hqs => by
      obtain ⟨ob, hob⟩ : ∃ ob, W2.heap[q]? = some ob := ⟨_, Array.getElem?_eq_getElem (by omega)⟩
      rw [Below.heap_setCell _ _ _ q (by show q ≠ b; omega), HK3.out q ob hqs hob, hob]) rfl rfl rfl rfl rfl (n0 := (w3.setCell ⟨b, 2, none⟩ (.slice (some ⟨g1, 0, none⟩) 2 cp1)).heap.size) (by rw [set_size]; omega) hcT hcS fits_100) (Nat.le_refl _)
    refine HC.mono ?_
    rintro e W5 ⟨rfl, x5⟩
    have X5 := Lib.hid x5
    clear x5 HC hcS hcT hc3 h3
    go_wp2_with (go_at_call 13; refine (num_any _ _).mono ?_; rintro e w ⟨rfl, rfl⟩)
    go_ret
    exact ⟨rfl, XX.out.trans X5.out⟩
  by_cases h15 : which = 15
  · subst h15
    obtain ⟨iS, hiS, zS0, zS1, zS2⟩ := info_parts infoStr
    have c1 := blk_cell HL.out.cls 1 _ rfl
    have RGA := Lib.hid (fun (i : Nat) (hi : i < nn) => (HL.out.rgAt hi).1)
    have ln : ((namesS nn).map Value.string).length = nn := by rw [List.length_map, namesS_len]
    go_upto_region 55 with (fail)
    rename_i K1 hK1
    have hK1 := Lib.hid hK1
    refine wp_region_M (fun w' => Ext W2 w') 10 (by kernel_rfl) (Ext.drew _) (fun hS => ?_)
    refine wpAnyM_take (v := ?_) 0 rfl (by kernel_rfl) (fun _ _ _ h => h) hS rfl ?_ ?_; rotate_left; · (intro w hSw; have p0 := Ext.cell hSw m3; have p1 := Ext.cell hSw m2; have p2 := Ext.cell hSw c1; (try dsimp only at hSw); go_simp; try with_reducible rfl)
    (try simp only [Act.put, List.setIfInBounds_toArray, List.set_cons_zero, List.set_cons_succ])
    refine wpAnyM_take (v := ?_) 1 rfl (by kernel_rfl) (fun _ _ _ h => h) hS rfl ?_ ?_; rotate_left; · (intro w hSw; have p0 := Ext.cell hSw m3; have p1 := Ext.cell hSw m2; have p2 := Ext.cell hSw c1; (try dsimp only at hSw); go_simp; try with_reducible rfl)
    (try simp only [Act.put, List.setIfInBounds_toArray, List.set_cons_zero, List.set_cons_succ])
    refine wpAnyM_take (v := ?_) 2 rfl (by kernel_rfl) (fun _ _ _ h => h) hS rfl ?_ ?_; rotate_left; · (intro w hSw; have p0 := Ext.cell hSw m3; have p1 := Ext.cell hSw m2; have p2 := Ext.cell hSw c1; (try dsimp only at hSw); go_simp; try with_reducible rfl)
    (try simp only [Act.put, List.setIfInBounds_toArray, List.set_cons_zero, List.set_cons_succ])
    refine wpAnyM_take (v := ?_) 3 rfl (by kernel_rfl) (fun _ _ _ h => h) hS rfl ?_ ?_; rotate_left; · (intro w hSw; have p0 := Ext.cell hSw m3; have p1 := Ext.cell hSw m2; have p2 := Ext.cell hSw c1; (try dsimp only at hSw); go_simp; try with_reducible rfl)
    (try simp only [Act.put, List.setIfInBounds_toArray, List.set_cons_zero, List.set_cons_succ])
    refine wpAnyM_take (v := ?_) 4 rfl (by kernel_rfl) (fun _ _ _ h => h) hS rfl ?_ ?_; rotate_left; · (intro w hSw; have p0 := Ext.cell hSw m3; have p1 := Ext.cell hSw m2; have p2 := Ext.cell hSw c1; (try dsimp only at hSw); go_simp; try with_reducible rfl)
    (try simp only [Act.put, List.setIfInBounds_toArray, List.set_cons_zero, List.set_cons_succ])
    refine wpAnyM_take (v := ?_) 5 rfl (by kernel_rfl) (fun _ _ _ h => h) hS rfl ?_ ?_; rotate_left; · (intro w hSw; have p0 := Ext.cell hSw m3; have p1 := Ext.cell hSw m2; have p2 := Ext.cell hSw c1; (try dsimp only at hSw); go_simp; try with_reducible rfl)
    (try simp only [Act.put, List.setIfInBounds_toArray, List.set_cons_zero, List.set_cons_succ])
    refine wpAnyM_take (v := ?_) 6 rfl (by kernel_rfl) (fun _ _ _ h => h) hS rfl ?_ ?_; rotate_left; · (intro w hSw; have p0 := Ext.cell hSw m3; have p1 := Ext.cell hSw m2; have p2 := Ext.cell hSw c1; (try dsimp only at hSw); go_simp; try with_reducible rfl)
    (try simp only [Act.put, List.setIfInBounds_toArray, List.set_cons_zero, List.set_cons_succ])
    generalize W2.drew = W3 at hS ⊢
    refine wpAnyM_ready [7] (by kernel_rfl) rfl ?_
    refine AllM.cons rfl rfl (fun K hK => ?_) AllM.nil
    refine wp_append_lies _ _ _ _ rfl W3.heap.size 9 iS _ 1 16 Try.underlying25 hiS zS0 zS1 zS2 rfl (by omega) (.slice none 0 0) 0 [] rfl (World.ownsRow_nil W3 _ _ _) ⟨bG, 0, none⟩ nn cG ((namesS nn).map Value.string) rfl (by rw [ln]; omega) (fun j u hj => by
      have hlt : j < nn := by have := (List.getElem?_eq_some_iff.1 hj).1; omega
      rw [List.getElem?_map, namesS_at hlt] at hj
      cases hj
      rw [addr_off, Nat.zero_add]
      exact Ext.cell hS (RGA.out j hlt)) (by intro u hu; obtain ⟨q, _, rfl⟩ := List.mem_map.1 hu; rfl) (by omega) (by unfold maxLen; omega) (by omega) (Nat.le_refl _) _ rfl ?_
    intro g1 cp1 w3 hown1 hgrow1 hat1 hlt1
    have hgr : Ext W2 w3 := Ext.grown hS hgrow1 (fun q e => by cases e)
    have hS0 := hS
    have sz2 := hS0.size
    have hS := hgr
    refine hK.out _ _ hS ?_
    (try simp only [Act.put, List.setIfInBounds_toArray, List.set_cons_zero, List.set_cons_succ])
    clear hK K
    refine wpAnyM_take (v := ?_) 8 rfl (by kernel_rfl) (fun _ _ _ h => h) hS rfl ?_ ?_; rotate_left; · (intro w hSw; skip; (try dsimp only at hSw); go_simp; try with_reducible rfl)
    (try simp only [Act.put, List.setIfInBounds_toArray, List.set_cons_zero, List.set_cons_succ])
    refine wpAnyM_take (v := ?_) 9 rfl (by kernel_rfl) (fun _ _ _ h => h) hS rfl ?_ ?_; rotate_left; · (intro w hSw; skip; (try dsimp only at hSw); go_simp; try with_reducible rfl)
    (try simp only [Act.put, List.setIfInBounds_toArray, List.set_cons_zero, List.set_cons_succ])
    have HL3 := Lib.hid (HL.out.ext hgr)
    have X33 := Lib.hid (X3.out.trans hgr)
    have sz3 := hgr.size
    have o5 := blk_cell HL3.out.ops 17 _ rfl
    have of5 := blk_free HL3.out.ops 17
    rw [Nat.zero_add, List.nil_append] at hown1
    have HO3 := Lib.hid hown1
    clear hown1 hgrow1 hat1
    refine wpAnyM_ready [10] (by kernel_rfl) rfl ?_
    refine AllM.late rfl rfl (by kernel_rfl) (fun K hK => ?_) AllM.nil
    go_simp
    refine hK.out _ _ ?_
    (try simp only [Act.put, List.setIfInBounds_toArray, List.set_cons_zero, List.set_cons_succ])
    clear hK K
    refine wpAnyM_done (by kernel_rfl) ?_ _
    refine hK1.out _ _ ?_
    have m0 := Ext.cell hgr m0
    have m1 := Ext.cell hgr m1
    have m2 := Ext.cell hgr m2
    have m3 := Ext.cell hgr m3
    have m4 := Ext.cell hgr m4
    have m5 := Ext.cell hgr m5
    have m6 := Ext.cell hgr m6
    have m7 := Ext.cell hgr m7
    have hc3 := ownsRow_setCell_other HO3.out (a := ⟨s + 5, 17, none⟩) (fun e => by have h8 : g1 ≠ s + 5 := (by have := (HO3.out.lt g1 rfl).1; omega); cases e; exact h8 rfl) (.slice (some ⟨g1, 0, none⟩) nn cp1)
    have hcl : StrsIn (w3.setCell ⟨s + 5, 17, none⟩ (.slice (some ⟨g1, 0, none⟩) nn cp1)) w3.heap.size (.slice (some ⟨g1, 0, none⟩) nn cp1) (namesS nn) := by
      have := StrsIn.of_owns (l := namesS nn) hc3 (namesS_len nn)
      rwa [set_size] at this
    have HC := Lib.hid (check_err (W := w3.setCell ⟨s + 5, 17, none⟩ (.slice (some ⟨g1, 0, none⟩) nn cp1)) (mut15_err (n := nn) (by omega) (by omega)) (HL3.out.machB (M := mut15 nn) (i := 2) (p := (⟨divN, gO, [gO, gO], -1, []⟩, .slice (some ⟨s + 4, 0, none⟩) 2 2, .slice none 0 0)) rfl rfl rfl rfl rfl rfl (n0 := w3.heap.size) (by omega) fits_100 hcl) (by rw [set_size]; exact Nat.le_refl _))
    have XX : Hid (Ext W (w3.setCell ⟨s + 5, 17, none⟩ (.slice (some ⟨g1, 0, none⟩) nn cp1))) := Lib.hid (Below.setCell X33.out (p := ⟨s + 5, 17, none⟩) (by show W.heap.size ≤ s + 5; omega) _)
    have lw : s + 5 < w3.heap.size := by omega
    have lw2 : b < w3.heap.size := by omega
    have lb2 : s + 5 ≠ b := by omega
    have lb3 : b ≠ s + 5 := by omega
    clear HL X3 BM SZ HL3 X33 hS hc3 hcl RGA HO3
    go_wp2_with (first
      | (go_at_call 11; refine HC.out.mono ?_; rintro e W5 ⟨rfl, x5⟩; have X5 := Lib.hid x5; clear x5)
      | (go_at_call 13; refine (num_any _ _).mono ?_; rintro e w ⟨rfl, rfl⟩))
    go_ret
    exact ⟨rfl, XX.out.trans X5.out⟩
  have HC := Lib.hid (check_ok (W := W2) (small_ok (n := nn) (by omega) (by omega)) (HL.out.mach7 (M := smallM nn) rfl rfl rfl (Nat.le_refl _) HL.out.argsB StrsIn.nil fits_100) (by omega))
  have XX := X3
  clear HL X3 BM SZ
  go_wp2_with (first
    | (go_at_call 11; refine HC.out.mono ?_; rintro e W5 ⟨rfl, x5⟩; have X5 := Lib.hid x5; clear x5)
    | (go_at_call 13; refine (num_any _ _).mono ?_; rintro e w ⟨rfl, rfl⟩))
  go_ret
  exact ⟨rfl, XX.out.trans X5.out⟩
end Go.Proofs.Ythomndfagpeniaa
