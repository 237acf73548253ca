/- MdcheckAlias: its walk. It returns true for every five numbers, and leaves all that was there as it was. -/
import Derived.Test.YthomndfagpeniaaAliasP
import Derived.IntWalk
import Derived.WalkSpells
namespace Go.Proofs.Ythomndfagpeniaa
open Go.RowKit
attribute [local go_sem] Oper.semAt_some

theorem infoRegA : (Try.prog.info? 38).map (fun i => (i.zero, i.size, i.bytes)) = some (some (.agg #[.string ByteArray.empty, .int .i64 0, .int .i64 0, .slice none 0 0]), 4, 56) := by kernel_rfl
set_option maxRecDepth 100000 in
set_option maxHeartbeats 16000000 in
theorem mdAlias_any (width a wa b' wb : Int) (W : World) (hw : fits64 width) (ha : fits64 a) (hwa : fits64 wa) (hb : fits64 b') (hwb : fits64 wb) :
    Calls Try.prog 5 #[.int .i64 width, .int .i64 a, .int .i64 wa, .int .i64 b', .int .i64 wb] W fun e W' => e = .returned (.bool true) ∧ Ext W W' := by
  go_enter Try.func5, Try.ntmps5
  go_wp2_with fail
  refine (alive_any _).mono ?_
  rintro e w1 ⟨rfl, x1⟩
  have X1 := Lib.hid x1
  clear x1
  by_cases q0 : width < 1
  · go_wp2_with fail
    go_ret
    exact ⟨rfl, X1.out⟩
  by_cases q1 : 64 < width
  · go_wp2_with fail
    go_ret
    exact ⟨rfl, X1.out⟩
  by_cases q2 : a < 0
  · go_wp2_with fail
    go_ret
    exact ⟨rfl, X1.out⟩
  by_cases q3 : wa < 1
  · go_wp2_with fail
    go_ret
    exact ⟨rfl, X1.out⟩
  by_cases q4 : b' < 0
  · go_wp2_with fail
    go_ret
    exact ⟨rfl, X1.out⟩
  by_cases q5 : wb < 1
  · go_wp2_with fail
    go_ret
    exact ⟨rfl, X1.out⟩
  by_cases q6 : 64 < a
  · go_wp2_with fail
    go_ret
    exact ⟨rfl, X1.out⟩
  by_cases q7 : 64 < wa
  · go_wp2_with fail
    go_ret
    exact ⟨rfl, X1.out⟩
  by_cases q8 : 64 < b'
  · go_wp2_with fail
    go_ret
    exact ⟨rfl, X1.out⟩
  by_cases q9 : 64 < wb
  · go_wp2_with fail
    go_ret
    exact ⟨rfl, X1.out⟩
  go_upto_region 5 with (go_at_call 14; refine (small_any 3 (by omega) (by omega) _).mono ?_; rintro e W1 ⟨x2, bR, cR, bG, cG, s, rfl, hl⟩; have X2 := Lib.hid x2; have HL := Lib.hid hl; clear x2 hl)
  have xa : Ext W1 (W1.alloc (.cells #[.string mN, .slice (some ⟨bR, 0, none⟩) 3 cR, .slice (some ⟨s, 0, none⟩) 1 1, .slice (some ⟨s + 5, 0, none⟩) 3 3, .slice (some ⟨s + 6, 0, none⟩) 1 1, .string (nmS 0), .slice none 0 0, .int .i64 100] 27)) := Ext.alloc _ _
  have bm := heap_alloc_new W1 (.cells #[.string mN, .slice (some ⟨bR, 0, none⟩) 3 cR, .slice (some ⟨s, 0, none⟩) 1 1, .slice (some ⟨s + 5, 0, none⟩) 3 3, .slice (some ⟨s + 6, 0, none⟩) 1 1, .string (nmS 0), .slice none 0 0, .int .i64 100] 27)
  have sz : (W1.alloc (.cells #[.string mN, .slice (some ⟨bR, 0, none⟩) 3 cR, .slice (some ⟨s, 0, none⟩) 1 1, .slice (some ⟨s + 5, 0, none⟩) 3 3, .slice (some ⟨s + 6, 0, none⟩) 1 1, .string (nmS 0), .slice none 0 0, .int .i64 100] 27)).heap.size = W1.heap.size + 1 := by simp
  have hs7 := HL.out.size
  have hB : W.heap.size ≤ w1.heap.size := X1.out.size
  have HL := Lib.hid (HL.out.ext xa)
  have X3 := Lib.hid ((X1.out.trans X2.out).trans xa)
  clear X1 X2
  generalize W1.alloc (.cells #[.string mN, .slice (some ⟨bR, 0, none⟩) 3 cR, .slice (some ⟨s, 0, none⟩) 1 1, .slice (some ⟨s + 5, 0, none⟩) 3 3, .slice (some ⟨s + 6, 0, none⟩) 1 1, .string (nmS 0), .slice none 0 0, .int .i64 100] 27) = W2 at xa bm sz HL X3 ⊢
  clear xa
  generalize W1.heap.size = b at *
  generalize w1.heap.size = B at *
  have m1 := blk_cell bm 1 _ rfl
  have mf1 := blk_free bm 1
  have lb : b < W2.heap.size := by omega
  have hBs := HL.out.bs
  have hBR := HL.out.br
  have hBG := HL.out.bg
  have hne := HL.out.ne
  have BM := Lib.hid bm
  have SZ := Lib.hid sz
  clear bm sz
  obtain ⟨iR, hiR, zR0, zR1, zR2⟩ := info_parts infoRegA
  have OR : Hid (((W2.alloc (.cells #[.string ⟨#[111, 110, 101]⟩, .int .i64 wa, .int .i64 a, .slice none 0 0, .string ⟨#[116, 119, 111]⟩, .int .i64 wb, .int .i64 b', .slice none 0 0] 38)).alloc (.cells #[.string ⟨#[119, 105, 100, 101]⟩, .int .i64 width, .int .i64 0, .slice (some ⟨W2.heap.size, 0, none⟩) 2 2] 38)).ownsRow B 38 4 (.slice (some ⟨bR, 0, none⟩) 3 cR) 3 (cellsR 3)) := Lib.hid (owns_ext HL.out.regs ((Ext.alloc _ _).trans (Ext.alloc _ _)))
  have zA : ((W2.alloc (.cells #[.string ⟨#[111, 110, 101]⟩, .int .i64 wa, .int .i64 a, .slice none 0 0, .string ⟨#[116, 119, 111]⟩, .int .i64 wb, .int .i64 b', .slice none 0 0] 38))).heap.size = W2.heap.size + 1 := by simp
  have hnb : ((W2.alloc (.cells #[.string ⟨#[111, 110, 101]⟩, .int .i64 wa, .int .i64 a, .slice none 0 0, .string ⟨#[116, 119, 111]⟩, .int .i64 wb, .int .i64 b', .slice none 0 0] 38)).alloc (.cells #[.string ⟨#[119, 105, 100, 101]⟩, .int .i64 width, .int .i64 0, .slice (some ⟨W2.heap.size, 0, none⟩) 2 2] 38)).heap[W2.heap.size + 1]? = some (.cells #[.string ⟨#[119, 105, 100, 101]⟩, .int .i64 width, .int .i64 0, .slice (some ⟨W2.heap.size, 0, none⟩) 2 2] 38 (0, 0)) := by
    have := heap_alloc_new (W2.alloc (.cells #[.string ⟨#[111, 110, 101]⟩, .int .i64 wa, .int .i64 a, .slice none 0 0, .string ⟨#[116, 119, 111]⟩, .int .i64 wb, .int .i64 b', .slice none 0 0] 38)) (.cells #[.string ⟨#[119, 105, 100, 101]⟩, .int .i64 width, .int .i64 0, .slice (some ⟨W2.heap.size, 0, none⟩) 2 2] 38)
    rwa [zA] at this
  have hna := Lib.hid ((Ext.alloc (W2.alloc (.cells #[.string ⟨#[111, 110, 101]⟩, .int .i64 wa, .int .i64 a, .slice none 0 0, .string ⟨#[116, 119, 111]⟩, .int .i64 wb, .int .i64 b', .slice none 0 0] 38)) (.cells #[.string ⟨#[119, 105, 100, 101]⟩, .int .i64 width, .int .i64 0, .slice (some ⟨W2.heap.size, 0, none⟩) 2 2] 38)).block (heap_alloc_new W2 (.cells #[.string ⟨#[111, 110, 101]⟩, .int .i64 wa, .int .i64 a, .slice none 0 0, .string ⟨#[116, 119, 111]⟩, .int .i64 wb, .int .i64 b', .slice none 0 0] 38)))
  have NEWS : Hid (∀ (j : Nat) (u : Value), [Value.string ⟨#[119, 105, 100, 101]⟩, .int .i64 width, .int .i64 0, .slice (some ⟨W2.heap.size, 0, none⟩) 2 2][j]? = some u → ((W2.alloc (.cells #[.string ⟨#[111, 110, 101]⟩, .int .i64 wa, .int .i64 a, .slice none 0 0, .string ⟨#[116, 119, 111]⟩, .int .i64 wb, .int .i64 b', .slice none 0 0] 38)).alloc (.cells #[.string ⟨#[119, 105, 100, 101]⟩, .int .i64 width, .int .i64 0, .slice (some ⟨W2.heap.size, 0, none⟩) 2 2] 38)).cell? (Addr.add ⟨W2.heap.size + 1, 0, none⟩ j) = some u) := Lib.hid (World.news_of_block (cs := #[.string ⟨#[119, 105, 100, 101]⟩, .int .i64 width, .int .i64 0, .slice (some ⟨W2.heap.size, 0, none⟩) 2 2]) (t := 38) (fr := (0, 0)) hnb)
  have lz : W2.heap.size = b + 1 := SZ.out
  have LZ := Lib.hid lz
  clear lz zA hnb
  go_upto_region 6 with (at_builtin; go_loud (refine wpList_append_lies _ rfl _ _ 22 rfl B 38 iR _ 4 56 Try.underlying22 hiR zR0 zR1 zR2 rfl (by omega) (.slice (some ⟨bR, 0, none⟩) 3 cR) 3 (cellsR 3) rfl OR.out ⟨W2.heap.size + 1, 0, none⟩ 1 1 [.string ⟨#[119, 105, 100, 101]⟩, .int .i64 width, .int .i64 0, .slice (some ⟨W2.heap.size, 0, none⟩) 2 2] rfl rfl NEWS.out (by simp [Value.oneCell']) (by omega) (by unfold maxLen; omega) (by omega) (by simp; omega) _ rfl ?_; intro g1 cp1 w3 hown1 hgrow1 hat1 hlt1; have hk3 : ∀ q ob, q ≠ bR → W2.heap[q]? = some ob → w3.heap[q]? = some ob := (fun q ob h1 h2 => (hgrow1.block q (by have := (Array.getElem?_eq_some_iff.1 h2).1; simp; omega) (fun e => by cases e; exact h1 rfl)).trans (((Ext.alloc W2 _).trans (Ext.alloc _ _)).block h2)); have bm3 := hk3 b _ (by omega) BM.out; have m1 := blk_cell bm3 1 _ rfl; have mf1 := blk_free bm3 1; have lb := (Array.getElem?_eq_some_iff.1 bm3).1; have hn3 := (hgrow1.block W2.heap.size (by simp; omega) (fun e => by have h8 : W2.heap.size ≠ bR := (by omega); cases e; exact h8 rfl)).trans hna.out; have HN3 := Lib.hid hn3; have HK3 := Lib.hid hk3; have HO3 := Lib.hid hown1; have HG3 := Lib.hid hgrow1; have HB3 := Lib.hid bm3; clear hk3 hown1 hgrow1 bm3 hn3 hat1))
  have h3 : Ext W w3 := Ext.grown ((X3.out.trans (Ext.alloc _ _)).trans (Ext.alloc _ _)) HG3.out (fun q e => by cases e; show W.heap.size ≤ bR; omega)
  have XX : Hid (Ext W (w3.setCell ⟨b, 1, none⟩ (.slice (some ⟨g1, 0, none⟩) 4 cp1))) := Lib.hid (Below.setCell h3 (p := ⟨b, 1, none⟩) (by show W.heap.size ≤ b; omega) _)
  have hc3 := ownsRow_setCell_other HO3.out (a := ⟨b, 1, none⟩) (owns_ne HO3.out HB3.out (by decide)) (.slice (some ⟨g1, 0, none⟩) 4 cp1)
  have hnn := (Below.heap_setCell w3 ⟨b, 1, none⟩ (.slice (some ⟨g1, 0, none⟩) 4 cp1) W2.heap.size (by show W2.heap.size ≠ b; omega)).trans HN3.out
  have bm := heap_set_cells HB3.out 1 (.slice (some ⟨g1, 0, none⟩) 4 cp1)
  have hm := checkM (HL.out.machR (W' := w3.setCell ⟨b, 1, none⟩ (.slice (some ⟨g1, 0, none⟩) 4 cp1)) (M := aliasM width a wa b' wb) (fun q hq hqs => by
    obtain ⟨ob, hob⟩ : ∃ ob, W2.heap[q]? = some ob := ⟨_, Array.getElem?_eq_getElem (by omega)⟩
    rw [Below.heap_setCell _ _ _ q (by show q ≠ b; omega), HK3.out q ob hqs hob, hob]) rfl rfl rfl rfl (n0 := (w3.setCell ⟨b, 1, none⟩ (.slice (some ⟨g1, 0, none⟩) 4 cp1)).heap.size) (by rw [set_size]; omega) (alias_in ⟨hw, hwa, ha, hwb, hb⟩ hc3 hnn) fits_100) (Nat.le_refl _)
  rw [alias_check (by omega) (by omega) (by omega) (by omega) (by omega)] at hm
  have HM := Lib.hid hm
  clear hm hc3 hnn h3 HL X3 BM SZ OR hna NEWS HN3 HK3 HO3 HG3
  generalize w3.setCell ⟨b, 1, none⟩ (.slice (some ⟨g1, 0, none⟩) 4 cp1) = W4 at bm HM XX ⊢
  have m0 := blk_cell bm 0 _ rfl
  have m1 := blk_cell bm 1 _ rfl
  have m2 := blk_cell bm 2 _ rfl
  have m3 := blk_cell bm 3 _ rfl
  have m4 := blk_cell bm 4 _ rfl
  have m5 := blk_cell bm 5 _ rfl
  have m6 := blk_cell bm 6 _ rfl
  have m7 := blk_cell bm 7 _ rfl
  have e1 : IntKind.i64.wrap (a + wa) = a + wa := IntWalk.i64_in _ (by omega)
  have e2 : IntKind.i64.wrap (b' + wb) = b' + wb := IntWalk.i64_in _ (by omega)
  unfold aliasW at HM
  by_cases c1 : width < a + wa
  · rw [if_pos (Or.inl c1)] at HM
    go_wp2_with (first
      | (go_at_call 11; refine HM.out.mono ?_; rintro e W5 ⟨rfl, x5⟩; have X5 := Lib.hid x5; clear x5)
      | (go_at_call 13; refine (num_any _ _).mono ?_; rintro e w ⟨rfl, rfl⟩))
    go_ret
    exact ⟨rfl, XX.out.trans X5.out⟩
  by_cases c2 : width < b' + wb
  · rw [if_pos (Or.inr c2)] at HM
    go_wp2_with (first
      | (go_at_call 11; refine HM.out.mono ?_; rintro e W5 ⟨rfl, x5⟩; have X5 := Lib.hid x5; clear x5)
      | (go_at_call 13; refine (num_any _ _).mono ?_; rintro e w ⟨rfl, rfl⟩))
    go_ret
    exact ⟨rfl, XX.out.trans X5.out⟩
  rw [if_neg (by omega)] at HM
  by_cases c3 : a < b' + wb
  · by_cases c4 : b' < a + wa
    · rw [if_pos ⟨c3, c4⟩] at HM
      go_wp2_with (first
        | (go_at_call 11; refine HM.out.mono ?_; rintro e W5 ⟨rfl, x5⟩; have X5 := Lib.hid x5; clear x5)
        | (go_at_call 13; refine (num_any _ _).mono ?_; rintro e w ⟨rfl, rfl⟩))
      go_ret
      exact ⟨rfl, XX.out.trans X5.out⟩
    · rw [if_neg (by omega)] at HM
      go_wp2_with (first
        | (go_at_call 11; refine HM.out.mono ?_; rintro e W5 ⟨rfl, x5⟩; have X5 := Lib.hid x5; clear x5)
        | (go_at_call 13; refine (num_any _ _).mono ?_; rintro e w ⟨rfl, rfl⟩))
      go_ret
      exact ⟨rfl, XX.out.trans X5.out⟩
  · rw [if_neg (by omega)] at HM
    go_wp2_with (first
      | (go_at_call 11; refine HM.out.mono ?_; rintro e W5 ⟨rfl, x5⟩; have X5 := Lib.hid x5; clear x5)
      | (go_at_call 13; refine (num_any _ _).mono ?_; rintro e w ⟨rfl, rfl⟩))
    go_ret
    exact ⟨rfl, XX.out.trans X5.out⟩
end Go.Proofs.Ythomndfagpeniaa
