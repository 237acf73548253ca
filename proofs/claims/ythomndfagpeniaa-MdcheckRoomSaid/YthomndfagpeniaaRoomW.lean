/- MdcheckRoom: its walk. It returns true for every input, and leaves all that was there as it was. -/
import Derived.Test.YthomndfagpeniaaMgG
import Derived.Test.YthomndfagpeniaaMd21
import Derived.IntWalk
import Derived.WalkSpells
namespace Go.Proofs.Ythomndfagpeniaa
open Go.RowKit
attribute [local go_sem] Oper.semAt_some

/-- An append, also of nothing. -/
theorem wp_append_any {P : Program} (w : World) {o : Oper} {a : Act} {K : Act → World → Prop} {Q : Exit → Act → World → Prop} (s x : Operand) (t : TypeId)
    (ho : o.op = .call { callee := .builtin .append, args := #[s, x], argTypes := #[t, t] })
    (base : Nat) (e : TypeId) (i : TypeInfo) (z : Value) (size bytes : Nat) (ht : P.underlying t = some (.slice e)) (hi : P.info? e = some i) (hz : i.zero = some z)
    (hsize : i.size = size) (hby : i.bytes = bytes) (hzs : z.cells.size = size) (hsz : 0 < size)
    (v : Value) (n : Nat) (xs : List Value) (hs : a.eval s = v) (hown : w.ownsRow base e size v n xs)
    (ad : Addr) (m c : Nat) (news : List Value) (hx : a.eval x = .slice (some ad) m c) (hl : news.length = m * size) (hnews : ∀ j u, news[j]? = some u → w.cell? (ad.add j) = some u) (h1 : ∀ u ∈ news, u.oneCell' = true)
    (h63 : n + m ≤ maxLen) (hbytes : (n + m) * bytes ≤ 140737488355328) (hbase : base ≤ w.heap.size)
    (h : ∀ g cap w', w'.ownsRow base e size (.slice g (n + m) cap) (n + m) (xs ++ news) → w.grownBy w' v.ownBlock → K (a.put o.dst (.slice g (n + m) cap)) w') : o.wp P a w K Q := by
  obtain ⟨v', w', hr, h2, h3, _⟩ := run_append_own_at (P := P) w base t o.type e i z size bytes ht hi hz hsize hby hzs hsz v n xs hown ad m c news hl hnews h1 h63 hbytes hbase
  obtain ⟨g, cap, rfl, _, _⟩ := (Row.of_owns h2).shape
  unfold Oper.wp execOp
  simp only [ho, resolve, invoke, builtin, Sem.run_bind, Sem.run_pure, Result.andThen_ok, List.map_toArray, List.map_cons, List.map_nil, hs, hx, hr]
  exact h g cap w' h2 h3

theorem room_parts {n c : Nat} (h2 : 2 ≤ n) (hn : n ≤ 60) : headS (roomM n c) = .ok (namesS n, plsS n) ∧ classesS (roomM n c) (namesS n) (plsS n) = .ok () ∧ opsS (roomM n c) (namesS n) (plsS n) = .ok () := by
  have hp := small_names (M := roomM n c) hn (by omega) rfl
  exact ⟨small_head (M := roomM n c) hn (by omega) rfl rfl, classes_one (M := roomM n c) rfl (small_class hn (by omega) rfl), ops_good hp rfl rfl two_gO (clob_names hn c) no_clob⟩
theorem room_up3 {n c : Nat} (h2 : 2 ≤ n) (hn : n ≤ 60) : upto3 (roomM n c) = .ok (namesS n, plsS n) := by
  obtain ⟨h1, h3, h4⟩ := room_parts (c := c) h2 hn
  unfold upto3
  simp only [h1, h3, h4]
theorem room_up2 {n c : Nat} (h2 : 2 ≤ n) (hn : n ≤ 60) : upto2 (roomM n c) = .ok (namesS n, plsS n) := by
  obtain ⟨h1, h3, _⟩ := room_parts (c := c) h2 hn
  unfold upto2
  simp only [h1, h3]
theorem room_fits {n c : Nat} (h2 : 2 ≤ n) (hn : n ≤ 60) : fitsT (roomM n c) 0 = decide (c < n) := by
  have hp := small_names (M := roomM n c) hn (by omega) rfl
  have f0 := fits_clob hn h2 hp (o := opA [gO, gO] (-1) ((namesS n).take c)) rfl rfl rfl (c := c) rfl
  unfold fitsT
  rw [room_up3 h2 hn]
  dsimp only
  rw [if_pos (by decide), show (0 : Int).toNat = 0 from rfl, show (roomM n c).ops[0]? = some (opA [gO, gO] (-1) ((namesS n).take c)) from rfl]
  exact f0
theorem room_pair {n c : Nat} (h2 : 2 ≤ n) (hn : n ≤ 60) : pairT (roomM n c) 0 0 = true := by
  have hp := small_names (M := roomM n c) hn (by omega) rfl
  have pg := pair_g hn hp (i := 0) (j := 1) (by decide) (by omega) (by omega) (mem_namesS (by omega)) (mem_namesS (by omega))
  unfold pairT
  rw [room_up2 h2 hn]
  dsimp only
  rw [show (roomM n c).classes = [⟨gN, namesS n⟩] from rfl]
  rw [if_pos (by simp), if_pos (by simp)]
  exact pg

set_option maxRecDepth 100000 in
set_option maxHeartbeats 16000000 in
theorem mdRoom_any (n c : Int) (W : World) (hn : fits64 n) (hk : fits64 c) :
    Calls Try.prog 8 #[.int .i64 n, .int .i64 c] W fun e W' => e = .returned (.bool true) ∧ Ext W W' := by
  obtain ⟨hn1, hn2⟩ := hn
  obtain ⟨hk1, hk2⟩ := hk
  go_enter Try.func8, Try.ntmps8
  go_wp2_with fail
  refine (alive_any _).mono ?_
  rintro e w1 ⟨rfl, x1⟩
  have X1 := Lib.hid x1
  clear x1
  by_cases q1 : n < 2
  · go_wp2_with fail
    go_ret
    exact ⟨rfl, X1.out⟩
  by_cases q2 : 40 < n
  · go_wp2_with fail
    go_ret
    exact ⟨rfl, X1.out⟩
  by_cases q3 : c < 0
  · go_wp2_with fail
    go_ret
    exact ⟨rfl, X1.out⟩
  by_cases q4 : n < c
  · go_wp2_with fail
    go_ret
    exact ⟨rfl, X1.out⟩
  obtain ⟨nn, rfl⟩ : ∃ k : Nat, n = k := ⟨n.toNat, by omega⟩
  obtain ⟨cc, rfl⟩ : ∃ m : Nat, c = m := ⟨c.toNat, by omega⟩
  go_upto_region 5 with (go_at_call 14; refine (small_any nn (by omega) (by omega) _).mono ?_; rintro e W1 ⟨x2, bR, cR, bG, cG, s, rfl, hl⟩; have X2 := Lib.hid x2; have HL := Lib.hid hl; clear x2 hl)
  rename_i K1 hK1
  have hK1 := Lib.hid hK1
  have xa : Ext W1 (W1.alloc (.cells #[.string mN, .slice (some ⟨bR, 0, none⟩) nn cR, .slice (some ⟨s, 0, none⟩) 1 1, .slice (some ⟨s + 5, 0, none⟩) 3 3, .slice (some ⟨s + 6, 0, none⟩) 1 1, .string (nmS 0), .slice none 0 0, .int .i64 100] 27)) := Ext.alloc _ _
  have bm := heap_alloc_new W1 (.cells #[.string mN, .slice (some ⟨bR, 0, none⟩) nn cR, .slice (some ⟨s, 0, none⟩) 1 1, .slice (some ⟨s + 5, 0, none⟩) 3 3, .slice (some ⟨s + 6, 0, none⟩) 1 1, .string (nmS 0), .slice none 0 0, .int .i64 100] 27)
  have sz : (W1.alloc (.cells #[.string mN, .slice (some ⟨bR, 0, none⟩) nn cR, .slice (some ⟨s, 0, none⟩) 1 1, .slice (some ⟨s + 5, 0, none⟩) 3 3, .slice (some ⟨s + 6, 0, none⟩) 1 1, .string (nmS 0), .slice none 0 0, .int .i64 100] 27)).heap.size = W1.heap.size + 1 := by simp
  have hs7 := HL.out.size
  have hB : W.heap.size ≤ w1.heap.size := X1.out.size
  have HL := Lib.hid (HL.out.ext xa)
  have X3 := Lib.hid ((X1.out.trans X2.out).trans xa)
  clear X1 X2
  generalize W1.alloc (.cells #[.string mN, .slice (some ⟨bR, 0, none⟩) nn cR, .slice (some ⟨s, 0, none⟩) 1 1, .slice (some ⟨s + 5, 0, none⟩) 3 3, .slice (some ⟨s + 6, 0, none⟩) 1 1, .string (nmS 0), .slice none 0 0, .int .i64 100] 27) = W2 at xa bm sz HL X3 ⊢
  clear xa
  generalize W1.heap.size = b at *
  generalize w1.heap.size = B at *
  have m2 := blk_cell bm 2 _ rfl
  have m3 := blk_cell bm 3 _ rfl
  have hBs := HL.out.bs
  have hBR := HL.out.br
  have hBG := HL.out.bg
  have hne := HL.out.ne
  have lb : b < W2.heap.size := by omega
  have BM := Lib.hid bm
  have SZ := Lib.hid sz
  clear bm sz
  obtain ⟨iS, hiS, zS0, zS1, zS2⟩ := info_parts infoStr
  have c1 := blk_cell HL.out.cls 1 _ rfl
  have RGA := Lib.hid (fun (i : Nat) (hi : i < nn) => (HL.out.rgAt hi).1)
  have ln : (((namesS nn).take cc).map Value.string).length = cc := by rw [List.length_map, List.length_take, namesS_len]; omega
  have cg := (Tab.form HL.out.rgB)
  obtain ⟨ag, cgc, eg, hx1, hx2⟩ := cg
  injection eg with eg1 eg2 eg3
  rw [List.length_map, namesS_len] at hx1
  have hcg1 : nn ≤ cG := by rw [eg3]; exact hx1
  have hcg2 : cG ≤ maxLen := by rw [eg3]; exact hx2
  have hg9 : cG ≤ 9223372036854775807 := hcg2
  have hz1 : (cc : Int) ≤ (cG : Int) := by omega
  have hz2 : (cc : Int) ≤ (nn : Int) := by omega
  clear eg1 eg2 eg3 hx1 hx2
  refine wp_region_M (fun w' => Ext W2 w') 12 (by kernel_rfl) (Ext.drew _) (fun hS => ?_)
  refine wpAnyM_take (v := ?_) 0 rfl (by kernel_rfl) (fun _ _ _ h => h) hS rfl ?_ ?_; rotate_left; · (intro w hSw; have p0 := Ext.cell hSw m3; have p1 := Ext.cell hSw m2; have p2 := Ext.cell hSw c1; (try dsimp only at hSw); go_simp; try with_reducible rfl)
  (try simp only [Act.put, List.setIfInBounds_toArray, List.set_cons_zero, List.set_cons_succ])
  refine wpAnyM_take (v := ?_) 1 rfl (by kernel_rfl) (fun _ _ _ h => h) hS rfl ?_ ?_; rotate_left; · (intro w hSw; have p0 := Ext.cell hSw m3; have p1 := Ext.cell hSw m2; have p2 := Ext.cell hSw c1; (try dsimp only at hSw); go_simp; try with_reducible rfl)
  (try simp only [Act.put, List.setIfInBounds_toArray, List.set_cons_zero, List.set_cons_succ])
  refine wpAnyM_take (v := ?_) 2 rfl (by kernel_rfl) (fun _ _ _ h => h) hS rfl ?_ ?_; rotate_left; · (intro w hSw; have p0 := Ext.cell hSw m3; have p1 := Ext.cell hSw m2; have p2 := Ext.cell hSw c1; (try dsimp only at hSw); go_simp; try with_reducible rfl)
  (try simp only [Act.put, List.setIfInBounds_toArray, List.set_cons_zero, List.set_cons_succ])
  refine wpAnyM_take (v := ?_) 3 rfl (by kernel_rfl) (fun _ _ _ h => h) hS rfl ?_ ?_; rotate_left; · (intro w hSw; have p0 := Ext.cell hSw m3; have p1 := Ext.cell hSw m2; have p2 := Ext.cell hSw c1; (try dsimp only at hSw); go_simp; try with_reducible rfl)
  (try simp only [Act.put, List.setIfInBounds_toArray, List.set_cons_zero, List.set_cons_succ])
  refine wpAnyM_take (v := ?_) 4 rfl (by kernel_rfl) (fun _ _ _ h => h) hS rfl ?_ ?_; rotate_left; · (intro w hSw; have p0 := Ext.cell hSw m3; have p1 := Ext.cell hSw m2; have p2 := Ext.cell hSw c1; (try dsimp only at hSw); go_simp; try with_reducible rfl)
  (try simp only [Act.put, List.setIfInBounds_toArray, List.set_cons_zero, List.set_cons_succ])
  refine wpAnyM_take (v := ?_) 5 rfl (by kernel_rfl) (fun _ _ _ h => h) hS rfl ?_ ?_; rotate_left; · (intro w hSw; have p0 := Ext.cell hSw m3; have p1 := Ext.cell hSw m2; have p2 := Ext.cell hSw c1; (try dsimp only at hSw); go_simp; try with_reducible rfl)
  (try simp only [Act.put, List.setIfInBounds_toArray, List.set_cons_zero, List.set_cons_succ])
  refine wpAnyM_take (v := ?_) 6 rfl (by kernel_rfl) (fun _ _ _ h => h) hS rfl ?_ ?_; rotate_left; · (intro w hSw; have p0 := Ext.cell hSw m3; have p1 := Ext.cell hSw m2; have p2 := Ext.cell hSw c1; (try dsimp only at hSw); go_simp; try with_reducible rfl)
  (try simp only [Act.put, List.setIfInBounds_toArray, List.set_cons_zero, List.set_cons_succ])
  refine wpAnyM_take (v := ?_) 7 rfl (by kernel_rfl) (fun _ _ _ h => h) hS rfl ?_ ?_; rotate_left; · (intro w hSw; have p0 := Ext.cell hSw m3; have p1 := Ext.cell hSw m2; have p2 := Ext.cell hSw c1; (try dsimp only at hSw); go_simp; try with_reducible rfl)
  (try simp only [Act.put, List.setIfInBounds_toArray, List.set_cons_zero, List.set_cons_succ])
  refine wpAnyM_take (v := ?_) 8 rfl (by kernel_rfl) (fun _ _ _ h => h) hS rfl ?_ ?_; rotate_left; · (intro w hSw; have p0 := Ext.cell hSw m3; have p1 := Ext.cell hSw m2; have p2 := Ext.cell hSw c1; (try dsimp only at hSw); go_simp; try with_reducible rfl)
  (try simp only [Act.put, List.setIfInBounds_toArray, List.set_cons_zero, List.set_cons_succ])
  generalize W2.drew = W3 at hS ⊢
  refine wpAnyM_ready [9] (by kernel_rfl) rfl ?_
  refine AllM.cons rfl rfl (fun K hK => ?_) AllM.nil
  refine wp_append_any _ _ _ _ rfl W3.heap.size 9 iS _ 1 16 Try.underlying25 hiS zS0 zS1 zS2 rfl (by omega) (.slice none 0 0) 0 [] rfl (World.ownsRow_nil W3 _ _ _) ⟨bG, 0, none⟩ cc cG (((namesS nn).take cc).map Value.string) rfl (by rw [ln]; omega) (fun j u hj => by
    have hlt : j < cc := by have := (List.getElem?_eq_some_iff.1 hj).1; omega
    rw [List.getElem?_map, List.getElem?_take, if_pos hlt, namesS_at (by omega)] at hj
    cases hj
    rw [addr_off, Nat.zero_add]
    exact Ext.cell hS (RGA.out j (by omega))) (by intro u hu; obtain ⟨q, _, rfl⟩ := List.mem_map.1 hu; rfl) (by unfold maxLen; omega) (by omega) (Nat.le_refl _) ?_
  intro g1 cp1 w3 hown1 hgrow1
  have hgr : Ext W2 w3 := Ext.grown hS hgrow1 (fun q e => by cases e)
  have hS0 := hS
  have sz2 := hS0.size
  have hS := hgr
  refine hK.out _ _ hS ?_
  (try simp only [Act.put, List.setIfInBounds_toArray, List.set_cons_zero, List.set_cons_succ])
  clear hK K
  refine wpAnyM_take (v := ?_) 10 rfl (by kernel_rfl) (fun _ _ _ h => h) hS rfl ?_ ?_; rotate_left; · (intro w hSw; skip; (try dsimp only at hSw); go_simp; try with_reducible rfl)
  (try simp only [Act.put, List.setIfInBounds_toArray, List.set_cons_zero, List.set_cons_succ])
  refine wpAnyM_take (v := ?_) 11 rfl (by kernel_rfl) (fun _ _ _ h => h) hS rfl ?_ ?_; rotate_left; · (intro w hSw; skip; (try dsimp only at hSw); go_simp; try with_reducible rfl)
  (try simp only [Act.put, List.setIfInBounds_toArray, List.set_cons_zero, List.set_cons_succ])
  have HL3 := Lib.hid (HL.out.ext hgr)
  have X33 := Lib.hid (X3.out.trans hgr)
  have sz3 := hgr.size
  have o5 := blk_cell HL3.out.ops 5 _ rfl
  have of5 := blk_free HL3.out.ops 5
  rw [Nat.zero_add, List.nil_append] at hown1
  have HO3 := Lib.hid hown1
  clear hown1 hgrow1
  refine wpAnyM_ready [12] (by kernel_rfl) rfl ?_
  refine AllM.late rfl rfl (by kernel_rfl) (fun K hK => ?_) AllM.nil
  go_simp
  refine hK.out _ _ ?_
  (try simp only [Act.put, List.setIfInBounds_toArray, List.set_cons_zero, List.set_cons_succ])
  clear hK K
  refine wpAnyM_done (by kernel_rfl) ?_ _
  refine hK1.out _ _ ?_
  have hc3 := ownsRow_setCell_other HO3.out (a := ⟨s + 5, 5, none⟩) (fun e => by have := (HO3.out.lt _ e).1; change W3.heap.size ≤ s + 5 at this; omega) (.slice g1 cc cp1)
  have hcl : StrsIn (w3.setCell ⟨s + 5, 5, none⟩ (.slice g1 cc cp1)) w3.heap.size (.slice g1 cc cp1) ((namesS nn).take cc) := by
    have := StrsIn.of_owns (l := (namesS nn).take cc) hc3 (by rw [List.length_take, namesS_len]; omega)
    rwa [set_size] at this
  have hm := HL3.out.machB (M := roomM nn cc) (i := 0) (p := (⟨addN, gO, [gO, gO], -1, []⟩, .slice (some ⟨s + 2, 0, none⟩) 2 2, .slice none 0 0)) (v := .slice g1 cc cp1) (l := (namesS nn).take cc) rfl rfl rfl rfl rfl rfl (n0 := w3.heap.size) (by omega) fits_100 hcl
  have XX : Hid (Ext W (w3.setCell ⟨s + 5, 5, none⟩ (.slice g1 cc cp1))) := Lib.hid (Below.setCell X33.out (p := ⟨s + 5, 5, none⟩) (by show W.heap.size ≤ s + 5; omega) _)
  have bm := (Below.heap_setCell w3 ⟨s + 5, 5, none⟩ (.slice g1 cc cp1) b (by show b ≠ s + 5; omega)).trans (hgr.block BM.out)
  have hsz : w3.heap.size ≤ (w3.setCell ⟨s + 5, 5, none⟩ (.slice g1 cc cp1)).heap.size := by rw [set_size]; exact Nat.le_refl _
  clear HL X3 BM SZ HL3 X33 hS hc3 hcl RGA HO3 hgr hS0
  generalize w3.setCell ⟨s + 5, 5, none⟩ (.slice g1 cc cp1) = W4 at hm XX bm hsz ⊢
  have m0 := blk_cell bm 0 _ rfl
  have m1 := blk_cell bm 1 _ rfl
  have m2 := blk_cell bm 2 _ rfl
  have m3 := blk_cell bm 3 _ rfl
  have m4 := blk_cell bm 4 _ rfl
  have m5 := blk_cell bm 5 _ rfl
  have m6 := blk_cell bm 6 _ rfl
  have m7 := blk_cell bm 7 _ rfl
  have HF := Lib.hid (fun (w : World) (x : Ext W4 w) => fitsT_any (M := roomM nn cc) (hm.same (fun k hk => Below.block x k (Nat.lt_of_lt_of_le hk hsz))) (Nat.le_trans hsz x.size) 0 (by unfold fits64; omega) (fun y hy => by rw [room_up3 (by omega) (by omega)] at hy; cases hy))
  have HP := Lib.hid (fun (w : World) (x : Ext W4 w) => pairT_any (M := roomM nn cc) (hm.same (fun k hk => Below.block x k (Nat.lt_of_lt_of_le hk hsz))) (Nat.le_trans hsz x.size) 0 0 (by unfold fits64; omega) (by unfold fits64; omega) (fun y hy => by rw [room_up2 (by omega) (by omega)] at hy; cases hy))
  rw [room_fits (by omega) (by omega)] at HF
  rw [room_pair (by omega) (by omega)] at HP
  by_cases hcn : cc = nn
  · subst hcn
    rw [decide_eq_false (by omega)] at HF
    have HC := Lib.hid (check_err (M := roomM cc cc) (x := 11) (by rw [room_check (by omega) (by omega), if_neg (by omega)]) hm hsz)
    clear hm bm
    go_wp2_with (first
      | (go_at_call 11; refine HC.out.mono ?_; rintro e W5 ⟨rfl, x5⟩; have m0 := Ext.cell x5 m0; have m1 := Ext.cell x5 m1; have m2 := Ext.cell x5 m2; have m3 := Ext.cell x5 m3; have m4 := Ext.cell x5 m4; have m5 := Ext.cell x5 m5; have m6 := Ext.cell x5 m6; have m7 := Ext.cell x5 m7; have X5 := Lib.hid x5; clear x5 HC)
      | (go_at_call 13; refine (num_any _ _).mono ?_; rintro e w ⟨rfl, rfl⟩)
      | (go_at_call 18; refine (HF.out _ X5.out).mono ?_; rintro e W6 ⟨rfl, x6⟩; have m0 := Ext.cell x6 m0; have m1 := Ext.cell x6 m1; have m2 := Ext.cell x6 m2; have m3 := Ext.cell x6 m3; have m4 := Ext.cell x6 m4; have m5 := Ext.cell x6 m5; have m6 := Ext.cell x6 m6; have m7 := Ext.cell x6 m7; have X6 := Lib.hid (X5.out.trans x6); clear x6 HF)
      | (go_at_call 19; refine (HP.out _ X6.out).mono ?_; rintro e W7 ⟨rfl, x7⟩; have X7 := Lib.hid (X6.out.trans x7); clear x7 HP))
    go_ret
    exact ⟨rfl, XX.out.trans X7.out⟩
  · have hz3 : ¬ (cc : Int) = (nn : Int) := by omega
    rw [decide_eq_true (by omega)] at HF
    have HC := Lib.hid (check_ok (M := roomM nn cc) (by rw [room_check (by omega) (by omega), if_pos (by omega)]) hm hsz)
    clear hm bm
    go_wp2_with (first
      | (go_at_call 11; refine HC.out.mono ?_; rintro e W5 ⟨rfl, x5⟩; have m0 := Ext.cell x5 m0; have m1 := Ext.cell x5 m1; have m2 := Ext.cell x5 m2; have m3 := Ext.cell x5 m3; have m4 := Ext.cell x5 m4; have m5 := Ext.cell x5 m5; have m6 := Ext.cell x5 m6; have m7 := Ext.cell x5 m7; have X5 := Lib.hid x5; clear x5 HC)
      | (go_at_call 13; refine (num_any _ _).mono ?_; rintro e w ⟨rfl, rfl⟩)
      | (go_at_call 18; refine (HF.out _ X5.out).mono ?_; rintro e W6 ⟨rfl, x6⟩; have m0 := Ext.cell x6 m0; have m1 := Ext.cell x6 m1; have m2 := Ext.cell x6 m2; have m3 := Ext.cell x6 m3; have m4 := Ext.cell x6 m4; have m5 := Ext.cell x6 m5; have m6 := Ext.cell x6 m6; have m7 := Ext.cell x6 m7; have X6 := Lib.hid (X5.out.trans x6); clear x6 HF)
      | (go_at_call 19; refine (HP.out _ X6.out).mono ?_; rintro e W7 ⟨rfl, x7⟩; have X7 := Lib.hid (X6.out.trans x7); clear x7 HP))
    go_ret
    exact ⟨rfl, XX.out.trans X7.out⟩
end Go.Proofs.Ythomndfagpeniaa
