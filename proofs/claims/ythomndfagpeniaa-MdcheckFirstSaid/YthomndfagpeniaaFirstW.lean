/- MdcheckFirst: its walk. It returns true for every slice of bools, and leaves all that was there as it was. -/
import Derived.Test.YthomndfagpeniaaFirstP
import Derived.IntWalk
import Derived.WalkSpells
import Derived.Deep.Cut
import Derived.Deep.DeepCutAuto
namespace Go.Proofs.Ythomndfagpeniaa
open Go.RowKit
attribute [local go_sem] Oper.semAt_some

theorem infoCls2 : (Try.prog.info? 40).map (fun i => (i.zero, i.size, i.bytes)) = some (some (.agg #[.string ByteArray.empty, .slice none 0 0]), 2, 40) := by kernel_rfl
set_option maxRecDepth 100000 in
set_option maxHeartbeats 16000000 in
theorem mdFirst_any (l : List Bool) (v : Value) (W : World) (hv : Row W 1 v l.length (l.map Value.bool)) :
    Calls Try.prog 6 #[v] W fun e W' => e = .returned (.bool true) ∧ Ext W W' := by
  obtain ⟨av, cv, rfl, _, _⟩ := hv.shape
  go_enter Try.func6, Try.ntmps6
  go_wp2_with fail
  refine (alive_any _).mono ?_
  rintro e w1 ⟨rfl, x1⟩
  have X1 := Lib.hid x1
  clear x1
  by_cases q1 : l.length = 6
  case neg =>
    have q2 : ((l.length : Int) == 6) = false := by simp; omega
    have q3 : ¬ (l.length : Int) = 6 := by omega
    go_wp2_with fail
    go_ret
    exact ⟨rfl, X1.out⟩
  case pos =>
  obtain ⟨f0, f1, f2, f3, f4, f5, rfl⟩ : ∃ a b c d e f, l = [a, b, c, d, e, f] := by
    match l, q1 with
    | [a, b, c, d, e, f], _ => exact ⟨a, b, c, d, e, f, rfl⟩
  obtain ⟨ba, oa, ca, ev, hca1, hca2, hba, hcell⟩ := hv.at (by simp)
  cases ev
  have e0 := Ext.cell X1.out (hcell 0 _ rfl)
  have e1 := Ext.cell X1.out (hcell 1 _ rfl)
  have e2 := Ext.cell X1.out (hcell 2 _ rfl)
  have e3 := Ext.cell X1.out (hcell 3 _ rfl)
  have e4 := Ext.cell X1.out (hcell 4 _ rfl)
  have e5 := Ext.cell X1.out (hcell 5 _ rfl)
  have EV := Lib.hid (And.intro (hcell 0 _ rfl) (And.intro (hcell 1 _ rfl) (And.intro (hcell 2 _ rfl) (And.intro (hcell 3 _ rfl) (And.intro (hcell 4 _ rfl) (hcell 5 _ rfl))))))
  clear hcell hv q1
  simp only [List.length_cons, List.length_nil, Nat.zero_add, Nat.reduceAdd] at *
  go_upto_region 5 with (go_at_call 14; refine (small_any 4 (by omega) (by omega) _).mono ?_; rintro e W1 ⟨x2, bR, cR, bG, cG, s, rfl, hl⟩; have X2 := Lib.hid x2; have HL := Lib.hid hl; clear x2 hl)
  have xa : Ext W1 (W1.alloc (.cells #[.string mN, .slice (some ⟨bR, 0, none⟩) 4 cR, .slice (some ⟨s, 0, none⟩) 1 1, .slice (some ⟨s + 5, 0, none⟩) 3 3, .slice (some ⟨s + 6, 0, none⟩) 1 1, .string (nmS 0), .slice none 0 0, .int .i64 100] 27)) := Ext.alloc _ _
  have bm := heap_alloc_new W1 (.cells #[.string mN, .slice (some ⟨bR, 0, none⟩) 4 cR, .slice (some ⟨s, 0, none⟩) 1 1, .slice (some ⟨s + 5, 0, none⟩) 3 3, .slice (some ⟨s + 6, 0, none⟩) 1 1, .string (nmS 0), .slice none 0 0, .int .i64 100] 27)
  have sz : (W1.alloc (.cells #[.string mN, .slice (some ⟨bR, 0, none⟩) 4 cR, .slice (some ⟨s, 0, none⟩) 1 1, .slice (some ⟨s + 5, 0, none⟩) 3 3, .slice (some ⟨s + 6, 0, none⟩) 1 1, .string (nmS 0), .slice none 0 0, .int .i64 100] 27)).heap.size = W1.heap.size + 1 := by simp
  have hs7 := HL.out.size
  have hB : W.heap.size ≤ w1.heap.size := X1.out.size
  have HL := Lib.hid (HL.out.ext xa)
  have X3 := Lib.hid ((X1.out.trans X2.out).trans xa)
  have e0 := Ext.cell (X2.out.trans xa) e0
  have e1 := Ext.cell (X2.out.trans xa) e1
  have e2 := Ext.cell (X2.out.trans xa) e2
  have e3 := Ext.cell (X2.out.trans xa) e3
  have e4 := Ext.cell (X2.out.trans xa) e4
  have e5 := Ext.cell (X2.out.trans xa) e5
  clear X1 X2
  generalize W1.alloc (.cells #[.string mN, .slice (some ⟨bR, 0, none⟩) 4 cR, .slice (some ⟨s, 0, none⟩) 1 1, .slice (some ⟨s + 5, 0, none⟩) 3 3, .slice (some ⟨s + 6, 0, none⟩) 1 1, .string (nmS 0), .slice none 0 0, .int .i64 100] 27) = W2 at xa bm sz HL X3 e0 e1 e2 e3 e4 e5 ⊢
  clear xa
  generalize W1.heap.size = b at *
  generalize w1.heap.size = B at *
  have m2 := blk_cell bm 2 _ rfl
  have mf2 := blk_free bm 2
  have lb : b < W2.heap.size := by omega
  have hBs := HL.out.bs
  have hBR := HL.out.br
  have hBG := HL.out.bg
  have hne := HL.out.ne
  have HN : Hid (FNum W b s bR bG) := Lib.hid ⟨⟨by omega, by omega⟩, hBR.2, hBG.2, hne, by omega⟩
  have hba2 : ba < W.heap.size := hba
  have BM := Lib.hid bm
  have SZ := Lib.hid sz
  clear bm sz
  go_upto_if 18 with (fail)
  go_cut [5] from 16 to 25 (fun want wx => want = .int .i64 (firstW false false false false false f5) ∧ FInv false false false false false f5 W wx b s bR cR bG cG)
  case first =>
    cases f5 with
    | false =>
      go_wp2_with fail
      go_meet
      case rel => exact ⟨rfl, FInv.start X3.out HL.out BM.out⟩
    | true =>
      obtain ⟨iC, hiC, zC0, zC1, zC2⟩ := info_parts infoCls2
      have OC : Hid (((W2.alloc (.cells #[.string ⟨#[114, 48, 49]⟩] 9)).alloc (.cells #[.string ⟨#[104]⟩, .slice (some ⟨W2.heap.size, 0, none⟩) 1 1] 40)).ownsRow s 40 2 (.slice (some ⟨s, 0, none⟩) 1 1) 1 [.string gN, vG bG 4 cG]) := Lib.hid (owns_ext ⟨rfl, Or.inr ⟨s, 1, #[.string gN, vG bG 4 cG], rfl, Nat.le_refl _, HL.out.cls, Nat.le_refl _, le_max1, rfl, rfl⟩⟩ ((Ext.alloc _ _).trans (Ext.alloc _ _)))
      have zA : (W2.alloc (.cells #[.string ⟨#[114, 48, 49]⟩] 9)).heap.size = W2.heap.size + 1 := by simp
      have hnb : ((W2.alloc (.cells #[.string ⟨#[114, 48, 49]⟩] 9)).alloc (.cells #[.string ⟨#[104]⟩, .slice (some ⟨W2.heap.size, 0, none⟩) 1 1] 40)).heap[W2.heap.size + 1]? = some (.cells #[.string ⟨#[104]⟩, .slice (some ⟨W2.heap.size, 0, none⟩) 1 1] 40 (0, 0)) := by
        have := heap_alloc_new (W2.alloc (.cells #[.string ⟨#[114, 48, 49]⟩] 9)) (.cells #[.string ⟨#[104]⟩, .slice (some ⟨W2.heap.size, 0, none⟩) 1 1] 40)
        rwa [zA] at this
      have hna := Lib.hid ((Ext.alloc (W2.alloc (.cells #[.string ⟨#[114, 48, 49]⟩] 9)) (.cells #[.string ⟨#[104]⟩, .slice (some ⟨W2.heap.size, 0, none⟩) 1 1] 40)).block (heap_alloc_new W2 (.cells #[.string ⟨#[114, 48, 49]⟩] 9)))
      have NEWS : Hid (∀ (j : Nat) (u : Value), [Value.string ⟨#[104]⟩, .slice (some ⟨W2.heap.size, 0, none⟩) 1 1][j]? = some u → ((W2.alloc (.cells #[.string ⟨#[114, 48, 49]⟩] 9)).alloc (.cells #[.string ⟨#[104]⟩, .slice (some ⟨W2.heap.size, 0, none⟩) 1 1] 40)).cell? (Addr.add ⟨W2.heap.size + 1, 0, none⟩ j) = some u) := Lib.hid (World.news_of_block (cs := #[.string ⟨#[104]⟩, .slice (some ⟨W2.heap.size, 0, none⟩) 1 1]) (t := 40) (fr := (0, 0)) hnb)
      have lz : W2.heap.size = b + 1 := SZ.out
      have LZ := Lib.hid lz
      clear lz zA hnb
      go_wp2_with (first
        | (at_builtin; refine wpList_append_lies _ rfl _ _ 23 rfl s 40 iC _ 2 40 Try.underlying23 hiC zC0 zC1 zC2 rfl (by omega) (.slice (some ⟨s, 0, none⟩) 1 1) 1 [.string gN, vG bG 4 cG] rfl OC.out ⟨W2.heap.size + 1, 0, none⟩ 1 1 [.string ⟨#[104]⟩, .slice (some ⟨W2.heap.size, 0, none⟩) 1 1] rfl rfl NEWS.out (by simp [Value.oneCell']) (by omega) (by unfold maxLen; omega) (by omega) (by simp; omega) _ rfl ?_; intro g1 cp1 w3 hown1 hgrow1 hat1 hlt1; have hk3 : ∀ q ob, q ≠ s → W2.heap[q]? = some ob → w3.heap[q]? = some ob := (fun q ob h1 h2 => (hgrow1.block q (by have := (Array.getElem?_eq_some_iff.1 h2).1; simp; omega) (fun e => by cases e; exact h1 rfl)).trans (((Ext.alloc W2 _).trans (Ext.alloc _ _)).block h2)); have bm3 := hk3 b _ (by omega) BM.out; have m0 := blk_cell bm3 0 _ rfl; have mf0 := blk_free bm3 0; have m1 := blk_cell bm3 1 _ rfl; have mf1 := blk_free bm3 1; have m2 := blk_cell bm3 2 _ rfl; have mf2 := blk_free bm3 2; have m3 := blk_cell bm3 3 _ rfl; have mf3 := blk_free bm3 3; have m4 := blk_cell bm3 4 _ rfl; have mf4 := blk_free bm3 4; have m5 := blk_cell bm3 5 _ rfl; have mf5 := blk_free bm3 5; have m6 := blk_cell bm3 6 _ rfl; have mf6 := blk_free bm3 6; have m7 := blk_cell bm3 7 _ rfl; have mf7 := blk_free bm3 7; have lb := (Array.getElem?_eq_some_iff.1 bm3).1; have hn3 := (hgrow1.block W2.heap.size (by simp; omega) (fun e => by have h8 : W2.heap.size ≠ s := (by omega); cases e; exact h8 rfl)).trans hna.out; have HN3 := Lib.hid hn3; have HK3 := Lib.hid hk3; have HO3 := Lib.hid hown1; have HG3 := Lib.hid hgrow1; have HA3 := Lib.hid hat1; clear hk3 hown1 hgrow1 bm3 hn3 hat1))
      go_meet
      case rel =>
        have hs3 : W2.heap.size < w3.heap.size := (Array.getElem?_eq_some_iff.1 HN3.out).1
        have hgs : g1 = s ∨ b < g1 := by
          rcases HA3.out with e | e
          · left; cases e; rfl
          · right; rw [e]; simp; omega
        have hne2 : W2.heap.size ≠ g1 := by
          rcases HA3.out with e | e
          · have h8 : W2.heap.size ≠ s := (by omega)
            cases e; exact h8
          · rw [e]; simp; omega
        refine ⟨rfl, FInv.cls (W := W2) (B := B) HN.out (Ext.grown ((X3.out.trans (Ext.alloc _ _)).trans (Ext.alloc _ _)) HG3.out (fun q e => by cases e; show W.heap.size ≤ s; omega)) HL.out HK3.out BM.out HO3.out hgs ?_ ⟨W2.heap.size, rfl, hne2, by omega⟩⟩
        have h5 := HN3.out
        rw [show (⟨#[114, 48, 49]⟩ : ByteArray) = nmS 1 by decide +kernel] at h5
        exact Tab.up (Tab.of_new (rows := [[.string (nmS 1)]]) h5 (by simp) le_max1) (by omega)
  case rest =>
    obtain ⟨rfl, hin⟩ := hcut
    have HI := Lib.hid hin
    clear hin
    have e4 := Ext.cell HI.out.1 EV.out.2.2.2.2.1
    go_upto_if 28 with (fail)
    go_cut [5] from 26 to 30 (fun want wx => want = .int .i64 (firstW false false false false f4 f5) ∧ FInv false false false false f4 f5 W wx b s bR cR bG cG)
    case first =>
      cases f4 with
      | false =>
        go_wp2_with fail
        go_meet
        case rel => exact ⟨rfl, HI.out⟩
      | true =>
        have hn2 := HN.out.r; have hn3 := HN.out.b; have hn4 := HN.out.g
        obtain ⟨_, q, k, cq, vg, vh, hb, hf, hc, hv⟩ := HI.out
        have lb := (Array.getElem?_eq_some_iff.1 hb).1
        have HB := Lib.hid hb
        have fb := blk_free hb 7
        have cb := blk_cell hb 7 _ rfl
        clear hb hf hc hv
        go_wp2_with fail
        go_meet
        case rel => exact ⟨rfl, FInv.slots HN.out HI.out⟩
    case rest =>
      obtain ⟨rfl, hin⟩ := hcut
      have HI := Lib.hid hin
      clear hin
      have e3 := Ext.cell HI.out.1 EV.out.2.2.2.1
      go_upto_if 32 with (fail)
      go_cut [5] from 30 to 37 (fun want wx => want = .int .i64 (firstW false false false f3 f4 f5) ∧ FInv false false false f3 f4 f5 W wx b s bR cR bG cG)
      case first =>
        cases f3 with
        | false =>
          go_wp2_with fail
          go_meet
          case rel => exact ⟨rfl, HI.out⟩
        | true =>
          have hn2 := HN.out.r; have hn3 := HN.out.b; have hn4 := HN.out.g
          obtain ⟨_, q, k, cq, vg, vh, hb, hf, hc, hv⟩ := HI.out
          have lb := (Array.getElem?_eq_some_iff.1 hb).1
          have HB := Lib.hid hb
          have cb := blk_cell hb 3 _ rfl
          obtain ⟨_, _, _, eo, _, _, _, hcc⟩ := hf.ops.at (i := 0) (r := opRow (opA [gO, gO] (tieF false) [], .slice (some ⟨s + 2, 0, none⟩) 2 2, .slice none 0 0)) rfl (by decide)
          cases eo
          have o4 := hcc 4 _ rfl
          simp only [Nat.zero_mul, Nat.zero_add] at o4
          have fo := hf.ofz 4
          have lo : s + 5 < wc.heap.size := by omega
          clear hb hf hc hv hcc
          go_wp2_with fail
          go_meet
          case rel => exact ⟨rfl, FInv.tie HN.out HI.out⟩
      case rest =>
        obtain ⟨rfl, hin⟩ := hcut
        have HI := Lib.hid hin
        clear hin
        have e2 := Ext.cell HI.out.1 EV.out.2.2.1
        go_upto_if 39 with (fail)
        go_cut [5] from 37 to 51 (fun want wx => want = .int .i64 (firstW false false f2 f3 f4 f5) ∧ FInv false false f2 f3 f4 f5 W wx b s bR cR bG cG)
        case first =>
          cases f2 with
          | false =>
            go_wp2_with fail
            go_meet
            case rel => exact ⟨rfl, HI.out⟩
          | true =>
            have hn2 := HN.out.r; have hn3 := HN.out.b; have hn4 := HN.out.g
            obtain ⟨_, q, k, cq, vg, vh, hb, hf, hc, hv⟩ := HI.out
            have lb := (Array.getElem?_eq_some_iff.1 hb).1
            have HB := Lib.hid hb
            have cb := blk_cell hb 2 _ rfl
            obtain rfl := hv rfl
            obtain ⟨_, _, _, eo, _, _, _, hcc⟩ := hc.tab.at (i := 0) (r := [.string gN, vG bG 4 cG]) rfl (by decide)
            injection eo with z1 z2 z3
            cases z1
            have hkp : 0 < k := by rw [z2]; simp [clsRows]
            have hkz : (0 : Int) < (k : Int) := by omega
            clear z2 z3
            have o4 := hcc 1 _ rfl
            simp only [Nat.zero_mul, Nat.zero_add] at o4
            have fo := hc.fz 1
            obtain ⟨rb, ro, rc, er, _, _, _, hrc⟩ := hc.g.at (i := 0) (s := nmS 0) (namesS_at (by decide))
            cases er
            have RG := Lib.hid (fun (i : Nat) (hi : i < 4) => hc.g.at (i := i) (s := nmS i) (namesS_at hi))
            have lo : q < wc.heap.size := hc.tab.blk q rfl
            have HF := Lib.hid hf
            have HC := Lib.hid hc
            obtain ⟨iS, hiS, zS0, zS1, zS2⟩ := info_parts infoStr
            have ln : ((namesS 4).map Value.string).length = 4 := by rw [List.length_map, namesS_len]
            clear hb hf hc hv hcc hrc
            go_upto_region 16 with (fail)
            rename_i K1 hK1
            have hK1 := Lib.hid hK1
            refine wp_region_M (fun w' => Ext wc w') 11 (by kernel_rfl) (Ext.drew _) (fun hS => ?_)
            refine wpAnyM_take (v := ?_) 0 rfl (by kernel_rfl) (fun _ _ _ h => h) hS rfl ?_ ?_; rotate_left; · (intro w hSw; have p0 := Ext.cell hSw cb; have p1 := Ext.cell hSw o4; (try dsimp only at hSw); go_simp; try with_reducible rfl)
            (try simp only [Act.put, List.setIfInBounds_toArray, List.set_cons_zero, List.set_cons_succ])
            refine wpAnyM_take (v := ?_) 1 rfl (by kernel_rfl) (fun _ _ _ h => h) hS rfl ?_ ?_; rotate_left; · (intro w hSw; have p0 := Ext.cell hSw cb; have p1 := Ext.cell hSw o4; (try dsimp only at hSw); go_simp; try with_reducible rfl)
            (try simp only [Act.put, List.setIfInBounds_toArray, List.set_cons_zero, List.set_cons_succ])
            refine wpAnyM_take (v := ?_) 3 rfl (by kernel_rfl) (fun _ _ _ h => h) hS rfl ?_ ?_; rotate_left; · (intro w hSw; have p0 := Ext.cell hSw cb; have p1 := Ext.cell hSw o4; (try dsimp only at hSw); go_simp; try with_reducible rfl)
            (try simp only [Act.put, List.setIfInBounds_toArray, List.set_cons_zero, List.set_cons_succ])
            refine wpAnyM_take (v := ?_) 4 rfl (by kernel_rfl) (fun _ _ _ h => h) hS rfl ?_ ?_; rotate_left; · (intro w hSw; have p0 := Ext.cell hSw cb; have p1 := Ext.cell hSw o4; (try dsimp only at hSw); go_simp; try with_reducible rfl)
            (try simp only [Act.put, List.setIfInBounds_toArray, List.set_cons_zero, List.set_cons_succ])
            refine wpAnyM_take (v := ?_) 5 rfl (by kernel_rfl) (fun _ _ _ h => h) hS rfl ?_ ?_; rotate_left; · (intro w hSw; have p0 := Ext.cell hSw cb; have p1 := Ext.cell hSw o4; (try dsimp only at hSw); go_simp; try with_reducible rfl)
            (try simp only [Act.put, List.setIfInBounds_toArray, List.set_cons_zero, List.set_cons_succ])
            refine wpAnyM_take (v := ?_) 6 rfl (by kernel_rfl) (fun _ _ _ h => h) hS rfl ?_ ?_; rotate_left; · (intro w hSw; have p0 := Ext.cell hSw cb; have p1 := Ext.cell hSw o4; (try dsimp only at hSw); go_simp; try with_reducible rfl)
            (try simp only [Act.put, List.setIfInBounds_toArray, List.set_cons_zero, List.set_cons_succ])
            refine wpAnyM_take (v := ?_) 7 rfl (by kernel_rfl) (fun _ _ _ h => h) hS rfl ?_ ?_; rotate_left; · (intro w hSw; have p0 := Ext.cell hSw cb; have p1 := Ext.cell hSw o4; (try dsimp only at hSw); go_simp; try with_reducible rfl)
            (try simp only [Act.put, List.setIfInBounds_toArray, List.set_cons_zero, List.set_cons_succ])
            generalize wc.drew = W3 at hS ⊢
            refine wpAnyM_ready [2] (by kernel_rfl) rfl ?_
            refine AllM.cons rfl rfl (fun K hK => ?_) AllM.nil
            go_simp
            have x3 : Ext wc (W3.alloc (.cells #[.string ⟨#[120]⟩] 9)) := hS.trans (Ext.alloc _ _)
            refine hK.out _ _ x3 ?_
            (try simp only [Act.put, List.setIfInBounds_toArray, List.set_cons_zero, List.set_cons_succ])
            clear hK K
            have OX : (W3.alloc (.cells #[.string ⟨#[120]⟩] 9)).ownsRow W3.heap.size 9 1 (.slice (some ⟨W3.heap.size, 0, none⟩) 1 1) 1 [.string ⟨#[120]⟩] := ⟨rfl, Or.inr ⟨W3.heap.size, 1, #[.string ⟨#[120]⟩], rfl, Nat.le_refl _, heap_alloc_new _ _, Nat.le_refl _, le_max1, rfl, rfl⟩⟩
            refine wpAnyM_ready [8] (by kernel_rfl) rfl ?_
            refine AllM.cons rfl rfl (fun K hK => ?_) AllM.nil
            refine wp_append_lies _ _ _ _ rfl W3.heap.size 9 iS _ 1 16 Try.underlying25 hiS zS0 zS1 zS2 rfl (by omega) (.slice (some ⟨W3.heap.size, 0, none⟩) 1 1) 1 [.string ⟨#[120]⟩] rfl OX ⟨bG, 0, none⟩ 4 cG ((namesS 4).map Value.string) rfl (by rw [ln]) (fun j u hj => by
              have hlt : j < 4 := by have := (List.getElem?_eq_some_iff.1 hj).1; omega
              rw [List.getElem?_map, namesS_at hlt] at hj
              cases hj
              obtain ⟨rb, ro, rc, er, _, _, _, hrc⟩ := RG.out j hlt
              cases er
              rw [addr_off, Nat.zero_add]
              rw [Nat.zero_add] at hrc
              exact Ext.cell x3 hrc) (by intro u hu; obtain ⟨q, _, rfl⟩ := List.mem_map.1 hu; rfl) (by omega) (by unfold maxLen; omega) (by omega) (by simp) _ rfl ?_
            intro g1 cp1 w3 hown1 hgrow1 hat1 hlt1
            have x4 : Ext wc w3 := Ext.grown x3 hgrow1 (fun q e => by cases e; exact hS.size)
            have hS0 := hS
            have hS := x4
            refine hK.out _ _ hS ?_
            (try simp only [Act.put, List.setIfInBounds_toArray, List.set_cons_zero, List.set_cons_succ])
            clear hK K
            refine wpAnyM_take (v := ?_) 9 rfl (by kernel_rfl) (fun _ _ _ h => h) hS rfl ?_ ?_; rotate_left; · (intro w hSw; skip; (try dsimp only at hSw); go_simp; try with_reducible rfl)
            (try simp only [Act.put, List.setIfInBounds_toArray, List.set_cons_zero, List.set_cons_succ])
            refine wpAnyM_take (v := ?_) 10 rfl (by kernel_rfl) (fun _ _ _ h => h) hS rfl ?_ ?_; rotate_left; · (intro w hSw; skip; (try dsimp only at hSw); go_simp; try with_reducible rfl)
            (try simp only [Act.put, List.setIfInBounds_toArray, List.set_cons_zero, List.set_cons_succ])
            have fo := frozen_same (a := ⟨q, 1, none⟩) (Below.block x4 q lo) fo
            have o4 := Ext.cell x4 o4
            have lo3 := Nat.lt_of_lt_of_le lo x4.size
            have hgw : wc.heap.size ≤ g1 := Nat.le_trans hS0.size (hown1.lt g1 rfl).1
            have HG := Lib.hid (StrsIn.of_owns (l := grF true) hown1 rfl)
            clear hown1 hgrow1 hat1 OX
            refine wpAnyM_ready [11] (by kernel_rfl) rfl ?_
            refine AllM.late rfl rfl (by kernel_rfl) (fun K hK => ?_) AllM.nil
            go_simp
            refine hK.out _ _ ?_
            (try simp only [Act.put, List.setIfInBounds_toArray, List.set_cons_zero, List.set_cons_succ])
            clear hK K
            refine wpAnyM_done (by kernel_rfl) ?_ _
            refine hK1.out _ _ ?_
            go_wp2_with fail
            go_meet
            case rel => exact ⟨rfl, FInv.names HN.out HI.out.1 x4 HB.out HF.out HC.out HG.out ⟨g1, rfl, hgw⟩⟩
        case rest =>
          obtain ⟨rfl, hin⟩ := hcut
          have HI := Lib.hid hin
          clear hin
          have e1 := Ext.cell HI.out.1 EV.out.2.1
          go_upto_if 53 with (fail)
          go_cut [5] from 51 to 58 (fun want wx => want = .int .i64 (firstW false f1 f2 f3 f4 f5) ∧ FInv false f1 f2 f3 f4 f5 W wx b s bR cR bG cG)
          case first =>
            cases f1 with
            | false =>
              go_wp2_with fail
              go_meet
              case rel => exact ⟨rfl, HI.out⟩
            | true =>
              have hn2 := HN.out.r; have hn3 := HN.out.b; have hn4 := HN.out.g
              obtain ⟨_, q, k, cq, vg, vh, hb, hf, hc, hv⟩ := HI.out
              have lb := (Array.getElem?_eq_some_iff.1 hb).1
              have HB := Lib.hid hb
              have cb := blk_cell hb 1 _ rfl
              obtain ⟨_, _, _, eo, _, _, _, hcc⟩ := hf.regs.at (i := 3) (r := flatRow (nmS 3, 8)) (by rw [List.getElem?_map, show (rsF false)[3]? = some (nmS 3, 8) from rsS_at (by decide)]; rfl) (by decide)
              cases eo
              have o4 := hcc 1 _ rfl
              simp only [Nat.zero_add, Nat.reduceMul, Nat.reduceAdd] at o4
              have fo := hf.rfz 13
              have lo : bR < wc.heap.size := by omega
              clear hb hf hc hv hcc
              go_wp2_with fail
              go_meet
              case rel => exact ⟨rfl, FInv.reg HN.out HI.out⟩
          case rest =>
            obtain ⟨rfl, hin⟩ := hcut
            have HI := Lib.hid hin
            clear hin
            have e0 : wc.cell? ⟨ba, oa, none⟩ = some (.bool f0) := Ext.cell HI.out.1 EV.out.1
            go_upto_if 60 with (fail)
            go_cut [5] from 58 to 62 (fun want wx => want = .int .i64 (firstW f0 f1 f2 f3 f4 f5) ∧ FInv f0 f1 f2 f3 f4 f5 W wx b s bR cR bG cG)
            case first =>
              cases f0 with
              | false =>
                go_wp2_with fail
                go_meet
                case rel => exact ⟨rfl, HI.out⟩
              | true =>
                have hn2 := HN.out.r; have hn3 := HN.out.b; have hn4 := HN.out.g
                obtain ⟨_, q, k, cq, vg, vh, hb, hf, hc, hv⟩ := HI.out
                have lb := (Array.getElem?_eq_some_iff.1 hb).1
                have HB := Lib.hid hb
                have fb := blk_free hb 0
                have cb := blk_cell hb 0 _ rfl
                clear hb hf hc hv
                go_wp2_with fail
                go_meet
                case rel => exact ⟨rfl, FInv.name HN.out HI.out⟩
            case rest =>
              obtain ⟨rfl, hin⟩ := hcut
              have HI := Lib.hid hin
              clear hin
              obtain ⟨hx, q, k, cq, vg, vh, hb, hf, hc, hv⟩ := HI.out
              have lb := (Array.getElem?_eq_some_iff.1 hb).1
              have hm := checkM (FInv.mach (f0 := f0) (f4 := f4) HN.out lb hf hc) (Nat.le_refl _)
              rw [first_check] at hm
              have HM := Lib.hid hm
              have XX := Lib.hid hx
              have m0 := blk_cell hb 0 _ rfl
              have m1 := blk_cell hb 1 _ rfl
              have m2 := blk_cell hb 2 _ rfl
              have m3 := blk_cell hb 3 _ rfl
              have m4 := blk_cell hb 4 _ rfl
              have m5 := blk_cell hb 5 _ rfl
              have m6 := blk_cell hb 6 _ rfl
              have m7 := blk_cell hb 7 _ rfl
              clear hm hf hc hv hb hx
              go_wp2_with (first
                | (go_at_call 11; refine HM.out.mono ?_; rintro e W5 ⟨rfl, x5⟩; have X5 := Lib.hid x5; clear x5)
                | (go_at_call 13; refine (num_any _ _).mono ?_; rintro e w ⟨rfl, rfl⟩))
              go_ret
              exact ⟨rfl, XX.out.trans X5.out⟩
end Go.Proofs.Ythomndfagpeniaa
