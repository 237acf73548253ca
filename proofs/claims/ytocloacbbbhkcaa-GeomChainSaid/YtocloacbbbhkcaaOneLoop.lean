/- One step of the walker, walked: the loop over those within, and the end. -/
import Derived.Test.YtocloacbbbhkcaaOneTail
import Derived.Deep.CutBlock
namespace Go.Proofs.Ytocloacbbbhkcaa
open Go.RowKit

theorem plCells_at {l : List Pl} {k : Nat} {q : Pl} (h : l[k]? = some q) : (plCells l)[k * 3]? = some (.int .i64 q.root) ∧ (plCells l)[k * 3 + 1]? = some (.int .i64 q.beg) ∧ (plCells l)[k * 3 + 2]? = some (.int .i64 q.width) := by
  induction k generalizing l with
  | zero =>
    cases l with
    | nil => simp at h
    | cons a l => simp at h; subst h; simp [plCells, Pl.cells]
  | succ k ih =>
    cases l with
    | nil => simp at h
    | cons a l =>
      have := ih (l := l) (by simpa using h)
      have e : plCells (a :: l) = .int .i64 a.root :: .int .i64 a.beg :: .int .i64 a.width :: plCells l := by simp [plCells, Pl.cells]
      rw [e, show (k + 1) * 3 = k * 3 + 3 by omega]
      simpa using this
/-- The cells of a slice of places. -/
theorem places_at {w : World} {v : Value} {l : List Pl} {e : TypeId} (h : w.ownsRow 0 e 3 v l.length (plCells l)) {k : Nat} {q : Pl} (hq : l[k]? = some q) :
    ∃ b cap, v = .slice (some ⟨b, 0, none⟩) l.length cap ∧ w.cell? ⟨b, k * 3, none⟩ = some (.int .i64 q.root) ∧ w.cell? ⟨b, k * 3 + 1, none⟩ = some (.int .i64 q.beg) ∧ w.cell? ⟨b, k * 3 + 2, none⟩ = some (.int .i64 q.width) := by
  have hk : k < l.length := (List.getElem?_eq_some_iff.1 hq).1
  obtain ⟨g, cap, hv, _, _⟩ := h.form (by omega)
  obtain ⟨h0, h1, h2⟩ := plCells_at hq
  rcases (Row.of_owns h).2 with ⟨e, _⟩ | ⟨a, cap', e, _, _, hc⟩
  · rw [e] at hv; cases hv
  · rw [hv] at e; cases e
    have ad : ∀ j, (Addr.add ⟨g, 0, none⟩ j) = ⟨g, j, none⟩ := fun j => by unfold Addr.add; by_cases h0 : j = 0 <;> simp [h0]
    have c0 := hc _ _ h0
    have c1 := hc _ _ h1
    have c2 := hc _ _ h2
    rw [ad] at c0 c1 c2
    exact ⟨g, cap, hv, c0, c1, c2⟩
theorem any_no {l : List Pl} {p : Pl} (h : ∀ (j : Nat) (q : Pl), l[j]? = some q → lapS p q = false) : l.any (lapS p) = false := by
  rw [List.any_eq_false]
  intro q hq
  obtain ⟨j, hj⟩ := List.getElem?_of_mem hq
  simp [h j q hj]
theorem any_yes {l : List Pl} {p q : Pl} {j : Nat} (h : l[j]? = some q) (hl : lapS p q = true) : l.any (lapS p) = true := by
  rw [List.any_eq_true]; exact ⟨q, List.mem_of_getElem? h, hl⟩
noncomputable def oneLoop : Code := dropS 10 (Try.f14.body.getD .skip)
set_option maxRecDepth 100000 in
set_option maxHeartbeats 4000000 in
theorem one_loop (bw bm br bW capW bp i cO mO : Nat) (aO : Option Addr) (vN vP : Value) (ws : List Value) (σ : Wk) (name : ByteArray) (p : Pl) (x : Pl × List Pl) (W : World) (R : Ending → World → Prop)
    (hK : WkIn W bw bm vN vP (.slice (some ⟨bW, 0, none⟩) (i + 1) capW) ws σ) (hwl : σ.ways.length = i + 1) (hx : σ.ways[i]? = some x) (hv : ws[i]? = some (.slice aO mO cO)) (hmO : mO = x.2.length)
    (hp : W.heap[bp]? = some (.cells p.cells.toArray 34 (0, 0))) (hbp : ¬ Has (parts bw bm vN vP (.slice (some ⟨bW, 0, none⟩) (i + 1) capW) ws) bp)
    (hr : W.cell? ⟨br, 0, none⟩ = some (.string name)) (hbr : ¬ Has (parts bw bm vN vP (.slice (some ⟨bW, 0, none⟩) (i + 1) capW) ws) br)
    (hn : σ.names.length < 200) (hpl : σ.places.length < 200) (hi6 : i < 6) (hm2 : mO < 200) (hme : memB name σ.names = false) (hpf : p.fit) (hqf : ∀ q ∈ x.2, q.fit)
    (hR : ∀ e w', OnePost W bw (parts bw bm vN vP (.slice (some ⟨bW, 0, none⟩) (i + 1) capW) ws) (if x.2.any (lapS p) then .error 7 else .ok { names := σ.names ++ [name], places := σ.places ++ [p], ways := σ.ways.set i (x.1, x.2 ++ [p]) ++ [(p, [])], roots := σ.roots }) e w' → R e w')
    (u1 u2 u4 u5 u8 u9 u10 u11 u12 u13 u14 u15 u16 u17 u18 u19 u20 u21 u22 u23 u24 u25 u26 u27 u28 u29 u30 u31 u32 u33 u34 u35 u36 u37 u38 u39 u40 u41 u42 u43 u44 u45 u46 u47 u48 u49 u50 u51 u52 u53 u54 u55 u56 u57 u58 u59 u60 u61 u62 u63 u64 u65 u66 u67 u68 u69 u70 u71 u72 u73 u74 u75 u76 u77 u78 u79 u80 u81 u82 u83 u84 u85 u86 u87 u88 u89 u90 u91 u92 u93 u94 u95 u96 u97 u98 u99 u100 u101 u102 u103 u104 u105 u106 u107 u108 u109 u110 u111 u112 u113 u114 u115 u116 u117 u118 u119 u120 u121 u122 u123 u124 u125 u126 u127 u128 u129 u130 u131 u132 u133 u134 u135 u136 u137 u138 u139 u140 u141 u142 u143 u144 u145 u146 u147 u148 u149 u150 u151 u152 u153 u154 u155 u156 u157 u158 u159 u160 u161 u162 u163 u164 u165 u166 u167 u168 u169 u170 u171 u172 u173 u174 u175 u176 u177 u178 u179 u180 u181 u182 u183 u184 u185 u186 u187 u188 u189 u190 u191 u192 u193 u194 u195 u196 u197 u198 u199 u200 u201 : Value) :
    Code.wp Try.prog oneLoop (bodyPost Try.prog Try.f14 R) { tmps := #[.pointer (some ⟨bw, 0, none⟩), u1, u2, .pointer (some ⟨br, 0, none⟩), u4, u5, .pointer (some ⟨bW, i * 4, none⟩), .pointer (some ⟨bp, 0, none⟩), u8, u9, u10, u11, u12, u13, u14, u15, u16, u17, u18, u19, u20, u21, u22, u23, u24, u25, u26, u27, u28, u29, u30, u31, u32, u33, u34, u35, u36, u37, u38, u39, u40, u41, u42, u43, u44, u45, u46, u47, u48, u49, u50, u51, u52, u53, u54, u55, u56, u57, u58, u59, u60, u61, u62, u63, u64, u65, u66, u67, u68, u69, u70, u71, u72, u73, u74, u75, u76, u77, u78, u79, u80, u81, u82, u83, u84, u85, u86, u87, u88, u89, u90, u91, u92, u93, u94, u95, u96, u97, u98, u99, u100, u101, u102, u103, u104, u105, u106, u107, u108, u109, u110, u111, u112, u113, u114, u115, u116, u117, u118, u119, u120, u121, u122, u123, u124, u125, u126, u127, u128, u129, u130, u131, u132, u133, u134, u135, u136, u137, u138, u139, u140, u141, u142, u143, u144, u145, u146, u147, u148, u149, u150, u151, u152, u153, u154, u155, u156, u157, u158, u159, u160, u161, u162, u163, u164, u165, u166, u167, u168, u169, u170, u171, u172, u173, u174, u175, u176, u177, u178, u179, u180, u181, u182, u183, u184, u185, u186, u187, u188, u189, u190, u191, u192, u193, u194, u195, u196, u197, u198, u199, u200, u201], defers := [] } W := by
  obtain ⟨o0, o1, o2, o3, fo3⟩ := WkG.around hK hx hv
  have hrow := Lib.hid (WkG.wi hK i x _ hx hv)
  have hKh := Lib.hid hK
  have hRh := Lib.hid hR
  have hxh := Lib.hid hx
  have hvh := Lib.hid hv
  have hph := Lib.hid hp
  have hwh := Lib.hid hwl
  have hmh := Lib.hid hmO
  have hmeh := Lib.hid hme
  have hbph := Lib.hid hbp
  have hbrh := Lib.hid hbr
  have hqfh := Lib.hid hqf
  clear hK hR hx hv hp hwl hmO hme hbp hbr hqf
  conv => arg 2; whnf
  go_upto_block 0 with (fail)
  rename_i K1 hK1
  have hK1h := Lib.hid hK1
  have p0 : W.cell? ⟨bp, 0, none⟩ = some (.int .i64 p.root) := by simp [World.cell?, hph.out, Pl.cells]
  have p1 : W.cell? ⟨bp, 1, none⟩ = some (.int .i64 p.beg) := by simp [World.cell?, hph.out, Pl.cells]
  have p2 : W.cell? ⟨bp, 2, none⟩ = some (.int .i64 p.width) := by simp [World.cell?, hph.out, Pl.cells]
  clear hK1
  go_wp2_with fail
  go_loopw [137] (fun v wr => ∃ k : Nat, k ≤ mO ∧ v = .int .i64 k ∧ Hid (Ext W wr) ∧ Hid (∀ j q, j < k → x.2[j]? = some q → lapS p q = false)) (fun v _ => mO - (intOf v).toNat)
  case atStart => exact ⟨0, by omega, rfl, Lib.hid (Ext.refl _), Lib.hid (fun j q hj => by omega)⟩
  case round =>
    obtain ⟨k, hk, rfl, hX, hok⟩ := hrel
    by_cases hlt : k < mO
    · obtain ⟨q, hq⟩ : ∃ q, x.2[k]? = some q := ⟨x.2[k]'(by rw [← hmh.out]; exact hlt), List.getElem?_eq_getElem _⟩
      obtain ⟨bO, cap, e, a0, a1, a2⟩ := places_at hrow.out hq
      cases e
      have a0 := hX.out.cell a0
      have a1 := hX.out.cell a1
      have a2 := hX.out.cell a2
      have p0 := hX.out.cell p0
      have p1 := hX.out.cell p1
      have p2 := hX.out.cell p2
      have lbp := World.block_lt_of_cell? wr _ p0
      have hqf := Lib.hid (hqfh.out q (List.mem_of_getElem? hq))
      have hqh := Lib.hid hq
      clear hq
      cases hl : lapS p q with
      | true =>
        go_wp2_with fail
        refine (lap_any p q _ hpf hqf.out).mono ?_
        rintro e w' ⟨rfl, hb⟩
        rw [hl]
        go_wp2_with fail
        (with_reducible refine (need_no _ _).mono ?_)
        rintro e w'' ⟨rfl, rfl⟩
        refine ⟨rfl, hRh.out _ _ (onePost_no (by rw [any_yes hqh.out hl]; rfl) (Keep.of_ext ((hX.out.trans (Ext.alloc _ _)).trans hb)))⟩
      | false =>
        go_wp2_with fail
        refine (lap_any p q _ hpf hqf.out).mono ?_
        rintro e w' ⟨rfl, hb⟩
        rw [hl]
        go_wp2_with fail
        (with_reducible refine (need_ok _ _).mono ?_)
        rintro e w'' ⟨rfl, rfl⟩
        go_wp2_with fail
        go_roundw
        case rel => exact ⟨k + 1, by omega, by go_num, Lib.hid ((hX.out.trans (Ext.alloc _ _)).trans hb), Lib.hid (fun j q' hj hq' => by
          by_cases ej : j = k
          · subst ej; rw [hqh.out] at hq'; cases hq'; exact hl
          · exact hok.out j q' (by omega) hq')⟩
        case measure => simp [intOf]; omega
    · go_wp2_with fail
      have hno : x.2.any (lapS p) = false := any_no (fun j q hj => hok.out j q (by have := (List.getElem?_eq_some_iff.1 hj).1; have := hmh.out; omega) hj)
      refine hK1h.out _ _ ?_
      refine one_took bw bm br bW capW bp i cO mO aO vN vP ws σ name p x wr R (hKh.out.ext hX.out) hwh.out hxh.out hvh.out hmh.out (hX.out.block hph.out) hbph.out (hX.out.cell hr) hbrh.out hn hpl hi6 hm2 hmeh.out (fun w' h => hRh.out _ _ (OnePost.trans (Keep.of_ext hX.out) (fun k h => Or.inl h) (by rw [hno]; exact h))) _ _ _ _ _ _ _ _ _ _ _ _ _ _ _ _ _ _ _ _ _ _ _ _ _ _ _ _ _ _ _ _ _ _ _ _ _ _ _ _ _ _ _ _ _ _ _ _ _ _ _ _ _ _ _ _ _ _ _ _ _ _ _ _ _ _ _ _ _ _ _ _ _ _ _ _ _ _ _ _ _ _ _ _ _ _ _ _ _ _ _ _ _ _ _ _ _ _ _ _ _ _ _ _ _ _ _ _ _ _ _ _ _ _ _ _ _ _ _ _ _ _ _ _ _ _ _ _ _ _ _ _ _ _ _ _ _ _ _ _ _ _ _ _ _ _ _ _ _ _ _ _ _ _ _ _ _ _ _ _ _ _ _ _ _ _ _ _ _ _ _ _ _ _ _ _ _ _ _ _ _ _ _ _ _ _ _ _ _ _ _ _ _ _ _ _ _ _
end Go.Proofs.Ytocloacbbbhkcaa
