/- One step of the walker, walked: its last statement. -/
import Derived.Test.YtocloacbbbhkcaaWalkerIn
import Derived.Test.YtocloacbbbhkcaaOrders
import Derived.Deep.QuietTactic
import Derived.BigQuiet
import Derived.StillTailTactics
import Derived.Deep.RegionHeld3
import Derived.Deep.AppendLies
import Derived.Deep.RegionLaw
import Derived.Deep.DeepCutAuto
import Derived.Deep.LoopGhost
import Derived.Deep.DrawnRows
import Derived.Outline
namespace Go.Proofs.Ytocloacbbbhkcaa
open Go.RowKit
attribute [local go_sem ↓] Go.wp_at_zero Go.wp_at_succ

theorem cell_new (w : World) (cs : Array Value) (e : TypeId) (i : Nat) : (w.alloc (.cells cs e)).cell? ⟨w.heap.size, i, none⟩ = cs[i]? := by
  simp only [World.cell?, heap_alloc_new]; rfl

/-- How a step ends. -/
def OnePost (w : World) (bw : Nat) (ρ : Nat → Option Nat) (r : Except Int Wk) (e : Ending) (w' : World) : Prop :=
  Keep (Has ρ) w w' ∧ match r with
    | .error x => e = stopped x
    | .ok σ' => e = .returned (.tuple #[]) ∧ ∃ bm vN vP vW ws, WkIn w' bw bm vN vP vW ws σ' ∧ Grew w ρ (parts bw bm vN vP vW ws)
theorem onePost_no {w w' : World} {bw : Nat} {ρ : Nat → Option Nat} {r : Except Int Wk} {x : Int} (hr : r = .error x) (hk : Keep (Has ρ) w w') : OnePost w bw ρ r (stopped x) w' := by
  subst hr; exact ⟨hk, rfl⟩
theorem OnePost.trans {w W w' : World} {bw : Nat} {ρ0 ρ : Nat → Option Nat} {r : Except Int Wk} {e : Ending} (hk : Keep (Has ρ0) w W) (hg : ∀ k, Has ρ k → Has ρ0 k ∨ w.heap.size ≤ k) (h : OnePost W bw ρ r e w') : OnePost w bw ρ0 r e w' := by
  refine ⟨hk.trans h.1 fun i hi hs => ?_, ?_⟩
  · rcases hg i hs with h | h
    · exact h
    · omega
  · cases r with
    | error x => exact h.2
    | ok σ' =>
      obtain ⟨he, bm, vN, vP, vW, ws, h1, h2⟩ := h.2
      refine ⟨he, bm, vN, vP, vW, ws, h1, fun k hk' => ?_⟩
      rcases h2 k hk' with h | h
      · exact hg k h
      · exact Or.inr (Nat.le_trans hk.size h)

theorem Ext.frozen {a b : World} (h : Ext a b) {p : Addr} (hp : p.block < a.heap.size) (hf : a.frozen? p = false) : b.frozen? p = false := by
  rw [World.frozen?_of_block (w := a) (Below.block h p.block hp)]; exact hf
theorem frozen_ad (W : World) (o : Obj) (p : Addr) (hp : p.block < W.heap.size) (hf : W.frozen? p = false) : (W.alloc o).drew.frozen? p = false := Ext.frozen ((Ext.alloc W o).trans (Ext.drew _)) hp hf
theorem Keep.cell {S : Nat → Prop} {w w' : World} (h : Keep S w w') {a : Addr} {v : Value} (hc : w.cell? a = some v) (hn : ¬ S a.block) : w'.cell? a = some v := by
  rw [World.cell?_of_block (w := w) (h.block a.block (World.block_lt_of_cell? w _ hc) hn)]; exact hc
theorem Keep.drew {S : Nat → Prop} {w w' : World} (h : Keep S w w') : Keep S w w'.drew := ⟨h.os, h.tape, h.output, h.size, h.block⟩

theorem far_cell {W w1 : World} {o : Obj} {row : Option Nat} {b i : Nat} {v : Value} (hg : (W.alloc o).drew.grownBy w1 row) (hb : b < W.heap.size) (hne : row ≠ some b) (hc : W.cell? ⟨b, i, none⟩ = some v) (hf : W.frozen? ⟨b, i, none⟩ = false) :
    w1.frozen? ⟨b, i, none⟩ = false ∧ w1.cell? ⟨b, i, none⟩ = some v := by
  have hs : b < (W.alloc o).drew.heap.size := Nat.lt_of_lt_of_le hb ((Ext.alloc W o).trans (Ext.drew _)).size
  exact ⟨by rw [hg.frozen_far _ hs (Ne.symm hne)]; exact frozen_ad _ _ _ hb hf, by rw [hg.cell_far _ hs (Ne.symm hne)]; exact Ext.cell ((Ext.alloc W _).trans (Ext.drew _)) hc⟩
/-- What is left behind so many statements. -/
def dropS : Nat → Code → Code
  | n + 1, .seq _ b => dropS n b
  | _, c => c

theorem infoPl : (Try.prog.info? 34).map (fun i => (i.zero, i.size, i.bytes)) = some (some (.agg #[.int .i64 0, .int .i64 0, .int .i64 0]), 3, 24) := by kernel_rfl
theorem infoStr : (Try.prog.info? 9).map (fun i => (i.zero, i.size, i.bytes)) = some (some (.string ByteArray.empty), 1, 16) := by kernel_rfl
theorem infoAr : (Try.prog.info? 45).map (fun i => (i.zero, i.size, i.bytes)) = some (some (.agg #[.int .i64 0, .int .i64 0, .int .i64 0, .slice none 0 0]), 4, 48) := by kernel_rfl

theorem Pl.one (p : Pl) : ∀ u ∈ p.cells, u.oneCell' = true := by
  intro u hu; simp only [Pl.cells, List.mem_cons, List.not_mem_nil, or_false] at hu; rcases hu with rfl | rfl | rfl <;> rfl

theorem way_one (p : Pl) : ∀ u ∈ p.cells ++ [Value.slice none 0 0], u.oneCell' = true := by
  intro u hu
  rcases List.mem_append.1 hu with h | h
  · exact p.one u h
  · simp only [List.mem_cons, List.not_mem_nil, or_false] at h; subst h; rfl
noncomputable def oneLast : Code := dropS 14 (Try.f14.body.getD .skip)

set_option maxRecDepth 100000 in
set_option maxHeartbeats 4000000 in
theorem one_last (bw bm br bp : Nat) (q6 : Value) (vN vP vW : Value) (ws : List Value) (σ : Wk) (p : Pl) (W : World) (R : Ending → World → Prop)
    (hK : WkIn W bw bm vN vP vW ws σ) (hwl : σ.ways.length ≤ 6)
    (hp : W.heap[bp]? = some (.cells p.cells.toArray 34 (0, 0))) (hbp : ¬ Has (parts bw bm vN vP vW ws) bp)
    (hR : ∀ w' vW' ws', WkIn w' bw bm vN vP vW' ws' { σ with ways := σ.ways ++ [(p, [])] } → Keep (Has (parts bw bm vN vP vW ws)) W w' → Grew W (parts bw bm vN vP vW ws) (parts bw bm vN vP vW' ws') → R (.returned (.tuple #[])) w')
    (u1 u2 u4 u5 u8 u9 u10 u11 u12 u13 u14 u15 u16 u17 u18 u19 u20 u21 u22 u23 u24 u25 u26 u27 u28 u29 u30 u31 u32 u33 u34 u35 u36 u37 u38 u39 u40 u41 u42 u43 u44 u45 u46 u47 u48 u49 u50 u51 u52 u53 u54 u55 u56 u57 u58 u59 u60 u61 u62 u63 u64 u65 u66 u67 u68 u69 u70 u71 u72 u73 u74 u75 u76 u77 u78 u79 u80 u81 u82 u83 u84 u85 u86 u87 u88 u89 u90 u91 u92 u93 u94 u95 u96 u97 u98 u99 u100 u101 u102 u103 u104 u105 u106 u107 u108 u109 u110 u111 u112 u113 u114 u115 u116 u117 u118 u119 u120 u121 u122 u123 u124 u125 u126 u127 u128 u129 u130 u131 u132 u133 u134 u135 u136 u137 u138 u139 u140 u141 u142 u143 u144 u145 u146 u147 u148 u149 u150 u151 u152 u153 u154 u155 u156 u157 u158 u159 u160 u161 u162 u163 u164 u165 u166 u167 u168 u169 u170 u171 u172 u173 u174 u175 u176 u177 u178 u179 u180 u181 u182 u183 u184 u185 u186 u187 u188 u189 u190 u191 u192 u193 u194 u195 u196 u197 u198 u199 u200 u201 : Value) :
    Code.wp Try.prog oneLast (bodyPost Try.prog Try.f14 R) { tmps := #[.pointer (some ⟨bw, 0, none⟩), u1, u2, .pointer (some ⟨br, 0, none⟩), u4, u5, q6, .pointer (some ⟨bp, 0, none⟩), u8, u9, u10, u11, u12, u13, u14, u15, u16, u17, u18, u19, u20, u21, u22, u23, u24, u25, u26, u27, u28, u29, u30, u31, u32, u33, u34, u35, u36, u37, u38, u39, u40, u41, u42, u43, u44, u45, u46, u47, u48, u49, u50, u51, u52, u53, u54, u55, u56, u57, u58, u59, u60, u61, u62, u63, u64, u65, u66, u67, u68, u69, u70, u71, u72, u73, u74, u75, u76, u77, u78, u79, u80, u81, u82, u83, u84, u85, u86, u87, u88, u89, u90, u91, u92, u93, u94, u95, u96, u97, u98, u99, u100, u101, u102, u103, u104, u105, u106, u107, u108, u109, u110, u111, u112, u113, u114, u115, u116, u117, u118, u119, u120, u121, u122, u123, u124, u125, u126, u127, u128, u129, u130, u131, u132, u133, u134, u135, u136, u137, u138, u139, u140, u141, u142, u143, u144, u145, u146, u147, u148, u149, u150, u151, u152, u153, u154, u155, u156, u157, u158, u159, u160, u161, u162, u163, u164, u165, u166, u167, u168, u169, u170, u171, u172, u173, u174, u175, u176, u177, u178, u179, u180, u181, u182, u183, u184, u185, u186, u187, u188, u189, u190, u191, u192, u193, u194, u195, u196, u197, u198, u199, u200, u201], defers := [] } W := by
  obtain ⟨iA, hiA, zA0, zA1, zA2⟩ := info_parts infoAr
  obtain ⟨aW, cW, rfl⟩ : ∃ aN cN, vW = .slice aN σ.ways.length cN := by
    obtain ⟨a, cap, e, _, _⟩ := (Row.of_owns (WkG.wy hK)).shape; exact ⟨a, cap, e⟩
  obtain ⟨_, _, _, c3, _⟩ := WkIn.cells hK
  have f3 := WkIn.free hK 3
  have hrow := Lib.hid (WkG.wy hK)
  have hap := Lib.hid (WkG.ap hK)
  have lbw : bw < W.heap.size := WkG.lt hK 0 bw rfl
  have lbp : bp < W.heap.size := (Array.getElem?_eq_some_iff.1 hp).1
  have p0 : W.cell? ⟨bp, 0, none⟩ = some (.int .i64 p.root) := by simp [World.cell?, hp, Pl.cells]
  have p1 : W.cell? ⟨bp, 1, none⟩ = some (.int .i64 p.beg) := by simp [World.cell?, hp, Pl.cells]
  have p2 : W.cell? ⟨bp, 2, none⟩ = some (.int .i64 p.width) := by simp [World.cell?, hp, Pl.cells]
  have nW : (Value.slice aW σ.ways.length cW).ownBlock ≠ some bw := fun e => by
    have := hap.out 4 0 bw e rfl; omega
  have np : (Value.slice aW σ.ways.length cW).ownBlock ≠ some bp := fun e => hbp ⟨4, e⟩
  have hKh := Lib.hid hK
  have hRh := Lib.hid hR
  clear hK hR hp hbp
  conv => arg 2; whnf
  go_wp2_with fail
  refine wp_region_M (fun w' => w'.cell? ⟨bw, 3, none⟩ = some (.slice aW σ.ways.length cW) ∧ w'.cell? ⟨bp, 0, none⟩ = some (.int .i64 p.root) ∧ w'.cell? ⟨bp, 1, none⟩ = some (.int .i64 p.beg) ∧ w'.cell? ⟨bp, 2, none⟩ = some (.int .i64 p.width)) 11 (by kernel_rfl) ⟨c3, p0, p1, p2⟩ (fun hS => ?_)
  refine wpAnyM_take (v := ?_) 0 rfl (by kernel_rfl) (fun _ _ _ h => h) hS rfl ?_ ?_; rotate_left; · (intro w hSw; (try dsimp only at hSw); go_simp; try with_reducible rfl)
  (try simp only [Act.put, List.setIfInBounds_toArray, List.set_cons_zero, List.set_cons_succ])
  refine wpAnyM_take (v := ?_) 1 rfl (by kernel_rfl) (fun _ _ _ h => h) hS rfl ?_ ?_; rotate_left; · (intro w hSw; (try dsimp only at hSw); go_simp; try with_reducible rfl)
  (try simp only [Act.put, List.setIfInBounds_toArray, List.set_cons_zero, List.set_cons_succ])
  refine wpAnyM_take (v := ?_) 2 rfl (by kernel_rfl) (fun _ _ _ h => h) hS rfl ?_ ?_; rotate_left; · (intro w hSw; (try dsimp only at hSw); go_simp; try with_reducible rfl)
  (try simp only [Act.put, List.setIfInBounds_toArray, List.set_cons_zero, List.set_cons_succ])
  refine wpAnyM_take (v := ?_) 3 rfl (by kernel_rfl) (fun _ _ _ h => h) hS rfl ?_ ?_; rotate_left; · (intro w hSw; (try dsimp only at hSw); go_simp; try with_reducible rfl)
  (try simp only [Act.put, List.setIfInBounds_toArray, List.set_cons_zero, List.set_cons_succ])
  refine wpAnyM_take (v := ?_) 4 rfl (by kernel_rfl) (fun _ _ _ h => h) hS rfl ?_ ?_; rotate_left; · (intro w hSw; (try dsimp only at hSw); go_simp; try with_reducible rfl)
  (try simp only [Act.put, List.setIfInBounds_toArray, List.set_cons_zero, List.set_cons_succ])
  refine wpAnyM_take (v := ?_) 5 rfl (by kernel_rfl) (fun _ _ _ h => h) hS rfl ?_ ?_; rotate_left; · (intro w hSw; (try dsimp only at hSw); go_simp; try with_reducible rfl)
  (try simp only [Act.put, List.setIfInBounds_toArray, List.set_cons_zero, List.set_cons_succ])
  refine wpAnyM_take (v := ?_) 6 rfl (by kernel_rfl) (fun _ _ _ h => h) hS rfl ?_ ?_; rotate_left; · (intro w hSw; (try dsimp only at hSw); go_simp; try with_reducible rfl)
  (try simp only [Act.put, List.setIfInBounds_toArray, List.set_cons_zero, List.set_cons_succ])
  refine wpAnyM_ready [7] (by kernel_rfl) rfl ?_
  refine AllM.cons rfl rfl (fun K hK => ?_) AllM.nil
  go_simp
  have xa : Ext W (W.alloc (.cells #[.int .i64 p.root, .int .i64 p.beg, .int .i64 p.width, .slice none 0 0] 45)).drew := (Ext.alloc W _).trans (Ext.drew _)
  refine hK.out _ _ ⟨xa.cell c3, xa.cell p0, xa.cell p1, xa.cell p2⟩ ?_
  (try simp only [Act.put, List.setIfInBounds_toArray, List.set_cons_zero, List.set_cons_succ])
  clear hK K
  refine wpAnyM_ready [8] (by kernel_rfl) rfl ?_
  refine AllM.cons rfl rfl (fun K hK => ?_) AllM.nil
  refine wp_append_lies _ _ _ _ rfl 0 45 iA _ 4 48 Try.underlying46 hiA zA0 zA1 zA2 rfl (by omega) (.slice aW σ.ways.length cW) σ.ways.length (wayCells σ.ways ws) rfl ((hrow.out.alloc _).drew) ⟨W.heap.size, 0, none⟩ 1 1 (p.cells ++ [.slice none 0 0]) rfl rfl (World.news_of_block (cs := #[.int .i64 p.root, .int .i64 p.beg, .int .i64 p.width, .slice none 0 0]) (t := 45) (fr := (0, 0)) (heap_alloc_new W _)) (way_one p) (by omega) (by unfold maxLen; omega) (by omega) (by simp) (W.heap.size + 1) (by simp) ?_
  intro gg cap w1 hown1 hgrow hat hlt
  have k1 : Keep (fun k => some k = (Value.slice aW σ.ways.length cW).ownBlock) W w1 := Keep.ofGrown xa hgrow (fun k e => e.symm)
  have c3' := k1.cell c3 (Ne.symm nW)
  have f3' : w1.frozen? ⟨bw, 3, none⟩ = false := by rw [World.frozen?_of_block (w := W) (k1.block bw lbw (Ne.symm nW))]; exact f3
  have hS' : w1.cell? ⟨bw, 3, none⟩ = some (.slice aW σ.ways.length cW) ∧ w1.cell? ⟨bp, 0, none⟩ = some (.int .i64 p.root) ∧ w1.cell? ⟨bp, 1, none⟩ = some (.int .i64 p.beg) ∧ w1.cell? ⟨bp, 2, none⟩ = some (.int .i64 p.width) := ⟨c3', k1.cell p0 (Ne.symm np), k1.cell p1 (Ne.symm np), k1.cell p2 (Ne.symm np)⟩
  refine hK.out _ _ hS' ?_
  (try simp only [Act.put, List.setIfInBounds_toArray, List.set_cons_zero, List.set_cons_succ])
  clear hK K hS
  have hS := hS'
  refine wpAnyM_take (v := ?_) 9 rfl (by kernel_rfl) (fun _ _ _ h => h) hS rfl ?_ ?_; rotate_left; · (intro w hSw; (try dsimp only at hSw); go_simp; try with_reducible rfl)
  (try simp only [Act.put, List.setIfInBounds_toArray, List.set_cons_zero, List.set_cons_succ])
  refine wpAnyM_take (v := ?_) 10 rfl (by kernel_rfl) (fun _ _ _ h => h) hS rfl ?_ ?_; rotate_left; · (intro w hSw; (try dsimp only at hSw); go_simp; try with_reducible rfl)
  (try simp only [Act.put, List.setIfInBounds_toArray, List.set_cons_zero, List.set_cons_succ])
  refine wpAnyM_ready [11] (by kernel_rfl) rfl ?_
  refine AllM.late rfl rfl (by kernel_rfl) (fun K hK => ?_) AllM.nil
  go_simp
  refine hK.out _ _ ?_
  (try simp only [Act.put, List.setIfInBounds_toArray, List.set_cons_zero, List.set_cons_succ])
  clear hK K hS
  refine wpAnyM_done (by kernel_rfl) ?_ _
  obtain ⟨K2, k2, g2⟩ := hKh.out.way p xa hgrow (hat.imp id (fun e => by rw [e]; simp)) hown1
  have fin := hRh.out _ _ _ K2 k2 g2
  clear hKh hRh hrow hap k1 c3' f3' hS' hown1 hgrow K2 k2 g2
  go_wp2_with fail
  go_end0
  exact fin
end Go.Proofs.Ytocloacbbbhkcaa
