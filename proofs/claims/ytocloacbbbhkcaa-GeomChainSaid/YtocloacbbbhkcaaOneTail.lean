/- One step of the walker, walked: its end: the register is taken. -/
import Derived.Test.YtocloacbbbhkcaaOneLast
namespace Go.Proofs.Ytocloacbbbhkcaa
open Go.RowKit
attribute [local go_sem ↓] Go.wp_at_zero Go.wp_at_succ
noncomputable def oneTail : Code := dropS 11 (Try.f14.body.getD .skip)

/-- What region 21 reads. -/
def Six (bw br bp : Nat) (vN vP : Value) (name : ByteArray) (p : Pl) (w : World) : Prop :=
  w.cell? ⟨bw, 0, none⟩ = some vN ∧ w.cell? ⟨bw, 1, none⟩ = some vP ∧ w.cell? ⟨br, 0, none⟩ = some (.string name) ∧ w.cell? ⟨bp, 0, none⟩ = some (.int .i64 p.root) ∧ w.cell? ⟨bp, 1, none⟩ = some (.int .i64 p.beg) ∧ w.cell? ⟨bp, 2, none⟩ = some (.int .i64 p.width)
theorem Six.ext {bw br bp : Nat} {vN vP : Value} {name : ByteArray} {p : Pl} {w w' : World} (h : Six bw br bp vN vP name p w) (x : Ext w w') : Six bw br bp vN vP name p w' :=
  ⟨x.cell h.1, x.cell h.2.1, x.cell h.2.2.1, x.cell h.2.2.2.1, x.cell h.2.2.2.2.1, x.cell h.2.2.2.2.2⟩
theorem Six.grown {bw br bp bm : Nat} {vN vP cW uN uP uW : Value} {cs ws : List Value} {mn : List ByteArray} {σ : Wk} {name : ByteArray} {p : Pl} {w w' : World} {row : Option Nat} (h : Six bw br bp vN vP name p w) (k : WkG w' bw bm vN vP cW cs uN uP uW ws mn σ) (hg : w.grownBy w' row) (h1 : row ≠ some br) (h2 : row ≠ some bp) : Six bw br bp vN vP name p w' := by
  have kk : Keep (fun k => row = some k) w w' := Keep.grown hg (fun _ e => e)
  exact ⟨k.cells.1, k.cells.2.1, kk.cell h.2.2.1 h1, kk.cell h.2.2.2.1 h2, kk.cell h.2.2.2.2.1 h2, kk.cell h.2.2.2.2.2 h2⟩
theorem grew2 {W : World} {ρ : Nat → Option Nat} {bw bm gN gP n c n' c' : Nat} {vN vP vW : Value} {ws : List Value} (h : Grew W ρ (parts bw bm vN vP vW ws)) (eN : vN.ownBlock = some gN ∨ W.heap.size ≤ gN) (eP : vP.ownBlock = some gP ∨ W.heap.size ≤ gP) :
    Grew W ρ (parts bw bm (.slice (some ⟨gN, 0, none⟩) n c) (.slice (some ⟨gP, 0, none⟩) n' c') vW ws) := by
  have h1 : Grew W (parts bw bm vN vP vW ws) (parts bw bm (.slice (some ⟨gN, 0, none⟩) n c) vP vW ws) := Grew.set 2 gN eN (fun r hr => by match r, hr with | 0, _ => rfl | 1, _ => rfl | 3, _ => rfl | 4, _ => rfl | j + 5, _ => rfl) rfl
  have h2 : Grew W (parts bw bm (.slice (some ⟨gN, 0, none⟩) n c) vP vW ws) (parts bw bm (.slice (some ⟨gN, 0, none⟩) n c) (.slice (some ⟨gP, 0, none⟩) n' c') vW ws) := Grew.set 3 gP eP (fun r hr => by match r, hr with | 0, _ => rfl | 1, _ => rfl | 2, _ => rfl | 4, _ => rfl | j + 5, _ => rfl) rfl
  exact (h.trans (Nat.le_refl _) h1).trans (Nat.le_refl _) h2

/-- The last statement, and the whole end with it. -/
theorem one_r22 (bw bm br bp : Nat) (q6 : Value) (vN vP vW : Value) (ws : List Value) (σ : Wk) (p : Pl) (W WB : World) (R : Ending → World → Prop) (ρ : Nat → Option Nat)
    (hk : Keep (Has ρ) W WB) (hg : Grew W ρ (parts bw bm vN vP vW ws)) (hp : W.heap[bp]? = some (.cells p.cells.toArray 34 (0, 0))) (hbp : ¬ Has ρ bp)
    (hK : WkIn WB bw bm vN vP vW ws σ) (hwl : σ.ways.length ≤ 6)
    (hR : ∀ w', OnePost W bw ρ (.ok { σ with ways := σ.ways ++ [(p, [])] }) (.returned (.tuple #[])) w' → R (.returned (.tuple #[])) w')
    (u1 u2 u4 u5 u8 u9 u10 u11 u12 u13 u14 u15 u16 u17 u18 u19 u20 u21 u22 u23 u24 u25 u26 u27 u28 u29 u30 u31 u32 u33 u34 u35 u36 u37 u38 u39 u40 u41 u42 u43 u44 u45 u46 u47 u48 u49 u50 u51 u52 u53 u54 u55 u56 u57 u58 u59 u60 u61 u62 u63 u64 u65 u66 u67 u68 u69 u70 u71 u72 u73 u74 u75 u76 u77 u78 u79 u80 u81 u82 u83 u84 u85 u86 u87 u88 u89 u90 u91 u92 u93 u94 u95 u96 u97 u98 u99 u100 u101 u102 u103 u104 u105 u106 u107 u108 u109 u110 u111 u112 u113 u114 u115 u116 u117 u118 u119 u120 u121 u122 u123 u124 u125 u126 u127 u128 u129 u130 u131 u132 u133 u134 u135 u136 u137 u138 u139 u140 u141 u142 u143 u144 u145 u146 u147 u148 u149 u150 u151 u152 u153 u154 u155 u156 u157 u158 u159 u160 u161 u162 u163 u164 u165 u166 u167 u168 u169 u170 u171 u172 u173 u174 u175 u176 u177 u178 u179 u180 u181 u182 u183 u184 u185 u186 u187 u188 u189 u190 u191 u192 u193 u194 u195 u196 u197 u198 u199 u200 u201 : Value) :
    Code.wp Try.prog oneLast (bodyPost Try.prog Try.f14 R) { tmps := #[.pointer (some ⟨bw, 0, none⟩), u1, u2, .pointer (some ⟨br, 0, none⟩), u4, u5, q6, .pointer (some ⟨bp, 0, none⟩), u8, u9, u10, u11, u12, u13, u14, u15, u16, u17, u18, u19, u20, u21, u22, u23, u24, u25, u26, u27, u28, u29, u30, u31, u32, u33, u34, u35, u36, u37, u38, u39, u40, u41, u42, u43, u44, u45, u46, u47, u48, u49, u50, u51, u52, u53, u54, u55, u56, u57, u58, u59, u60, u61, u62, u63, u64, u65, u66, u67, u68, u69, u70, u71, u72, u73, u74, u75, u76, u77, u78, u79, u80, u81, u82, u83, u84, u85, u86, u87, u88, u89, u90, u91, u92, u93, u94, u95, u96, u97, u98, u99, u100, u101, u102, u103, u104, u105, u106, u107, u108, u109, u110, u111, u112, u113, u114, u115, u116, u117, u118, u119, u120, u121, u122, u123, u124, u125, u126, u127, u128, u129, u130, u131, u132, u133, u134, u135, u136, u137, u138, u139, u140, u141, u142, u143, u144, u145, u146, u147, u148, u149, u150, u151, u152, u153, u154, u155, u156, u157, u158, u159, u160, u161, u162, u163, u164, u165, u166, u167, u168, u169, u170, u171, u172, u173, u174, u175, u176, u177, u178, u179, u180, u181, u182, u183, u184, u185, u186, u187, u188, u189, u190, u191, u192, u193, u194, u195, u196, u197, u198, u199, u200, u201], defers := [] } WB := by
  have lbp : bp < W.heap.size := (Array.getElem?_eq_some_iff.1 hp).1
  refine one_last bw bm br bp q6 vN vP vW ws σ p WB R hK hwl (by rw [hk.block bp lbp hbp]; exact hp) (fun h => ?_) (fun w' vW' ws' h1 h2 h3 => hR w' ⟨hk.trans h2 (fun i hi h => ?_), rfl, bm, vN, vP, vW', ws', h1, hg.trans hk.size h3⟩) u1 u2 u4 u5 u8 u9 u10 u11 u12 u13 u14 u15 u16 u17 u18 u19 u20 u21 u22 u23 u24 u25 u26 u27 u28 u29 u30 u31 u32 u33 u34 u35 u36 u37 u38 u39 u40 u41 u42 u43 u44 u45 u46 u47 u48 u49 u50 u51 u52 u53 u54 u55 u56 u57 u58 u59 u60 u61 u62 u63 u64 u65 u66 u67 u68 u69 u70 u71 u72 u73 u74 u75 u76 u77 u78 u79 u80 u81 u82 u83 u84 u85 u86 u87 u88 u89 u90 u91 u92 u93 u94 u95 u96 u97 u98 u99 u100 u101 u102 u103 u104 u105 u106 u107 u108 u109 u110 u111 u112 u113 u114 u115 u116 u117 u118 u119 u120 u121 u122 u123 u124 u125 u126 u127 u128 u129 u130 u131 u132 u133 u134 u135 u136 u137 u138 u139 u140 u141 u142 u143 u144 u145 u146 u147 u148 u149 u150 u151 u152 u153 u154 u155 u156 u157 u158 u159 u160 u161 u162 u163 u164 u165 u166 u167 u168 u169 u170 u171 u172 u173 u174 u175 u176 u177 u178 u179 u180 u181 u182 u183 u184 u185 u186 u187 u188 u189 u190 u191 u192 u193 u194 u195 u196 u197 u198 u199 u200 u201
  · rcases hg bp h with h | h
    · exact hbp h
    · omega
  · rcases hg i h with h | h
    · exact h
    · omega

set_option maxRecDepth 100000 in
set_option maxHeartbeats 4000000 in
theorem one_took (bw bm br bW capW bp i cO mO : Nat) (aO : Option Addr) (vN vP : Value) (ws : List Value) (σ : Wk) (name : ByteArray) (p : Pl) (x : Pl × List Pl) (W : World) (R : Ending → World → Prop)
    (hK : WkIn W bw bm vN vP (.slice (some ⟨bW, 0, none⟩) (i + 1) capW) ws σ) (hwl : σ.ways.length = i + 1) (hx : σ.ways[i]? = some x) (hv : ws[i]? = some (.slice aO mO cO)) (hmO : mO = x.2.length)
    (hp : W.heap[bp]? = some (.cells p.cells.toArray 34 (0, 0))) (hbp : ¬ Has (parts bw bm vN vP (.slice (some ⟨bW, 0, none⟩) (i + 1) capW) ws) bp)
    (hr : W.cell? ⟨br, 0, none⟩ = some (.string name)) (hbr : ¬ Has (parts bw bm vN vP (.slice (some ⟨bW, 0, none⟩) (i + 1) capW) ws) br)
    (hn : σ.names.length < 200) (hpl : σ.places.length < 200) (hi6 : i < 6) (hm2 : mO < 200) (hme : memB name σ.names = false)
    (hR : ∀ w', OnePost W bw (parts bw bm vN vP (.slice (some ⟨bW, 0, none⟩) (i + 1) capW) ws) (.ok { names := σ.names ++ [name], places := σ.places ++ [p], ways := σ.ways.set i (x.1, x.2 ++ [p]) ++ [(p, [])], roots := σ.roots }) (.returned (.tuple #[])) w' → R (.returned (.tuple #[])) w')
    (u1 u2 u4 u5 u8 u9 u10 u11 u12 u13 u14 u15 u16 u17 u18 u19 u20 u21 u22 u23 u24 u25 u26 u27 u28 u29 u30 u31 u32 u33 u34 u35 u36 u37 u38 u39 u40 u41 u42 u43 u44 u45 u46 u47 u48 u49 u50 u51 u52 u53 u54 u55 u56 u57 u58 u59 u60 u61 u62 u63 u64 u65 u66 u67 u68 u69 u70 u71 u72 u73 u74 u75 u76 u77 u78 u79 u80 u81 u82 u83 u84 u85 u86 u87 u88 u89 u90 u91 u92 u93 u94 u95 u96 u97 u98 u99 u100 u101 u102 u103 u104 u105 u106 u107 u108 u109 u110 u111 u112 u113 u114 u115 u116 u117 u118 u119 u120 u121 u122 u123 u124 u125 u126 u127 u128 u129 u130 u131 u132 u133 u134 u135 u136 u137 u138 u139 u140 u141 u142 u143 u144 u145 u146 u147 u148 u149 u150 u151 u152 u153 u154 u155 u156 u157 u158 u159 u160 u161 u162 u163 u164 u165 u166 u167 u168 u169 u170 u171 u172 u173 u174 u175 u176 u177 u178 u179 u180 u181 u182 u183 u184 u185 u186 u187 u188 u189 u190 u191 u192 u193 u194 u195 u196 u197 u198 u199 u200 u201 : Value) :
    Code.wp Try.prog oneTail (bodyPost Try.prog Try.f14 R) { tmps := #[.pointer (some ⟨bw, 0, none⟩), u1, u2, .pointer (some ⟨br, 0, none⟩), u4, u5, .pointer (some ⟨bW, i * 4, none⟩), .pointer (some ⟨bp, 0, none⟩), u8, u9, u10, u11, u12, u13, u14, u15, u16, u17, u18, u19, u20, u21, u22, u23, u24, u25, u26, u27, u28, u29, u30, u31, u32, u33, u34, u35, u36, u37, u38, u39, u40, u41, u42, u43, u44, u45, u46, u47, u48, u49, u50, u51, u52, u53, u54, u55, u56, u57, u58, u59, u60, u61, u62, u63, u64, u65, u66, u67, u68, u69, u70, u71, u72, u73, u74, u75, u76, u77, u78, u79, u80, u81, u82, u83, u84, u85, u86, u87, u88, u89, u90, u91, u92, u93, u94, u95, u96, u97, u98, u99, u100, u101, u102, u103, u104, u105, u106, u107, u108, u109, u110, u111, u112, u113, u114, u115, u116, u117, u118, u119, u120, u121, u122, u123, u124, u125, u126, u127, u128, u129, u130, u131, u132, u133, u134, u135, u136, u137, u138, u139, u140, u141, u142, u143, u144, u145, u146, u147, u148, u149, u150, u151, u152, u153, u154, u155, u156, u157, u158, u159, u160, u161, u162, u163, u164, u165, u166, u167, u168, u169, u170, u171, u172, u173, u174, u175, u176, u177, u178, u179, u180, u181, u182, u183, u184, u185, u186, u187, u188, u189, u190, u191, u192, u193, u194, u195, u196, u197, u198, u199, u200, u201], defers := [] } W := by
  obtain ⟨iP, hiP, zP0, zP1, zP2⟩ := info_parts infoPl
  obtain ⟨iS, hiS, zS0, zS1, zS2⟩ := info_parts infoStr
  obtain ⟨iA, hiA, zA0, zA1, zA2⟩ := info_parts infoAr
  obtain ⟨aN, cN, rfl⟩ : ∃ aN cN, vN = .slice aN σ.names.length cN := by
    obtain ⟨a, cap, e, _, _⟩ := (Row.of_owns (WkG.nm hK)).shape; exact ⟨a, cap, e⟩
  obtain ⟨aP, cP, rfl⟩ : ∃ aP cP, vP = .slice aP σ.places.length cP := by
    obtain ⟨a, cap, e, _, _⟩ := (Row.of_owns (WkG.pl hK)).shape; exact ⟨a, cap, e⟩
  obtain ⟨o0, o1, o2, o3, fo3⟩ := WkG.around hK hx hv
  have hrow := WkG.wi hK i x _ hx hv
  have hap := WkG.ap hK
  have hprt := Lib.hid (show parts bw bm (.slice aN σ.names.length cN) (.slice aP σ.places.length cP) (.slice (some ⟨bW, 0, none⟩) (i + 1) capW) ws (i + 5) = (Value.slice aO mO cO).ownBlock by simp [parts, hv])
  have hlt := WkG.lt hK
  have lbW : bW < W.heap.size := hlt 4 bW rfl
  have lbp : bp < W.heap.size := (Array.getElem?_eq_some_iff.1 hp).1
  have p0 : W.cell? ⟨bp, 0, none⟩ = some (.int .i64 p.root) := by simp [World.cell?, hp, Pl.cells]
  have p1 : W.cell? ⟨bp, 1, none⟩ = some (.int .i64 p.beg) := by simp [World.cell?, hp, Pl.cells]
  have p2 : W.cell? ⟨bp, 2, none⟩ = some (.int .i64 p.width) := by simp [World.cell?, hp, Pl.cells]
  have nW : (Value.slice aO mO cO).ownBlock ≠ some bW := fun e => by
    have := hap (i + 5) 4 bW (hprt.out.trans e) rfl; omega
  have np : (Value.slice aO mO cO).ownBlock ≠ some bp := fun e => hbp ⟨i + 5, hprt.out.trans e⟩
  have hKh := Lib.hid hK
  have hRh := Lib.hid hR
  have hxh := Lib.hid hx
  have hvh := Lib.hid hv
  have hph := Lib.hid hp
  have hwh := Lib.hid hwl
  have hmh := Lib.hid hmO
  have haph := Lib.hid hap
  have hlth := Lib.hid hlt
  have hmeh := Lib.hid hme
  have hbph := Lib.hid hbp
  have hbrh := Lib.hid hbr
  have hrowh := Lib.hid hrow
  clear hK hR hx hv hp hwl hmO hap hlt hme hbp hbr hrow
  conv => arg 2; whnf
  go_wp2_with fail
  refine wp_region_M (fun w' => w'.cell? ⟨bW, i * 4 + 3, none⟩ = some (.slice aO mO cO) ∧ w'.cell? ⟨bp, 0, none⟩ = some (.int .i64 p.root) ∧ w'.cell? ⟨bp, 1, none⟩ = some (.int .i64 p.beg) ∧ w'.cell? ⟨bp, 2, none⟩ = some (.int .i64 p.width)) 10 (by kernel_rfl) ⟨o3, p0, p1, p2⟩ (fun hS => ?_)
  refine wpAnyM_take (v := ?_) 0 rfl (by kernel_rfl) (fun _ _ _ h => h) hS rfl ?_ ?_; rotate_left; · (intro w hSw; (try dsimp only at hSw); go_simp; try with_reducible rfl)
  (try simp only [Act.put, List.setIfInBounds_toArray, List.set_cons_zero, List.set_cons_succ])
  refine wpAnyM_take (v := ?_) 1 rfl (by kernel_rfl) (fun _ _ _ h => h) hS rfl ?_ ?_; rotate_left; · (intro w hSw; (try dsimp only at hSw); go_simp; try with_reducible rfl)
  (try simp only [Act.put, List.setIfInBounds_toArray, List.set_cons_zero, List.set_cons_succ])
  refine wpAnyM_take (v := ?_) 2 rfl (by kernel_rfl) (fun _ _ _ h => h) hS rfl ?_ ?_; rotate_left; · (intro w hSw; (try dsimp only at hSw); go_simp; try with_reducible rfl)
  (try simp only [Act.put, List.setIfInBounds_toArray, List.set_cons_zero, List.set_cons_succ])
  refine wpAnyM_take (v := ?_) 3 rfl (by kernel_rfl) (fun _ _ _ h => h) hS rfl ?_ ?_; rotate_left; · (intro w hSw; (try dsimp only at hSw); go_simp; try with_reducible rfl)
  (try simp only [Act.put, List.setIfInBounds_toArray, List.set_cons_zero, List.set_cons_succ])
  refine wpAnyM_take (v := ?_) 4 rfl (by kernel_rfl) (fun _ _ _ h => h) hS rfl ?_ ?_; rotate_left; · (intro w hSw; (try dsimp only at hSw); go_simp; try with_reducible rfl)
  (try simp only [Act.put, List.setIfInBounds_toArray, List.set_cons_zero, List.set_cons_succ])
  refine wpAnyM_take (v := ?_) 5 rfl (by kernel_rfl) (fun _ _ _ h => h) hS rfl ?_ ?_; rotate_left; · (intro w hSw; (try dsimp only at hSw); go_simp; try with_reducible rfl)
  (try simp only [Act.put, List.setIfInBounds_toArray, List.set_cons_zero, List.set_cons_succ])
  refine wpAnyM_ready [6] (by kernel_rfl) rfl ?_
  refine AllM.cons rfl rfl (fun K hK => ?_) AllM.nil
  go_simp
  have xa : Ext W (W.alloc (.cells #[.int .i64 p.root, .int .i64 p.beg, .int .i64 p.width] 34)).drew := (Ext.alloc W _).trans (Ext.drew _)
  refine hK.out _ _ ⟨xa.cell o3, xa.cell p0, xa.cell p1, xa.cell p2⟩ ?_
  (try simp only [Act.put, List.setIfInBounds_toArray, List.set_cons_zero, List.set_cons_succ])
  clear hK K
  refine wpAnyM_ready [7] (by kernel_rfl) rfl ?_
  refine AllM.cons rfl rfl (fun K hK => ?_) AllM.nil
  refine wp_append_lies _ _ _ _ rfl 0 34 iP _ 3 24 Try.underlying28 hiP zP0 zP1 zP2 rfl (by omega) (.slice aO mO cO) mO (plCells x.2) rfl (by have := hrowh.out; rw [← hmh.out] at this; exact (this.alloc _).drew) ⟨W.heap.size, 0, none⟩ 1 1 p.cells rfl rfl (World.news_of_block (cs := p.cells.toArray) (t := 34) (fr := (0, 0)) (heap_alloc_new W _)) p.one (by omega) (by unfold maxLen; omega) (by omega) (by simp) (W.heap.size + 1) (by simp) ?_
  intro gg cap w1 hown1 hgrow hat hlt
  have k1 : Keep (fun k => some k = (Value.slice aO mO cO).ownBlock) W w1 := (Keep.of_ext xa).trans (Keep.grown (S := fun k => some k = (Value.slice aO mO cO).ownBlock) hgrow (fun k e => e.symm)) (fun _ _ h => h)
  have o3' := k1.cell o3 (Ne.symm nW)
  have fo3' : w1.frozen? ⟨bW, i * 4 + 3, none⟩ = false := by rw [World.frozen?_of_block (w := W) (k1.block bW lbW (Ne.symm nW))]; exact fo3
  refine hK.out _ _ ⟨o3', k1.cell p0 (Ne.symm np), k1.cell p1 (Ne.symm np), k1.cell p2 (Ne.symm np)⟩ ?_
  (try simp only [Act.put, List.setIfInBounds_toArray, List.set_cons_zero, List.set_cons_succ])
  clear hK K hS
  have hS : w1.cell? ⟨bW, i * 4 + 3, none⟩ = some (.slice aO mO cO) ∧ w1.cell? ⟨bp, 0, none⟩ = some (.int .i64 p.root) ∧ w1.cell? ⟨bp, 1, none⟩ = some (.int .i64 p.beg) ∧ w1.cell? ⟨bp, 2, none⟩ = some (.int .i64 p.width) := ⟨o3', k1.cell p0 (Ne.symm np), k1.cell p1 (Ne.symm np), k1.cell p2 (Ne.symm np)⟩
  refine wpAnyM_take (v := ?_) 8 rfl (by kernel_rfl) (fun _ _ _ h => h) hS rfl ?_ ?_; rotate_left; · (intro w hSw; (try dsimp only at hSw); go_simp; try with_reducible rfl)
  (try simp only [Act.put, List.setIfInBounds_toArray, List.set_cons_zero, List.set_cons_succ])
  refine wpAnyM_take (v := ?_) 9 rfl (by kernel_rfl) (fun _ _ _ h => h) hS rfl ?_ ?_; rotate_left; · (intro w hSw; (try dsimp only at hSw); go_simp; try with_reducible rfl)
  (try simp only [Act.put, List.setIfInBounds_toArray, List.set_cons_zero, List.set_cons_succ])
  refine wpAnyM_ready [10] (by kernel_rfl) rfl ?_
  refine AllM.late rfl rfl (by kernel_rfl) (fun K hK => ?_) AllM.nil
  go_simp
  refine hK.out _ _ ?_
  (try simp only [Act.put, List.setIfInBounds_toArray, List.set_cons_zero, List.set_cons_succ])
  clear hK K hS
  refine wpAnyM_done (by kernel_rfl) ?_ _
  obtain ⟨K2, k2, g2⟩ := hKh.out.within hxh.out hvh.out p xa hgrow (hat.imp id (fun e => by rw [e]; simp)) (by rw [← hmh.out]; exact hown1)
  have q0 := k2.cell p0 hbph.out
  have q1 := k2.cell p1 hbph.out
  have q2 := k2.cell p2 hbph.out
  have hp2 : (w1.setCell ⟨bW, i * 4 + 3, none⟩ (.slice (some ⟨gg, 0, none⟩) (mO + 1) cap)).heap[bp]? = some (.cells p.cells.toArray 34 (0, 0)) := by rw [k2.block bp lbp hbph.out]; exact hph.out
  have rr := k2.cell hr hbrh.out
  clear o0 o1 o2 o3 fo3 hprt lbW p0 p1 p2 nW np xa hown1 hgrow hlt k1 o3' fo3'
  have hbp2 : ¬ Has (parts bw bm (.slice aN σ.names.length cN) (.slice aP σ.places.length cP) (.slice (some ⟨bW, 0, none⟩) (i + 1) capW) (ws.set i (.slice (some ⟨gg, 0, none⟩) (mO + 1) cap))) bp := fun h => by
    rcases g2 bp h with h | h
    · exact hbph.out h
    · omega
  have lbr : br < W.heap.size := World.block_lt_of_cell? W _ hr
  have hbr2 : ¬ Has (parts bw bm (.slice aN σ.names.length cN) (.slice aP σ.places.length cP) (.slice (some ⟨bW, 0, none⟩) (i + 1) capW) (ws.set i (.slice (some ⟨gg, 0, none⟩) (mO + 1) cap))) br := fun h => by
    rcases g2 br h with h | h
    · exact hbrh.out h
    · omega
  generalize hv2 : Value.slice (some ⟨gg, 0, none⟩) (mO + 1) cap = vI at K2 k2 g2 q0 q1 q2 rr hbp2 hbr2 hp2 ⊢
  clear hv2 hat
  generalize w1.setCell ⟨bW, i * 4 + 3, none⟩ vI = W2 at K2 k2 q0 q1 q2 rr hp2 ⊢
  clear w1
  generalize hws : ws.set i vI = ws2 at K2 g2 hbp2 hbr2
  clear hws
  obtain ⟨c0, c1, c2, c3, c4⟩ := K2.cells
  have K2h := Lib.hid K2
  have k2h := Lib.hid k2
  have g2h := Lib.hid g2
  have hbp2h := Lib.hid hbp2
  have hbr2h := Lib.hid hbr2
  have hp2h := Lib.hid hp2
  clear K2 k2 g2 hbp2 hbr2 hp2 hr
  go_wp2_with fail
  refine wp_region_M (fun w' => w'.cell? ⟨bw, 0, none⟩ = some (.slice aN σ.names.length cN) ∧ w'.cell? ⟨bw, 2, none⟩ = some (.map (some bm)) ∧ w'.cell? ⟨br, 0, none⟩ = some (.string name)) 12 (by kernel_rfl) ⟨c0, c2, rr⟩ (fun hS => ?_)
  refine wpAnyM_take (v := ?_) 0 rfl (by kernel_rfl) (fun _ _ _ h => h) hS rfl ?_ ?_; rotate_left; · (intro w hSw; (try dsimp only at hSw); go_simp; try with_reducible rfl)
  (try simp only [Act.put, List.setIfInBounds_toArray, List.set_cons_zero, List.set_cons_succ])
  refine wpAnyM_take (v := ?_) 1 rfl (by kernel_rfl) (fun _ _ _ h => h) hS rfl ?_ ?_; rotate_left; · (intro w hSw; (try dsimp only at hSw); go_simp; try with_reducible rfl)
  (try simp only [Act.put, List.setIfInBounds_toArray, List.set_cons_zero, List.set_cons_succ])
  refine wpAnyM_take (v := ?_) 2 rfl (by kernel_rfl) (fun _ _ _ h => h) hS rfl ?_ ?_; rotate_left; · (intro w hSw; (try dsimp only at hSw); go_simp; try with_reducible rfl)
  (try simp only [Act.put, List.setIfInBounds_toArray, List.set_cons_zero, List.set_cons_succ])
  refine wpAnyM_take (v := ?_) 3 rfl (by kernel_rfl) (fun _ _ _ h => h) hS rfl ?_ ?_; rotate_left; · (intro w hSw; (try dsimp only at hSw); go_simp; try with_reducible rfl)
  (try simp only [Act.put, List.setIfInBounds_toArray, List.set_cons_zero, List.set_cons_succ])
  refine wpAnyM_take (v := ?_) 4 rfl (by kernel_rfl) (fun _ _ _ h => h) hS rfl ?_ ?_; rotate_left; · (intro w hSw; (try dsimp only at hSw); go_simp; try with_reducible rfl)
  (try simp only [Act.put, List.setIfInBounds_toArray, List.set_cons_zero, List.set_cons_succ])
  refine wpAnyM_take (v := ?_) 5 rfl (by kernel_rfl) (fun _ _ _ h => h) hS rfl ?_ ?_; rotate_left; · (intro w hSw; (try dsimp only at hSw); go_simp; try with_reducible rfl)
  (try simp only [Act.put, List.setIfInBounds_toArray, List.set_cons_zero, List.set_cons_succ])
  refine wpAnyM_take (v := ?_) 6 rfl (by kernel_rfl) (fun _ _ _ h => h) hS rfl ?_ ?_; rotate_left; · (intro w hSw; (try dsimp only at hSw); go_simp; try with_reducible rfl)
  (try simp only [Act.put, List.setIfInBounds_toArray, List.set_cons_zero, List.set_cons_succ])
  refine wpAnyM_take (v := ?_) 7 rfl (by kernel_rfl) (fun _ _ _ h => h) hS rfl ?_ ?_; rotate_left; · (intro w hSw; (try dsimp only at hSw); go_simp; try with_reducible rfl)
  (try simp only [Act.put, List.setIfInBounds_toArray, List.set_cons_zero, List.set_cons_succ])
  refine wpAnyM_take (v := ?_) 8 rfl (by kernel_rfl) (fun _ _ _ h => h) hS rfl ?_ ?_; rotate_left; · (intro w hSw; (try dsimp only at hSw); go_simp; try with_reducible rfl)
  (try simp only [Act.put, List.setIfInBounds_toArray, List.set_cons_zero, List.set_cons_succ])
  refine wpAnyM_take (v := ?_) 9 rfl (by kernel_rfl) (fun _ _ _ h => h) hS rfl ?_ ?_; rotate_left; · (intro w hSw; (try dsimp only at hSw); go_simp; try with_reducible rfl)
  (try simp only [Act.put, List.setIfInBounds_toArray, List.set_cons_zero, List.set_cons_succ])
  refine wpAnyM_take (v := ?_) 10 rfl (by kernel_rfl) (fun _ _ _ h => h) hS rfl ?_ ?_; rotate_left; · (intro w hSw; (try dsimp only at hSw); go_simp; try with_reducible rfl)
  (try simp only [Act.put, List.setIfInBounds_toArray, List.set_cons_zero, List.set_cons_succ])
  refine wpAnyM_take (v := ?_) 11 rfl (by kernel_rfl) (fun _ _ _ h => h) hS rfl ?_ ?_; rotate_left; · (intro w hSw; (try dsimp only at hSw); go_simp; try with_reducible rfl)
  (try simp only [Act.put, List.setIfInBounds_toArray, List.set_cons_zero, List.set_cons_succ])
  refine wpAnyM_ready [12] (by kernel_rfl) rfl ?_
  refine AllM.late rfl rfl (by kernel_rfl) (fun K hK => ?_) AllM.nil
  have hup := run_update_new (P := Try.prog) 43 9 3 Try.underlying43 Try.underlying9 W2.drew (ents σ.names) σ.names.length bm name (.int .i64 σ.names.length) (WkG.mp (WkG.drew K2h.out)) (ents_str _) (ents_none _ _ (fun x => by have := hmeh.out; rw [(memB_iff _ _).2 x] at this; cases this))
  go_simp
  refine hK.out _ _ ?_
  (try simp only [Act.put, List.setIfInBounds_toArray, List.set_cons_zero, List.set_cons_succ])
  clear hK K hS hup
  refine wpAnyM_done (by kernel_rfl) ?_ _
  have K3 : WkG { heap := W2.drew.heap.setIfInBounds bm (.map (ents σ.names ++ [({ key := .string name, val := .int .i64 σ.names.length, born := σ.names.length } : MapEntry)]).toArray (σ.names.length + 1)), tape := W2.tape, drawn := W2.drawn + 1, os := W2.drew.os, output := W2.drew.output } bw bm (.slice aN σ.names.length cN) (.slice aP σ.places.length cP) (.slice (some ⟨bW, 0, none⟩) (i + 1) capW) ws2 (.slice aN σ.names.length cN) (.slice aP σ.places.length cP) (.slice (some ⟨bW, 0, none⟩) (i + 1) capW) ws2 (σ.names ++ [name]) { σ with ways := σ.ways.set i (x.1, x.2 ++ [p]) } := (WkG.drew K2h.out).mapped name
  have k3 : Keep (Has (parts bw bm (.slice aN σ.names.length cN) (.slice aP σ.places.length cP) (.slice (some ⟨bW, 0, none⟩) (i + 1) capW) ws2)) W2 { heap := W2.drew.heap.setIfInBounds bm (.map (ents σ.names ++ [({ key := .string name, val := .int .i64 σ.names.length, born := σ.names.length } : MapEntry)]).toArray (σ.names.length + 1)), tape := W2.tape, drawn := W2.drawn + 1, os := W2.drew.os, output := W2.drew.output } := (Keep.of_ext (Ext.drew W2)).trans (Keep.putObj (Has (parts bw bm (.slice aN σ.names.length cN) (.slice aP σ.places.length cP) (.slice (some ⟨bW, 0, none⟩) (i + 1) capW) ws2)) W2.drew bm _ ⟨1, rfl⟩) (fun _ _ h => h)
  generalize ({ heap := W2.drew.heap.setIfInBounds bm (.map (ents σ.names ++ [({ key := .string name, val := .int .i64 σ.names.length, born := σ.names.length } : MapEntry)]).toArray (σ.names.length + 1)), tape := W2.tape, drawn := W2.drawn + 1, os := W2.drew.os, output := W2.drew.output } : World) = W3 at K3 k3 ⊢
  have S4 : Six bw br bp (.slice aN σ.names.length cN) (.slice aP σ.places.length cP) name p W3.drew := ⟨(WkG.cells K3).1, (WkG.cells K3).2.1, k3.cell rr hbr2h.out, k3.cell q0 hbp2h.out, k3.cell q1 hbp2h.out, k3.cell q2 hbp2h.out⟩
  have k4 := Lib.hid ((k2h.out.trans (Keep.trans k3 (Keep.of_ext (S := fun _ => False) (Ext.drew W3)) (fun _ _ h => h.elim)) (fun k hk h => by
    rcases g2h.out k h with h1 | h1
    · exact h1
    · omega)))
  have K4 := Lib.hid (WkG.drew K3)
  generalize hW4 : W3.drew = W4 at S4 k4 K4
  clear K3 k3 c0 c1 c2 c3 c4 q0 q1 q2 rr
  obtain ⟨ρ, hρ⟩ : ∃ ρ, parts bw bm (.slice aN σ.names.length cN) (.slice aP σ.places.length cP) (.slice (some ⟨bW, 0, none⟩) (i + 1) capW) ws = ρ := ⟨_, rfl⟩
  have r0 : Hid (Has ρ bw) := Lib.hid (hρ ▸ ⟨0, rfl⟩)
  have r2 : Hid (∀ k, (Value.slice aN σ.names.length cN).ownBlock = some k → Has ρ k) := Lib.hid (fun k e => hρ ▸ ⟨2, e⟩)
  have r3 : Hid (∀ k, (Value.slice aP σ.places.length cP).ownBlock = some k → Has ρ k) := Lib.hid (fun k e => hρ ▸ ⟨3, e⟩)
  rw [hρ] at k4 g2h hbph hRh
  have nNr : (Value.slice aN σ.names.length cN).ownBlock ≠ some br := fun e => hbr2h.out ⟨2, e⟩
  have nNp : (Value.slice aN σ.names.length cN).ownBlock ≠ some bp := fun e => hbp2h.out ⟨2, e⟩
  have nPr : (Value.slice aP σ.places.length cP).ownBlock ≠ some br := fun e => hbr2h.out ⟨3, e⟩
  have nPp : (Value.slice aP σ.places.length cP).ownBlock ≠ some bp := fun e => hbp2h.out ⟨3, e⟩
  have lN : Hid (∀ k, (Value.slice aN σ.names.length cN).ownBlock = some k → k < W4.heap.size) := Lib.hid (fun k e => WkG.lt K4.out 2 k e)
  have zW : W.heap.size ≤ W4.heap.size := k4.out.size
  have z4 : W4.heap.size ≤ W4.heap.size := Nat.le_refl _
  clear hρ hp2h hbrh k2h K2h
  go_wp2_with fail
  rename_i Kn hKn
  refine wp_region_M (Six bw br bp (.slice aN σ.names.length cN) (.slice aP σ.places.length cP) name p) 18 (by kernel_rfl) (hW4 ▸ S4) (fun _ => ?_)
  rw [hW4]
  clear hW4
  have hS := S4
  refine wpAnyM_take (v := ?_) 0 rfl (by kernel_rfl) (fun _ _ _ h => h) hS rfl ?_ ?_; rotate_left; · (intro w hSw; obtain ⟨s0, s1, s2, s3, s4, s5⟩ := hSw; go_simp; try with_reducible rfl)
  (try simp only [Act.put, List.setIfInBounds_toArray, List.set_cons_zero, List.set_cons_succ])
  refine wpAnyM_takeW (v := ?_) 1 rfl (by kernel_rfl) (fun _ _ _ h => h) (fun _ => hS) rfl ?_ ?_; rotate_left; · (intro w; go_simp; try with_reducible rfl)
  (try simp only [Act.put, List.setIfInBounds_toArray, List.set_cons_zero, List.set_cons_succ])
  refine wpAnyM_take (v := ?_) 2 rfl (by kernel_rfl) (fun _ _ _ h => h) hS rfl ?_ ?_; rotate_left; · (intro w hSw; obtain ⟨s0, s1, s2, s3, s4, s5⟩ := hSw; go_simp; try with_reducible rfl)
  (try simp only [Act.put, List.setIfInBounds_toArray, List.set_cons_zero, List.set_cons_succ])
  refine wpAnyM_take (v := ?_) 3 rfl (by kernel_rfl) (fun _ _ _ h => h) hS rfl ?_ ?_; rotate_left; · (intro w hSw; obtain ⟨s0, s1, s2, s3, s4, s5⟩ := hSw; go_simp; try with_reducible rfl)
  (try simp only [Act.put, List.setIfInBounds_toArray, List.set_cons_zero, List.set_cons_succ])
  refine wpAnyM_take (v := ?_) 4 rfl (by kernel_rfl) (fun _ _ _ h => h) hS rfl ?_ ?_; rotate_left; · (intro w hSw; obtain ⟨s0, s1, s2, s3, s4, s5⟩ := hSw; go_simp; try with_reducible rfl)
  (try simp only [Act.put, List.setIfInBounds_toArray, List.set_cons_zero, List.set_cons_succ])
  refine wpAnyM_take (v := ?_) 5 rfl (by kernel_rfl) (fun _ _ _ h => h) hS rfl ?_ ?_; rotate_left; · (intro w hSw; obtain ⟨s0, s1, s2, s3, s4, s5⟩ := hSw; go_simp; try with_reducible rfl)
  (try simp only [Act.put, List.setIfInBounds_toArray, List.set_cons_zero, List.set_cons_succ])
  refine wpAnyM_take (v := ?_) 6 rfl (by kernel_rfl) (fun _ _ _ h => h) hS rfl ?_ ?_; rotate_left; · (intro w hSw; obtain ⟨s0, s1, s2, s3, s4, s5⟩ := hSw; go_simp; try with_reducible rfl)
  (try simp only [Act.put, List.setIfInBounds_toArray, List.set_cons_zero, List.set_cons_succ])
  refine wpAnyM_take (v := ?_) 7 rfl (by kernel_rfl) (fun _ _ _ h => h) hS rfl ?_ ?_; rotate_left; · (intro w hSw; obtain ⟨s0, s1, s2, s3, s4, s5⟩ := hSw; go_simp; try with_reducible rfl)
  (try simp only [Act.put, List.setIfInBounds_toArray, List.set_cons_zero, List.set_cons_succ])
  refine wpAnyM_take (v := ?_) 8 rfl (by kernel_rfl) (fun _ _ _ h => h) hS rfl ?_ ?_; rotate_left; · (intro w hSw; obtain ⟨s0, s1, s2, s3, s4, s5⟩ := hSw; go_simp; try with_reducible rfl)
  (try simp only [Act.put, List.setIfInBounds_toArray, List.set_cons_zero, List.set_cons_succ])
  refine wpAnyM_take (v := ?_) 11 rfl (by kernel_rfl) (fun _ _ _ h => h) hS rfl ?_ ?_; rotate_left; · (intro w hSw; obtain ⟨s0, s1, s2, s3, s4, s5⟩ := hSw; go_simp; try with_reducible rfl)
  (try simp only [Act.put, List.setIfInBounds_toArray, List.set_cons_zero, List.set_cons_succ])
  refine wpAnyM_take (v := ?_) 12 rfl (by kernel_rfl) (fun _ _ _ h => h) hS rfl ?_ ?_; rotate_left; · (intro w hSw; obtain ⟨s0, s1, s2, s3, s4, s5⟩ := hSw; go_simp; try with_reducible rfl)
  (try simp only [Act.put, List.setIfInBounds_toArray, List.set_cons_zero, List.set_cons_succ])
  refine wpAnyM_take (v := ?_) 13 rfl (by kernel_rfl) (fun _ _ _ h => h) hS rfl ?_ ?_; rotate_left; · (intro w hSw; obtain ⟨s0, s1, s2, s3, s4, s5⟩ := hSw; go_simp; try with_reducible rfl)
  (try simp only [Act.put, List.setIfInBounds_toArray, List.set_cons_zero, List.set_cons_succ])
  refine wpAnyM_take (v := ?_) 14 rfl (by kernel_rfl) (fun _ _ _ h => h) hS rfl ?_ ?_; rotate_left; · (intro w hSw; obtain ⟨s0, s1, s2, s3, s4, s5⟩ := hSw; go_simp; try with_reducible rfl)
  (try simp only [Act.put, List.setIfInBounds_toArray, List.set_cons_zero, List.set_cons_succ])
  refine wpAnyM_take (v := ?_) 15 rfl (by kernel_rfl) (fun _ _ _ h => h) hS rfl ?_ ?_; rotate_left; · (intro w hSw; obtain ⟨s0, s1, s2, s3, s4, s5⟩ := hSw; go_simp; try with_reducible rfl)
  (try simp only [Act.put, List.setIfInBounds_toArray, List.set_cons_zero, List.set_cons_succ])
  refine wpAnyM_ready [9, 16] (by kernel_rfl) rfl ?_
  refine AllM.cons rfl rfl (fun K hK => ?_) (AllM.cons rfl rfl (fun K hK => ?_) AllM.nil)
  · -- 9 first
    go_simp
    have xa : Ext W4 (W4.alloc (.cells #[.string name] 9)) := Ext.alloc _ _
    have K5 := Lib.hid (K4.out.ext xa)
    have S5 := S4.ext xa
    have n9 : (W4.alloc (.cells #[.string name] 9)).heap[W4.heap.size]? = some (.cells #[.string name] 9 (0, 0)) := heap_alloc_new W4 _
    have k5 := Lib.hid (k4.out.trans (Keep.of_ext (S := fun _ => False) xa) (fun _ _ h => h.elim))
    have z5 : W4.heap.size ≤ (W4.alloc (.cells #[.string name] 9)).heap.size := Nat.le_trans z4 xa.size
    refine hK.out _ _ S5 ?_
    (try simp only [Act.put, List.setIfInBounds_toArray, List.set_cons_zero, List.set_cons_succ])
    clear hK K xa
    generalize W4.alloc (.cells #[.string name] 9) = W5 at K5 S5 n9 k5 z5 ⊢
    obtain ⟨b9, hb9⟩ : ∃ b, W4.heap.size = b := ⟨_, rfl⟩
    rw [hb9] at n9 ⊢
    have y9 : W4.heap.size ≤ b9 := by rw [← hb9]; exact z4
    clear hb9
    have hS := S5
    refine wpAnyM_ready [10, 16] (by kernel_rfl) rfl ?_
    refine AllM.cons rfl rfl (fun K hK => ?_) (AllM.cons rfl rfl (fun K hK => ?_) AllM.nil)
    · -- 10, 16, 17
      have nmc := K5.out.nm
      refine wp_append_lies _ _ _ _ rfl 0 9 iS _ 1 16 Try.underlying27 hiS zS0 zS1 zS2 rfl (by omega) (.slice aN σ.names.length cN) σ.names.length (σ.names.map Value.string) rfl nmc ⟨b9, 0, none⟩ 1 1 [.string name] rfl rfl (World.news_of_block (cs := #[.string name]) n9) (by simp [Value.oneCell']) (by omega) (by unfold maxLen; omega) (by omega) (Nat.zero_le _) _ rfl ?_
      intro gN capN W6 ownN hgN hatN hltN
      have K6 := Lib.hid (K5.out.appN name hgN (hatN.imp id (fun e => Nat.le_of_eq e.symm)) ownN)
      have S6 := S5.grown K6.out hgN nNr nNp
      have k6 := Lib.hid (k5.out.trans (Keep.grown (S := fun k => Has ρ k) hgN r2.out) (fun _ _ h => h))
      have z6 : W4.heap.size ≤ W6.heap.size := Nat.le_trans z5 hgN.size
      have eN : (Value.slice aN σ.names.length cN).ownBlock = some gN ∨ W4.heap.size ≤ gN := hatN.imp id (fun e => by rw [e]; exact z5)
      refine hK.out _ _ S6 ?_
      (try simp only [Act.put, List.setIfInBounds_toArray, List.set_cons_zero, List.set_cons_succ])
      have hS := S6
      clear hK K ownN hgN hatN hltN nmc
      refine wpAnyM_ready [16] (by kernel_rfl) rfl ?_
      refine AllM.cons rfl rfl (fun K hK => ?_) AllM.nil
      go_simp
      have xa : Ext W6 (W6.alloc (.cells #[.int .i64 p.root, .int .i64 p.beg, .int .i64 p.width] 34)) := Ext.alloc _ _
      have K7 := Lib.hid (K6.out.ext xa)
      have S7 := S6.ext xa
      have n16 : (W6.alloc (.cells #[.int .i64 p.root, .int .i64 p.beg, .int .i64 p.width] 34)).heap[W6.heap.size]? = some (.cells #[.int .i64 p.root, .int .i64 p.beg, .int .i64 p.width] 34 (0, 0)) := heap_alloc_new W6 _
      have k7 := Lib.hid (k6.out.trans (Keep.of_ext (S := fun _ => False) xa) (fun _ _ h => h.elim))
      have z7 : W4.heap.size ≤ (W6.alloc (.cells #[.int .i64 p.root, .int .i64 p.beg, .int .i64 p.width] 34)).heap.size := Nat.le_trans z6 xa.size
      refine hK.out _ _ S7 ?_
      (try simp only [Act.put, List.setIfInBounds_toArray, List.set_cons_zero, List.set_cons_succ])
      clear hK K xa
      generalize W6.alloc (.cells #[.int .i64 p.root, .int .i64 p.beg, .int .i64 p.width] 34) = W7 at K7 S7 n16 k7 z7 ⊢
      obtain ⟨b16, hb16⟩ : ∃ b, W6.heap.size = b := ⟨_, rfl⟩
      rw [hb16] at n16 ⊢
      have y16 : W4.heap.size ≤ b16 := by rw [← hb16]; exact z6
      clear hb16
      have hS := S7
      refine wpAnyM_ready [17] (by kernel_rfl) rfl ?_
      refine AllM.cons rfl rfl (fun K hK => ?_) AllM.nil
      have plc := K7.out.pl
      refine wp_append_lies _ _ _ _ rfl 0 34 iP _ 3 24 Try.underlying28 hiP zP0 zP1 zP2 rfl (by omega) (.slice aP σ.places.length cP) σ.places.length (plCells σ.places) rfl plc ⟨b16, 0, none⟩ 1 1 p.cells rfl rfl (World.news_of_block (cs := p.cells.toArray) n16) p.one (by omega) (by unfold maxLen; omega) (by omega) (Nat.zero_le _) _ rfl ?_
      intro gP capP W8 ownP hgP hatP hltP
      have K8 := Lib.hid (K7.out.appP p hgP (hatP.imp id (fun e => Nat.le_of_eq e.symm)) ownP)
      have S8 := S7.grown K8.out hgP nPr nPp
      have k8 := Lib.hid (k7.out.trans (Keep.grown (S := fun k => Has ρ k) hgP r3.out) (fun _ _ h => h))
      have eP : (Value.slice aP σ.places.length cP).ownBlock = some gP ∨ W4.heap.size ≤ gP := hatP.imp id (fun e => by rw [e]; exact z7)
      refine hK.out _ _ S8 ?_
      (try simp only [Act.put, List.setIfInBounds_toArray, List.set_cons_zero, List.set_cons_succ])
      clear hK K hS ownP hgP hatP hltP plc
      have eN' := eN.imp id (Nat.le_trans zW)
      have eP' := eP.imp id (Nat.le_trans zW)
      have f0 := WkG.free K8.out 0
      have c0 := (WkG.cells K8.out).1
      refine wpAnyM_ready [18] (by kernel_rfl) rfl ?_
      refine AllM.late rfl rfl (by kernel_rfl) (fun K hK => ?_) AllM.nil
      go_simp
      refine hK.out _ _ ?_
      (try simp only [Act.put, List.setIfInBounds_toArray, List.set_cons_zero, List.set_cons_succ])
      clear hK K
      refine wpAnyM_ready [19] (by kernel_rfl) rfl ?_
      refine AllM.late rfl rfl (by kernel_rfl) (fun K hK => ?_) AllM.nil
      go_simp
      refine hK.out _ _ ?_
      (try simp only [Act.put, List.setIfInBounds_toArray, List.set_cons_zero, List.set_cons_succ])
      clear hK K
      refine wpAnyM_ready [20] (by kernel_rfl) rfl ?_
      refine AllM.late rfl rfl (by kernel_rfl) (fun K hK => ?_) AllM.nil
      go_simp
      refine hK.out _ _ ?_
      (try simp only [Act.put, List.setIfInBounds_toArray, List.set_cons_zero, List.set_cons_succ])
      clear hK K f0 c0
      have KA := Lib.hid (K8.out.field (cN' := .slice (some ⟨gN, 0, none⟩) (σ.names.length + 1) capN) (cP' := .slice aP σ.places.length cP) (cW' := .slice (some ⟨bW, 0, none⟩) (i + 1) capW) (ro := σ.roots) 0 (.slice (some ⟨gN, 0, none⟩) (σ.names.length + 1) capN) rfl)
      have kA := Lib.hid (k8.out.trans (Keep.setCell (fun k => Has ρ k) W8 ⟨bw, 0, none⟩ (.slice (some ⟨gN, 0, none⟩) (σ.names.length + 1) capN) r0.out) (fun _ _ h => h))
      generalize W8.setCell ⟨bw, 0, none⟩ (.slice (some ⟨gN, 0, none⟩) (σ.names.length + 1) capN) = WA at KA kA ⊢
      have f1 := WkG.free KA.out 1
      have c1 := (WkG.cells KA.out).2.1
      refine wpAnyM_ready [21] (by kernel_rfl) rfl ?_
      refine AllM.late rfl rfl (by kernel_rfl) (fun K hK => ?_) AllM.nil
      go_simp
      refine hK.out _ _ ?_
      (try simp only [Act.put, List.setIfInBounds_toArray, List.set_cons_zero, List.set_cons_succ])
      clear hK K
      refine wpAnyM_ready [22] (by kernel_rfl) rfl ?_
      refine AllM.late rfl rfl (by kernel_rfl) (fun K hK => ?_) AllM.nil
      go_simp
      refine hK.out _ _ ?_
      (try simp only [Act.put, List.setIfInBounds_toArray, List.set_cons_zero, List.set_cons_succ])
      clear hK K
      refine wpAnyM_ready [23] (by kernel_rfl) rfl ?_
      refine AllM.late rfl rfl (by kernel_rfl) (fun K hK => ?_) AllM.nil
      go_simp
      refine hK.out _ _ ?_
      (try simp only [Act.put, List.setIfInBounds_toArray, List.set_cons_zero, List.set_cons_succ])
      clear hK K f1 c1
      have KB := Lib.hid (KA.out.field (cN' := .slice (some ⟨gN, 0, none⟩) (σ.names.length + 1) capN) (cP' := .slice (some ⟨gP, 0, none⟩) (σ.places.length + 1) capP) (cW' := .slice (some ⟨bW, 0, none⟩) (i + 1) capW) (ro := σ.roots) 1 (.slice (some ⟨gP, 0, none⟩) (σ.places.length + 1) capP) rfl)
      have kB := Lib.hid (kA.out.trans (Keep.setCell (fun k => Has ρ k) WA ⟨bw, 1, none⟩ (.slice (some ⟨gP, 0, none⟩) (σ.places.length + 1) capP) r0.out) (fun _ _ h => h))
      generalize WA.setCell ⟨bw, 1, none⟩ (.slice (some ⟨gP, 0, none⟩) (σ.places.length + 1) capP) = WB at KB kB ⊢
      refine wpAnyM_done (by kernel_rfl) ?_ _
      exact hKn _ _ (one_r22 bw bm br bp _ _ _ _ ws2 { names := σ.names ++ [name], places := σ.places ++ [p], ways := σ.ways.set i (x.1, x.2 ++ [p]), roots := σ.roots } p W WB R ρ kB.out (grew2 g2h.out eN' eP') hph.out hbph.out KB.out (by have := hwh.out; simp; omega) hRh.out _ _ _ _ _ _ _ _ _ _ _ _ _ _ _ _ _ _ _ _ _ _ _ _ _ _ _ _ _ _ _ _ _ _ _ _ _ _ _ _ _ _ _ _ _ _ _ _ _ _ _ _ _ _ _ _ _ _ _ _ _ _ _ _ _ _ _ _ _ _ _ _ _ _ _ _ _ _ _ _ _ _ _ _ _ _ _ _ _ _ _ _ _ _ _ _ _ _ _ _ _ _ _ _ _ _ _ _ _ _ _ _ _ _ _ _ _ _ _ _ _ _ _ _ _ _ _ _ _ _ _ _ _ _ _ _ _ _ _ _ _ _ _ _ _ _ _ _ _ _ _ _ _ _ _ _ _ _ _ _ _ _ _ _ _ _ _ _ _ _ _ _ _ _ _ _ _ _ _ _ _ _ _ _ _ _ _ _ _ _ _ _ _ _ _ _ _ _)
    · -- 16, 10, 17
      go_simp
      have xa : Ext W5 (W5.alloc (.cells #[.int .i64 p.root, .int .i64 p.beg, .int .i64 p.width] 34)) := Ext.alloc _ _
      have K6 := Lib.hid (K5.out.ext xa)
      have S6 := S5.ext xa
      have n16 : (W5.alloc (.cells #[.int .i64 p.root, .int .i64 p.beg, .int .i64 p.width] 34)).heap[W5.heap.size]? = some (.cells #[.int .i64 p.root, .int .i64 p.beg, .int .i64 p.width] 34 (0, 0)) := heap_alloc_new W5 _
      have k6 := Lib.hid (k5.out.trans (Keep.of_ext (S := fun _ => False) xa) (fun _ _ h => h.elim))
      have z6 : W4.heap.size ≤ (W5.alloc (.cells #[.int .i64 p.root, .int .i64 p.beg, .int .i64 p.width] 34)).heap.size := Nat.le_trans z5 xa.size
      have n9 := xa.block n9
      refine hK.out _ _ S6 ?_
      (try simp only [Act.put, List.setIfInBounds_toArray, List.set_cons_zero, List.set_cons_succ])
      clear hK K xa
      generalize W5.alloc (.cells #[.int .i64 p.root, .int .i64 p.beg, .int .i64 p.width] 34) = W6 at K6 S6 n16 k6 z6 n9 ⊢
      obtain ⟨b16, hb16⟩ : ∃ b, W5.heap.size = b := ⟨_, rfl⟩
      rw [hb16] at n16 ⊢
      have y16 : W4.heap.size ≤ b16 := by rw [← hb16]; exact z5
      clear hb16
      have hS := S6
      refine wpAnyM_ready [10] (by kernel_rfl) rfl ?_
      refine AllM.cons rfl rfl (fun K hK => ?_) AllM.nil
      have nmc := K6.out.nm
      refine wp_append_lies _ _ _ _ rfl 0 9 iS _ 1 16 Try.underlying27 hiS zS0 zS1 zS2 rfl (by omega) (.slice aN σ.names.length cN) σ.names.length (σ.names.map Value.string) rfl nmc ⟨b9, 0, none⟩ 1 1 [.string name] rfl rfl (World.news_of_block (cs := #[.string name]) n9) (by simp [Value.oneCell']) (by omega) (by unfold maxLen; omega) (by omega) (Nat.zero_le _) _ rfl ?_
      intro gN capN W7 ownN hgN hatN hltN
      have K7 := Lib.hid (K6.out.appN name hgN (hatN.imp id (fun e => Nat.le_of_eq e.symm)) ownN)
      have S7 := S6.grown K7.out hgN nNr nNp
      have k7 := Lib.hid (k6.out.trans (Keep.grown (S := fun k => Has ρ k) hgN r2.out) (fun _ _ h => h))
      have z7 : W4.heap.size ≤ W7.heap.size := Nat.le_trans z6 hgN.size
      have eN : (Value.slice aN σ.names.length cN).ownBlock = some gN ∨ W4.heap.size ≤ gN := hatN.imp id (fun e => by rw [e]; exact z6)
      have n16 : W7.heap[b16]? = some (.cells #[.int .i64 p.root, .int .i64 p.beg, .int .i64 p.width] 34 (0, 0)) := by rw [hgN.block b16 (Array.getElem?_eq_some_iff.1 n16).1 (fun e => by have := lN.out b16 e.symm; omega)]; exact n16
      refine hK.out _ _ S7 ?_
      (try simp only [Act.put, List.setIfInBounds_toArray, List.set_cons_zero, List.set_cons_succ])
      have hS := S7
      clear hK K ownN hgN hatN hltN nmc
      refine wpAnyM_ready [17] (by kernel_rfl) rfl ?_
      refine AllM.cons rfl rfl (fun K hK => ?_) AllM.nil
      have plc := K7.out.pl
      refine wp_append_lies _ _ _ _ rfl 0 34 iP _ 3 24 Try.underlying28 hiP zP0 zP1 zP2 rfl (by omega) (.slice aP σ.places.length cP) σ.places.length (plCells σ.places) rfl plc ⟨b16, 0, none⟩ 1 1 p.cells rfl rfl (World.news_of_block (cs := p.cells.toArray) n16) p.one (by omega) (by unfold maxLen; omega) (by omega) (Nat.zero_le _) _ rfl ?_
      intro gP capP W8 ownP hgP hatP hltP
      have K8 := Lib.hid (K7.out.appP p hgP (hatP.imp id (fun e => Nat.le_of_eq e.symm)) ownP)
      have S8 := S7.grown K8.out hgP nPr nPp
      have k8 := Lib.hid (k7.out.trans (Keep.grown (S := fun k => Has ρ k) hgP r3.out) (fun _ _ h => h))
      have eP : (Value.slice aP σ.places.length cP).ownBlock = some gP ∨ W4.heap.size ≤ gP := hatP.imp id (fun e => by rw [e]; exact z7)
      refine hK.out _ _ S8 ?_
      (try simp only [Act.put, List.setIfInBounds_toArray, List.set_cons_zero, List.set_cons_succ])
      clear hK K hS ownP hgP hatP hltP plc
      have eN' := eN.imp id (Nat.le_trans zW)
      have eP' := eP.imp id (Nat.le_trans zW)
      have f0 := WkG.free K8.out 0
      have c0 := (WkG.cells K8.out).1
      refine wpAnyM_ready [18] (by kernel_rfl) rfl ?_
      refine AllM.late rfl rfl (by kernel_rfl) (fun K hK => ?_) AllM.nil
      go_simp
      refine hK.out _ _ ?_
      (try simp only [Act.put, List.setIfInBounds_toArray, List.set_cons_zero, List.set_cons_succ])
      clear hK K
      refine wpAnyM_ready [19] (by kernel_rfl) rfl ?_
      refine AllM.late rfl rfl (by kernel_rfl) (fun K hK => ?_) AllM.nil
      go_simp
      refine hK.out _ _ ?_
      (try simp only [Act.put, List.setIfInBounds_toArray, List.set_cons_zero, List.set_cons_succ])
      clear hK K
      refine wpAnyM_ready [20] (by kernel_rfl) rfl ?_
      refine AllM.late rfl rfl (by kernel_rfl) (fun K hK => ?_) AllM.nil
      go_simp
      refine hK.out _ _ ?_
      (try simp only [Act.put, List.setIfInBounds_toArray, List.set_cons_zero, List.set_cons_succ])
      clear hK K f0 c0
      have KA := Lib.hid (K8.out.field (cN' := .slice (some ⟨gN, 0, none⟩) (σ.names.length + 1) capN) (cP' := .slice aP σ.places.length cP) (cW' := .slice (some ⟨bW, 0, none⟩) (i + 1) capW) (ro := σ.roots) 0 (.slice (some ⟨gN, 0, none⟩) (σ.names.length + 1) capN) rfl)
      have kA := Lib.hid (k8.out.trans (Keep.setCell (fun k => Has ρ k) W8 ⟨bw, 0, none⟩ (.slice (some ⟨gN, 0, none⟩) (σ.names.length + 1) capN) r0.out) (fun _ _ h => h))
      generalize W8.setCell ⟨bw, 0, none⟩ (.slice (some ⟨gN, 0, none⟩) (σ.names.length + 1) capN) = WA at KA kA ⊢
      have f1 := WkG.free KA.out 1
      have c1 := (WkG.cells KA.out).2.1
      refine wpAnyM_ready [21] (by kernel_rfl) rfl ?_
      refine AllM.late rfl rfl (by kernel_rfl) (fun K hK => ?_) AllM.nil
      go_simp
      refine hK.out _ _ ?_
      (try simp only [Act.put, List.setIfInBounds_toArray, List.set_cons_zero, List.set_cons_succ])
      clear hK K
      refine wpAnyM_ready [22] (by kernel_rfl) rfl ?_
      refine AllM.late rfl rfl (by kernel_rfl) (fun K hK => ?_) AllM.nil
      go_simp
      refine hK.out _ _ ?_
      (try simp only [Act.put, List.setIfInBounds_toArray, List.set_cons_zero, List.set_cons_succ])
      clear hK K
      refine wpAnyM_ready [23] (by kernel_rfl) rfl ?_
      refine AllM.late rfl rfl (by kernel_rfl) (fun K hK => ?_) AllM.nil
      go_simp
      refine hK.out _ _ ?_
      (try simp only [Act.put, List.setIfInBounds_toArray, List.set_cons_zero, List.set_cons_succ])
      clear hK K f1 c1
      have KB := Lib.hid (KA.out.field (cN' := .slice (some ⟨gN, 0, none⟩) (σ.names.length + 1) capN) (cP' := .slice (some ⟨gP, 0, none⟩) (σ.places.length + 1) capP) (cW' := .slice (some ⟨bW, 0, none⟩) (i + 1) capW) (ro := σ.roots) 1 (.slice (some ⟨gP, 0, none⟩) (σ.places.length + 1) capP) rfl)
      have kB := Lib.hid (kA.out.trans (Keep.setCell (fun k => Has ρ k) WA ⟨bw, 1, none⟩ (.slice (some ⟨gP, 0, none⟩) (σ.places.length + 1) capP) r0.out) (fun _ _ h => h))
      generalize WA.setCell ⟨bw, 1, none⟩ (.slice (some ⟨gP, 0, none⟩) (σ.places.length + 1) capP) = WB at KB kB ⊢
      refine wpAnyM_done (by kernel_rfl) ?_ _
      exact hKn _ _ (one_r22 bw bm br bp _ _ _ _ ws2 { names := σ.names ++ [name], places := σ.places ++ [p], ways := σ.ways.set i (x.1, x.2 ++ [p]), roots := σ.roots } p W WB R ρ kB.out (grew2 g2h.out eN' eP') hph.out hbph.out KB.out (by have := hwh.out; simp; omega) hRh.out _ _ _ _ _ _ _ _ _ _ _ _ _ _ _ _ _ _ _ _ _ _ _ _ _ _ _ _ _ _ _ _ _ _ _ _ _ _ _ _ _ _ _ _ _ _ _ _ _ _ _ _ _ _ _ _ _ _ _ _ _ _ _ _ _ _ _ _ _ _ _ _ _ _ _ _ _ _ _ _ _ _ _ _ _ _ _ _ _ _ _ _ _ _ _ _ _ _ _ _ _ _ _ _ _ _ _ _ _ _ _ _ _ _ _ _ _ _ _ _ _ _ _ _ _ _ _ _ _ _ _ _ _ _ _ _ _ _ _ _ _ _ _ _ _ _ _ _ _ _ _ _ _ _ _ _ _ _ _ _ _ _ _ _ _ _ _ _ _ _ _ _ _ _ _ _ _ _ _ _ _ _ _ _ _ _ _ _ _ _ _ _ _ _ _ _ _ _)
  · -- 16, 9, 10, 17
    go_simp
    have xa : Ext W4 (W4.alloc (.cells #[.int .i64 p.root, .int .i64 p.beg, .int .i64 p.width] 34)) := Ext.alloc _ _
    have K5 := Lib.hid (K4.out.ext xa)
    have S5 := S4.ext xa
    have n16 : (W4.alloc (.cells #[.int .i64 p.root, .int .i64 p.beg, .int .i64 p.width] 34)).heap[W4.heap.size]? = some (.cells #[.int .i64 p.root, .int .i64 p.beg, .int .i64 p.width] 34 (0, 0)) := heap_alloc_new W4 _
    have k5 := Lib.hid (k4.out.trans (Keep.of_ext (S := fun _ => False) xa) (fun _ _ h => h.elim))
    have z5 : W4.heap.size ≤ (W4.alloc (.cells #[.int .i64 p.root, .int .i64 p.beg, .int .i64 p.width] 34)).heap.size := Nat.le_trans z4 xa.size
    refine hK.out _ _ S5 ?_
    (try simp only [Act.put, List.setIfInBounds_toArray, List.set_cons_zero, List.set_cons_succ])
    clear hK K xa
    generalize W4.alloc (.cells #[.int .i64 p.root, .int .i64 p.beg, .int .i64 p.width] 34) = W5 at K5 S5 n16 k5 z5 ⊢
    obtain ⟨b16, hb16⟩ : ∃ b, W4.heap.size = b := ⟨_, rfl⟩
    rw [hb16] at n16 ⊢
    have y16 : W4.heap.size ≤ b16 := by rw [← hb16]; exact z4
    clear hb16
    have hS := S5
    refine wpAnyM_ready [9] (by kernel_rfl) rfl ?_
    refine AllM.cons rfl rfl (fun K hK => ?_) AllM.nil
    go_simp
    have xa : Ext W5 (W5.alloc (.cells #[.string name] 9)) := Ext.alloc _ _
    have K6 := Lib.hid (K5.out.ext xa)
    have S6 := S5.ext xa
    have n9 : (W5.alloc (.cells #[.string name] 9)).heap[W5.heap.size]? = some (.cells #[.string name] 9 (0, 0)) := heap_alloc_new W5 _
    have k6 := Lib.hid (k5.out.trans (Keep.of_ext (S := fun _ => False) xa) (fun _ _ h => h.elim))
    have z6 : W4.heap.size ≤ (W5.alloc (.cells #[.string name] 9)).heap.size := Nat.le_trans z5 xa.size
    have n16 := xa.block n16
    refine hK.out _ _ S6 ?_
    (try simp only [Act.put, List.setIfInBounds_toArray, List.set_cons_zero, List.set_cons_succ])
    clear hK K xa
    generalize W5.alloc (.cells #[.string name] 9) = W6 at K6 S6 n9 k6 z6 n16 ⊢
    obtain ⟨b9, hb9⟩ : ∃ b, W5.heap.size = b := ⟨_, rfl⟩
    rw [hb9] at n9 ⊢
    have y9 : W4.heap.size ≤ b9 := by rw [← hb9]; exact z5
    clear hb9
    have hS := S6
    refine wpAnyM_ready [10] (by kernel_rfl) rfl ?_
    refine AllM.cons rfl rfl (fun K hK => ?_) AllM.nil
    have nmc := K6.out.nm
    refine wp_append_lies _ _ _ _ rfl 0 9 iS _ 1 16 Try.underlying27 hiS zS0 zS1 zS2 rfl (by omega) (.slice aN σ.names.length cN) σ.names.length (σ.names.map Value.string) rfl nmc ⟨b9, 0, none⟩ 1 1 [.string name] rfl rfl (World.news_of_block (cs := #[.string name]) n9) (by simp [Value.oneCell']) (by omega) (by unfold maxLen; omega) (by omega) (Nat.zero_le _) _ rfl ?_
    intro gN capN W7 ownN hgN hatN hltN
    have K7 := Lib.hid (K6.out.appN name hgN (hatN.imp id (fun e => Nat.le_of_eq e.symm)) ownN)
    have S7 := S6.grown K7.out hgN nNr nNp
    have k7 := Lib.hid (k6.out.trans (Keep.grown (S := fun k => Has ρ k) hgN r2.out) (fun _ _ h => h))
    have z7 : W4.heap.size ≤ W7.heap.size := Nat.le_trans z6 hgN.size
    have eN : (Value.slice aN σ.names.length cN).ownBlock = some gN ∨ W4.heap.size ≤ gN := hatN.imp id (fun e => by rw [e]; exact z6)
    have n16 : W7.heap[b16]? = some (.cells #[.int .i64 p.root, .int .i64 p.beg, .int .i64 p.width] 34 (0, 0)) := by rw [hgN.block b16 (Array.getElem?_eq_some_iff.1 n16).1 (fun e => by have := lN.out b16 e.symm; omega)]; exact n16
    refine hK.out _ _ S7 ?_
    (try simp only [Act.put, List.setIfInBounds_toArray, List.set_cons_zero, List.set_cons_succ])
    have hS := S7
    clear hK K ownN hgN hatN hltN nmc
    refine wpAnyM_ready [17] (by kernel_rfl) rfl ?_
    refine AllM.cons rfl rfl (fun K hK => ?_) AllM.nil
    have plc := K7.out.pl
    refine wp_append_lies _ _ _ _ rfl 0 34 iP _ 3 24 Try.underlying28 hiP zP0 zP1 zP2 rfl (by omega) (.slice aP σ.places.length cP) σ.places.length (plCells σ.places) rfl plc ⟨b16, 0, none⟩ 1 1 p.cells rfl rfl (World.news_of_block (cs := p.cells.toArray) n16) p.one (by omega) (by unfold maxLen; omega) (by omega) (Nat.zero_le _) _ rfl ?_
    intro gP capP W8 ownP hgP hatP hltP
    have K8 := Lib.hid (K7.out.appP p hgP (hatP.imp id (fun e => Nat.le_of_eq e.symm)) ownP)
    have S8 := S7.grown K8.out hgP nPr nPp
    have k8 := Lib.hid (k7.out.trans (Keep.grown (S := fun k => Has ρ k) hgP r3.out) (fun _ _ h => h))
    have eP : (Value.slice aP σ.places.length cP).ownBlock = some gP ∨ W4.heap.size ≤ gP := hatP.imp id (fun e => by rw [e]; exact z7)
    refine hK.out _ _ S8 ?_
    (try simp only [Act.put, List.setIfInBounds_toArray, List.set_cons_zero, List.set_cons_succ])
    clear hK K hS ownP hgP hatP hltP plc
    have eN' := eN.imp id (Nat.le_trans zW)
    have eP' := eP.imp id (Nat.le_trans zW)
    have f0 := WkG.free K8.out 0
    have c0 := (WkG.cells K8.out).1
    refine wpAnyM_ready [18] (by kernel_rfl) rfl ?_
    refine AllM.late rfl rfl (by kernel_rfl) (fun K hK => ?_) AllM.nil
    go_simp
    refine hK.out _ _ ?_
    (try simp only [Act.put, List.setIfInBounds_toArray, List.set_cons_zero, List.set_cons_succ])
    clear hK K
    refine wpAnyM_ready [19] (by kernel_rfl) rfl ?_
    refine AllM.late rfl rfl (by kernel_rfl) (fun K hK => ?_) AllM.nil
    go_simp
    refine hK.out _ _ ?_
    (try simp only [Act.put, List.setIfInBounds_toArray, List.set_cons_zero, List.set_cons_succ])
    clear hK K
    refine wpAnyM_ready [20] (by kernel_rfl) rfl ?_
    refine AllM.late rfl rfl (by kernel_rfl) (fun K hK => ?_) AllM.nil
    go_simp
    refine hK.out _ _ ?_
    (try simp only [Act.put, List.setIfInBounds_toArray, List.set_cons_zero, List.set_cons_succ])
    clear hK K f0 c0
    have KA := Lib.hid (K8.out.field (cN' := .slice (some ⟨gN, 0, none⟩) (σ.names.length + 1) capN) (cP' := .slice aP σ.places.length cP) (cW' := .slice (some ⟨bW, 0, none⟩) (i + 1) capW) (ro := σ.roots) 0 (.slice (some ⟨gN, 0, none⟩) (σ.names.length + 1) capN) rfl)
    have kA := Lib.hid (k8.out.trans (Keep.setCell (fun k => Has ρ k) W8 ⟨bw, 0, none⟩ (.slice (some ⟨gN, 0, none⟩) (σ.names.length + 1) capN) r0.out) (fun _ _ h => h))
    generalize W8.setCell ⟨bw, 0, none⟩ (.slice (some ⟨gN, 0, none⟩) (σ.names.length + 1) capN) = WA at KA kA ⊢
    have f1 := WkG.free KA.out 1
    have c1 := (WkG.cells KA.out).2.1
    refine wpAnyM_ready [21] (by kernel_rfl) rfl ?_
    refine AllM.late rfl rfl (by kernel_rfl) (fun K hK => ?_) AllM.nil
    go_simp
    refine hK.out _ _ ?_
    (try simp only [Act.put, List.setIfInBounds_toArray, List.set_cons_zero, List.set_cons_succ])
    clear hK K
    refine wpAnyM_ready [22] (by kernel_rfl) rfl ?_
    refine AllM.late rfl rfl (by kernel_rfl) (fun K hK => ?_) AllM.nil
    go_simp
    refine hK.out _ _ ?_
    (try simp only [Act.put, List.setIfInBounds_toArray, List.set_cons_zero, List.set_cons_succ])
    clear hK K
    refine wpAnyM_ready [23] (by kernel_rfl) rfl ?_
    refine AllM.late rfl rfl (by kernel_rfl) (fun K hK => ?_) AllM.nil
    go_simp
    refine hK.out _ _ ?_
    (try simp only [Act.put, List.setIfInBounds_toArray, List.set_cons_zero, List.set_cons_succ])
    clear hK K f1 c1
    have KB := Lib.hid (KA.out.field (cN' := .slice (some ⟨gN, 0, none⟩) (σ.names.length + 1) capN) (cP' := .slice (some ⟨gP, 0, none⟩) (σ.places.length + 1) capP) (cW' := .slice (some ⟨bW, 0, none⟩) (i + 1) capW) (ro := σ.roots) 1 (.slice (some ⟨gP, 0, none⟩) (σ.places.length + 1) capP) rfl)
    have kB := Lib.hid (kA.out.trans (Keep.setCell (fun k => Has ρ k) WA ⟨bw, 1, none⟩ (.slice (some ⟨gP, 0, none⟩) (σ.places.length + 1) capP) r0.out) (fun _ _ h => h))
    generalize WA.setCell ⟨bw, 1, none⟩ (.slice (some ⟨gP, 0, none⟩) (σ.places.length + 1) capP) = WB at KB kB ⊢
    refine wpAnyM_done (by kernel_rfl) ?_ _
    exact hKn _ _ (one_r22 bw bm br bp _ _ _ _ ws2 { names := σ.names ++ [name], places := σ.places ++ [p], ways := σ.ways.set i (x.1, x.2 ++ [p]), roots := σ.roots } p W WB R ρ kB.out (grew2 g2h.out eN' eP') hph.out hbph.out KB.out (by have := hwh.out; simp; omega) hRh.out _ _ _ _ _ _ _ _ _ _ _ _ _ _ _ _ _ _ _ _ _ _ _ _ _ _ _ _ _ _ _ _ _ _ _ _ _ _ _ _ _ _ _ _ _ _ _ _ _ _ _ _ _ _ _ _ _ _ _ _ _ _ _ _ _ _ _ _ _ _ _ _ _ _ _ _ _ _ _ _ _ _ _ _ _ _ _ _ _ _ _ _ _ _ _ _ _ _ _ _ _ _ _ _ _ _ _ _ _ _ _ _ _ _ _ _ _ _ _ _ _ _ _ _ _ _ _ _ _ _ _ _ _ _ _ _ _ _ _ _ _ _ _ _ _ _ _ _ _ _ _ _ _ _ _ _ _ _ _ _ _ _ _ _ _ _ _ _ _ _ _ _ _ _ _ _ _ _ _ _ _ _ _ _ _ _ _ _ _ _ _ _ _ _ _ _ _ _)
end Go.Proofs.Ytocloacbbbhkcaa
