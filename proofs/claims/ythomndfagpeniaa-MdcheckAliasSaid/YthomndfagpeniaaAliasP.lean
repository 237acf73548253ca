/- The machine of MdcheckAlias, plainly: what the check answers of it, and how it lies in memory. For widths of 1 to 64 and places of 0 to 64. -/
import Derived.Test.YthomndfagpeniaaMgG
namespace Go.Proofs.Ythomndfagpeniaa
open Go.RowKit
def wideN : ByteArray := ⟨#[119, 105, 100, 101]⟩
def oneN : ByteArray := ⟨#[111, 110, 101]⟩
def twoN : ByteArray := ⟨#[116, 119, 111]⟩
def wideR (width a wa b wb : Int) : RegT := .mk wideN width 0 [.mk oneN wa a [], .mk twoN wb b []]
def aliasR (width a wa b wb : Int) : List RegT := [flatReg (nmS 0, 8), flatReg (nmS 1, 8), flatReg (nmS 2, 8), wideR width a wa b wb]
def aliasM (width a wa b wb : Int) : Mach := { smallM 3 with regs := aliasR width a wa b wb }
def aliasW (width a wa b wb : Int) : Int := if width < a + wa ∨ width < b + wb then 6 else if a < b + wb ∧ b < a + wa then 7 else 0
def pls3 : List Pl := [⟨0, 0, 8⟩, ⟨1, 0, 8⟩, ⟨2, 0, 8⟩]
def wk3 : Wk := { names := [nmS 0, nmS 1, nmS 2], places := pls3, ways := [(⟨0, 0, 0⟩, pls3), (⟨2, 0, 8⟩, [])], roots := 3 }
def wk4 (width : Int) : Wk := { names := [nmS 0, nmS 1, nmS 2, wideN], places := pls3 ++ [⟨3, 0, width⟩], ways := [(⟨0, 0, 0⟩, pls3 ++ [⟨3, 0, width⟩]), (⟨3, 0, width⟩, [])], roots := 4 }
def wk5 (width a wa : Int) : Wk := { names := [nmS 0, nmS 1, nmS 2, wideN, oneN], places := pls3 ++ [⟨3, 0, width⟩, ⟨3, 0 + a, wa⟩], ways := [(⟨0, 0, 0⟩, pls3 ++ [⟨3, 0, width⟩]), (⟨3, 0, width⟩, [⟨3, 0 + a, wa⟩]), (⟨3, 0 + a, wa⟩, [])], roots := 4 }
def wk6 (width a wa b wb : Int) : Wk := { names := [nmS 0, nmS 1, nmS 2, wideN, oneN, twoN], places := pls3 ++ [⟨3, 0, width⟩, ⟨3, 0 + a, wa⟩, ⟨3, 0 + b, wb⟩], ways := [(⟨0, 0, 0⟩, pls3 ++ [⟨3, 0, width⟩]), (⟨3, 0, width⟩, [⟨3, 0 + a, wa⟩, ⟨3, 0 + b, wb⟩]), (⟨3, 0 + b, wb⟩, [])], roots := 4 }
variable {width a wa b wb : Int}
theorem steps3 : stepsS gStep [flatReg (nmS 0, 8), flatReg (nmS 1, 8), flatReg (nmS 2, 8)] wk0 = .ok wk3 := by kernel_rfl
theorem one4 (h : 1 ≤ width ∧ width ≤ 64) : oneS wk3 wideN width 0 1 = .ok (wk4 width) := by
  unfold oneS
  rw [if_neg (by decide), if_neg (by decide), if_neg (show ¬ (namedS wideN && !(memB wideN wk3.names)) = false by decide +kernel), if_neg (by omega)]
  rfl
theorem one5 (ha : 0 ≤ a) (hw : 1 ≤ wa ∧ wa ≤ 64) : oneS (wk4 width) oneN wa a 2 = if a ≤ width - wa then .ok (wk5 width a wa) else .error 6 := by
  unfold oneS
  rw [if_neg (by decide), if_neg (by show ¬ 200 ≤ 4; decide), if_neg (show ¬ (namedS oneN && !(memB oneN (wk4 width).names)) = false by show ¬ (namedS oneN && !(memB oneN [nmS 0, nmS 1, nmS 2, wideN])) = false; decide +kernel), if_neg (by omega)]
  by_cases h : a ≤ width - wa
  · rw [if_pos h]
    have : placeS (wk4 width) 2 wa a = .ok (⟨3, 0 + a, wa⟩, 4) := by
      unfold placeS wk4
      simp [h]
    rw [this]
    rfl
  · rw [if_neg h]
    have : placeS (wk4 width) 2 wa a = .error 6 := by
      unfold placeS wk4
      simp [h]
    rw [this]
theorem two6 (hb : 0 ≤ b) (hw : 1 ≤ wb ∧ wb ≤ 64) : oneS (wk5 width a wa) twoN wb b 2 = if b ≤ width - wb then (if lapS ⟨3, 0 + b, wb⟩ ⟨3, 0 + a, wa⟩ = true then .error 7 else .ok (wk6 width a wa b wb)) else .error 6 := by
  unfold oneS
  rw [if_neg (by decide), if_neg (by show ¬ 200 ≤ 5; decide), if_neg (show ¬ (namedS twoN && !(memB twoN (wk5 width a wa).names)) = false by show ¬ (namedS twoN && !(memB twoN [nmS 0, nmS 1, nmS 2, wideN, oneN])) = false; decide +kernel), if_neg (by omega)]
  by_cases h : b ≤ width - wb
  · rw [if_pos h]
    have : placeS (wk5 width a wa) 2 wb b = .ok (⟨3, 0 + b, wb⟩, 4) := by
      unfold placeS wk5
      simp [h]
    rw [this]
    dsimp only
    rw [show (within (wk5 width a wa) 2) = [⟨3, 0 + a, wa⟩] from rfl]
    simp only [List.any_cons, List.any_nil, Bool.or_false]
    by_cases hl : lapS ⟨3, 0 + b, wb⟩ ⟨3, 0 + a, wa⟩ = true
    · rw [if_pos hl, if_pos hl]
    · rw [if_neg hl, if_neg hl]; rfl
  · rw [if_neg h]
    have : placeS (wk5 width a wa) 2 wb b = .error 6 := by
      unfold placeS wk5
      simp [h]
    rw [this]
theorem lap_two (hwa : 1 ≤ wa) (hwb : 1 ≤ wb) : lapS ⟨3, 0 + b, wb⟩ ⟨3, 0 + a, wa⟩ = decide (a < b + wb ∧ b < a + wa) := by
  unfold lapS
  simp only [decide_true, Bool.true_and]
  rw [decide_eq_true hwb, decide_eq_true hwa, Bool.true_and, Bool.true_and]
  by_cases h : 0 + a < 0 + b
  · rw [if_pos h, decide_eq_decide]; omega
  · rw [if_neg h, decide_eq_decide]; omega
theorem alias_places (hw : 1 ≤ width ∧ width ≤ 64) (ha : 0 ≤ a) (hwa : 1 ≤ wa ∧ wa ≤ 64) (hb : 0 ≤ b) (hwb : 1 ≤ wb ∧ wb ≤ 64) :
    placesS (aliasR width a wa b wb) = if aliasW width a wa b wb = 0 then .ok (wk6 width a wa b wb) else .error (aliasW width a wa b wb) := by
  have e : placesS (aliasR width a wa b wb) = match oneS (wk4 width) oneN wa a 2 with
      | .ok σ => (match oneS σ twoN wb b 2 with | .ok σ => .ok σ | .error x => .error x)
      | .error x => .error x := by
    rw [placesS_eq, show aliasR width a wa b wb = [flatReg (nmS 0, 8), flatReg (nmS 1, 8), flatReg (nmS 2, 8)] ++ [wideR width a wa b wb] from rfl, stepsS_append steps3]
    simp only [stepsS]
    rw [show gStep wk3 (wideR width a wa b wb) = match oneS wk3 wideN width 0 1 with
      | .ok σ' => downS 6 2 [.mk oneN wa a [], .mk twoN wb b []] σ'
      | .error x => .error x from rfl, one4 hw]
    dsimp only
    simp only [downS, stepsS, RegT.name, RegT.width, RegT.beg, RegT.subs]
    cases oneS (wk4 width) oneN wa a 2 with
    | error x => rfl
    | ok σ =>
      dsimp only
      cases oneS σ twoN wb b 2 with
      | error x => rfl
      | ok σ => rfl
  rw [e, one5 ha hwa]
  unfold aliasW
  by_cases h1 : a ≤ width - wa
  · rw [if_pos h1]
    dsimp only
    rw [two6 hb hwb]
    by_cases h2 : b ≤ width - wb
    · rw [if_pos h2, lap_two hwa.1 hwb.1, if_neg (show ¬ (width < a + wa ∨ width < b + wb) by omega)]
      by_cases h3 : a < b + wb ∧ b < a + wa
      · rw [if_pos (decide_eq_true h3), if_pos h3]; rfl
      · rw [if_neg (by rw [decide_eq_false h3]; simp), if_neg h3]; rfl
    · rw [if_neg h2, if_pos (show (width < a + wa ∨ width < b + wb) by omega)]; rfl
  · rw [if_neg h1, if_pos (show (width < a + wa ∨ width < b + wb) by omega)]; rfl
theorem alias_r1 : classesS (aliasM width a wa b wb) (wk6 width a wa b wb).names (wk6 width a wa b wb).places = .ok () := by kernel_rfl
theorem alias_r2 : opsS (aliasM width a wa b wb) (wk6 width a wa b wb).names (wk6 width a wa b wb).places = .ok () := by kernel_rfl
theorem alias_r3 : convS (aliasM width a wa b wb) (wk6 width a wa b wb).names (wk6 width a wa b wb).places = .ok () := by kernel_rfl
theorem alias_r4 : spillsS (aliasM width a wa b wb) (wk6 width a wa b wb).names (wk6 width a wa b wb).places = .ok () := by kernel_rfl
theorem alias_check (hw : 1 ≤ width ∧ width ≤ 64) (ha : 0 ≤ a) (hwa : 1 ≤ wa ∧ wa ≤ 64) (hb : 0 ≤ b) (hwb : 1 ≤ wb ∧ wb ≤ 64) : codeOf (checkS (aliasM width a wa b wb)) = aliasW width a wa b wb := by
  unfold checkS headS
  rw [if_pos (show namedS (aliasM width a wa b wb).name = true by show namedS mN = true; decide +kernel), show (aliasM width a wa b wb).regs = aliasR width a wa b wb from rfl, alias_places hw ha hwa hb hwb]
  by_cases h : aliasW width a wa b wb = 0
  · rw [if_pos h]
    dsimp only
    rw [if_pos (by show 0 < 6; decide)]
    dsimp only
    rw [alias_r1]
    dsimp only
    rw [alias_r2]
    dsimp only
    rw [alias_r3]
    dsimp only
    rw [alias_r4, h]
    rfl
  · rw [if_neg h]
    rfl
variable {W W' : World} {n B bR cR bG cG s : Nat}
/-- The small machine with other registers, all else as it was. -/
theorem SmLay.machR (h : SmLay W n B bR cR bG cG s) (ho : ∀ q, q < s + 7 → q ≠ bR → W'.heap[q]? = W.heap[q]?) {M : Mach} {v : Value} (ec : M.classes = [⟨gN, namesS n⟩]) (eo : M.ops = (smallM n).ops) (ea : M.args = [nmS 0]) (es : M.saved = []) {n0 : Nat} (hn : s + 7 ≤ n0) (hr : RegsIn W' n0 v M.regs) (hsl : fits64 M.slots) :
    MachIn W' n0 v (vC s) (vO s) (vA s) (.slice none 0 0) M := by
  have hbr := h.br
  have hbg := h.bg
  have hne := h.ne
  refine ⟨hr, ?_, ?_, by rw [ea]; exact Tab.up (h.args' (ho _ (by omega) (by omega))) hn, by rw [es]; exact StrsIn.nil, hsl⟩
  · rw [ec]
    refine ClsIn.of [(⟨gN, namesS n⟩, vG bG n cG)] ((h.cls' (ho _ (by omega) (by omega))).up hn) (fun q hq => ?_)
    rw [List.mem_singleton] at hq; subst hq
    exact Tab.up (h.rg' (ho _ (by omega) (by omega))) (by omega)
  · rw [eo, show (smallM n).ops = (opsV s).map Prod.fst from rfl]
    refine OpsIn.of (opsV s) ((h.ops' (ho _ (by omega) (by omega))).up hn) (fun q hq => ?_)
    have := h.us' (ho _ (by omega) (by omega)) (ho _ (by omega) (by omega)) (ho _ (by omega) (by omega)) q hq
    exact ⟨Tab.up this.1 hn, Tab.up this.2.1 hn, this.2.2⟩
/-- The registers in memory. -/
theorem alias_in {width a wa b wb : Int} {g1 cp1 sb : Nat} (hf : fits64 width ∧ fits64 wa ∧ fits64 a ∧ fits64 wb ∧ fits64 b)
    (hown : W.ownsRow B 38 4 (.slice (some ⟨g1, 0, none⟩) 4 cp1) 4 (cellsR 3 ++ [.string wideN, .int .i64 width, .int .i64 0, .slice (some ⟨sb, 0, none⟩) 2 2]))
    (hs : W.heap[sb]? = some (.cells #[.string oneN, .int .i64 wa, .int .i64 a, .slice none 0 0, .string twoN, .int .i64 wb, .int .i64 b, .slice none 0 0] 38 (0, 0))) :
    RegsIn W W.heap.size (.slice (some ⟨g1, 0, none⟩) 4 cp1) (aliasR width a wa b wb) := by
  obtain ⟨h1, h2, h3, h4, h5⟩ := hf
  have nil : ∀ n0, RegsIn W n0 (.slice none 0 0) [] := fun n0 => .mk [] rfl ⟨rfl, Or.inl ⟨rfl, rfl⟩⟩ (fun k e => by cases e) (fun r hr => by cases hr) (fun i r u hr => by simp at hr)
  have hsl := (Array.getElem?_eq_some_iff.1 hs).1
  refine .mk [.slice none 0 0, .slice none 0 0, .slice none 0 0, .slice (some ⟨sb, 0, none⟩) 2 2] rfl (Row.of_owns hown) (fun k e => (hown.lt k e).2) (fun r hr => ?_) (fun i r u hr hu => ?_)
  · simp only [aliasR, List.mem_cons, List.not_mem_nil, or_false] at hr
    rcases hr with rfl | rfl | rfl | rfl
    · exact ⟨fits_8, fits_0⟩
    · exact ⟨fits_8, fits_0⟩
    · exact ⟨fits_8, fits_0⟩
    · exact ⟨h1, fits_0⟩
  · match i, hr, hu with
    | 0, hr, hu => cases hr; cases hu; exact nil _
    | 1, hr, hu => cases hr; cases hu; exact nil _
    | 2, hr, hu => cases hr; cases hu; exact nil _
    | 3, hr, hu =>
      cases hr; cases hu
      refine .mk [.slice none 0 0, .slice none 0 0] rfl ⟨rfl, Or.inr ⟨⟨sb, 0, none⟩, 2, rfl, Nat.le_refl _, le_max2, fun j u hj => ?_⟩⟩ (fun k e => by cases e; exact hsl) (fun r hr => ?_) (fun i r u hr hu => ?_)
      · rw [addr_off, Nat.zero_add]
        simp only [World.cell?, hs]
        have e : regCells (wideR width a wa b wb).subs [.slice none 0 0, .slice none 0 0] = [.string oneN, .int .i64 wa, .int .i64 a, .slice none 0 0, .string twoN, .int .i64 wb, .int .i64 b, .slice none 0 0] := rfl
        rw [e] at hj
        simpa using hj
      · simp only [wideR, RegT.subs, List.mem_cons, List.not_mem_nil, or_false] at hr
        rcases hr with rfl | rfl
        · exact ⟨h2, h3⟩
        · exact ⟨h4, h5⟩
      · match i, hr, hu with
        | 0, hr, hu => cases hr; cases hu; exact nil _
        | 1, hr, hu => cases hr; cases hu; exact nil _
        | i + 2, hr, hu => simp [wideR, RegT.subs] at hr
    | i + 4, hr, hu => simp [aliasR] at hr
end Go.Proofs.Ythomndfagpeniaa
