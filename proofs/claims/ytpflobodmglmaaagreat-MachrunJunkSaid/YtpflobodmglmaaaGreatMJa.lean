/- Several texts joined. No condition. -/
import Derived.Test.YtpflobodmglmaaaGreatMf
import Derived.Test.YtpflobodmglmaaaGreatMg
import Derived.Test.YtpflobodmglmaaaGreatMep
import Derived.Test.YtpflobodmglmaaaGreatMi
set_option linter.unusedVariables false
set_option maxHeartbeats 1000000
namespace Go.Proofs.YtpflobodmglmaaaGreat
noncomputable def apR (z : Nat → Int) (i : Nat) : List AV := [iV (z i), iV 0, iV 8]
noncomputable def apL (q : Nat) : AV := match q with | 0 => nl | q + 1 => .sl 0 0 (q + 1) false 3
noncomputable def apM (q : Nat) (z : Nat → Int) : List Blk := match q with | 0 => [] | q + 1 => [.row 3 (q + 1) (apR z)]
noncomputable def apP (s : ByteArray) : Int := Int.ofNat (dec s).toNat
noncomputable def apE (nb : Bool) (k : Nat) (g : Nat → ByteArray) : AEnd := .ret (.lst (Nat.beq k 0) false k (apR fun i => apP (g i)))
noncomputable def cAp : Cfg := ⟨[(244, spReg), (154, spLap)], [(248, 0, { live := [0, 7, 18, 19, 20], ids := [.v 7] }), (248, 2, { live := [0, 7, 10, 18, 19, 20, 33, 34, 35], ids := [.v 7], ent := false })]⟩
section
variable (F : Fm) (hn : F.n ≤ 40) (nb f : Bool) (k : Nat) (g : Nat → ByteArray) (r : Nat → Nat) (hr : ∀ i, i < k → g i = nm (r i) ∧ r i < F.n) (hj : ∀ i j, i < k → j < i → r i ≠ r j) (hk : k ≤ 64)
noncomputable def apI (q : Nat) (x y P : Int) (z : Nat → Int) : Prop := FrE XV.P (frH XV.P 248 1 [(0, ckC F), (7, .sl 0 0 (q + 1) false 3), (10, .cp [iV P, iV 0, iV 8]), (18, strs nb f k g), (19, iV k), (20, iV x), (33, .sl 0 0 (q + 1) false 3), (34, iV (Int.ofNat (q + 1))), (35, iV y)]) (clM [.row 3 (q + 1) (apR z)]) (apE nb k g) []
noncomputable def apO (q : Nat) (x : Int) (z : Nat → Int) : Prop := FrE XV.P (frH XV.P 248 0 [(0, ckC F), (7, apL q), (18, strs nb f k g), (19, iV k), (20, iV x)]) (clM (apM q z)) (apE nb k g) []
include hr hn in
theorem apP_eq {i : Nat} (hi : i < k) : apP (g i) = (r i : Int) := by
  obtain ⟨e, h⟩ := hr i hi
  unfold apP
  rw [e, dec_nm (by omega)]
  rfl
theorem lapB_ne {a b : Int} (h : a ≠ b) : lapB a 0 8 b 0 8 = false := by
  unfold lapB
  rw [show eqI a b = false by simpa using h]
  rfl
include hn hr hj hk in
theorem apI_lp (q : Nat) (x : Int) (hx : x = ((q + 1 : Nat) : Int)) (hq : q + 1 < k) (IH : ∀ z, (∀ i, i < q + 2 → z i = apP (g i)) → apO F nb f k g (q + 2) (wr .i64 (x + 1)) z)
    (m y' : Nat) (y : Int) (hy : y = ((y' : Nat) : Int)) (hm : y' + m = q + 1) (z : Nat → Int) (hz : ∀ i, i < q + 1 → z i = apP (g i)) : apI F nb f k g q x y (apP (g (q + 1))) z := by
  have ey : y.toNat = y' := by rw [hy]; rfl
  exact vl0 (c := cAp) (n := 20000) (by kernel_rfl)
    (ifs (c := ltI y (.ofNat (q + 1))) (fun h => by
      have h : y < ((q + 1 : Nat) : Int) := by simpa using h
      have e : lapB (apP (g (q + 1))) 0 8 (z (0 + y.toNat)) 0 8 = false := lapB_ne (by
        rw [ey, Nat.zero_add, hz y' (by omega), apP_eq F hn k g r hr hq, apP_eq F hn k g r hr (i := y') (by omega)]
        have := hj (q + 1) y' hq (by omega)
        omega)
      exact ck (c := inI y (q + 1) && true) (by simp; omega) (ck (c := (true && Nat.blt (0 + y.toNat) (q + 1)) && true) (by simp; omega) (cl (lap_ok (apP (g (q + 1))) 0 8 (z (0 + y.toNat)) 0 8) (ckN (c := !(!(lapB (apP (g (q + 1))) 0 8 (z (0 + y.toNat)) 0 8))) (by rw [e]; rfl) (lp (apI_lp q x hx hq IH (m - 1) (y' + 1) (wr .i64 (y + 1)) (by rw [wr_id] <;> omega) (by omega) z hz))))))
    (fun h => by
      have h : ((q + 1 : Nat) : Int) ≤ y := by simpa using h
      have nx : FrE XV.P (frH XV.P 248 0 [(0, ckC F), (7, apL (q + 2)), (18, strs nb f k g), (19, iV k), (20, iV (wr .i64 (x + 1)))]) (clM [.row 3 (q + 1 + 1) (fun i => (mixL (Nat.blt i (q + 1)) (apR z (0 + i)) [iV (apP (g (q + 1))), iV 0, iV 8]).map frz0)]) (apE nb k g) [] :=
        fr_wkB (.cons (by simp) (by simp) (wkB_row fun i hi => .of (by
          rw [mixL_eq, Nat.zero_add]
          by_cases e : i < q + 1
          · rw [blt_t e]
            show (apR z i).map frz0 = apR (fun i => apP (g i)) i
            unfold apR
            rw [hz i e]
            rfl
          · rw [blt_f (Nat.le_of_not_lt e), show i = q + 1 by omega]; rfl)) .nil) (IH (fun i => apP (g i)) fun i _ => rfl)
      exact ck (c := true && (true && (Nat.ble (q + 1 + 1) 16777216 && (Nat.ble (0 + (q + 1)) (q + 1) && true)))) (by simp; omega) (lp nx)))
    (by kernel_rfl)
termination_by m
decreasing_by omega
include hn hr hj hk in
theorem apO_lp (m q : Nat) (x : Int) (hx : x = q) (hm : q + m = k) (z : Nat → Int) (hz : ∀ i, i < q → z i = apP (g i)) : apO F nb f k g q x z := by
  have ex : x.toNat = q := by rw [hx]; rfl
  have wx : x < (k : Int) → wr .i64 (x + 1) = ((q + 1 : Nat) : Int) := fun h => by rw [wr_id] <;> omega
  have rg : x < (k : Int) → CtE XV.P 244 [ckC F, .str (g x.toNat), iV 10] [] (.ret (iV (dec (g x.toNat)))) [] := fun h => by
    obtain ⟨e, h2⟩ := hr x.toNat (by omega)
    rw [e]
    exact reg_ok F hn _ h2 10
  have ix : x < (k : Int) → (inI (dec (g x.toNat)) F.n && true) = true := fun h => by
    obtain ⟨e, h2⟩ := hr x.toNat (by omega)
    rw [e, dec_nm (by omega)]
    simp
    omega
  cases q with
  | zero =>
    exact vl0 (c := cAp) (n := 20000) (by kernel_rfl)
      (ifs (c := ltI x (.ofNat k)) (fun h => by
        have h : x < (k : Int) := by simpa using h
        have nx := apO_lp (m - 1) 1 (wr .i64 (x + 1)) (wx h) (by omega) (fun _ => apP (g x.toNat)) (fun i hi => by rw [show i = 0 by omega, ex])
        exact ck (c := inI x k && true) (by simp; omega) (cl (rg h) (ck (ix h) (lp nx))))
      (fun h => by
        have h : (k : Int) ≤ x := by simpa using h
        have e : k = 0 := by omega
        have w : WkE (.ret nl) (apE nb k g) := by
          unfold apE
          rw [e]
          exact wk_ret (wkv_lst rfl (fun e => by cases e) fun i hi => by omega)
        exact endI w))
      (by kernel_rfl)
  | succ q =>
    exact vl0 (c := cAp) (n := 20000) (by kernel_rfl)
      (ifs (c := ltI x (.ofNat k)) (fun h => by
        have h : x < (k : Int) := by simpa using h
        have nx : apI F nb f k g q x 1 (apP (g x.toNat)) z := by
          rw [show apP (g x.toNat) = apP (g (q + 1)) by rw [ex]]
          exact apI_lp F hn nb f k g r hr hj hk q x hx (by omega) (fun z hz => apO_lp (m - 1) (q + 2) (wr .i64 (x + 1)) (wx h) (by omega) z hz) q 1 1 rfl (by omega) z hz
        have e : lapB (apP (g x.toNat)) 0 8 (z 0) 0 8 = false := lapB_ne (by
          rw [ex, hz 0 (by omega), apP_eq F hn k g r hr (i := q + 1) (by omega), apP_eq F hn k g r hr (i := 0) (by omega)]
          have := hj (q + 1) 0 (by omega) (by omega)
          omega)
        exact ck (c := inI x k && true) (by simp; omega) (cl (rg h) (ck (ix h) (cl (lap_ok (apP (g x.toNat)) 0 8 (z 0) 0 8) (ckN (c := !(!(lapB (apP (g x.toNat)) 0 8 (z 0) 0 8))) (by rw [e]; rfl) (lp nx))))))
      (fun h => by
        have h : (k : Int) ≤ x := by simpa using h
        have e : q + 1 = k := by omega
        have p : 0 + (q + 1) ≤ q + 1 := by omega
        have w : WkE (.ret (.lst false false (q + 1) (fun i => (apR z (0 + i)).map frz0))) (apE nb k g) := by
          unfold apE
          rw [← e]
          exact wk_ret (wkv_lst rfl id fun i hi => .of (by rw [Nat.zero_add]; unfold apR; rw [hz i hi]; rfl))
        exact endI1 p w))
      (by kernel_rfl)
termination_by m
decreasing_by all_goals omega
include hn hr hj in
theorem apart_ok (most : Int) (hm : (k : Int) ≤ most) (hk : k ≤ 64) : CtE XV.P 248 [ckC F, strs nb f k g, iV most] [] (apE nb k g) [] :=
  vc0 (c := cAp) (n := 20000) (by kernel_rfl) (ckN (c := !(!(ltI most (.ofNat k)))) (by simp; omega) (lp (apO_lp F hn nb f k g r hr hj hk k 0 0 rfl (by omega) (fun _ => 0) (fun i hi => by omega)))) (by kernel_rfl)
end
end Go.Proofs.YtpflobodmglmaaaGreat
set_option linter.unusedVariables false
set_option maxHeartbeats 1000000
namespace Go.Proofs.YtpflobodmglmaaaGreat
noncomputable def spAp : CSp := { ids := [], res := fun args _ => match args with | [_, .lst _ _ n h, _] => (apE false n (fun i => strOf (h i)), []) | _ => (.ret .undef, []) }
noncomputable def cCa : Cfg := ⟨[(244, spReg), (245, spIx), (248, spAp)], [(143, 2, { live := [0, 73, 74, 75], ids := [] })]⟩
theorem lp1 {P : Program} {f : Fr} {M : Mem} {e : AEnd} {N : List Blk} {p : Prop} (h0 : p) (h : FrE P f M e N) : (p ∧ True) ∧ (FrE P f M e N ∧ (e = e ∧ bld N 0 .nil = bld N 0 .nil)) := ⟨⟨h0, trivial⟩, h, rfl, rfl⟩
noncomputable def cCn : Cfg := ⟨cCa.cs, []⟩
theorem cv_lp (F : Fm) (h1 : 1 ≤ F.n) (hn : F.n ≤ 40) (k : Nat) (hk : k ≤ 65) (h : Nat → ByteArray) (r : Nat → Nat) (hr : ∀ i, i < k → h i = nm (r i) ∧ r i < F.n) (m q : Nat) (x : Int) (hx : x = q) (hm : q + m = k) : FrE XV.P (frH XV.P 143 1 [(0, ckC F), (73, .lst false false k (fun i => [.str (h i)])), (74, iV (Int.ofNat k)), (75, iV x)]) (clM []) (.ret (.tup [])) [] :=
  vl0 (c := cCa) (n := 20000) (by kernel_rfl)
    (ifs (c := ltI x (.ofNat k)) (fun hh => by
      have hh : x < (k : Int) := by simpa using hh
      have e : ixG nm (h x.toNat) F.n 0 = (r x.toNat : Int) := by
        obtain ⟨e, h2⟩ := hr x.toNat (by omega)
        rw [e]
        exact ix_nm hn h2
      exact ck (c := inI x k && true) (by simp; omega) (cl (ixc F.n (h x.toNat) hn) (ck (c := !(ltI (ixG nm (h x.toNat) F.n 0) 0)) (by rw [e]; simp) (lp (cv_lp F h1 hn k hk h r hr (m - 1) (q + 1) (wr .i64 (x + 1)) (by rw [wr_id] <;> omega) (by omega))))))
      (fun _ => endI (wkE (.ret (.tup [])))))
    (by kernel_rfl)
termination_by m
decreasing_by omega
section
variable (m : Nat) (hm : m + 3 ≤ 40) (cb : Bool) (cn : Nat) (cg : Nat → ByteArray) (f : Bool) (g : Nat → ByteArray) (sb : Bool) (sg : Nat → ByteArray)
include hm
theorem convN : CtE XV.P 143 [ckC ⟨m + 3, cb, cn, cg, true, f, 0, g, sb, 0, sg⟩] [] (.ret (.tup [])) [] :=
  have e : ixG nm (nm 0) (m + 3) 0 = 0 := ix_nm hm (j := 0) (by omega)
  have i := ixc (m + 3) (nm 0) hm
  vc0 (c := cCn) (n := 20000) (by kernel_rfl)
    (cl (apart_ok ⟨m + 3, cb, cn, cg, true, f, 0, g, sb, 0, sg⟩ hm true f 0 g (fun _ => 0) (fun i hi => by omega) (fun i j hi => by omega) 16 (by omega) (by omega))
      (cl (reg_ok ⟨m + 3, cb, cn, cg, true, f, 0, g, sb, 0, sg⟩ hm 0 (by simp) 10)
        (cl (apart_ok ⟨m + 3, cb, cn, cg, true, f, 0, g, sb, 0, sg⟩ hm sb true 0 sg (fun _ => 0) (fun i hi => by omega) (fun i j hi => by omega) 64 (by omega) (by omega))
          (cl i (ck (c := !(ltI (ixG nm (nm 0) (m + 3) 0) 0)) (by rw [e]; rfl) (endI (wkE (.ret (.tup [])))))))))
    (by kernel_rfl)
theorem convK (k : Nat) (hk : k + 1 ≤ 16) (r : Nat → Nat) (hr : ∀ i, i < k + 1 → g i = nm (r i) ∧ r i < m + 3) (hj : ∀ i j, i < k + 1 → j < i → r i ≠ r j) : CtE XV.P 143 [ckC ⟨m + 3, cb, cn, cg, false, f, k + 1, g, sb, 0, sg⟩] [] (.ret (.tup [])) [] :=
  have hl := cv_lp ⟨m + 3, cb, cn, cg, false, f, k + 1, g, sb, 0, sg⟩ (by simp) hm (0 + (k + 1) + 1) (by omega) (fun i => bif Nat.blt (0 + i) (0 + (k + 1)) then g (0 + (0 + i) - 0) else nm 0) (fun i => if i < k + 1 then r i else 0) (fun i hi => by
    by_cases e : i < k + 1
    · obtain ⟨e1, e2⟩ := hr i e
      simp only [if_pos e]
      rw [blt_t (by omega), cond_true, Nat.zero_add, Nat.zero_add, Nat.sub_zero]
      exact ⟨e1, e2⟩
    · simp only [if_neg e]
      rw [blt_f (by omega)]
      exact ⟨rfl, by omega⟩) (0 + (k + 1) + 1) 0 0 rfl (by omega)
  have hL : 0 + (0 + (k + 1) + 1) ≤ 0 + (k + 1) + 1 := by omega
  vc0 (c := cCa) (n := 20000) (by kernel_rfl)
    (cl (apart_ok ⟨m + 3, cb, cn, cg, false, f, k + 1, g, sb, 0, sg⟩ hm false f (k + 1) g r hr hj 16 (by omega) (by omega))
      (cl (reg_ok ⟨m + 3, cb, cn, cg, false, f, k + 1, g, sb, 0, sg⟩ hm 0 (by simp) 10)
        (cl (apart_ok ⟨m + 3, cb, cn, cg, false, f, k + 1, g, sb, 0, sg⟩ hm sb true 0 sg (fun _ => 0) (fun i hi => by omega) (fun i j hi => by omega) 64 (by omega) (by omega))
          (ck (c := true && (true && (Nat.ble (0 + (k + 1)) 16777216 && true))) (by simp; omega) (ck (c := true && (true && (Nat.ble (0 + (k + 1) + 1) 16777216 && (Nat.ble (0 + (0 + (k + 1))) (0 + (k + 1)) && true)))) (by simp; omega) (lp1 hL hl))))))
    (by kernel_rfl)
end
end Go.Proofs.YtpflobodmglmaaaGreat
set_option linter.unusedVariables false
set_option maxHeartbeats 1000000
namespace Go.Proofs.YtpflobodmglmaaaGreat
section
variable (m : Nat) (hm : m + 3 ≤ 40) (cb : Bool) (cn : Nat) (cg : Nat → ByteArray) (ab af : Bool) (an : Nat) (ag : Nat → ByteArray) (sb : Bool) (sn : Nat) (sg : Nat → ByteArray)
include hm
theorem ops0q : CtE XV.P 142 [ckC ⟨m + 3, cb, 0, cg, ab, af, an, ag, sb, sn, sg⟩] [] (.ret (.tup [])) [] :=
  have w := width_ok ⟨m + 3, cb, 0, cg, ab, af, an, ag, sb, sn, sg⟩ (by simp) hm
  vc0 (c := cOp) (n := 20000) (by kernel_rfl) (cl w (cl w (cl w (cl w (cl w (cl w (cl w (cl w (cl w (cl w (endI (wkE (.ret (.tup [])))))))))))))) (by kernel_rfl)
theorem fitsAq : CtE XV.P 251 [ckC ⟨m + 3, cb, cn, cg, ab, af, an, ag, sb, sn, sg⟩, opV (.str ⟨#[97, 100, 100]⟩) us2 (strs cb true 0 cg)] [] (.ret (.bool true)) [] :=
  have r := fun j h => reg_ok ⟨m + 3, cb, cn, cg, ab, af, an, ag, sb, sn, sg⟩ hm j h 9
  vc0 (c := cFi) (n := 20000) (by kernel_rfl) (cl (r 0 (by simp)) (cl (r 0 (by simp)) (cl (r 1 (by simp)) (cl (r 0 (by simp)) (endI (wkE (.ret (.bool true)))))))) (by kernel_rfl)
theorem fitsNq : CtE XV.P 251 [ckC ⟨m + 3, cb, cn, cg, ab, af, an, ag, sb, sn, sg⟩, opV (.str ⟨#[110, 111, 116]⟩) us1 nl] [] (.ret (.bool true)) [] :=
  have r := fun j h => reg_ok ⟨m + 3, cb, cn, cg, ab, af, an, ag, sb, sn, sg⟩ hm j h 9
  vc0 (c := cFi) (n := 20000) (by kernel_rfl) (cl (r 0 (by simp)) (cl (r 0 (by simp)) (endI (wkE (.ret (.bool true)))))) (by kernel_rfl)
theorem fitsDq : CtE XV.P 251 [ckC ⟨m + 3, cb, cn, cg, ab, af, an, ag, sb, sn, sg⟩, opV (.str ⟨#[100, 105, 118]⟩) us2 nl] [] (.ret (.bool true)) [] :=
  have r := fun j h => reg_ok ⟨m + 3, cb, cn, cg, ab, af, an, ag, sb, sn, sg⟩ hm j h 9
  vc0 (c := cFi) (n := 20000) (by kernel_rfl) (cl (r 0 (by simp)) (cl (r 0 (by simp)) (cl (r 1 (by simp)) (cl (r 0 (by simp)) (endI (wkE (.ret (.bool true)))))))) (by kernel_rfl)
theorem pair00q : CtE XV.P 252 [ckC ⟨m + 3, cb, cn, cg, ab, af, an, ag, sb, sn, sg⟩, iV 0, iV 0] [] (.ret (.bool true)) [] :=
  have r := fun j h => reg_ok ⟨m + 3, cb, cn, cg, ab, af, an, ag, sb, sn, sg⟩ hm j h 9
  vc0 (c := cFi) (n := 20000) (by kernel_rfl) (cl (r 0 (by simp)) (cl (r 0 (by simp)) (cl (r 1 (by simp)) (endI (wkE (.ret (.bool true))))))) (by kernel_rfl)
end
theorem spills0q (m : Nat) (hm : m + 3 ≤ 40) (cb : Bool) (cg : Nat → ByteArray) (ab af : Bool) (an : Nat) (ag : Nat → ByteArray) (sb : Bool) (sn : Nat) (sg : Nat → ByteArray) : CtE XV.P 144 [ckC ⟨m + 3, cb, 0, cg, ab, af, an, ag, sb, sn, sg⟩] [] (.ret (.tup [])) [] :=
  vc0 (c := cSpl) (n := 20000) (by kernel_rfl) (cl (fitsAq m hm cb 0 cg ab af an ag sb sn sg) (cl (fitsNq m hm cb 0 cg ab af an ag sb sn sg) (cl (fitsDq m hm cb 0 cg ab af an ag sb sn sg) (cl (pair00q m hm cb 0 cg ab af an ag sb sn sg) (endI (wkE (.ret (.tup []))))))))
    (by kernel_rfl)
theorem check_ofq (m : Nat) (hm : m + 3 ≤ 40) (hp : PlOk (m + 3)) (cb : Bool) (cn : Nat) (cg : Nat → ByteArray) (ab af : Bool) (an : Nat) (ag : Nat → ByteArray) (sb : Bool) (sn : Nat) (sg : Nat → ByteArray)
    (h1 : CtE XV.P 142 [ckC ⟨m + 3, cb, cn, cg, ab, af, an, ag, sb, sn, sg⟩] [] (.ret (.tup [])) []) (h2 : CtE XV.P 143 [ckC ⟨m + 3, cb, cn, cg, ab, af, an, ag, sb, sn, sg⟩] [] (.ret (.tup [])) []) (h3 : CtE XV.P 144 [ckC ⟨m + 3, cb, cn, cg, ab, af, an, ag, sb, sn, sg⟩] [] (.ret (.tup [])) []) :
    CtE XV.P 69 [.agg (Fm.mk (m + 3) cb cn cg ab af an ag sb sn sg).V] [] (.ret (iV 0)) [] :=
  vc0 (c := cChk) (n := 20000) (by kernel_rfl) (cl named_m (cl hp (cl (classes_ok ⟨m + 3, cb, cn, cg, ab, af, an, ag, sb, sn, sg⟩ (by simp) hm) (cl h1 (cl h2 (cl h3 (endI (wkE (.ret (iV 0))))))))))
    (by kernel_rfl)
theorem checkK (m : Nat) (hm : m + 3 ≤ 40) (hp : PlOk (m + 3)) (cb : Bool) (cg : Nat → ByteArray) (ab af : Bool) (k : Nat) (hb : ab = Nat.beq k 0) (hk : k ≤ 16) (g : Nat → ByteArray) (r : Nat → Nat) (hr : ∀ i, i < k → g i = nm (r i) ∧ r i < m + 3) (hj : ∀ i j, i < k → j < i → r i ≠ r j) (sb : Bool) (sg : Nat → ByteArray) : CtE XV.P 69 [.agg (Fm.mk (m + 3) cb 0 cg ab af k g sb 0 sg).V] [] (.ret (iV 0)) [] := by
  refine check_ofq m hm hp _ _ _ _ _ _ _ _ _ _ (ops0q m hm cb cg ab af k g sb 0 sg) ?_ (spills0q m hm cb cg ab af k g sb 0 sg)
  cases k with
  | zero => rw [hb]; exact convN m hm cb 0 cg af g sb sg
  | succ k => rw [hb]; exact convK m hm cb 0 cg af g sb sg k hk r hr hj
end Go.Proofs.YtpflobodmglmaaaGreat
set_option linter.unusedVariables false
set_option maxHeartbeats 1000000
namespace Go.Proofs.YtpflobodmglmaaaGreat
noncomputable def ST.noS (T : ST) : ST := { T with sb := true, sn := 0 }
noncomputable def cdR : LP := ⟨false, true, 1, fun _ => [.lst false true 1 (rowL [rI])]⟩
noncomputable def rsA (T : ST) (wb wf : Bool) (al : Nat) (wz : Nat → Int) (ib if' : Bool) (il : Nat) (iz : Nat → Int) : RS := ⟨T.noS, ⟨#[102]⟩, 0, cdR, sl0, 0, LP.nil, 5, ⟨wb, wf, al, fun i => [iV (wz i)]⟩, LP.nil, LP.nil, 5, ib, if', il, iz, 0⟩
noncomputable def rdA (T : ST) (res : Int) : RD := ⟨T.noS.c, ⟨#[102]⟩, 0, cdR, ⟨false, false, T.n, zer⟩, ⟨false, false, T.n, w255⟩, sl0, 0, 0, 1, LP.nil, 4, LP.nil, res, 0⟩
noncomputable def cRA : Cfg := ⟨[(120, spCl), (48, spPc)], [(17, 6, { live := [6, 11, 166, 167, 168], ids := [.v 6, .v 11, .c 1 0, .c 1 5, .c 2 6] }), (17, 4, { live := [0, 5, 6, 11, 18, 140, 141], ids := [.v 6, .v 11, .c 1 0, .c 1 5, .c 1 6, .c 1 7] })]⟩
/-- The registers when the first q arguments stand there. -/
noncomputable def arZ (az wz z : Nat → Int) : Nat → Nat → Int
  | 0 => z
  | q + 1 => fun j => bif Nat.beq j (0 + (Int.ofNat (az q).toNat).toNat) then wr8 (arZ az wz z q (0 + (Int.ofNat (az q).toNat).toNat)) (wz q) else arZ az wz z q j
noncomputable def arR (T : ST) (wz z : Nat → Int) (mn : Nat) : Int := rd8 (arZ T.az wz z mn (0 + (Int.ofNat (giV (T.hr (nm 0))).toNat).toNat))
theorem ar_lp (T : ST) (n0 : Nat) (hT : T.n = n0 + 1) (hn : n0 + 1 ≤ 40) (h0 : giV (T.hr (nm 0)) = 0) (wb wf : Bool) (al : Nat) (wz : Nat → Int) (ib if' : Bool) (il : Nat) (iz : Nat → Int) (z : Nat → Int) (mn : Nat) (ha : mn ≤ T.an) (hl : mn ≤ al) (hz1 : ∀ i, i < T.an → 0 ≤ T.az i ∧ T.az i < T.n) (han : T.an ≤ 65536) (n q : Nat) (x : Int) (hx : x = q) (hq : q + n = mn) (z' : Nat → Int) (hz : z' = arZ T.az wz z q) :
    FrE XV.P (frH XV.P 17 2 [(0, .cp (rsA T wb wf al wz ib if' il iz).T.c), (5, .cp (rsA T wb wf al wz ib if' il iz).w), (6, .ptr 0 0 0 0), (11, .ptr 1 0 0 0), (18, .lst T.ab false T.an (fun i => [iV (T.az i)])), (140, iV (Int.ofNat mn)), (141, iV x)]) (clM (stM (rsA T wb wf al wz ib if' il iz) (n0 + 1) (u64R z') zer w255)) (runE (rdA T (arR T wz z mn)) (n0 + 1) (arZ T.az wz z mn)) [] := by
  have ex : x.toNat = q := by rw [hx]; rfl
  have j1 : (inI (Int.ofNat (giV (T.hr (nm 0))).toNat) (n0 + 1) && true) = true := by rw [h0]; simp
  have j2 : ((true && Nat.blt (0 + (Int.ofNat (giV (T.hr (nm 0))).toNat).toNat) (n0 + 1)) && true) = true := by rw [h0]; simp
  have pl2 : CtE XV.P 48 [.cp T.noS.c, iV (giV (T.hr (nm 0)))] [] (.ret (plc8 (giV (T.hr (nm 0))))) [] := place_ok T.noS (giV (T.hr (nm 0))) (by rw [h0]; omega) (by rw [h0]; show (0 : Int) < (T.n : Int); omega)
  have wx : x < (mn : Int) → wr .i64 (x + 1) = ((q + 1 : Nat) : Int) := fun h => by rw [wr_id] <;> omega
  have nx := fun (h : x < (mn : Int)) => ar_lp T n0 hT hn h0 wb wf al wz ib if' il iz z mn ha hl hz1 han (n - 1) (q + 1) (wr .i64 (x + 1)) (wx h) (by omega) (fun j => bif Nat.beq j (0 + (Int.ofNat (T.az x.toNat).toNat).toNat) then wr8 (z' (0 + (Int.ofNat (T.az x.toNat).toNat).toNat)) (wz x.toNat) else z' j) (by rw [ex, hz]; rfl)
  have b1 : x < (mn : Int) → (inI x T.an && true) = true := fun h => by simp; omega
  have b2 : x < (mn : Int) → (inI x al && true) = true := fun h => by simp; omega
  have zz := fun (h : x < (mn : Int)) => hz1 x.toNat (by omega)
  have pl := fun (h : x < (mn : Int)) => place_ok T.noS (T.az x.toNat) (zz h).1 (zz h).2
  have i1 : x < (mn : Int) → (inI (Int.ofNat (T.az x.toNat).toNat) (n0 + 1) && true) = true := fun h => by have := zz h; simp; omega
  have i2 : x < (mn : Int) → ((true && Nat.blt (0 + (Int.ofNat (T.az x.toNat).toNat).toNat) (n0 + 1)) && true) = true := fun h => by have := zz h; simp; omega
  have re2 : (mn : Int) ≤ x → FrE XV.P (frH XV.P 17 3 [(6, .ptr 0 0 0 0), (11, .ptr 1 0 0 0), (166, .sl 3 0 (n0 + 1) false 1), (167, iV (Int.ofNat (n0 + 1))), (168, iV 0)]) (clM (reM (rdA T (rd8 (z' (0 + (Int.ofNat (giV (T.hr (nm 0))).toNat).toNat)))) (n0 + 1) 0 z' fun _ => [])) (runE (rdA T (arR T wz z mn)) (n0 + 1) (arZ T.az wz z mn)) [] := fun h => by
    obtain rfl : q = mn := by omega
    rw [hz]
    exact re_lp (rdA T (arR T wz z q)) n0 (arZ T.az wz z q) (by omega) 0 0 (fun _ => []) rfl (Nat.zero_le _) (fun j hj => by omega)
  obtain ⟨U, n', hr, sb, sf, sn, sz, ab, af, an, az, kp⟩ := T
  cases hT
  exact vl0 (c := cRA) (n := 20000) (by kernel_rfl)
    (ifs (c := ltI x (.ofNat mn)) (fun h => by
      have h : x < (mn : Int) := by simpa using h
      exact ck (b1 h) (ck (b2 h) (cl (pl h) (ck (i1 h) (ck (i2 h) (ck (i2 h) (lp (nx h))))))))
      (fun h => by
        have h : (mn : Int) ≤ x := by simpa using h
        exact cl pl2 (ck j1 (ck j2 (cl02 (show 0 + (n0 + 1) ≤ n0 + 1 by omega) (show 0 + (n0 + 1) ≤ n0 + 1 by omega) (re2 h))))))
    (by kernel_rfl)
termination_by n
decreasing_by omega
theorem mn_eq (a b : Nat) : (bif ltI (.ofNat a) (.ofNat b) then Int.ofNat a else Int.ofNat b) = Int.ofNat (min a b) := by
  by_cases h : a < b
  · rw [show ltI (.ofNat a) (.ofNat b) = true by simpa using h, cond_true, Nat.min_eq_left (by omega)]
  · rw [show ltI (.ofNat a) (.ofNat b) = false by simpa using h, cond_false, Nat.min_eq_right (by omega)]
theorem run16A (T : ST) (n0 : Nat) (hT : T.n = n0 + 1) (hn : n0 + 1 ≤ 40) (h0 : giV (T.hr (nm 0)) = 0) (wb wf : Bool) (al : Nat) (wz : Nat → Int) (ib if' : Bool) (il : Nat) (iz : Nat → Int) (z : Nat → Int) (hz1 : ∀ i, i < T.an → 0 ≤ T.az i ∧ T.az i < T.n) (hb : T.ab = true → T.an = 0) (han : T.an ≤ 65536) :
    st16 (rsA T wb wf al wz ib if' il iz) (n0 + 1) (u64R z) zer w255 (runE (rdA T (arR T wz z (min al T.an))) (n0 + 1) (arZ T.az wz z (min al T.an))) := by
  have k := ar_lp T n0 hT hn h0 wb wf al wz ib if' il iz z (min al T.an) (Nat.min_le_right _ _) (Nat.min_le_left _ _) hz1 han (min al T.an) 0 0 rfl (by omega) z rfl
  rw [← mn_eq] at k
  obtain ⟨U, n', hr, sb, sf, sn, sz, ab, af, an, az, kp⟩ := T
  cases hT
  exact vlR (c := cRA) (n := 20000) (by kernel_rfl) hN0 (by simp)
    (cl (clI_ok true sf 0 sz (fun _ => rfl) (by omega)) (cl (clI_ok ab af an az hb (by show an ≤ 16777215; have : an ≤ 65536 := han; omega)) (lp k)))
    (by kernel_rfl)
theorem chkR (T : ST) : CtE XV.P 42 [.cp T.noS.c, .agg [.str ⟨#[102]⟩, iV 0, cdR.v]] [] e000 [] :=
  vc0 (c := ⟨[(120, spCl)], []⟩) (n := 20000) (by kernel_rfl) (endI (wkE e000)) (by kernel_rfl)
theorem runAr_ok (T : ST) (n0 : Nat) (hT : T.n = n0 + 1) (hn : n0 + 1 ≤ 40) (h0 : giV (T.hr (nm 0)) = 0) (wb wf : Bool) (al : Nat) (wz : Nat → Int) (ib if' : Bool) (il : Nat) (iz : Nat → Int) (hi : n0 + 1 ≤ il) (hz1 : ∀ i, i < T.an → 0 ≤ T.az i ∧ T.az i < T.n) (hb : T.ab = true → T.an = 0) (han : T.an ≤ 65536)
    (hm : CtE XV.P 70 [.agg T.m] [] (.ret (.agg T.m)) []) : CtE XV.P 17 [.cp T.noS.c, .agg [.str ⟨#[102]⟩, iV 0, cdR.v], .agg (rsA T wb wf al wz ib if' il iz).w] [] (runE (rdA T (arR T wz (roZ iz) (min al T.an))) (n0 + 1) (arZ T.az wz (roZ iz) (min al T.an))) [] := by
  have k := st_lp (rsA T wb wf al wz ib if' il iz) n0 (runE (rdA T (arR T wz (roZ iz) (min al T.an))) (n0 + 1) (arZ T.az wz (roZ iz) (min al T.an))) (by kernel_rfl) (by omega) hi (fun G1 G2 G3 a b c => by
      refine fr_wkB (.cons (by simp) (by simp) (wkB _) (.cons (by simp) (by simp) (wkB _) (.cons (by simp) (by simp) (wkB _) (.cons (by simp) (by simp) (wkB_row fun j hj => .of (a j hj)) (.cons (by simp) (by simp) (wkB_row fun j hj => .of (b j hj)) (.cons (by simp) (by simp) (wkB_row fun j hj => .of (c j hj)) .nil)))))) (run16A T n0 hT hn h0 wb wf al wz ib if' il iz (roZ iz) hz1 hb han))
    0 0 (fun _ => []) (fun _ => []) (fun _ => []) rfl (Nat.zero_le _) (fun j hj => by omega) (fun j hj => by omega) (fun j hj => by omega)
  have ck' := chkR T
  have mm : CtE XV.P 44 [.cp T.noS.c] [] (.ret (.agg T.m)) [] := machine_ok T.noS hm
  obtain ⟨U, n', hr, sb, sf, sn, sz, ab, af, an, az, kp⟩ := T
  cases hT
  exact vc0 (c := cBeg ⟨U, n0 + 1, hr, sb, sf, sn, sz, ab, af, an, az, kp⟩) (n := 20000) (by kernel_rfl)
    (cl ck' (cl mm (cl0 (Nat.le_refl 0) k)))
    (by kernel_rfl)
end Go.Proofs.YtpflobodmglmaaaGreat
set_option linter.unusedVariables false
set_option maxHeartbeats 1000000
namespace Go.Proofs.YtpflobodmglmaaaGreat
noncomputable def rwI (b f : Bool) (n : Nat) (z : Nat → Int) : AV := .lst b f n (fun i => [iV (z i)])
noncomputable def azN (N : Nat) (i : Nat) : Int := ((N - 1 - i : Nat) : Int)
noncomputable def waR (N q al : Nat) (wz iz : Nat → Int) (i : Nat) : Int := if N - 1 - i < q then a255 (wz (N - 1 - i)) else a255 (iz i)
theorem arZ_eq (N : Nat) (wz iz : Nat → Int) (q : Nat) (hq : q ≤ N) : ∀ i, i < N → arZ (azN N) wz (roZ iz) q i = if N - 1 - i < q then wz (N - 1 - i) % 256 else iz i % 256 := by
  induction q with
  | zero => intro i hi; rw [if_neg (by omega)]; exact roZ_eq iz i
  | succ q ih =>
    intro i hi
    have ih := ih (by omega)
    have e : 0 + (Int.ofNat (azN N q).toNat).toNat = N - 1 - q := by
      unfold azN
      rw [Nat.zero_add]
      rfl
    show (bif Nat.beq i (0 + (Int.ofNat (azN N q).toNat).toNat) then wr8 (arZ (azN N) wz (roZ iz) q (0 + (Int.ofNat (azN N q).toNat).toNat)) (wz q) else arZ (azN N) wz (roZ iz) q i) = _
    rw [e]
    by_cases h : i = N - 1 - q
    · subst h
      rw [Nat.beq_refl, cond_true, if_pos (by omega), ih _ (by omega), if_neg (by omega)]
      obtain ⟨k, e1, e2⟩ := emod_nat (iz (N - 1 - q)) 256 (by omega)
      have e1 : iz (N - 1 - q) % 256 = (k : Int) := e1
      rw [e1, wr8_eq e2, show N - 1 - (N - 1 - q) = q by omega]
    · rw [beq_ff h, cond_false, ih i hi]
      by_cases h2 : N - 1 - i < q
      · rw [if_pos h2, if_pos (by omega)]
      · rw [if_neg h2, if_neg (by omega)]
theorem zR_eq (N : Nat) (wz iz : Nat → Int) (q al : Nat) (hq : q ≤ N) (i : Nat) (hi : i < N) : wr .i64 (arZ (azN N) wz (roZ iz) q i) = waR N q al wz iz i := by
  rw [arZ_eq N wz iz q hq i hi]
  unfold waR
  by_cases h : N - 1 - i < q
  · rw [if_pos h, if_pos h, a255_eq]
    obtain ⟨k, e1, e2⟩ := emod_nat (wz (N - 1 - i)) 256 (by omega)
    have e1 : wz (N - 1 - i) % 256 = (k : Int) := e1
    rw [e1, wr_small e2 _ (.inl rfl)]
  · rw [if_neg h, if_neg h, a255_eq]
    obtain ⟨k, e1, e2⟩ := emod_nat (iz i) 256 (by omega)
    have e1 : iz i % 256 = (k : Int) := e1
    rw [e1, wr_small e2 _ (.inl rfl)]
noncomputable def cMA3 (e : AEnd) : Cfg := ⟨[(17, spE e)], [(6, 2, { live := [0, 1, 2, 3, 14, 16], ids := [] })]⟩
theorem ma_lp (N k : Nat) (wb wf : Bool) (al : Nat) (wz : Nat → Int) (ib if' : Bool) (il : Nat) (iz : Nat → Int) (evs : LP) (res en : Int) (Z : Nat → Int) (h1 : 1 ≤ N) (hN : N ≤ 40) (hi : N ≤ il) (hZ : ∀ j, j < N → Z j = waR N (min al k) al wz iz j) (q : Nat) (i : Int) (hq : i = q) (hm : q ≤ N) :
    FrE XV.P (frH XV.P 6 1 [(0, iV (Int.ofNat N)), (1, iV (Int.ofNat k)), (2, rwI wb wf al wz), (3, rwI ib if' il iz), (14, .cp [evs.v, iV res, iV en, .lst false false N (fun i => [iV (Z i)])]), (16, iV i)]) (clM []) tT [] :=
  vl0 (c := cMA3 tT) (n := 20000) (by kernel_rfl)
    (ifs (c := ltI i (.ofNat N)) (fun h => by
      have h : i < (N : Int) := by simpa using h
      have i1 : (inI i N && true) = true := by simp; omega
      have i2 : (inI i il && true) = true := by simp; omega
      have nx := ma_lp N k wb wf al wz ib if' il iz evs res en Z h1 hN hi hZ (q + 1) (wr .i64 (i + 1)) (by rw [wr_id] <;> omega) (by omega)
      have wz' := hZ i.toNat (by omega)
      have ea : wr .i64 (wr .i64 (Int.ofNat N - 1) - i) = ((N - 1 - i.toNat : Nat) : Int) := by
        rw [wr_id (x := Int.ofNat N - 1) (by simp; omega) (by simp; omega), wr_id] <;> simp <;> omega
      have en1 : wr .i64 (wr .i64 (Int.ofNat N - 1) - i) < (k : Int) → wr .i64 (wr .i64 (Int.ofNat N - 1) - i) < (al : Int) → eqI (Z i.toNat) (a255 (wz (wr .i64 (wr .i64 (Int.ofNat N - 1) - i)).toNat)) = true := fun a b => by
        rw [ea] at a b ⊢
        rw [wz']
        unfold waR
        rw [if_pos (by omega)]
        simp
      have en2 : ¬ (wr .i64 (wr .i64 (Int.ofNat N - 1) - i) < (k : Int) ∧ wr .i64 (wr .i64 (Int.ofNat N - 1) - i) < (al : Int)) → eqI (Z i.toNat) (a255 (iz i.toNat)) = true := fun a => by
        rw [ea] at a
        rw [wz']
        unfold waR
        rw [if_neg (by omega)]
        simp
      exact ck i2 (ifs (c := ltI (wr .i64 (wr .i64 (Int.ofNat N - 1) - i)) (.ofNat k))
        (fun a => ifs (c := ltI (wr .i64 (wr .i64 (Int.ofNat N - 1) - i)) (.ofNat al))
          (fun b => by
            have a : wr .i64 (wr .i64 (Int.ofNat N - 1) - i) < (k : Int) := by simpa using a
            have b : wr .i64 (wr .i64 (Int.ofNat N - 1) - i) < (al : Int) := by simpa using b
            exact ck (c := inI (wr .i64 (wr .i64 (Int.ofNat N - 1) - i)) al && true) (by rw [ea] at b ⊢; simp; omega) (ck i1 (nf (y := tT) (c := !(eqI (Z i.toNat) (a255 (wz (wr .i64 (wr .i64 (Int.ofNat N - 1) - i)).toNat)))) (by rw [en1 a b]; rfl) (lp nx))))
          (fun b => by
            have b : ¬ wr .i64 (wr .i64 (Int.ofNat N - 1) - i) < (al : Int) := by simpa using b
            exact ck i1 (nf (y := tT) (c := !(eqI (Z i.toNat) (a255 (iz i.toNat)))) (by rw [en2 (fun x => b x.2)]; rfl) (lp nx))))
        (fun a => by
          have a : ¬ wr .i64 (wr .i64 (Int.ofNat N - 1) - i) < (k : Int) := by simpa using a
          exact ck i1 (nf (y := tT) (c := !(eqI (Z i.toNat) (a255 (iz i.toNat)))) (by rw [en2 (fun x => a x.1)]; rfl) (lp nx)))))
    (fun h => endI (wkE tT)))
    (by kernel_rfl)
termination_by N - q
decreasing_by omega
end Go.Proofs.YtpflobodmglmaaaGreat
