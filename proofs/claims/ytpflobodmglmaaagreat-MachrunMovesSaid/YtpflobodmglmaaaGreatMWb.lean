/- Several texts joined. No condition. -/
import Derived.Test.YtpflobodmglmaaaGreatMWa
import Derived.Test.YtpflobodmglmaaaGreatMJa
import Derived.Test.YtpflobodmglmaaaGreatMHl
import Derived.OpenShut
import Derived.ChangeArms
import Derived.DataReads
set_option linter.unusedVariables false
set_option linter.unusedSectionVars false
set_option maxHeartbeats 1000000
namespace Go.Proofs.YtpflobodmglmaaaGreat
noncomputable def rwP (b f : Bool) (n : Nat) (d a : Nat → Int) : AV := .lst b f n (fun i => [iV (d i), iV (a i)])
noncomputable def waA (q : Nat) : AV := match q with | 0 => nl | q + 1 => .sl 0 0 (q + 1) false 1
noncomputable def waM (q : Nat) (G : Nat → List AV) : List Blk := match q with | 0 => [] | q + 1 => [.row 1 (q + 1) G]
noncomputable def waG (iz : Nat → Int) (j : Nat) : List AV := [iV (a255 (iz j))]
noncomputable def cWa : Cfg := ⟨[], [(7, 0, { live := [0, 1, 2, 8, 10, 11, 12], ids := [.v 11] }), (7, 1000013, { live := [0, 1, 2, 8, 10, 11], ids := [.v 11] })]⟩
noncomputable def wa13 (N : Nat) (L I : AV) (t : List AV) (q : Nat) (G : Nat → List AV) : Prop := FrE XV.P (frR XV.P 7 13 [(0, iV (Int.ofNat N)), (1, L), (2, I), (8, .cp t), (10, nl), (11, waA q)]) (clM (waM q G)) tT []
section
variable (N : Nat) (T : ST) (lb lf : Bool) (ll : Nat) (ld la : Nat → Int) (ib if' : Bool) (il : Nat) (iz : Nat → Int) (h1 : 3 ≤ N) (h2 : N ≤ 30) (h5 : N ≤ il)
include h1 h2 h5
theorem wa_lp (K : ∀ G, (∀ j, j < N → G j = waG iz j) → wa13 N (rwP lb lf ll ld la) (rwI ib if' il iz) T.c N G) (q : Nat) (x : Int) (G : Nat → List AV) (hx : x = q) (hq : q ≤ N) (hG : ∀ j, j < q → G j = waG iz j) :
    FrE XV.P (frH XV.P 7 0 [(0, iV (Int.ofNat N)), (1, rwP lb lf ll ld la), (2, rwI ib if' il iz), (8, .cp T.c), (10, nl), (11, waA q), (12, iV x)]) (clM (waM q G)) tT [] := by
  have ex : x.toNat = q := by rw [hx]; rfl
  have wx : x < (N : Int) → wr .i64 (x + 1) = ((q + 1 : Nat) : Int) := fun h => by rw [wr_id] <;> omega
  have i1 : x < (N : Int) → (inI x il && true) = true := fun h => by simp; omega
  cases q with
  | zero =>
    exact vl0 (c := cWa) (n := 20000) (by kernel_rfl)
      (ifs (c := ltI x (.ofNat N)) (fun h => by
        have h : x < (N : Int) := by simpa using h
        exact ck (i1 h) (lp (wa_lp K 1 (wr .i64 (x + 1)) (fun _ => waG iz x.toNat) (wx h) (by omega) (fun j hj => by rw [show j = 0 by omega, ex]))))
      (fun h => lp (show wa13 N (rwP lb lf ll ld la) (rwI ib if' il iz) T.c 0 G from absurd h (by simp; omega))))
      (by kernel_rfl)
  | succ q =>
    exact vl0 (c := cWa) (n := 20000) (by kernel_rfl)
      (ifs (c := ltI x (.ofNat N)) (fun h => by
        have h : x < (N : Int) := by simpa using h
        exact ck (i1 h) (ck (c := true && (true && (Nat.ble (q + 1 + 1) 16777216 && (Nat.ble (0 + (q + 1)) (q + 1) && true)))) (by simp; omega) (lp (wa_lp K (q + 1 + 1) (wr .i64 (x + 1)) (app1 (q + 1) G (waG iz x.toNat)) (wx h) (by omega) (app1_eq hG (by rw [ex]) fun _ => rfl)))))
      (fun h => by
        have h : (N : Int) ≤ x := by simpa using h
        have k0 : wa13 N (rwP lb lf ll ld la) (rwI ib if' il iz) T.c (q + 1) (fz G) := by
          have := K (fz G) (fun j hj => fz_eq hG (fun _ => rfl) j (by omega))
          rwa [show N = q + 1 by omega] at this ⊢
        exact lp k0))
      (by kernel_rfl)
termination_by N - q
decreasing_by all_goals omega
end
end Go.Proofs.YtpflobodmglmaaaGreat
set_option linter.unusedVariables false
set_option linter.unusedSectionVars false
set_option maxHeartbeats 1000000
namespace Go.Proofs.YtpflobodmglmaaaGreat
noncomputable def mbA (q : Nat) : AV := match q with | 0 => nl | q + 1 => .sl 1 0 (q + 1) false 9
noncomputable def mbM (N q : Nat) (w : Nat → Int) (G : Nat → List AV) : List Blk := match q with | 0 => [.row 1 N (fun j => [iV (w j)])] | q + 1 => [.row 1 N (fun j => [iV (w j)]), .row 9 (q + 1) G]
noncomputable def wZ (w : Nat → Int) (d a : Int) (j : Nat) : Int := bif Nat.beq j (0 + d.toNat) then w (0 + a.toNat) else w j
noncomputable def wS (ld la w : Nat → Int) : Nat → Nat → Int
  | 0 => w
  | q + 1 => wZ (wS ld la w q) (ld q) (la q)
noncomputable def cMb : Cfg := ⟨[], [(7, 2, { live := [0, 1, 2, 8, 10, 11, 13], ids := [.v 11, .v 10] }), (7, 1000020, { live := [0, 2, 8, 10, 11], ids := [.v 11, .v 10] })]⟩
noncomputable def mb20 (N : Nat) (I : AV) (t : List AV) (q : Nat) (w : Nat → Int) (G : Nat → List AV) : Prop := FrE XV.P (frR XV.P 7 20 [(0, iV (Int.ofNat N)), (2, I), (8, .cp t), (10, mbA q), (11, .sl 0 0 N false 1)]) (clM (mbM N q w G)) tT []
section
variable (N : Nat) (T : ST) (lb lf : Bool) (ll : Nat) (ld la : Nat → Int) (ib if' : Bool) (il : Nat) (iz : Nat → Int) (w : Nat → Int) (h1 : 3 ≤ N) (h2 : N ≤ 30) (h6 : ll ≤ 60)
include h1 h2 h6
theorem mb_lp (K : ∀ G, (∀ i, i < ll → (0 ≤ ld i ∧ ld i < N) ∧ (0 ≤ la i ∧ la i < N)) → (∀ j, j < ll → G j = mvI (ld j) (la j)) → mb20 N (rwI ib if' il iz) T.c ll (wS ld la w ll) G) (q : Nat) (x : Int) (w' : Nat → Int) (G : Nat → List AV) (hx : x = q) (hq : q ≤ ll) (hw : w' = wS ld la w q) (hd : ∀ i, i < q → (0 ≤ ld i ∧ ld i < N) ∧ (0 ≤ la i ∧ la i < N)) (hG : ∀ j, j < q → G j = mvI (ld j) (la j)) :
    FrE XV.P (frH XV.P 7 1 [(0, iV (Int.ofNat N)), (1, rwP lb lf ll ld la), (2, rwI ib if' il iz), (8, .cp T.c), (10, mbA q), (11, .sl 0 0 N false 1), (13, iV x)]) (clM (mbM N q w' G)) tT [] := by
  have ex : x.toNat = q := by rw [hx]; rfl
  have wx : x < (ll : Int) → wr .i64 (x + 1) = ((q + 1 : Nat) : Int) := fun h => by rw [wr_id] <;> omega
  have i1 : x < (ll : Int) → (inI x ll && true) = true := fun h => by simp; omega
  have E : True ∧ WkE tT tT ∧ True := endI (wkE tT)
  cases q with
  | zero =>
    exact vl0 (c := cMb) (n := 20000) (by kernel_rfl)
      (ifs (c := ltI x (.ofNat ll)) (fun h => by
        have h : x < (ll : Int) := by simpa using h
        exact ck (i1 h) (ifs (c := ltI (ld x.toNat) 0) (fun _ => E) (fun a1 => ck (i1 h) (ifs (c := !(ltI (ld x.toNat) (.ofNat N))) (fun _ => E) (fun a2 => ck (i1 h) (ifs (c := ltI (la x.toNat) 0) (fun _ => E) (fun a3 => ck (i1 h) (ifs (c := !(ltI (la x.toNat) (.ofNat N))) (fun _ => E) (fun a4 => by
          have b : (0 ≤ ld 0 ∧ ld 0 < N) ∧ (0 ≤ la 0 ∧ la 0 < N) := by
            rw [ex] at a1 a2 a3 a4
            simp at a1 a2 a3 a4
            omega
          have k1 : (inI (la x.toNat) N && true) = true := by rw [ex]; simp; omega
          have k2 : (inI (ld x.toNat) N && true) = true := by rw [ex]; simp; omega
          have k5 : ((true && Nat.blt (0 + (la x.toNat).toNat) N) && true) = true := by rw [ex]; simp; omega
          have k3 : ((true && Nat.blt (0 + (ld x.toNat).toNat) N) && true) = true := by rw [ex]; simp; omega
          exact ck (i1 h) (ck (i1 h) (ck (i1 h) (ck (i1 h) (ck k1 (ck k5 (ck k2 (ck k3 (lp (mb_lp K 1 (wr .i64 (x + 1)) (wZ w' (ld x.toNat) (la x.toNat)) (fun _ => mvI (ld x.toNat) (la x.toNat)) (wx h) (by omega) (by rw [hw, ex]; rfl) (fun i hi => by rw [show i = 0 by omega]; exact b) (fun j hj => by rw [show j = 0 by omega, ex])))))))))))))))))))
      (fun h => lp (show mb20 N (rwI ib if' il iz) T.c 0 w' G from by
        have e : ll = 0 := by have : (ll : Int) ≤ x := by simpa using h
                              omega
        have := K G (fun i hi => by omega) (fun j hj => by omega)
        rw [e] at this
        rw [hw]
        exact this)))
      (by kernel_rfl)
  | succ q =>
    exact vl0 (c := cMb) (n := 20000) (by kernel_rfl)
      (ifs (c := ltI x (.ofNat ll)) (fun h => by
        have h : x < (ll : Int) := by simpa using h
        exact ck (i1 h) (ifs (c := ltI (ld x.toNat) 0) (fun _ => E) (fun a1 => ck (i1 h) (ifs (c := !(ltI (ld x.toNat) (.ofNat N))) (fun _ => E) (fun a2 => ck (i1 h) (ifs (c := ltI (la x.toNat) 0) (fun _ => E) (fun a3 => ck (i1 h) (ifs (c := !(ltI (la x.toNat) (.ofNat N))) (fun _ => E) (fun a4 => by
          have b : (0 ≤ ld (q + 1) ∧ ld (q + 1) < N) ∧ (0 ≤ la (q + 1) ∧ la (q + 1) < N) := by
            rw [ex] at a1 a2 a3 a4
            simp at a1 a2 a3 a4
            omega
          have k1 : (inI (la x.toNat) N && true) = true := by rw [ex]; simp; omega
          have k2 : (inI (ld x.toNat) N && true) = true := by rw [ex]; simp; omega
          have k5 : ((true && Nat.blt (0 + (la x.toNat).toNat) N) && true) = true := by rw [ex]; simp; omega
          have k3 : ((true && Nat.blt (0 + (ld x.toNat).toNat) N) && true) = true := by rw [ex]; simp; omega
          have k4 : (true && (true && (Nat.ble (q + 1 + 1) 16777216 && (Nat.ble (0 + (q + 1)) (q + 1) && true)))) = true := by simp; omega
          exact ck (i1 h) (ck (i1 h) (ck k4 (ck (i1 h) (ck (i1 h) (ck k1 (ck k5 (ck k2 (ck k3 (lp (mb_lp K (q + 1 + 1) (wr .i64 (x + 1)) (wZ w' (ld x.toNat) (la x.toNat)) (app1 (q + 1) G (mvI (ld x.toNat) (la x.toNat))) (wx h) (by omega) (by rw [hw, ex]; rfl) (fun i hi => by
              by_cases e : i = q + 1
              · rw [e]; exact b
              · exact hd i (by omega)) (app1_eq hG (by rw [ex]) fun _ => rfl))))))))))))))))))))
      (fun h => by
        have h : (ll : Int) ≤ x := by simpa using h
        have k0 : mb20 N (rwI ib if' il iz) T.c (q + 1) w' (fz G) := by
          have := K (fz G) (fun i hi => hd i (by omega)) (fun j hj => fz_eq hG (fun _ => rfl) j (by omega))
          rw [show ll = q + 1 by omega] at this
          rw [hw]
          exact this
        exact lp k0))
      (by kernel_rfl)
termination_by ll - q
decreasing_by all_goals omega
end
noncomputable def cMo : Cfg := ⟨[], [(7, 4, { live := [0, 11, 14, 16], ids := [] })]⟩
theorem mo_lp (N : Nat) (evs : LP) (res en : Int) (w Z : Nat → Int) (hN : N ≤ 40) (hZ : ∀ j, j < N → Z j = w j) (q : Nat) (i : Int) (hq : i = q) (hm : q ≤ N) :
    FrE XV.P (frH XV.P 7 2 [(0, iV (Int.ofNat N)), (11, .lst false false N (fun i => [iV (w i)])), (14, .cp [evs.v, iV res, iV en, .lst false false N (fun i => [iV (Z i)])]), (16, iV i)]) (clM []) tT [] :=
  vl0 (c := cMo) (n := 20000) (by kernel_rfl)
    (ifs (c := ltI i (.ofNat N)) (fun h => by
      have h : i < (N : Int) := by simpa using h
      have i1 : (inI i N && true) = true := by simp; omega
      have nx := mo_lp N evs res en w Z hN hZ (q + 1) (wr .i64 (i + 1)) (by rw [wr_id] <;> omega) (by omega)
      have wz' := hZ i.toNat (by omega)
      exact ck i1 (ck i1 (nf (y := tT) (c := !(eqI (Z i.toNat) (w i.toNat))) (by rw [wz']; simp) (lp nx))))
    (fun h => endI (wkE tT)))
    (by kernel_rfl)
termination_by N - q
decreasing_by omega
end Go.Proofs.YtpflobodmglmaaaGreat
set_option linter.unusedVariables false
set_option linter.unusedSectionVars false
set_option maxHeartbeats 1000000
namespace Go.Proofs.YtpflobodmglmaaaGreat
noncomputable def kkM (m i : Nat) : Int := bif Nat.blt i m then 2 else 9
noncomputable def ddM (m : Nat) (d : Nat → Int) (i : Nat) : Int := bif Nat.blt i m then d i else 0
theorem mv_ws (m : Nat) (ld la iz : Nat → Int) : ∀ q, q ≤ m → ∀ j, mvS (ddM m ld) (ddM m la) (roZ iz) q j = wS ld la (fun j => a255 (iz j)) q j ∧ ∃ k : Nat, wS ld la (fun j => a255 (iz j)) q j = (k : Int) ∧ k < 256
  | 0, _, j => by
    show roZ iz j = a255 (iz j) ∧ ∃ k : Nat, a255 (iz j) = (k : Int) ∧ k < 256
    rw [roZ_eq, a255_eq]
    exact ⟨rfl, emod_nat _ 256 (by omega)⟩
  | q + 1, hq, j => by
    have ih := mv_ws m ld la iz q (by omega)
    show mvZ (mvS (ddM m ld) (ddM m la) (roZ iz) q) (ddM m ld q) (ddM m la q) j = wZ (wS ld la (fun j => a255 (iz j)) q) (ld q) (la q) j ∧ ∃ k : Nat, wZ (wS ld la (fun j => a255 (iz j)) q) (ld q) (la q) j = (k : Int) ∧ k < 256
    have e1 : ddM m ld q = ld q := by unfold ddM; rw [blt_t (by omega)]; rfl
    have e2 : ddM m la q = la q := by unfold ddM; rw [blt_t (by omega)]; rfl
    rw [e1, e2]
    unfold mvZ wZ
    rw [show (Int.ofNat (ld q).toNat).toNat = (ld q).toNat from rfl, show (Int.ofNat (la q).toNat).toNat = (la q).toNat from rfl]
    cases h : Nat.beq j (0 + (ld q).toNat) with
    | false => exact ih j
    | true =>
      rw [cond_true, cond_true]
      obtain ⟨a1, k1, b1, c1⟩ := ih (0 + (ld q).toNat)
      obtain ⟨a2, k2, b2, c2⟩ := ih (0 + (la q).toNat)
      rw [a1, a2, b1, b2, rd8_eq (by omega) (by omega), wr8_eq c1]
      exact ⟨by omega, k2, rfl, c2⟩
/-- The machine. -/
noncomputable def fmM (N : Nat) : Fm := ⟨N, true, 0, fun _ => b0', false, true, 1, fun _ => nm 0, true, 0, fun _ => b0'⟩
theorem fmM_ok {N : Nat} (h1 : 3 ≤ N) (h2 : N ≤ 30) : FmOk (fmM N) :=
  ⟨⟨h1, h2⟩, ⟨fun _ => rfl, by show 0 ≤ 1; omega, fun i hi => absurd hi (by show ¬ i < 0; omega)⟩, ⟨(fun e => by cases e), by show 1 ≤ 65536; omega⟩, ⟨fun _ => rfl, by show 0 ≤ 1; omega, fun i hi => absurd hi (by show ¬ i < 0; omega)⟩⟩
noncomputable def stM0 (N : Nat) : ST := sT (fmM N) (fun _ => 0) (fun _ => 0)
theorem makeM0 {N : Nat} (h1 : 3 ≤ N) (h2 : N ≤ 30) : CtE XV.P 23 [.agg (smL N regR nmR nl ar0 nl)] [] (mkE (smF (fmM N))) [] := by
  have ok := fmM_ok h1 h2
  obtain ⟨m, rfl⟩ : ∃ m, N = m + 3 := ⟨N - 3, by omega⟩
  have ck := check00 m (by omega) (pl_all (m + 3) h1 h2) true (fun _ => b0') true (fun _ => b0')
  refine ct_wk (.cons (wkv_agg (.cons (.refl _) (.cons (.refl _) (.cons (.refl _) (.cons (wkv_lst rfl id fun i hi => ?_) (.cons (wkv_lst rfl id fun i hi => .of (by rw [show i = 0 by omega]; rfl)) (.cons (.refl _) (.cons (wkv_lst rfl id fun i hi => by omega) (.refl _))))))))) .nil) (make_small (fmM (m + 3)) ok (pl_all (m + 3) h1 h2) ck)
  rcases (show i = 0 ∨ i = 1 ∨ i = 2 by omega) with e | e | e <;> subst e
  · exact .cons (.refl _) (.cons (.refl _) (.cons (.refl _) (.cons (.refl _) (.cons (.refl _) (.cons (wkv_lst rfl id fun i hi => by omega) .nil)))))
  · exact .refl _
  · exact .refl _
noncomputable def cM20 (e : AEnd) : Cfg := ⟨[(17, spE e)], [(7, 4, { live := [0, 11, 14, 16], ids := [] })]⟩
theorem mv20 (N ll : Nat) (ld la : Nat → Int) (ib if' : Bool) (il : Nat) (iz : Nat → Int) (h1 : 3 ≤ N) (h2 : N ≤ 30) (h5 : N ≤ il) (h6 : ll ≤ 60) (G : Nat → List AV) (hb : ∀ i, i < ll → (0 ≤ ld i ∧ ld i < N) ∧ (0 ≤ la i ∧ la i < N)) (hG : ∀ j, j < ll → G j = mvI (ld j) (la j)) :
    mb20 N (rwI ib if' il iz) (stM0 N).c ll (wS ld la (fun j => a255 (iz j)) ll) G := by
  have ok := fmM_ok h1 h2
  have hm := copy2 (fmM N) ok (fun _ => 0) (fun _ => 0)
  have h0 : giV ((stM0 N).hr (nm 0)) = 0 := hr_nm (n := N) (j := 0) h2 (by omega)
  obtain ⟨n0, rfl⟩ : ∃ n0, N = n0 + 1 := ⟨N - 1, by omega⟩
  have run := runM_ok (stM0 (n0 + 1)) ll (by omega) (kkM ll) (ddM ll ld) (ddM ll la) (fun i hi => by
    have b := hb i hi
    unfold kkM ddM
    rw [blt_t hi]
    exact ⟨rfl, ⟨b.1.1, b.1.2⟩, b.2.1, b.2.2⟩) (by unfold kkM ddM; rw [blt_f (Nat.le_refl _)]; exact ⟨rfl, rfl, rfl⟩) n0 rfl (by omega) h6 h0 ib if' il iz h5 hm
  have eq := mv_ws ll ld la iz ll (Nat.le_refl _)
  have lpp := mo_lp (n0 + 1) LP.nil (rd8 (mvS (ddM ll ld) (ddM ll la) (roZ iz) ll (0 + (Int.ofNat (giV ((stM0 (n0 + 1)).hr (nm 0))).toNat).toNat))) 0 (fun j => wS ld la (fun j => a255 (iz j)) ll (0 + j)) (fun j => wr .i64 (mvS (ddM ll ld) (ddM ll la) (roZ iz) ll j)) (by omega) (fun j hj => by
    obtain ⟨a, k, b, c⟩ := eq j
    rw [Nat.zero_add, a, b, wr_small c _ (.inl rfl)]) 0 0 rfl (Nat.zero_le _)
  have row : ∀ (n : Nat) (g : Nat → List AV), n = ll + 1 → (∀ j, j < ll + 1 → g j = mvR (kkM ll) (ddM ll ld) (ddM ll la) j) → CtE XV.P 17 [.cp (stM0 (n0 + 1)).c, .agg [.str ⟨#[102]⟩, iV 0, .lst false true 1 (rowL [[.lst false false n g]])], .agg [nl, nl, nl, iV 100, rwI ib if' il iz, iV 0]] [] (runE (rdM (stM0 (n0 + 1)) ll (kkM ll) (ddM ll ld) (ddM ll la) (rd8 (mvS (ddM ll ld) (ddM ll la) (roZ iz) ll (0 + (Int.ofNat (giV ((stM0 (n0 + 1)).hr (nm 0))).toNat).toNat)))) (n0 + 1) (mvS (ddM ll ld) (ddM ll la) (roZ iz) ll)) [] := fun n g hn hg => by
    subst hn
    exact ct_wk (.cons (.refl _) (.cons (wkv_agg (.cons (.refl _) (.cons (.refl _) (.cons (wkv_lst rfl id fun i hi => by
      rw [show i = 0 by omega]
      exact .cons (wkv_lst rfl id fun j hj => .of (hg j hj)) .nil) .nil)))) (.cons (.refl _) .nil))) run
  have r9 : rI = mvR (kkM ll) (ddM ll ld) (ddM ll la) ll := by
    unfold mvR kkM ddM
    rw [blt_f (Nat.le_refl _)]
    rfl
  have rm : ∀ j, j < ll → mvI (ld j) (la j) = mvR (kkM ll) (ddM ll ld) (ddM ll la) j := fun j hj => by
    unfold mvR kkM ddM
    rw [blt_t hj]
    rfl
  generalize hE : runE (rdM (stM0 (n0 + 1)) ll (kkM ll) (ddM ll ld) (ddM ll la) (rd8 (mvS (ddM ll ld) (ddM ll la) (roZ iz) ll (0 + (Int.ofNat (giV ((stM0 (n0 + 1)).hr (nm 0))).toNat).toNat)))) (n0 + 1) (mvS (ddM ll ld) (ddM ll la) (roZ iz) ll) = e at row
  have lpp' := lpp
  cases ll with
  | zero =>
    have r := row 1 (fun i => rI.map frz0) rfl fun j hj => by rw [show j = 0 by omega]; exact r9
    subst hE
    exact vlR (c := cM20 (runE (rdM (stM0 (n0 + 1)) 0 (kkM 0) (ddM 0 ld) (ddM 0 la) (rd8 (mvS (ddM 0 ld) (ddM 0 la) (roZ iz) 0 (0 + (Int.ofNat (giV ((stM0 (n0 + 1)).hr (nm 0))).toNat).toNat)))) (n0 + 1) (mvS (ddM 0 ld) (ddM 0 la) (roZ iz) 0))) (n := 20000) (by kernel_rfl) hN0 (by simp)
      (clp (p := 0 + 1 ≤ 1 ∧ (0 + 1 ≤ 1 ∧ True)) ⟨by omega, by omega, trivial⟩ r (nf (y := tT) (c := !(eqI (.ofNat (n0 + 1)) (.ofNat (n0 + 1)))) (by simp) (cl0 (show 0 + (n0 + 1) ≤ n0 + 1 by omega) lpp)))
      (by kernel_rfl)
  | succ q =>
    have r := row (q + 1 + 1) (fun i => (rw1 (q + 1) G rI (0 + i)).map frz0) rfl fun j hj => by
      rw [Nat.zero_add]
      have := rw1_eq (n := q + 1) (g := G) (R := mvR (kkM (q + 1)) (ddM (q + 1) ld) (ddM (q + 1) la)) (cs := rI) (fun j hj => (hG j hj).trans (rm j hj)) r9 j hj
      rw [this]
      rfl
    subst hE
    exact vlR (c := cM20 (runE (rdM (stM0 (n0 + 1)) (q + 1) (kkM (q + 1)) (ddM (q + 1) ld) (ddM (q + 1) la) (rd8 (mvS (ddM (q + 1) ld) (ddM (q + 1) la) (roZ iz) (q + 1) (0 + (Int.ofNat (giV ((stM0 (n0 + 1)).hr (nm 0))).toNat).toNat)))) (n0 + 1) (mvS (ddM (q + 1) ld) (ddM (q + 1) la) (roZ iz) (q + 1)))) (n := 20000) (by kernel_rfl) hN0 (by simp)
      (ck (c := true && (true && (Nat.ble (q + 1 + 1) 16777216 && (Nat.ble (0 + (q + 1)) (q + 1) && true)))) (by simp; omega) (clp (p := 0 + 1 ≤ 1 ∧ (0 + (q + 1 + 1) ≤ q + 1 + 1 ∧ True)) ⟨by omega, by omega, trivial⟩ r (nf (y := tT) (c := !(eqI (.ofNat (n0 + 1)) (.ofNat (n0 + 1)))) (by simp) (cl0 (show 0 + (n0 + 1) ≤ n0 + 1 by omega) lpp))))
      (by kernel_rfl)
noncomputable def cMV1 (N : Nat) : Cfg := ⟨[(12, spT), (22, spE (smV N)), (23, spE (mkE (smF (fmM N))))], [(7, 0, { live := [0, 1, 2, 8, 10, 11, 12], ids := [.v 11] })]⟩
noncomputable def cMV2 : Cfg := ⟨[], [(7, 2, { live := [0, 1, 2, 8, 10, 11, 13], ids := [.v 11, .v 10] })]⟩
theorem mv13 (N : Nat) (lb lf : Bool) (ll : Nat) (ld la : Nat → Int) (ib if' : Bool) (il : Nat) (iz : Nat → Int) (h1 : 3 ≤ N) (h2 : N ≤ 30) (h5 : N ≤ il) (h6 : ll ≤ 60) (G : Nat → List AV) (hG : ∀ j, j < N → G j = waG iz j) : wa13 N (rwP lb lf ll ld la) (rwI ib if' il iz) (stM0 N).c N G := by
  have nx := mb_lp N (stM0 N) lb lf ll ld la ib if' il iz (fun j => a255 (iz j)) h1 h2 h6 (fun G a b => mv20 N ll ld la ib if' il iz h1 h2 h5 h6 G a b) 0 0 (fun j => a255 (iz j)) (fun _ => []) rfl (Nat.zero_le _) rfl (fun i hi => by omega) (fun j hj => by omega)
  obtain ⟨n0, rfl⟩ : ∃ n0, N = n0 + 1 := ⟨N - 1, by omega⟩
  refine fr_wkB (.cons (by simp) (by simp) (wkB_row fun j hj => .of (hG j hj)) .nil) (show wa13 (n0 + 1) (rwP lb lf ll ld la) (rwI ib if' il iz) (stM0 (n0 + 1)).c (n0 + 1) (waG iz) from ?_)
  exact vlR (c := cMV2) (n := 20000) (by kernel_rfl) hN0 (by simp) (lp nx) (by kernel_rfl)
theorem moves_ok (hal : CtE XV.P 12 [] [] tT []) (n : Int) (lb lf : Bool) (ll : Nat) (ld la : Nat → Int) (ib if' : Bool) (il : Nat) (iz : Nat → Int) : CtE XV.P 7 [iV n, rwP lb lf ll ld la, rwI ib if' il iz] [] tT [] := by
  have E : True ∧ WkE tT tT ∧ True := endI (wkE tT)
  cases n with
  | negSucc j => exact vc0 (c := cMV1 0) (n := 20000) (by kernel_rfl) (cl hal E) (by kernel_rfl)
  | ofNat N =>
    exact vc0 (c := cMV1 N) (n := 20000) (by kernel_rfl)
      (cl hal (ifs (c := ltI (.ofNat N) 3) (fun _ => E) (fun a1 => ifs (c := ltI 30 (.ofNat N)) (fun _ => E) (fun a2 => ifs (c := ltI 60 (.ofNat ll)) (fun _ => E) (fun a6 => ifs (c := ltI (.ofNat il) (.ofNat N)) (fun _ => E) (fun a5 => by
        simp only [Int.ofNat_eq_natCast, ltI_f] at a1 a2 a5 a6
        have small : CtE XV.P 22 [iV (Int.ofNat N)] [] (smV N) [] := by
          obtain ⟨n0, rfl⟩ : ∃ n0, N = n0 + 1 := ⟨N - 1, by omega⟩
          exact small_ok n0 (by omega)
        have wk : WkV (.cp ((smF (fmM N)).ck (setS (svP (smF (fmM N)))))) (.cp (stM0 N).c) := wkv_cp (sT_wk (fmM N) (fun _ => 0) (fun _ => 0) (fun i hi => absurd hi (Nat.not_lt_zero i)) (fun i hi => by
          have e : i = 0 := by have : i < 1 := hi
                               omega
          subst e
          exact hr_nm (n := N) (j := 0) (by omega) (by omega)))
        have nx := wa_lp N (stM0 N) lb lf ll ld la ib if' il iz (by omega) (by omega) (show N ≤ il by omega) (fun G hG => mv13 N lb lf ll ld la ib if' il iz (by omega) (by omega) (by omega) (by omega) G hG) 0 0 (fun _ => []) rfl (Nat.zero_le _) (fun j hj => by omega)
        have nx2 : FrE XV.P (frH XV.P 7 0 [(0, iV (Int.ofNat N)), (1, rwP lb lf ll ld la), (2, rwI ib if' il iz), (8, .cp ((smF (fmM N)).ck (setS (svP (smF (fmM N)))))), (10, nl), (11, nl), (12, iV 0)]) (clM []) tT [] := by
          refine fr_wkT (L' := [(0, iV (Int.ofNat N)), (1, rwP lb lf ll ld la), (2, rwI ib if' il iz), (8, .cp (stM0 N).c), (10, nl), (11, nl), (12, iV 0)]) ⟨rfl, .refl _, rfl, .refl _, rfl, .refl _, rfl, wk, rfl, .refl _, rfl, .refl _, rfl, .refl _, trivial⟩ ?_
          exact nx
        exact cl small (cl (makeM0 (N := N) (by omega) (by omega)) (lp nx2))))))))
      (by kernel_rfl)
end Go.Proofs.YtpflobodmglmaaaGreat
set_option linter.unusedVariables false
set_option maxHeartbeats 1000000
namespace Go.Proofs.YtpflobodmglmaaaGreat
open Go.RowKit Go.ChangeShapes
theorem pick_lt {α : Type} {R : Nat → α → Prop} : ∀ {n : Nat}, (∀ i, i < n → ∃ x, R i x) → (d : α) → ∃ f : Nat → α, ∀ i, i < n → R i (f i)
  | 0, _, d => ⟨fun _ => d, fun i hi => by omega⟩
  | n + 1, h, d => by
    obtain ⟨f, hf⟩ := pick_lt (n := n) (fun i hi => h i (by omega)) d
    obtain ⟨x, hx⟩ := h n (by omega)
    refine ⟨fun i => if i = n then x else f i, fun i hi => ?_⟩
    by_cases e : i = n
    · subst e
      show R i (if i = i then x else f i)
      rw [if_pos rfl]
      exact hx
    · show R i (if i = n then x else f i)
      rw [if_neg e]
      exact hf i (by omega)
theorem Addr.at_none {b o i : Nat} : (⟨b, o, none⟩ : Addr).add i = ⟨b, o + i, none⟩ := by
  unfold Addr.add
  by_cases e : i = 0
  · rw [if_pos e, e]; rfl
  · rw [if_neg e]
/-- Cells that came in, and what they are. -/
def RVl (w : World) (cs : List Value) (bs : List AV) : Prop := cs.length = bs.length ∧ ∀ (j : Nat) (v : Value) (a : AV), cs[j]? = some v → bs[j]? = some a → RV (Gw w) v a
/-- A slice that came in, by what its elements are. -/
theorem slice_rv {H : Type} {enc : TypeId × Value → H} {P : Program} {w : World} {base fuel size : Nat} {spare : Nat → Bool} {held : Bool} {t e : TypeId} {a : Option Addr} {len cap : Nat} {x : DataW H × List MemPlace} {D : Type} (d0 : D) (R : D → List AV)
    (ht : P.underlying t = some (.slice e)) (hc : P.cellsOf e = size) (hsp : ∀ y, a = some y → y.spot = none)
    (hel : ∀ (n : Nat) (cs : List Value) (y : DataW H × List MemPlace), DataW.trod enc P w base spare held n e cs = some y → cs.length = size → ∃ d : D, RVl w cs (R d))
    (h : DataW.trod enc P w base spare held fuel t [.slice a len cap] = some x) : ∃ (nb f : Bool) (g : Nat → D), RV (Gw w) (.slice a len cap) (.lst nb f len (fun i => R (g i))) := by
  rcases DataW.trod_slice ht h with ⟨hcs, _⟩ | ⟨ad, len', cap', elems, rest, n, hf, hcs, _, hb, hl, hm, hlen, hcell, _, _⟩
  · have : a = none ∧ len = 0 ∧ cap = 0 := by simpa using hcs
    obtain ⟨rfl, rfl, rfl⟩ := this
    exact ⟨true, true, fun _ => d0, .lstn⟩
  · have : a = some ad ∧ len = len' ∧ cap = cap' := by simpa using hcs
    obtain ⟨rfl, rfl, rfl⟩ := this
    have hs := hsp ad rfl
    obtain ⟨b, o, s⟩ := ad
    have hs : s = none := hs
    subst hs
    rw [hc] at hcell
    have key : ∀ i, i < len → ∃ d : D, (R d).length = size ∧ ∀ j, j < size → ∃ v, w.cell? ⟨b, o + (i * size + j), none⟩ = some v ∧ ∀ c, (R d)[j]? = some c → RV (Gw w) v c := fun i hi => by
      have k := hcell i hi
      rw [List.getElem?_eq_getElem (by omega)] at k
      obtain ⟨r, h1, h2⟩ := Option.bind_eq_some_iff.1 k
      obtain ⟨_, hlr, hcr⟩ := World.cells?_some h1
      obtain ⟨d, hd1, hd2⟩ := hel n r _ h2 hlr
      refine ⟨d, by rw [← hd1, hlr], fun j hj => ?_⟩
      have := hcr j hj
      rw [Addr.at_none, Addr.at_none, List.getElem?_eq_getElem (by omega)] at this
      rw [← Nat.add_assoc]
      exact ⟨_, this, fun c hc => hd2 j _ c (List.getElem?_eq_getElem (by omega)) hc⟩
    obtain ⟨g, hg⟩ := pick_lt key d0
    refine ⟨false, false, g, RV.lst (sz := size) (fun i j => (w.cell? ⟨b, o + (i * size + j), none⟩).getD .nilIface) hl (fun h => by cases h) (fun i hi => (hg i hi).1) (fun i j c hi hc => ?_) (fun i j c hi hc => ?_)⟩
    · have hj : j < size := by rw [← (hg i hi).1]; exact (List.getElem?_eq_some_iff.1 hc).1
      obtain ⟨v, h1, _⟩ := (hg i hi).2 j hj
      show w.cell? ⟨b, o + (i * size + j), none⟩ = some ((w.cell? ⟨b, o + (i * size + j), none⟩).getD .nilIface)
      rw [h1]
      rfl
    · have hj : j < size := by rw [← (hg i hi).1]; exact (List.getElem?_eq_some_iff.1 hc).1
      obtain ⟨v, h1, h2⟩ := (hg i hi).2 j hj
      show RV (Gw w) ((w.cell? ⟨b, o + (i * size + j), none⟩).getD .nilIface) c
      rw [h1]
      exact h2 c hc
theorem int_rv {H : Type} {enc : TypeId × Value → H} {P : Program} {w : World} {base fuel : Nat} {spare : Nat → Bool} {held : Bool} {t : TypeId} {v : Value} {x : DataW H × List MemPlace} {k : IntKind} (ht : P.underlying t = some (.int k)) (h : DataW.trod enc P w base spare held fuel t [v] = some x) : ∃ n : Int, v = .int k n ∧ (Lit.int k n).wf = true := by
  obtain ⟨n, h1, _, h2⟩ := DataW.trod_int ht h
  exact ⟨n, by simpa using h1, h2⟩
theorem RVl.one {w : World} {v : Value} {a : AV} (h : RV (Gw w) v a) : RVl w [v] [a] := ⟨rfl, fun j v' a' e f => by
  cases j with
  | zero => cases e; cases f; exact h
  | succ j => simp at e⟩
theorem RVl.cons {w : World} {v : Value} {a : AV} {cs : List Value} {bs : List AV} (h : RV (Gw w) v a) (t : RVl w cs bs) : RVl w (v :: cs) (a :: bs) := ⟨by simp [t.1], fun j v' a' e f => by
  cases j with
  | zero => cases e; cases f; exact h
  | succ j => exact t.2 j v' a' (by simpa using e) (by simpa using f)⟩
end Go.Proofs.YtpflobodmglmaaaGreat
set_option linter.unusedVariables false
set_option maxHeartbeats 1000000
namespace Go.Proofs.YtpflobodmglmaaaGreat
open Go.RowKit Go.ChangeShapes
set_option maxRecDepth 100000 in
theorem pairs_rv {H : Type} {enc : TypeId × Value → H} {w : World} {base fuel : Nat} {spare : Nat → Bool} {held : Bool} {a : Option Addr} {len cap : Nat} {x : DataW H × List MemPlace} (hsp : ∀ y, a = some y → y.spot = none)
    (h : DataW.trod enc Tryz.prog w base spare held fuel 73 [.slice a len cap] = some x) : ∃ (nb f : Bool) (d s : Nat → Int), RV (Gw w) (.slice a len cap) (rwP nb f len d s) := by
  obtain ⟨nb, f, g, hr⟩ := slice_rv (D := Int × Int) (0, 0) (fun p => [iV p.1, iV p.2]) Tryz.underlying73 (size := 2) (by kernel_rfl) hsp (fun n cs y hy hl => by
    obtain ⟨xs, m, _, _, _, hxl, hx⟩ := DataW.trod_array Tryz.underlying74 hy
    match cs, hl with
    | [u, v], _ =>
      have c1 : Tryz.prog.cellsOf 3 = 1 := by kernel_rfl
      have h0 := hx 0 (by omega)
      have h1 := hx 1 (by omega)
      rw [c1, List.getElem?_eq_getElem (by omega)] at h0 h1
      obtain ⟨n0, e0, _⟩ := int_rv Tryz.underlying3 (show DataW.trod enc Tryz.prog w base spare held m 3 [u] = _ from h0)
      obtain ⟨n1, e1, _⟩ := int_rv Tryz.underlying3 (show DataW.trod enc Tryz.prog w base spare held m 3 [v] = _ from h1)
      subst e0
      subst e1
      exact ⟨(n0, n1), .cons (.int _ _) (.one (.int _ _))⟩) h
  exact ⟨nb, f, fun i => (g i).1, fun i => (g i).2, hr⟩
theorem machrunMoves_any (a0 : Int) (a1 : Option Addr) (len1 cap1 : Nat) (a2 : Option Addr) (len2 cap2 : Nat) (z2 : List Int) (w : World)
    (w1 : ∃ (nb f : Bool) (d s : Nat → Int), RV (Gw w) (.slice a1 len1 cap1) (rwP nb f len1 d s))
    (w2 : (a2 = none ∧ len2 = 0 ∧ cap2 = 0 ∧ z2 = []) ∨ ∃ x, a2 = some x ∧ x.spot = none ∧ len2 ≤ cap2 ∧ cap2 ≤ maxLen ∧ z2.length = cap2 ∧ (∀ i, i < z2.length → w.cell? (x.add i) = some (.int .i64 (z2.getD i 0))) ∧ ∀ n ∈ z2, (Lit.int .i64 n).wf = true) :
    Calls Tryz.prog 7 #[.int .i64 a0, .slice a1 len1 cap1, .slice a2 len2 cap2] w fun e w' => e = .returned (.bool true) ∧ Below w.heap.size w w' := by
  obtain ⟨nb1, f1, d, s, h1⟩ := w1
  obtain ⟨nb2, f2, h2⟩ := isrw_rv w2
  have hv : RVs (Gw w) #[.int .i64 a0, .slice a1 len1 cap1, .slice a2 len2 cap2] [iV a0, rwP nb1 f1 len1 d s, rwI nb2 f2 len2 (fun i => z2.getD i 0)] := Rl.ok (.cons (.int _ _) (.cons h1 (.cons h2 .nil)))
  exact law_cte hv (moves_ok alive13 a0 nb1 f1 len1 d s nb2 f2 len2 fun i => z2.getD i 0)
end Go.Proofs.YtpflobodmglmaaaGreat
