/- append, as the evaluator has it; the other built-in functions. No condition. -/
import Derived.Test.YtbknpfckdnladaaGreatAm
set_option linter.unusedVariables false
set_option maxHeartbeats 4000000
namespace Go.Proofs.YtbknpfckdnladaaGreat
section
variable {P : Program} {G : Gh} {ρ : Operand → Value} {ev : Operand → AV} {o : Oper} {w : World} {M M' : Mem} {r : AV}
theorem Ap.same {n cap fid : Nat} {t0 t1 e ty : TypeId} {i : TypeInfo} {d2 : TypeDesc} {ao : Option Addr} {x : Value} {gx : Nat → List AV} {x' s' : AV} (hs : St G w M)
    (h0 : undB P t0 = some (.slice e)) (hi : infoB P e = some i) (h1 : undB P t1 = some d2) (hd : notInt (some d2) = true) (h00 : 0 < i.size) (hc : n ≤ cap)
    (hx : RV G x x') (hgx : getSl M x' = some (0, gx)) (hx2 : RV G (.slice ao n cap) s') : Ap P G w M fid (Builtin.append_ #[t0, t1] ty #[.slice ao n cap, x]) s' M := by
  obtain ⟨hl, new, hnew, hns, hnr⟩ := src_ok (P := P) (w := w) hs hx hgx h00 (.inl rfl)
  have hrun := append_room (ty := ty) (ao := ao) (sLen := n) h0 hi h1 hd hl hnew hc
  have hn : new = #[] := Array.eq_empty_of_size_eq_zero (by simpa using hns)
  subst hn
  refine ⟨G, w, .slice ao n cap, ?_, hx2, hs, Ev.refl G w M, Ub.refl _ _⟩
  rw [hrun]
  cases ao with
  | none => rfl
  | some a => rfl
theorem ap_ok {t0 t1 ty : TypeId} {s x : Value} {s' x' : AV} {fid : Nat} (hs : St G w M) (hf : G.phi fid = none) (hfx : fid < M.nx) (hsv : RV G s s') (hx : RV G x x') (hc : (byOk P (undB P t0) && notInt (undB P t1)) = true) (h : oAppend (sliceSz P (undB P t0)) s' (getSl M x') M fid = .val r M') : Ap P G w M fid (Builtin.append_ #[t0, t1] ty #[s, x]) r M' := by
  simp only [Bool.and_eq_true] at hc
  obtain ⟨hb, hd⟩ := hc
  unfold byOk at hb
  split at hb
  · rename_i e hd0
    simp only [Bool.and_eq_true, Nat.ble_eq] at hb
    obtain ⟨hb, hz⟩ := hb
    unfold zlOk at hz
    split at hz
    · rename_i z hzc
      have hz := Nat.eq_of_beq_eq_true hz
      obtain ⟨_, _, _, _, a0, ha0⟩ := zeroC_ok (G := G) hzc w
      obtain ⟨i, hi, zv, hzv⟩ := zeroB_info ha0
      have hsz : szB P e = i.size := by unfold szB; rw [hi]
      have hby : bytB P e = i.bytes := by unfold bytB; rw [hi]
      have hzl : zv.cells.size = i.size := by rw [zero_len G hi hzv hzc, hz, hsz]
      obtain ⟨d2, hd2⟩ : ∃ d2, undB P t1 = some d2 := by
        cases hh : undB P t1 with
        | none => rw [hh] at hd; cases hd
        | some d2 => exact ⟨d2, rfl⟩
      rw [hd2] at hd
      rw [hd0] at h
      have h : oAppend (szB P e) s' (getSl M x') M fid = .val r M' := h
      rw [hsz] at h
      rw [hby] at hb
      unfold oAppend at h
      split at h
      · rename_i k gx hgx
        split at h
        · rename_i nl full n g _
          obtain ⟨h1, h⟩ := bif_no h
          simp only [Bool.and_eq_true, Nat.ble_eq, Nat.blt_eq, Bool.or_eq_true, Nat.beq_eq] at h1
          obtain ⟨rfl, h2, h3, h4, h5⟩ := h1
          obtain ⟨ao, cap, rfl, hcap⟩ : ∃ ao cap, s = .slice ao n cap ∧ cap = n := by
            cases hsv with
            | lstn => exact ⟨_, _, rfl, rfl⟩
            | lst vs hc hf2 _ _ _ => exact ⟨_, _, rfl, hf2 rfl⟩
          subst hcap
          cases k with
          | zero =>
            cases h
            exact Ap.same hs hd0 hi hd2 hd h3 (Nat.le_refl _) hx hgx hsv
          | succ k =>
            cases h
            exact Ap.grow hs hf hfx hd0 hi hzv hd2 hd rfl hzl h3 hb hx hgx h5 hsv rfl h4 (by omega) h2 (.inl rfl)
        · rename_i id off n full sz' _
          cases hcd : Nat.beq i.size sz' with
          | false => rw [hcd] at h; cases h
          | true =>
            rw [hcd] at h
            have e := Nat.eq_of_beq_eq_true hcd
            subst e
            have h : oAppSl id off n full i.size (.sl id off n full i.size) k gx (M.h.get id) M fid = .val r M' := h
            unfold oAppSl at h
            split at h
            · rename_i sz' n0 g hbb
              replace ⟨h1, h⟩ := bif_no h
              simp only [Bool.and_eq_true, Nat.ble_eq, Nat.blt_eq, Bool.or_eq_true, Nat.beq_eq] at h1
              obtain ⟨rfl, h2, h3, h4, h5⟩ := h1
              have hgs : getSl M (.sl id off n full i.size) = some (n, fun j => g (off + j)) := by
                show (match M.h.get id with | some (.row sz' n' g) => bif Nat.beq i.size sz' && Nat.ble (off + n) n' then some (n, fun j => g (off + j)) else none | _ => none) = _
                rw [hbb]
                have e1 : Nat.beq i.size i.size = true := Nat.beq_refl _
                have e2 : Nat.ble (off + n) n0 = true := Nat.ble_eq_true_of_le h3
                simp only [e1, e2]
                rfl
              obtain ⟨b, oo, cap, rfl, hcap, hfu⟩ : ∃ b oo cap, s = .slice (some ⟨b, oo, none⟩) n cap ∧ n ≤ cap ∧ (full = true → cap = n) := by
                cases hsv with
                | sl hp hc hf2 ht hoo => exact ⟨_, _, _, rfl, hc, hf2⟩
              cases k with
              | zero =>
                cases h
                exact Ap.same hs hd0 hi hd2 hd h4 hcap hx hgx hsv
              | succ k =>
                rcases h5 with h5 | ⟨h5, h6⟩
                · cases h5
                have hn1 : n = 0 ∨ ((fun j => g (off + j)) 0).length = i.size := by
                  cases hsv with
                  | sl hp hc hf2 ht hoo =>
                  rename_i base
                  obtain ⟨arr, t, hca, hsa, hta, hr⟩ := hs.blk _ _ _ _ hbb hp
                  by_cases hn0 : n = 0
                  · exact .inl hn0
                  · exact .inr (hr (off + 0) (by omega)).1
                cases full with
                | true =>
                  cases h
                  have := hfu rfl
                  exact Ap.grow hs hf hfx hd0 hi hzv hd2 hd rfl hzl h4 hb hx hgx (.inr h5) hsv hgs hn1 (by omega) h2 (.inl rfl)
                | false =>
                  cases h
                  by_cases hcc : n + (k + 1) ≤ cap
                  · refine Ap.room hs hf hfx hd0 hi hd2 hd rfl h4 hx hgx (by omega) h5 ?_ hsv hbb h3 hcc
                    simpa using h6
                  · exact Ap.grow hs hf hfx hd0 hi hzv hd2 hd rfl hzl h4 hb hx hgx (.inr h5) hsv hgs hn1 (by omega) h2 (.inr ⟨id, rfl⟩)
            · cases h
        · cases h
      · cases h
    · cases hz
  · cases hb
end
end Go.Proofs.YtbknpfckdnladaaGreat
