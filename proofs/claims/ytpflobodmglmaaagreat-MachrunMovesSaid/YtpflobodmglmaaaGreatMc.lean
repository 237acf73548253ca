/- Several texts joined. No condition. -/
import Derived.Test.YtpflobodmglmaaaGreatMb
import Derived.RangeFuncRecord
import Derived.RangeFuncNested
set_option linter.unusedVariables false
set_option maxHeartbeats 4000000
namespace Go.Proofs.YtpflobodmglmaaaGreat
section
variable {P : Program} {G : Gh} {ρ : Operand → Value} {ev : Operand → AV} {o : Oper} {w : World} {M M' : Mem} {r : AV}
/-- What append answers. -/
def Ap (P : Program) (G : Gh) (w : World) (M : Mem) (fid : Nat) (s : Sem Value) (a : AV) (M' : Mem) : Prop := ∃ G' w' v, s.run P w = .ok v w' ∧ RV G' v a ∧ St G' w' M' ∧ Ev G w M G' w' M' ∧ Ub (· ≠ fid) G G'
theorem Ap.grow {sz n k fid : Nat} {t0 t1 e ty : TypeId} {i : TypeInfo} {d2 : TypeDesc} {z : Value} {ao : Option Addr} {x : Value} {cap : Nat} {g gx : Nat → List AV} {x' s' : AV} {lg : List Nat} {h : Tr Blk} (hs : St G w M) (hf : G.phi fid = none) (hfx : fid < M.nx)
    (h0 : undB P t0 = some (.slice e)) (hi : infoB P e = some i) (hz : i.zero = some z) (h1 : undB P t1 = some d2) (hd : notInt (some d2) = true) (hsz : i.size = sz) (hzs : z.cells.size = sz) (h00 : 0 < sz) (hby : i.bytes ≤ 65536)
    (hx : RV G x x') (hgx : getSl M x' = some (k, gx)) (hk1 : k = 0 ∨ (gx 0).length = sz) (hx2 : RV G (.slice ao n cap) s') (hgs : getSl M s' = some (n, g)) (hn1 : n = 0 ∨ (g 0).length = sz) (hc : cap < n + k) (hb : n + k ≤ 16777216)
    (hh : h = M.h ∨ ∃ id, h = M.h.set id .gone) : Ap P G w M fid (Builtin.append_ #[t0, t1] ty #[.slice ao n cap, x]) (.sl fid 0 (n + k) false sz) ⟨h.set fid (.row sz (n + k) (appRow n k g gx)), M.nx, lg⟩ := by
  have hsd : St G w.drew M := hs.congr rfl (fun _ => rfl) (Nat.le_refl _)
  obtain ⟨hl, new, hnew, hns, hnr⟩ := src_ok (P := P) (w := w.drew) hsd hx hgx h00 hk1
  obtain ⟨_, old, hold, hos, hor⟩ := src_ok (P := P) (w := w.drew) hsd hx2 hgs h00 hn1
  obtain ⟨hl', _⟩ := src_ok (P := P) (w := w) hs hx hgx h00 hk1
  subst hsz
  obtain ⟨nc, hnc, hrun⟩ := append_grow (ty := ty) h0 hi hz h1 hd hl' hnew hold hc hb hby
  have e1 : Ev G w M G w.drew M := Ev.congr rfl ⟨rfl, rfl, rfl⟩ (fun _ => rfl) (Nat.le_refl _)
  have hsM : St G w.drew ⟨h, M.nx, lg⟩ ∧ Ev G w.drew M G w.drew ⟨h, M.nx, lg⟩ := by
    rcases hh with rfl | ⟨id, rfl⟩
    · exact ⟨hsd.congr rfl (fun _ => rfl) (Nat.le_refl _), Ev.congr rfl ⟨rfl, rfl, rfl⟩ (fun _ => rfl) (Nat.le_refl _)⟩
    · exact hsd.drop
  generalize hzz : Builtin.zeroCells z.cells (nc - (n + k)) = zs at hrun
  have hzl : zs.size = (nc - (n + k)) * i.size := by rw [← hzz]; simp [Builtin.zeroCells, hzs]
  have hcells : (old ++ new ++ zs).size = nc * i.size := by
    rw [Array.size_append, Array.size_append, hos, hns, hzl, ← Nat.add_mul, ← Nat.add_mul]
    congr 1
    omega
  have hle : (n + k) * i.size ≤ nc * i.size := Nat.mul_le_mul_right _ hnc
  have hrow := hor.app hnr (rest := zs) hos hns
  have htot : (G.new fid w.drew.heap.size (nc * i.size)).tot w.drew.heap.size = nc * i.size := if_pos rfl
  have hp : (G.new fid w.drew.heap.size (nc * i.size)).phi fid = some (w.drew.heap.size, 0) := if_pos rfl
  obtain ⟨s1, e3⟩ := St.alloc (n := nc * i.size) (ob := .cells (old ++ new ++ zs) e) (k := .row i.size (n + k) (appRow n k g gx)) hsM.1 hf hfx ⟨_, e, heap_push_eq, by omega, by rw [hcells, htot], fun j hj => ⟨(hrow j hj).1, fun q v a e f => ((hrow j hj).2 q v a e f).mono (Gh.new_le hsM.1 hf)⟩⟩ (by simp)
  refine ⟨_, _, _, hrun, ?_, s1, (e1.trans hsM.2).trans e3, fun id hne h => by show (if id = fid then _ else G.phi id) = none; rw [if_neg hne]; exact h⟩
  exact RV.sl (o := 0) (off := 0) hp hnc (fun h => by cases h) (by refine Nat.le_of_eq (Eq.trans ?_ htot.symm); simp) (.inr (by simp))
theorem zero_len (G : Gh) {t : TypeId} {i : TypeInfo} {v : Value} {z : List AV} (hi : infoB P t = some i) (hz : i.zero = some v) (h : zeroC P t = some z) : v.cells.size = z.length := by
  unfold zeroC zeroB at h
  simp only [hi, hz] at h
  exact ((RV.ofVal G v).cells h).1.len
/-- The row stays where it is. -/
theorem Ap.room {sz n k fid id off n0 b oo cap : Nat} {t0 t1 e ty : TypeId} {i : TypeInfo} {d2 : TypeDesc} {x : Value} {g gx : Nat → List AV} {x' : AV} {lg : List Nat} (hs : St G w M) (hf : G.phi fid = none) (hfx : fid < M.nx)
    (h0 : undB P t0 = some (.slice e)) (hi : infoB P e = some i) (h1 : undB P t1 = some d2) (hd : notInt (some d2) = true) (hsz : i.size = sz) (h00 : 0 < sz)
    (hx : RV G x x') (hgx : getSl M x' = some (k, gx)) (hk : 0 < k) (hk1 : (gx 0).length = sz) (hall : allOne k gx = true) (hx2 : RV G (.slice (some ⟨b, oo, none⟩) n cap) (.sl id off n false sz)) (hb : M.h.get id = some (.row sz n0 g)) (hn0 : off + n ≤ n0) (hc : n + k ≤ cap) :
    Ap P G w M fid (Builtin.append_ #[t0, t1] ty #[.slice (some ⟨b, oo, none⟩) n cap, x]) (.sl fid 0 (n + k) false sz) ⟨(M.h.set id .gone).set fid (.row sz (n + k) (appRow n k (fun j => g (off + j)) gx)), M.nx, lg⟩ := by
  obtain ⟨hl, new, hnew, hns, hnr⟩ := src_ok (P := P) (w := w) hs hx hgx h00 (.inr hk1)
  subst hsz
  have hrun := append_room (ty := ty) (ao := some ⟨b, oo, none⟩) h0 hi h1 hd hl hnew hc
  cases hx2 with
  | sl hp hcc hfu ht hoo =>
  rename_i base
  have hoo : oo = base + off * i.size := by
    rcases hoo with e | e
    · omega
    · exact e
  subst hoo
  obtain ⟨arr, t, hca, hsa, hta, hr⟩ := hs.blk _ _ _ _ hb hp
  have hlc : (n + k) * i.size ≤ cap * i.size := Nat.mul_le_mul_right _ hc
  have hln : (off + n) * i.size ≤ n0 * i.size := Nat.mul_le_mul_right _ hn0
  rw [Nat.add_mul] at hlc hln ht
  have hone : ∀ u ∈ new.toList, u.oneCell' = true := fun u hu => by
    obtain ⟨q, hq⟩ := List.getElem?_of_mem hu
    have hqk : q < k * i.size := by have := (List.getElem?_eq_some_iff.1 hq).1; rw [Array.length_toList, hns] at this; exact this
    have d1 : q / i.size < k := Nat.div_lt_of_lt_mul (by rw [Nat.mul_comm]; exact hqk)
    have d2 : q % i.size < i.size := Nat.mod_lt _ h00
    have d3 : q / i.size * i.size + q % i.size = q := by rw [Nat.mul_comm]; exact Nat.div_add_mod q i.size
    obtain ⟨r1, r2⟩ := hnr _ d1
    obtain ⟨a, ha⟩ : ∃ a, (gx (q / i.size))[q % i.size]? = some a := ⟨_, List.getElem?_eq_getElem (by rw [r1]; exact d2)⟩
    refine (r2 _ u a (by rw [Nat.zero_add, d3]; simpa using hq) ha).one ?_
    unfold allOne at hall
    rw [List.all_eq_true] at hall
    have := hall _ (List.mem_range.2 d1)
    rw [List.all_eq_true] at this
    exact this a (List.mem_of_getElem? ha)
  have hst := run_storeCells_at (P := P) b (base + off * i.size + n * i.size) t new.toList 0 arr w hca (by rw [Array.length_toList, hns]; omega) hone
  rw [Nat.add_zero, splice_eq _ _ _ (by rw [Array.length_toList, hns]; omega)] at hst
  simp only [add_none, hst, Result.andThen_ok] at hrun
  have hnl : new.toList.length = k * i.size := by rw [Array.length_toList, hns]
  have hrow : RowR G (setV arr (base + off * i.size + n * i.size) new.toList) (base + off * i.size) i.size (n + k) (appRow n k (fun j => g (off + j)) gx) := by
    rw [appRow_eq]
    intro q hq
    dsimp only
    by_cases hin : q < n
    · have e : Nat.blt q n = true := by simpa using hin
      rw [e]
      obtain ⟨q1, q2⟩ := hr (off + q) (by omega)
      refine ⟨q1, fun j v a e1 e2 => ?_⟩
      have e2 : (g (off + q))[j]? = some a := e2
      have hj : j < i.size := by rw [← q1]; exact (List.getElem?_eq_some_iff.1 e2).1
      have hle : (q + 1) * i.size ≤ n * i.size := Nat.mul_le_mul_right _ hin
      rw [Nat.succ_mul] at hle
      rw [setV_get _ _ _ _ (by rw [hnl]; omega), if_neg (by omega)] at e1
      refine q2 j v a ?_ e2
      rw [← e1, Nat.add_mul]
      congr 1
      omega
    · have e : Nat.blt q n = false := by
        cases hh : Nat.blt q n with
        | false => rfl
        | true => exact absurd (by simpa using hh) hin
      rw [e]
      obtain ⟨q1, q2⟩ := hnr (q - n) (by omega)
      refine ⟨q1, fun j v a e1 e2 => ?_⟩
      have e2 : (gx (q - n))[j]? = some a := e2
      have hj : j < i.size := by rw [← q1]; exact (List.getElem?_eq_some_iff.1 e2).1
      have hle : (q - n + 1) * i.size ≤ k * i.size := Nat.mul_le_mul_right _ (by omega)
      rw [Nat.succ_mul] at hle
      have hi2 : q * i.size = n * i.size + (q - n) * i.size := by rw [← Nat.add_mul]; congr 1; omega
      rw [setV_get _ _ _ _ (by rw [hnl]; omega), if_pos (by rw [hnl]; omega)] at e1
      refine q2 j v a ?_ e2
      rw [← e1, Array.getElem?_toList]
      congr 1
      omega
  have hp' : (G.mv fid b (base + off * i.size)).phi fid = some (b, base + off * i.size) := if_pos rfl
  obtain ⟨s1, s2⟩ := St.move (lg := lg) (k := .row i.size (n + k) (appRow n k (fun j => g (off + j)) gx)) (w' := w.setRow b (setV arr (base + off * i.size + n * i.size) new.toList)) hs ⟨_, hb, by simp⟩ hp hf hfx (fun y hy => setRow_other w b y _ hy) (by simp) ⟨rfl, rfl, rfl⟩
    ⟨_, t, setRow_heap w b arr _ t _ hca, by rw [setV_size, hta, Nat.add_mul]; omega, by rw [setV_size]; exact hta, fun j hj => ⟨(hrow j hj).1, fun q v a e f => ((hrow j hj).2 q v a e f).mono (Gh.mv_le hf)⟩⟩
  refine ⟨_, _, _, hrun, ?_, s1, s2, fun id hne h => by show (if id = fid then _ else G.phi id) = none; rw [if_neg hne]; exact h⟩
  have htt : (G.mv fid b (base + off * i.size)).tot b = G.tot b := rfl
  exact RV.sl (off := 0) hp' hc (fun h => by cases h) (by rw [htt, Nat.zero_add]; omega) (.inr (by omega))
end
end Go.Proofs.YtpflobodmglmaaaGreat
set_option linter.unusedVariables false
set_option maxHeartbeats 4000000
namespace Go.Proofs.YtpflobodmglmaaaGreat
section
variable {P : Program} {G : Gh} {ρ : Operand → Value} {ev : Operand → AV} {o : Oper} {w : World} {M M' : Mem} {r : AV}
theorem Ap.same {n cap fid : Nat} {t0 t1 e ty : TypeId} {i : TypeInfo} {d2 : TypeDesc} {ao : Option Addr} {x : Value} {gx : Nat → List AV} {x' s' : AV} (hs : St G w M)
    (h0 : undB P t0 = some (.slice e)) (hi : infoB P e = some i) (h1 : undB P t1 = some d2) (hd : notInt (some d2) = true) (h00 : 0 < i.size) (hc : n ≤ cap)
    (hx : RV G x x') (hgx : getSl M x' = some (0, gx)) (hx2 : RV G (.slice ao n cap) s') : Ap P G w M fid (Builtin.append_ #[t0, t1] ty #[.slice ao n cap, x]) s' M := by
  obtain ⟨hl, new, hnew, hns, hnr⟩ := src_ok (P := P) (w := w) hs hx hgx h00 (.inl rfl)
  have hrun := append_room (ty := ty) (ao := ao) (sLen := n) h0 hi h1 hd hl hnew hc
  have hn : new = #[] := Array.eq_empty_of_size_eq_zero (by simpa using hns)
  subst hn
  refine ⟨G, w, .slice ao n cap, ?_, hx2, hs, Ev.refl G w M, Ub.refl _ _⟩
  rw [hrun]
  cases ao with
  | none => rfl
  | some a => rfl
theorem ap_ok {t0 t1 ty : TypeId} {s x : Value} {s' x' : AV} {fid : Nat} (hs : St G w M) (hf : G.phi fid = none) (hfx : fid < M.nx) (hsv : RV G s s') (hx : RV G x x') (hc : (byOk P (undB P t0) && notInt (undB P t1)) = true) (h : oAppend (sliceSz P (undB P t0)) s' (getSl M x') M fid = .val r M') : Ap P G w M fid (Builtin.append_ #[t0, t1] ty #[s, x]) r M' := by
  simp only [Bool.and_eq_true] at hc
  obtain ⟨hb, hd⟩ := hc
  unfold byOk at hb
  split at hb
  · rename_i e hd0
    simp only [Bool.and_eq_true, Nat.ble_eq] at hb
    obtain ⟨hb, hz⟩ := hb
    unfold zlOk at hz
    split at hz
    · rename_i z hzc
      have hz := Nat.eq_of_beq_eq_true hz
      obtain ⟨_, _, _, _, a0, ha0⟩ := zeroC_ok (G := G) hzc w
      obtain ⟨i, hi, zv, hzv⟩ := zeroB_info ha0
      have hsz : szB P e = i.size := by unfold szB; rw [hi]
      have hby : bytB P e = i.bytes := by unfold bytB; rw [hi]
      have hzl : zv.cells.size = i.size := by rw [zero_len G hi hzv hzc, hz, hsz]
      obtain ⟨d2, hd2⟩ : ∃ d2, undB P t1 = some d2 := by
        cases hh : undB P t1 with
        | none => rw [hh] at hd; cases hd
        | some d2 => exact ⟨d2, rfl⟩
      rw [hd2] at hd
      rw [hd0] at h
      have h : oAppend (szB P e) s' (getSl M x') M fid = .val r M' := h
      rw [hsz] at h
      rw [hby] at hb
      unfold oAppend at h
      split at h
      · rename_i k gx hgx
        split at h
        · rename_i nl full n g _
          obtain ⟨h1, h⟩ := bif_no h
          simp only [Bool.and_eq_true, Nat.ble_eq, Nat.blt_eq, Bool.or_eq_true, Nat.beq_eq] at h1
          obtain ⟨rfl, h2, h3, h4, h5⟩ := h1
          obtain ⟨ao, cap, rfl, hcap⟩ : ∃ ao cap, s = .slice ao n cap ∧ cap = n := by
            cases hsv with
            | lstn => exact ⟨_, _, rfl, rfl⟩
            | lst vs hc hf2 _ _ _ => exact ⟨_, _, rfl, hf2 rfl⟩
          subst hcap
          cases k with
          | zero =>
            cases h
            exact Ap.same hs hd0 hi hd2 hd h3 (Nat.le_refl _) hx hgx hsv
          | succ k =>
            cases h
            exact Ap.grow hs hf hfx hd0 hi hzv hd2 hd rfl hzl h3 hb hx hgx h5 hsv rfl h4 (by omega) h2 (.inl rfl)
        · rename_i id off n full sz' _
          cases hcd : Nat.beq i.size sz' with
          | false => rw [hcd] at h; cases h
          | true =>
            rw [hcd] at h
            have e := Nat.eq_of_beq_eq_true hcd
            subst e
            have h : oAppSl id off n full i.size (.sl id off n full i.size) k gx (M.h.get id) M fid = .val r M' := h
            unfold oAppSl at h
            split at h
            · rename_i sz' n0 g hbb
              replace ⟨h1, h⟩ := bif_no h
              simp only [Bool.and_eq_true, Nat.ble_eq, Nat.blt_eq, Bool.or_eq_true, Nat.beq_eq] at h1
              obtain ⟨rfl, h2, h3, h4, h5⟩ := h1
              have hgs : getSl M (.sl id off n full i.size) = some (n, fun j => g (off + j)) := by
                show (match M.h.get id with | some (.row sz' n' g) => bif Nat.beq i.size sz' && Nat.ble (off + n) n' then some (n, fun j => g (off + j)) else none | _ => none) = _
                rw [hbb]
                have e1 : Nat.beq i.size i.size = true := Nat.beq_refl _
                have e2 : Nat.ble (off + n) n0 = true := Nat.ble_eq_true_of_le h3
                simp only [e1, e2]
                rfl
              obtain ⟨b, oo, cap, rfl, hcap, hfu⟩ : ∃ b oo cap, s = .slice (some ⟨b, oo, none⟩) n cap ∧ n ≤ cap ∧ (full = true → cap = n) := by
                cases hsv with
                | sl hp hc hf2 ht hoo => exact ⟨_, _, _, rfl, hc, hf2⟩
              cases k with
              | zero =>
                cases h
                exact Ap.same hs hd0 hi hd2 hd h4 hcap hx hgx hsv
              | succ k =>
                rcases h5 with h5 | ⟨h5, h6⟩
                · cases h5
                have hn1 : n = 0 ∨ ((fun j => g (off + j)) 0).length = i.size := by
                  cases hsv with
                  | sl hp hc hf2 ht hoo =>
                  rename_i base
                  obtain ⟨arr, t, hca, hsa, hta, hr⟩ := hs.blk _ _ _ _ hbb hp
                  by_cases hn0 : n = 0
                  · exact .inl hn0
                  · exact .inr (hr (off + 0) (by omega)).1
                cases full with
                | true =>
                  cases h
                  have := hfu rfl
                  exact Ap.grow hs hf hfx hd0 hi hzv hd2 hd rfl hzl h4 hb hx hgx (.inr h5) hsv hgs hn1 (by omega) h2 (.inl rfl)
                | false =>
                  cases h
                  by_cases hcc : n + (k + 1) ≤ cap
                  · refine Ap.room hs hf hfx hd0 hi hd2 hd rfl h4 hx hgx (by omega) h5 ?_ hsv hbb h3 hcc
                    simpa using h6
                  · exact Ap.grow hs hf hfx hd0 hi hzv hd2 hd rfl hzl h4 hb hx hgx (.inr h5) hsv hgs hn1 (by omega) h2 (.inr ⟨id, rfl⟩)
            · cases h
        · cases h
      · cases h
    · cases hz
  · cases hb
end
end Go.Proofs.YtpflobodmglmaaaGreat
set_option linter.unusedVariables false
set_option maxHeartbeats 4000000
namespace Go.Proofs.YtpflobodmglmaaaGreat
section
variable {P : Program} {G : Gh} {ρ : Operand → Value} {ev : Operand → AV} {o : Oper} {w : World} {M M' : Mem} {r : AV}
theorem map_one {args : Array Operand} {a : AV} (h : args.toList.map ev = [a]) : ∃ x, args = #[x] ∧ ev x = a := by
  obtain ⟨l⟩ := args
  match l, h with
  | [x], h => exact ⟨x, rfl, by simpa using h⟩
theorem map_two {args : Array Operand} {a b : AV} (h : args.toList.map ev = [a, b]) : ∃ x y, args = #[x, y] ∧ ev x = a ∧ ev y = b := by
  obtain ⟨l⟩ := args
  match l, h with
  | [x, y], h => exact ⟨x, y, rfl, by simpa using h⟩
theorem exec_builtin {b : Builtin} {args : Array Operand} {ts : Array TypeId} (ho : o.op = .call ⟨.builtin b, args, ts⟩) : ∃ cs, (execOp ρ o).run P w = (builtin b ts o.type cs (args.map ρ)).run P w := by
  unfold execOp
  rw [ho]
  simp only [resolve, Sem.run_bind, Sem.run_pure, Result.andThen_ok, invoke]
  exact ⟨_, rfl⟩
theorem append_mk {t0 t1 e ty : TypeId} {i : TypeInfo} {z : Value} {kk k : IntKind} {n : Nat} (h0 : undB P t0 = some (.slice e)) (hi : infoB P e = some i) (hz : i.zero = some z) (h1 : undB P t1 = some (.int kk)) (hp : 0 < n) (hb : n ≤ 16777216) (hby : i.bytes ≤ 65536) (hs0 : 0 < i.size) :
    ∃ nc, n ≤ nc ∧ (Builtin.append_ #[t0, t1] ty #[.slice none 0 0, .int k (n : Int)]).run P w = .ok (.slice (some ⟨w.heap.size, 0, none⟩) n nc) { w.drew with heap := w.heap.push (.cells (#[] ++ Builtin.zeroCells z.cells n ++ Builtin.zeroCells z.cells (nc - n)) e) } := by
  have hw : IntKind.i64.wrap (n : Int) = n := by
    have : ¬ ((n : Int) % 18446744073709551616 ≥ 9223372036854775808) := by omega
    simp [IntKind.wrap, IntKind.bits, IntKind.signed]
    omega
  have h63 : ¬ (9223372036854775807 < (n : Int)) := by omega
  have h47 : ¬ (281474976710656 < (n : Int) * (i.bytes : Int)) := by
    have : n * i.bytes ≤ 16777216 * 65536 := Nat.mul_le_mul hb hby
    omega
  have h48 : ¬ (281474976710656 < Builtin.nextslicecap n 0 * i.bytes) := by
    have h1 := nextslicecap_le_wide (show 0 < n by omega)
    have h2 : Builtin.nextslicecap n 0 * i.bytes ≤ 33554432 * 65536 := Nat.mul_le_mul (by omega) hby
    omega
  have hq : (Question.appendCap n 0 e).forced = false := rfl
  have hnn : ¬ ((n : Int) < 0) := by omega
  have hn0 : ¬ (n = 0) := by omega
  refine ⟨grownCap w n 0 e, ?_, ?_⟩
  · unfold grownCap; simp [Question.cut]
  · simp [Builtin.append_, undB_ok h0, undB_ok h1, underlying, sizeOf, typeInfo, infoB_ok hi, asInt, asIntOf, hw, hnn, h47, hn0, h63, h48, hq, Sem.run_bind, Builtin.firstCells, zeroValue, hz]
    have hne : ¬ (n * i.size = 0) := by
      intro h
      rcases Nat.mul_eq_zero.1 h with h | h <;> omega
    rw [if_neg hne]
    simp only [newRow, Sem.run_bind, run_newObj, Result.andThen_ok, Sem.run_pure]
    rfl
/-- What is made and appended to a slice that is nil. -/
theorem apmk_ok {t0 t1 ty : TypeId} {s x : Value} {s' x' : AV} {fid : Nat} (hs : St G w M) (hf : G.phi fid = none) (hfx : fid < M.nx) (hsv : RV G s s') (hx : RV G x x') (hb : byOk P (undB P t0) = true) (hd : dInt (undB P t1) = true) (h : oAppMk P (undB P t0) s' x' M fid = .val r M') : Ap P G w M fid (Builtin.append_ #[t0, t1] ty #[s, x]) r M' := by
  unfold oAppMk at h
  split at h
  · rename_i e fl g k n hd0
    cases hsv
    cases hx
    unfold byOk at hb
    rw [hd0] at hb
    simp only [Bool.and_eq_true, Nat.ble_eq] at hb
    obtain ⟨hb, hzl⟩ := hb
    split at h
    · rename_i z hzc
      unfold zlOk at hzl
      rw [hzc] at hzl
      have hzl := Nat.eq_of_beq_eq_true hzl
      obtain ⟨zv, hz1, hz2, _, a0, ha0⟩ := zeroC_ok (G := G) hzc w
      obtain ⟨i, hi, zv', hzv⟩ := zeroB_info ha0
      have hlen := zero_len G hi hzv hzc
      have hsz : szB P e = i.size := by unfold szB; rw [hi]
      have hby : i.bytes ≤ 65536 := by unfold bytB at hb; rw [hi] at hb; exact hb
      have hd1 : ∃ kk, undB P t1 = some (.int kk) := by
        unfold dInt at hd
        split at hd
        · rename_i kk he; exact ⟨kk, he⟩
        · cases hd
      obtain ⟨kk, hd1⟩ := hd1
      unfold oAppend nilS at h
      dsimp only at h
      obtain ⟨h1, h⟩ := bif_no h
      simp only [Bool.and_eq_true, Nat.ble_eq, Nat.blt_eq] at h1
      obtain ⟨_, h2, h3, _, _⟩ := h1
      cases n with
      | zero =>
        cases h
        refine ⟨G, w, .slice none 0 0, ?_, .lstn, hs, Ev.refl G w _, Ub.refl _ _⟩
        simp [Builtin.append_, undB_ok hd0, undB_ok hd1, underlying, sizeOf, typeInfo, infoB_ok hi, asInt, asIntOf, Sem.run_bind, IntKind.wrap, IntKind.bits, IntKind.signed]
      | succ n =>
        cases h
        rw [hsz]
        rw [hsz] at h3 hzl
        have hz2' : RVs G zv'.cells z := by
          have h := hzc
          unfold zeroC zeroB at h
          simp only [hi, hzv] at h
          exact ((RV.ofVal G zv').cells h).1
        obtain ⟨nc, hnc, hrun⟩ := append_mk (ty := ty) (k := k) (w := w) (n := n + 1) hd0 hi hzv hd1 (Nat.succ_pos n) (by omega) hby h3
        have hsd : St G w.drew M := hs.congr rfl (fun _ => rfl) (Nat.le_refl _)
        have hzs : zv'.cells.size = i.size := by rw [hlen, hzl]
        have hnr : RowR G (Builtin.zeroCells zv'.cells (n + 1)) 0 i.size (n + 1) (fun _ => z) := by
          unfold Builtin.zeroCells
          have := zero_row (n := n + 1) hz2' hzl h3
          rw [← hzs] at this ⊢
          exact this
        have hnl : (Builtin.zeroCells zv'.cells (n + 1)).size = (n + 1) * i.size := by simp [Builtin.zeroCells, hzs]
        have hor : RowR G (#[] : Array Value) 0 i.size 0 (fun _ => []) := fun i hi => by omega
        generalize hzz : Builtin.zeroCells zv'.cells (nc - (n + 1)) = zs at hrun
        have hzl2 : zs.size = (nc - (n + 1)) * i.size := by rw [← hzz]; simp [Builtin.zeroCells, hzs]
        have hrow := hor.app hnr (rest := zs) (by simp) hnl
        generalize Builtin.zeroCells zv'.cells (n + 1) = new at hrun hrow hnl
        have hcells : (#[] ++ new ++ zs).size = nc * i.size := by
          rw [Array.size_append, Array.size_append, hnl, hzl2]
          have : (#[] : Array Value).size = 0 := rfl
          rw [this, Nat.zero_add, ← Nat.add_mul]
          congr 1
          omega
        have hle : (0 + (n + 1)) * i.size ≤ nc * i.size := Nat.mul_le_mul_right _ (by omega)
        have htot : (G.new fid w.drew.heap.size (nc * i.size)).tot w.drew.heap.size = nc * i.size := if_pos rfl
        have hp : (G.new fid w.drew.heap.size (nc * i.size)).phi fid = some (w.drew.heap.size, 0) := if_pos rfl
        obtain ⟨s1, e3⟩ := St.alloc (n := nc * i.size) (ob := .cells (#[] ++ new ++ zs) e) (k := .row i.size (0 + (n + 1)) (appRow 0 (n + 1) (fun _ => []) fun _ => z)) hsd hf hfx ⟨_, e, heap_push_eq, by rw [hcells]; omega, by rw [hcells]; exact htot.symm, fun j hj => ⟨(hrow j hj).1, fun q v a e f => ((hrow j hj).2 q v a e f).mono (Gh.new_le hsd hf)⟩⟩ (by simp)
        refine ⟨_, _, _, hrun, ?_, s1.congr rfl (fun _ => rfl) (Nat.le_refl _), ((Ev.congr rfl ⟨rfl, rfl, rfl⟩ (fun _ => rfl) (Nat.le_refl _) : Ev G w M G w.drew M).trans e3).trans (.congr rfl ⟨rfl, rfl, rfl⟩ (fun _ => rfl) (Nat.le_refl _)), fun id hne h => by show (if id = fid then _ else G.phi id) = none; rw [if_neg hne]; exact h⟩
        have hnc' : 0 + (n + 1) ≤ nc := by omega
        have hv := RV.sl (o := 0) (off := 0) (sz := i.size) (cap := nc) (full := false) hp (show 0 + (n + 1) ≤ nc from hnc') (fun h => by cases h) (by have := htot; simp only [Nat.zero_add]; exact Nat.le_of_eq this.symm) (.inr (by simp))
        rw [Nat.zero_add (n + 1)] at hv ⊢
        exact hv
    · cases h
  · cases h
/-- A built-in function. -/
theorem builtin_ok {b : Builtin} {args : Array Operand} {ts : Array TypeId} {fid : Nat} (ho : o.op = .call ⟨.builtin b, args, ts⟩) (hs : St G w M) (hf : G.phi fid = none) (hfx : fid < M.nx) (hx : ∀ x, RV G (ρ x) (ev x)) (h : oBuiltin P b ts.toList (args.toList.map ev) M fid = .val r M') :
    (b ≠ .append → Qu P G ρ o w r ∧ M' = M) ∧ Wr P G ρ o w M fid r M' := by
  obtain ⟨cs, hrun⟩ := exec_builtin (P := P) (w := w) (ρ := ρ) ho
  have up : Qu P G ρ o w r ∧ M' = M → Wr P G ρ o w M fid r M' := fun ⟨⟨v, h1, h2⟩, h3⟩ => by
    subst h3
    exact ⟨G, w, v, .inl h1, h2, hs, Ev.refl G w _, Ub.refl _ _⟩
  have qq : Qu P G ρ o w r ∧ M' = M → (b ≠ .append → Qu P G ρ o w r ∧ M' = M) ∧ Wr P G ρ o w M fid r M' := fun q => ⟨fun _ => q, up q⟩
  unfold oBuiltin at h
  split at h
  · rename_i t l x' hts has
    obtain ⟨x, rfl, rfl⟩ := map_one has
    obtain ⟨n, h1, rfl, rfl⟩ := len_ok (P := P) (w := w) (ts := l) (ty := o.type) hs (hx x) h
    refine qq ⟨⟨goInt n, ?_, .int _ _⟩, rfl⟩
    rw [hrun]
    have : ts = ⟨t :: l⟩ := by rw [← hts]
    subst this
    simp only [builtin, List.map_toArray, List.map_cons, List.map_nil, Sem.run_bind, h1, Result.andThen_ok, Sem.run_pure]
  · rename_i k x' k' y' has
    obtain ⟨x, y, rfl, h1, h2⟩ := map_two has
    cases h
    have e1 := hx x
    have e2 := hx y
    rw [h1] at e1
    rw [h2] at e2
    refine qq ⟨⟨_, ?_, .int _ _⟩, rfl⟩
    rw [hrun]
    simp only [builtin, List.map_toArray, List.map_cons, List.map_nil, e1.int_inv, e2.int_inv, Builtin.max_, List.foldlM_cons, List.foldlM_nil, Builtin.max2, Sem.run_bind, Result.andThen_ok, Sem.run_pure, ltI_eq, gt_iff_lt]
    by_cases e : x' < y' <;> simp [e]
  · rename_i k x' k' y' has
    obtain ⟨x, y, rfl, h1, h2⟩ := map_two has
    cases h
    have e1 := hx x
    have e2 := hx y
    rw [h1] at e1
    rw [h2] at e2
    refine qq ⟨⟨_, ?_, .int _ _⟩, rfl⟩
    rw [hrun]
    simp only [builtin, List.map_toArray, List.map_cons, List.map_nil, e1.int_inv, e2.int_inv, Builtin.min_, List.foldlM_cons, List.foldlM_nil, Builtin.min2, Sem.run_bind, Result.andThen_ok, Sem.run_pure, ltI_eq]
    by_cases e : y' < x' <;> simp [e]
  · rename_i t0 t1 s' x' hts has
    obtain ⟨s, x, rfl, rfl, rfl⟩ := map_two has
    have hap : Ap P G w M fid (Builtin.append_ #[t0, t1] o.type #[ρ s, ρ x]) r M' := by
      cases hc : (byOk P (undB P t0) && notInt (undB P t1)) with
      | true => rw [hc] at h; exact ap_ok (P := P) (ty := o.type) hs hf hfx (hx s) (hx x) hc h
      | false =>
        rw [hc] at h
        obtain ⟨hc2, h⟩ := bif_no (show (bif byOk P (undB P t0) && dInt (undB P t1) then oAppMk P (undB P t0) (ev s) (ev x) M fid else AR.no 60) = _ from h)
        simp only [Bool.and_eq_true] at hc2
        exact apmk_ok (P := P) (ty := o.type) hs hf hfx (hx s) (hx x) hc2.1 hc2.2 h
    obtain ⟨G', w', v, h1, h2, h3, h4⟩ := hap
    refine ⟨fun e => absurd rfl e, G', w', v, .inl ?_, h2, h3, h4⟩
    rw [hrun]
    have : ts = #[t0, t1] := by rw [← hts]
    subst this
    simp only [builtin, List.map_toArray, List.map_cons, List.map_nil, Sem.run_bind, h1, Result.andThen_ok, Sem.run_pure]
  · rename_i t l x' hts has
    obtain ⟨x, rfl, rfl⟩ := map_one has
    unfold oCap at h
    split at h
    · rename_i fl n g he
      cases hd : dSli (undB P t) with
      | false => rw [hd] at h; cases h
      | true =>
        rw [hd] at h
        cases h
        have hv := hx x
        rw [he] at hv
        obtain ⟨e, hde⟩ : ∃ e, undB P t = some (.slice e) := by
          unfold dSli at hd
          split at hd
          · rename_i e he; exact ⟨e, he⟩
          · cases hd
        refine qq ⟨⟨goInt 0, ?_, .int _ _⟩, rfl⟩
        rw [hrun]
        have : ts = ⟨t :: l⟩ := by rw [← hts]
        subst this
        have hv0 : ρ x = .slice none 0 0 := by
          generalize ρ x = v at hv
          cases hv
          rfl
        simp [builtin, Builtin.cap_, hv0, undB_ok hde, underlying, Sem.run_bind]
    · cases h
  · cases h
theorem panic_ok {x : Operand} {a : AV} (ho : o.op = .panic x) (hx : RV G (ρ x) (ev x)) (h : oPanic (ev x) = .panic a) : ∃ v, (execOp ρ o).run P w = .halt (.panic v) w ∧ RV G v a := by
  unfold oPanic at h
  split at h
  · rename_i t v' he
    cases h
    rw [he] at hx
    refine ⟨ρ x, ?_, hx⟩
    unfold execOp
    rw [ho]
    generalize hv : ρ x = v at hx
    cases hx
    simp only [Instr.panic, hv, Sem.run_bind]
    rfl
  · cases h
end
end Go.Proofs.YtpflobodmglmaaaGreat
set_option linter.unusedVariables false
set_option maxHeartbeats 4000000
namespace Go.Proofs.YtpflobodmglmaaaGreat
section
variable {P : Program} {G : Gh} {ρ : Operand → Value} {ev : Operand → AV} {o : Oper} {w : World} {M M' : Mem} {r : AV} {fid : Nat}
def isN (op : Op) : Bool := match op with | .alloc _ => true | .box _ _ => true | .buildSlice _ _ _ => true | .makeMap _ _ => true | .makeSlice _ _ _ => true | _ => false
/-- What an operation brings, by whether it writes. -/
def Does (P : Program) (G : Gh) (ρ : Operand → Value) (o : Oper) (w : World) (M : Mem) (fid : Nat) (r : AV) (M' : Mem) : Prop :=
  (isW o.op = false → (isN o.op = false ∧ Qu P G ρ o w r ∧ M' = M) ∨ (isN o.op = true ∧ ∃ k, Mk P G ρ o w fid r k ∧ M' = newB M fid k)) ∧ (isW o.op = true → Wr P G ρ o w M fid r M')
theorem does_q (hw : isW o.op = false) (hn : isN o.op = false) (h : Qu P G ρ o w r ∧ M' = M) : Does P G ρ o w M fid r M' := ⟨fun _ => .inl ⟨hn, h⟩, fun e => by rw [hw] at e; cases e⟩
theorem does_n (hw : isW o.op = false) (hn : isN o.op = true) (h : ∃ k, Mk P G ρ o w fid r k ∧ M' = newB M fid k) : Does P G ρ o w M fid r M' := ⟨fun _ => .inr ⟨hn, h⟩, fun e => by rw [hw] at e; cases e⟩
theorem does_w (hw : isW o.op = true) (h : Wr P G ρ o w M fid r M') : Does P G ρ o w M fid r M' := ⟨fun e => (by rw [hw] at e; cases e), fun _ => h⟩
theorem opA_sound (hs : St G w M) (hf : G.phi fid = none) (hfx : fid < M.nx) (hx : ∀ x, RV G (ρ x) (ev x)) (h : opA o.op P ev M fid = .val r M') : Does P G ρ o w M fid r M' := by
  cases hop : o.op with
  | move x => rw [hop] at h; cases h; exact does_q (by rw [hop]; rfl) (by rw [hop]; rfl) ⟨q_move (.inl hop) (hx x), rfl⟩
  | assign x => rw [hop] at h; cases h; exact does_q (by rw [hop]; rfl) (by rw [hop]; rfl) ⟨q_move (.inr hop) (hx x), rfl⟩
  | pick c a b =>
    rw [hop] at h
    have h : oPick (ev c) (ev a) (ev b) M = .val r M' := h
    unfold oPick at h
    split at h
    · rename_i t hc
      cases h
      rw [pickV_eq]
      exact does_q (by rw [hop]; rfl) (by rw [hop]; rfl) ⟨q_pick hop (by rw [← hc]; exact hx c) (hx a) (hx b), rfl⟩
    · cases h
  | alloc t => rw [hop] at h; exact does_n (by rw [hop]; rfl) (by rw [hop]; rfl) (n_alloc hop hs hf h (k := .gone))
  | box t x => rw [hop] at h; exact does_n (by rw [hop]; rfl) (by rw [hop]; rfl) (n_box hop hs hf (hx x) h)
  | build t ps => rw [hop] at h; exact does_q (by rw [hop]; rfl) (by rw [hop]; rfl) (q_build hop (fun p _ => hx p.2) h)
  | buildSlice t n ps => rw [hop] at h; exact does_n (by rw [hop]; rfl) (by rw [hop]; rfl) (n_buildSlice hop hs hf (fun p _ => hx p.2) h)
  | insert t m k x => rw [hop] at h; exact does_w (by rw [hop]; rfl) (w_mapUp (.inr hop) hs (hx m) (hx k) (hx x) h)
  | load t a => rw [hop] at h; exact does_q (by rw [hop]; rfl) (by rw [hop]; rfl) (q_load hop hs (hx a) h)
  | store t a x => rw [hop] at h; exact does_w (by rw [hop]; rfl) (w_store hop hs (hx a) (hx x) h)
  | nilCheck x => rw [hop] at h; exact does_q (by rw [hop]; rfl) (by rw [hop]; rfl) (q_nil hop (hx x) h)
  | binOp op t x y t2 =>
    rw [hop] at h
    have h : aok M (binA op (undB P t) (ev x) (ev y)) = .val r M' := h
    unfold aok at h
    split at h
    · rename_i b v hb
      obtain ⟨rfl, rfl, rfl⟩ := bif_val h
      exact does_q (by rw [hop]; rfl) (by rw [hop]; rfl) ⟨q_bin hop (hx x) (hx y) hb, rfl⟩
    · cases h
  | unOp op t x => rw [hop] at h; exact does_q (by rw [hop]; rfl) (by rw [hop]; rfl) (q_un hop (hx x) h)
  | convert s d x => rw [hop] at h; exact does_q (by rw [hop]; rfl) (by rw [hop]; rfl) (q_conv hop (hx x) h)
  | makeInterface t x =>
    rw [hop] at h
    have h : (bif isIfcD (undB P t) then AR.no 64 else .val (.ifc t (ev x)) M) = .val r M' := h
    cases hi : isIfcD (undB P t) with
    | true => rw [hi] at h; cases h
    | false =>
      rw [hi] at h
      cases h
      exact does_q (by rw [hop]; rfl) (by rw [hop]; rfl) ⟨q_makeIfc hop (hx x) hi, rfl⟩
  | makeFunc fn a b =>
    rw [hop] at h
    have h : oMkF fn (a.toList.map ev) (b.toList.map ev) M = .val r M' := h
    unfold oMkF at h
    split at h
    · cases h
      exact does_q (by rw [hop]; rfl) (by rw [hop]; rfl) ⟨q_makeFunc hop (fun x _ => hx x) (fun x _ => hx x), rfl⟩
    · cases h
  | makeMap t rs =>
    cases rs with
    | none => rw [hop] at h; exact does_n (by rw [hop]; rfl) (by rw [hop]; rfl) (n_map (ev := ev) hop hs hf h)
    | some x => rw [hop] at h; cases h
  | makeSlice t l c => rw [hop] at h; exact does_n (by rw [hop]; rfl) (by rw [hop]; rfl) (n_makeSlice hop hs hf (hx l) (hx c) h)
  | slice t x lo hi mx => rw [hop] at h; exact does_q (by rw [hop]; rfl) (by rw [hop]; rfl) (q_slice hop (hx x) (fun y _ => hx y) (fun y _ => hx y) (fun y _ => hx y) h)
  | fieldAddr s x f => rw [hop] at h; exact does_q (by rw [hop]; rfl) (by rw [hop]; rfl) (q_fieldAddr hop (hx x) h)
  | field s x f => rw [hop] at h; exact does_q (by rw [hop]; rfl) (by rw [hop]; rfl) (q_field hop (hx x) h)
  | indexAddr t x i => rw [hop] at h; exact does_q (by rw [hop]; rfl) (by rw [hop]; rfl) (q_indexAddr hop (hx x) (hx i) h)
  | index t x i => rw [hop] at h; exact does_q (by rw [hop]; rfl) (by rw [hop]; rfl) (q_index hop (hx x) (hx i) h)
  | lookup t m k ok => rw [hop] at h; exact does_q (by rw [hop]; rfl) (by rw [hop]; rfl) (q_lookup hop hs (hx m) (hx k) h)
  | mapUpdate t m k x => rw [hop] at h; exact does_w (by rw [hop]; rfl) (w_mapUp (.inl hop) hs (hx m) (hx k) (hx x) h)
  | typeAssert x t0 t ok => rw [hop] at h; exact does_q (by rw [hop]; rfl) (by rw [hop]; rfl) (q_assert hop (hx x) h)
  | extract x i =>
    rw [hop] at h
    have h : oExtract (ev x) i M = .val r M' := h
    unfold oExtract at h
    split at h
    · rename_i vs he
      split at h
      · rename_i v hn
        cases h
        exact does_q (by rw [hop]; rfl) (by rw [hop]; rfl) ⟨q_extract hop (by rw [← he]; exact hx x) hn, rfl⟩
      · cases h
    · cases h
  | call c =>
    obtain ⟨callee, args, ts⟩ := c
    rw [hop] at h
    cases callee with
    | builtin b =>
      have h : oBuiltin P b ts.toList (args.toList.map ev) M fid = .val r M' := h
      obtain ⟨h1, h2⟩ := builtin_ok hop hs hf hfx hx h
      refine ⟨fun e => ?_, fun _ => h2⟩
      rw [hop] at e
      exact .inl ⟨by rw [hop]; rfl, h1 (fun e2 => by subst e2; cases e)⟩
    | value f => cases h
    | invoke f n => cases h
  | panic x =>
    rw [hop] at h
    have h : oPanic (ev x) = .val r M' := h
    unfold oPanic at h
    split at h <;> cases h
  | _ => rw [hop] at h; cases h
theorem opA_panic {a : AV} (hx : ∀ x, RV G (ρ x) (ev x)) (h : opA o.op P ev M fid = .panic a) : ∃ v, (execOp ρ o).run P w = .halt (.panic v) w ∧ RV G v a ∧ isW o.op = true := by
  cases hop : o.op with
  | panic x =>
    rw [hop] at h
    obtain ⟨v, h1, h2⟩ := panic_ok (P := P) (w := w) hop (hx x) h
    exact ⟨v, h1, h2, rfl⟩
  | _ =>
    rw [hop] at h
    exfalso
    simp only [opA, hMove, hPick, hAlloc, hBox, hBuild, hBuildSlice, hMapUp, hLoad, hStore, hNo, hNil, hBin, hUn, hConv, hMkI, hMkF, hMkM, hMkS, hSlice, hFieldAddr, hField, hIndexAddr, hIndex, hLookup, hAssert, hExtract, hCall, oPick, oNewVar, oBuild, oBuildP, oBuildA, oBuild1, oBuildSlice, vPack, vPack1, oLoad, oStore, oStore1, oNil, oUn, oConv, oMakeSlice, oSliceStr, oSliceLst, oSliceSl, oSlice, oFieldAddr, oField, ixA, ixSl, ixLst, ixPtr, ixCp, oIndexAddr, ixStr, ixAgg, oIndex, oLook1, oLookI, oLookS, oLookup, oMapUp1, oMapUpI, oMapUpS, oMapUp, oAssert2, oAssert1, oAssert, oExtract, vInt, oLen, oAppSl, oAppMk, oCap, oAppend, oBuiltin, oCall, oMkF, aok, cond_eq_ite] at h
    repeat' (first | (cases h; done) | split at h)
end
end Go.Proofs.YtpflobodmglmaaaGreat
set_option linter.unusedVariables false
set_option maxHeartbeats 4000000
namespace Go.Proofs.YtpflobodmglmaaaGreat
section
variable {P : Program} {G : Gh} {ev : Operand → AV} {op : Op} {M M2 M' : Mem} {r : AV} {fid : Nat}
def AR.at (r : AR) (M2 : Mem) : AR := match r with | .val v _ => .val v M2 | r => r
theorem peek_same {s : Nat} {p : AV} (h : ∀ id ∈ idOf p, M2.h.get id = M.h.get id) : peek M2 s p = peek M s p := by
  cases p <;> try rfl
  show peekB _ _ _ _ _ = peekB _ _ _ _ _
  rw [h _ (List.mem_cons_self ..)]
theorem opA_read (hw : isW op = false) (hn : isN op = false) (hm : ∀ id ∈ readsOf op ev fid, M2.h.get id = M.h.get id) : opA op P ev M2 fid = (opA op P ev M fid).at M2 := by
  cases op with
  | load t a =>
    have := peek_same (s := szB P t) (p := ev a) hm
    simp only [opA, hLoad, this]
    generalize peek M (szB P t) (ev a) = x
    simp only [oLoad, vPack, vPack1, cond_eq_ite]
    repeat' split
    all_goals rfl
  | lookup t m k ok =>
    have hm : ∀ id ∈ idOf (ev m), M2.h.get id = M.h.get id := hm
    simp only [opA, hLookup]
    generalize ev m = x at hm ⊢
    unfold oLookup
    split
    · rename_i id
      rw [hm id (List.mem_cons_self ..)]
      simp only [oLook1, oLookI, oLookS, cond_eq_ite]
      repeat' split
      all_goals first | rfl | simp_all
    all_goals
      try simp only [oLook1, oLookS, cond_eq_ite]
      repeat' split
      all_goals first | rfl | simp_all
  | call c =>
    obtain ⟨callee, args, ts⟩ := c
    cases callee with
    | builtin b =>
      cases b with
      | len =>
        show oBuiltin P .len ts.toList (args.toList.map ev) M2 fid = AR.at (oBuiltin P .len ts.toList (args.toList.map ev) M fid) M2
        have hm : ∀ id ∈ (match args.toList with | [x] => idOf (ev x) | _ => []), M2.h.get id = M.h.get id := hm
        generalize args.toList = l at hm ⊢
        generalize ts.toList = tl
        match tl, l, hm with
        | [], _, _ => simp only [oBuiltin]; rfl
        | t :: _, [], _ => rfl
        | t :: _, _ :: _ :: _, _ => rfl
        | t :: _, [x], hm =>
          have hm : ∀ id ∈ idOf (ev x), M2.h.get id = M.h.get id := hm
          show oLen (undB P t) (ev x) M2 = (oLen (undB P t) (ev x) M).at M2
          generalize ev x = x at hm ⊢
          unfold oLen
          split
          case h_5 id =>
            rw [hm id (List.mem_cons_self ..)]
            simp only [vInt, cond_eq_ite]
            repeat' split
            all_goals first | rfl | simp_all
          all_goals
            try simp only [vInt, cond_eq_ite]
            repeat' split
            all_goals first | rfl | simp_all
      | max =>
        simp only [opA, hCall, oCall, oBuiltin]
        repeat' split
        all_goals first | rfl | simp_all
      | min =>
        simp only [opA, hCall, oCall, oBuiltin]
        repeat' split
        all_goals first | rfl | simp_all
      | _ => cases hw
    | value f => rfl
    | invoke f n => rfl
  | alloc t => cases hn
  | box t x => cases hn
  | buildSlice t l p => cases hn
  | makeMap t x => cases hn
  | makeSlice t l c => cases hn
  | store t a x => cases hw
  | mapUpdate t m k x => cases hw
  | insert t m k x => cases hw
  | defer c => cases hw
  | panic x => cases hw
  | _ =>
    simp only [opA, hMove, hPick, hBuild, hNo, hNil, hBin, hUn, hConv, hMkI, hMkF, hSlice, hFieldAddr, hField, hIndexAddr, hIndex, hAssert, hExtract, oPick, oBuild, oBuildP, oBuildA, oBuild1, vPack, vPack1, oNil, oUn, oConv, oSliceStr, oSliceLst, oSliceSl, oSlice, oFieldAddr, oField, ixA, ixSl, ixLst, ixPtr, ixCp, oIndexAddr, ixStr, ixAgg, oIndex, oAssert2, oAssert1, oAssert, oExtract, oMkF, aok, cond_eq_ite]
    repeat' split
    all_goals first | rfl | simp_all [AR.at]
theorem mkMB_ne {t : Nat} : mkMB P t ≠ .gone := by
  unfold mkMB mkMB2
  repeat' split
  all_goals simp
theorem opA_make (hn : isN op = true) (h : opA op P ev M fid = .val r M') : ∃ k, k ≠ .gone ∧ M' = newB M fid k ∧ readsOf op ev fid = [fid] ∧ ∀ M2, opA op P ev M2 fid = .val r (newB M2 fid k) := by
  cases op with
  | alloc t =>
    have h : oNewVar (zeroC P t) fid M = .val r M' := h
    unfold oNewVar at h
    split at h
    · rename_i cs hc
      cases h
      exact ⟨_, by simp, rfl, rfl, fun M2 => by show oNewVar (zeroC P t) fid M2 = _; rw [hc]; rfl⟩
    · cases h
  | box t x =>
    have h : oNewVar (ev x).cells fid M = .val r M' := h
    unfold oNewVar at h
    split at h
    · rename_i cs hc
      cases h
      exact ⟨_, by simp, rfl, rfl, fun M2 => by show oNewVar (ev x).cells fid M2 = _; rw [hc]; rfl⟩
    · cases h
  | makeMap t x =>
    cases x with
    | none => cases h; exact ⟨_, mkMB_ne, rfl, rfl, fun M2 => rfl⟩
    | some x => cases h
  | buildSlice t l p =>
    have h : oBuildSlice P (undB P t) l (evP ev p.toList) M fid = .val r M' := h
    unfold oBuildSlice at h
    split at h
    · rename_i e hd
      split at h
      · rename_i z hz
        obtain ⟨h1, rfl, rfl⟩ := bif_val h
        refine ⟨_, ?_, rfl, rfl, fun M2 => ?_⟩
        · simp
        · show oBuildSlice P (undB P t) l (evP ev p.toList) M2 fid = _
          unfold oBuildSlice
          simp only [hd, hz, h1]
          rfl
      · cases h
    · cases h
  | makeSlice t l c =>
    have h : oMakeSlice P (undB P t) (ev l) (ev c) M fid = .val r M' := h
    unfold oMakeSlice at h
    split at h
    · rename_i e n m hd he1 he2
      split at h
      · rename_i z hz
        obtain ⟨h1, rfl, rfl⟩ := bif_val h
        refine ⟨_, ?_, rfl, rfl, fun M2 => ?_⟩
        · simp
        · show oMakeSlice P (undB P t) (ev l) (ev c) M2 fid = _
          unfold oMakeSlice
          simp only [hd, he1, he2, hz, h1]
          rfl
      · cases h
    · cases h
  | _ => cases hn
theorem getSlQ_eq (M : Mem) (x : AV) : getSl M x = (match getSlQ M x with | some (c, k, g) => (bif c then some (k, g) else none) | none => none) := by
  cases x <;> try rfl
  rename_i id off len fl sz
  unfold getSl getSlQ
  dsimp only
  split <;> rfl
def QOk (q : AQ) (r : AR) : Prop := q = .plain r ∨ (∃ y, q = .plain (.no y)) ∨ ∃ c v M' y, q = .chk c v M' y ∧ (c = true → r = .val v M')
theorem app_ok (sz : Nat) (s x : AV) (M : Mem) (fid : Nat) : QOk (qAppend sz s (getSlQ M x) M fid) (oAppend sz s (getSl M x) M fid) := by
  rw [getSlQ_eq]
  generalize getSlQ M x = r
  cases r with
  | none => exact .inl rfl
  | some r =>
    obtain ⟨c, k, gx⟩ := r
    show QOk (qAppend sz s (some (c, k, gx)) M fid) (oAppend sz s (bif c then some (k, gx) else none) M fid)
    cases s <;> try exact .inr (.inl ⟨_, rfl⟩)
    · rename_i nl full n g
      unfold qAppend oAppend
      dsimp only
      cases hk : Nat.beq k 0 with
      | true =>
        refine .inr (.inr ⟨_, _, _, _, rfl, fun h => ?_⟩)
        simp only [Bool.and_eq_true] at h
        obtain ⟨rfl, h⟩ := h
        have h : (full && (Nat.ble (n + k) 16777216 && (Nat.blt 0 sz && ((Nat.beq n 0 || Nat.beq (g 0).length sz) && (true || Nat.beq (gx 0).length sz))))) = true := by simpa only [Bool.and_eq_true] using h
        show (bif full && (Nat.ble (n + k) 16777216 && (Nat.blt 0 sz && ((Nat.beq n 0 || Nat.beq (g 0).length sz) && (Nat.beq k 0 || Nat.beq (gx 0).length sz)))) then (bif Nat.beq k 0 then _ else _) else _) = _
        rw [hk, h]
        rfl
      | false =>
        refine .inr (.inr ⟨_, _, _, _, rfl, fun h => ?_⟩)
        simp only [Bool.and_eq_true] at h
        obtain ⟨rfl, h⟩ := h
        have h : (full && (Nat.ble (n + k) 16777216 && (Nat.blt 0 sz && ((Nat.beq n 0 || Nat.beq (g 0).length sz) && (false || Nat.beq (gx 0).length sz))))) = true := by simpa only [Bool.and_eq_true] using h
        show (bif full && (Nat.ble (n + k) 16777216 && (Nat.blt 0 sz && ((Nat.beq n 0 || Nat.beq (g 0).length sz) && (Nat.beq k 0 || Nat.beq (gx 0).length sz)))) then (bif Nat.beq k 0 then _ else _) else _) = _
        rw [hk, h]
        rfl
    · rename_i id off n full sz'
      unfold qAppend oAppend
      dsimp only
      cases hz : Nat.beq sz sz' with
      | false =>
        exact .inr (.inl ⟨_, rfl⟩)
      | true =>
        show QOk (qAppSl id off n full sz (.sl id off n full sz') c k gx (M.h.get id) M fid) _
        generalize M.h.get id = b
        unfold qAppSl
        split
        · rename_i sz2 n0 g
          cases hk : Nat.beq k 0 with
          | true =>
            refine .inr (.inr ⟨_, _, _, _, rfl, fun h => ?_⟩)
            simp only [Bool.and_eq_true] at h
            obtain ⟨rfl, h⟩ := h
            have h : (Nat.beq sz sz2 && (Nat.ble (n + k) 16777216 && (Nat.ble (off + n) n0 && (Nat.blt 0 sz && (true || (Nat.beq (gx 0).length sz && (full || allOne k gx))))))) = true := by simpa only [Bool.and_eq_true] using h
            show (bif Nat.beq sz sz2 && (Nat.ble (n + k) 16777216 && (Nat.ble (off + n) n0 && (Nat.blt 0 sz && (Nat.beq k 0 || (Nat.beq (gx 0).length sz && (full || allOne k gx)))))) then (bif Nat.beq k 0 then _ else _) else _) = _
            rw [hk, h]
            rfl
          | false =>
            refine .inr (.inr ⟨_, _, _, _, rfl, fun h => ?_⟩)
            simp only [Bool.and_eq_true] at h
            obtain ⟨rfl, h⟩ := h
            have h : (Nat.beq sz sz2 && (Nat.ble (n + k) 16777216 && (Nat.ble (off + n) n0 && (Nat.blt 0 sz && (false || (Nat.beq (gx 0).length sz && (full || allOne k gx))))))) = true := by simpa only [Bool.and_eq_true] using h
            show (bif Nat.beq sz sz2 && (Nat.ble (n + k) 16777216 && (Nat.ble (off + n) n0 && (Nat.blt 0 sz && (Nat.beq k 0 || (Nat.beq (gx 0).length sz && (full || allOne k gx)))))) then (bif Nat.beq k 0 then _ else _) else _) = _
            rw [hk, h]
            rfl
        · exact .inr (.inl ⟨_, rfl⟩)
/-- An operation's check, apart. -/
theorem opR_ok0 (op : Op) (hc : ∀ c, op ≠ .call c) (P : Program) (ev : Operand → AV) (M : Mem) (fid : Nat) : opR op P ev M fid = .plain (opA op P ev M fid) ∨ ∃ c v M' y, opR op P ev M fid = .chk c v M' y ∧ opA op P ev M fid = (bif c then .val v M' else .no y) := by
  cases op with
  | binOp op t x y t2 =>
    show qBin1 M (binA op (undB P t) (ev x) (ev y)) = .plain (aok M (binA op (undB P t) (ev x) (ev y))) ∨ ∃ c v M' z, qBin1 M (binA op (undB P t) (ev x) (ev y)) = .chk c v M' z ∧ aok M (binA op (undB P t) (ev x) (ev y)) = _
    generalize binA op (undB P t) (ev x) (ev y) = r
    cases r with
    | none => exact .inl rfl
    | some r => exact .inr ⟨_, _, _, _, rfl, rfl⟩
  | load t a =>
    show qLoad1 _ _ M = .plain (oLoad _ _ M) ∨ ∃ c v M' y, qLoad1 _ _ M = _ ∧ oLoad _ _ M = _
    generalize peek M (szB P t) (ev a) = x
    cases x with
    | none => exact .inl rfl
    | some x =>
      obtain ⟨c, cs⟩ := x
      show qLoad2 _ c M = .plain (vPack1 _ c M) ∨ ∃ c' v M' y, qLoad2 _ c M = _ ∧ vPack1 _ c M = _
      generalize pack (isAggB P t) cs = y
      cases y with
      | none => exact .inl rfl
      | some v => exact .inr ⟨_, _, _, _, rfl, rfl⟩
  | store t a x =>
    show qStore2 _ _ _ M = .plain (oStore _ _ _ M) ∨ ∃ c v M' y, qStore2 _ _ _ M = _ ∧ oStore _ _ _ M = _
    generalize (ev x).cells = y
    cases y with
    | none => exact .inl rfl
    | some vs =>
      unfold qStore2 oStore
      dsimp only
      cases Nat.beq vs.length (szB P t) && Nat.blt 0 (szB P t) with
      | false => exact .inl rfl
      | true =>
        show qStore1 _ = .plain (oStore1 _) ∨ ∃ c v M' y, qStore1 _ = _ ∧ oStore1 _ = _
        generalize poke M vs (ev a) = z
        cases z with
        | none => exact .inl rfl
        | some z => exact .inr ⟨_, _, _, _, rfl, rfl⟩
  | makeSlice t l c =>
    show qMkS1 P _ _ _ M fid = .plain (oMakeSlice P _ _ _ M fid) ∨ ∃ c v M' y, qMkS1 P _ _ _ M fid = _ ∧ oMakeSlice P _ _ _ M fid = _
    generalize undB P t = d
    generalize ev l = l
    generalize ev c = c
    unfold qMkS1 oMakeSlice
    split
    · rename_i e n m
      cases zeroC P e with
      | none => exact .inl rfl
      | some z => exact .inr ⟨_, _, _, _, rfl, rfl⟩
    · exact .inl rfl
  | indexAddr t x i =>
    show qIx1 P _ _ _ M = .plain (oIndexAddr P _ _ _ M) ∨ ∃ c v M' y, qIx1 P _ _ _ M = _ ∧ oIndexAddr P _ _ _ M = _
    generalize undB P t = d
    generalize ev x = x
    generalize ev i = i
    cases x <;> try exact .inl rfl
    all_goals
      show qxA i _ = .plain (ixA i _) ∨ ∃ c v M' y, qxA i _ = _ ∧ ixA i _ = _
      cases i <;> try exact .inl rfl
      first
        | (show qxPtr P d _ _ _ _ _ M = .plain (ixPtr P d _ _ _ _ _ M) ∨ ∃ c v M' y, qxPtr P d _ _ _ _ _ M = _ ∧ ixPtr P d _ _ _ _ _ M = _
           unfold qxPtr ixPtr
           split
           · exact .inr ⟨_, _, _, _, rfl, rfl⟩
           · exact .inl rfl)
        | (show qxCp P d _ _ M = .plain (ixCp P d _ _ M) ∨ ∃ c v M' y, qxCp P d _ _ M = _ ∧ ixCp P d _ _ M = _
           unfold qxCp ixCp
           split
           · exact .inr ⟨_, _, _, _, rfl, rfl⟩
           · exact .inl rfl)
        | (show qxLst P d _ _ _ M = .plain (ixLst P d _ _ _ M) ∨ ∃ c v M' y, qxLst P d _ _ _ M = _ ∧ ixLst P d _ _ _ M = _
           unfold qxLst ixLst
           split
           · exact .inr ⟨_, _, _, _, rfl, rfl⟩
           · exact .inl rfl)
        | (show qxSl P d _ _ _ _ _ M = .plain (ixSl P d _ _ _ _ _ M) ∨ ∃ c v M' y, qxSl P d _ _ _ _ _ M = _ ∧ ixSl P d _ _ _ _ _ M = _
           unfold qxSl ixSl
           split
           · exact .inr ⟨_, _, _, _, rfl, rfl⟩
           · exact .inl rfl)
  | slice t x lo hi mx =>
    show qSlice1 P _ _ _ _ _ M = .plain (oSlice P _ _ _ _ _ M) ∨ ∃ c v M' y, qSlice1 P _ _ _ _ _ M = _ ∧ oSlice P _ _ _ _ _ M = _
    generalize undB P t = d
    generalize ev x = x
    generalize lo.map ev = lo
    generalize hi.map ev = hi
    generalize mx.map ev = mx
    cases x <;> try exact .inl rfl
    · rename_i s
      unfold qSlice1 oSlice
      dsimp only
      cases dStr d with
      | false => exact .inl rfl
      | true =>
        show qSliceStr s M (slA s.data.toList.length lo hi none) mx = .plain (oSliceStr s M (slA s.data.toList.length lo hi none) mx) ∨ ∃ c v M' y, qSliceStr s M (slA s.data.toList.length lo hi none) mx = .chk c v M' y ∧ oSliceStr s M (slA s.data.toList.length lo hi none) mx = (bif c then .val v M' else .no y)
        generalize slA s.data.toList.length lo hi none = r
        cases r with
        | none => exact .inl rfl
        | some r =>
          cases mx with
          | none => exact .inr ⟨_, _, _, _, rfl, rfl⟩
          | some m => exact .inl rfl
    · rename_i nl fl n g
      unfold qSlice1 oSlice
      dsimp only
      cases dSli d with
      | false => exact .inl rfl
      | true =>
        show qSliceLst (sliceSz P d) nl g M (slA n lo hi mx) = .plain (oSliceLst (sliceSz P d) nl g M (slA n lo hi mx)) ∨ ∃ c v M' y, qSliceLst (sliceSz P d) nl g M (slA n lo hi mx) = .chk c v M' y ∧ oSliceLst (sliceSz P d) nl g M (slA n lo hi mx) = (bif c then .val v M' else .no y)
        generalize slA n lo hi mx = r
        cases r with
        | none => exact .inl rfl
        | some r => exact .inr ⟨_, _, _, _, rfl, rfl⟩
    · rename_i id off len fl sz
      unfold qSlice1 oSlice
      dsimp only
      cases dSli d with
      | false => exact .inl rfl
      | true =>
        show qSliceSl (sliceSz P d) id off len fl sz M (slA len lo hi mx) = .plain (oSliceSl (sliceSz P d) id off len fl sz M (slA len lo hi mx)) ∨ ∃ c v M' y, qSliceSl (sliceSz P d) id off len fl sz M (slA len lo hi mx) = .chk c v M' y ∧ oSliceSl (sliceSz P d) id off len fl sz M (slA len lo hi mx) = (bif c then .val v M' else .no y)
        generalize slA len lo hi mx = r
        cases r with
        | none => exact .inl rfl
        | some r => exact .inr ⟨_, _, _, _, rfl, rfl⟩
  | index t x i =>
    show qIndex1 P _ _ _ M = .plain (oIndex P _ _ _ M) ∨ ∃ c v M' y, qIndex1 P _ _ _ M = _ ∧ oIndex P _ _ _ M = _
    generalize undB P t = d
    generalize ev x = x
    generalize ev i = i
    cases x <;> try exact .inl rfl
    unfold qIndex1 oIndex
    dsimp only
    split
    · cases i <;> try exact .inl rfl
      exact .inr ⟨_, _, _, _, rfl, rfl⟩
    · exact .inl rfl
  | call c => exact absurd rfl (hc c)
  | _ => exact .inl rfl
theorem opR_ok (op : Op) (P : Program) (ev : Operand → AV) (M : Mem) (fid : Nat) : QOk (opR op P ev M fid) (opA op P ev M fid) := by
  by_cases h : ∃ c, op = .call c
  · obtain ⟨c, rfl⟩ := h
    obtain ⟨callee, args, ts⟩ := c
    cases callee with
    | value f => exact .inl rfl
    | invoke a b => exact .inl rfl
    | builtin b =>
      cases b <;> try exact .inl rfl
      show QOk (qApp1 P ts.toList (args.toList.map ev) M fid) (oBuiltin P .append ts.toList (args.toList.map ev) M fid)
      generalize ts.toList = ts
      generalize args.toList.map ev = as
      match ts, as with
      | [t0, t1], [s, x] =>
        show QOk (bif byOk P (undB P t0) && notInt (undB P t1) then qAppend (sliceSz P (undB P t0)) s (getSlQ M x) M fid else _) (bif byOk P (undB P t0) && notInt (undB P t1) then oAppend (sliceSz P (undB P t0)) s (getSl M x) M fid else _)
        cases byOk P (undB P t0) && notInt (undB P t1) with
        | false => exact .inl rfl
        | true => exact app_ok _ _ _ _ _
      | [], _ => exact .inl rfl
      | [_], _ => exact .inl rfl
      | _ :: _ :: _ :: _, _ => exact .inl rfl
      | [_, _], [] => exact .inl rfl
      | [_, _], [_] => exact .inl rfl
      | [_, _], _ :: _ :: _ :: _ => exact .inl rfl
  · rcases opR_ok0 op (fun c e => h ⟨c, e⟩) P ev M fid with h | ⟨c, v, M', y, h1, h2⟩
    · exact .inl h
    · exact .inr (.inr ⟨c, v, M', y, h1, fun e => by rw [h2, e]; rfl⟩)
theorem opX_eq (b : Bool) (op : Op) : opX b op = opR op := by
  cases b with
  | false => rfl
  | true =>
    show opS op = opR op
    cases op with
    | store t a x =>
      funext P ev M fid
      show qStore2S _ _ _ M = qStore2 _ _ _ M
      unfold qStore2S qStore2
      have : ∀ vs, pokeS M vs (ev a) = poke M vs (ev a) := fun vs => by
        unfold pokeS poke
        split
        · unfold pokeBS pokeB
          split
          · rfl
          · rw [updG_eq]
          · rfl
        · rfl
      simp only [this]
    | _ => rfl
theorem jOp_cases {R : Type} (er : Nat → R) (o : Oper) (b : Bool) {t : Bool} (ht : t = false) {P : Program} {ev : Operand → AV} {M : Mem} {fid : Nat} (nxt : AV → Mem → R) (pan : AV → R) :
    (∃ c, jOp er (opT t (opX b o.op P ev M fid)) o nxt pan = er c) ∨ (∃ v M2, opA o.op P ev M fid = .val v M2 ∧ jOp er (opT t (opX b o.op P ev M fid)) o nxt pan = nxt v M2) ∨ (∃ v, opA o.op P ev M fid = .panic v ∧ jOp er (opT t (opX b o.op P ev M fid)) o nxt pan = pan v) := by
  have e : opT t (opX b o.op P ev M fid) = opR o.op P ev M fid := by rw [opX_eq, ht]; rfl
  rw [e]
  rcases opR_ok o.op P ev M fid with h | ⟨y, h⟩ | ⟨c, v, M', y, h1, h2⟩
  · rw [h]
    show (∃ c, jOp1 er _ o nxt pan = er c) ∨ (∃ v M2, _ ∧ jOp1 er _ o nxt pan = nxt v M2) ∨ (∃ v, _ ∧ jOp1 er _ o nxt pan = pan v)
    cases opA o.op P ev M fid with
    | val v M2 => exact .inr (.inl ⟨v, M2, rfl, rfl⟩)
    | panic v => exact .inr (.inr ⟨v, rfl, rfl⟩)
    | no c => exact .inl ⟨_, rfl⟩
  · rw [h]
    exact .inl ⟨_, rfl⟩
  · rw [h1]
    cases c with
    | true => exact .inr (.inl ⟨v, M', h2 rfl, rfl⟩)
    | false => exact .inl ⟨_, rfl⟩
end
end Go.Proofs.YtpflobodmglmaaaGreat
set_option linter.unusedVariables false
set_option maxHeartbeats 4000000
namespace Go.Proofs.YtpflobodmglmaaaGreat
section
variable {P : Program} {op : Op} {M M' : Mem} {r : AV} {fid : Nat} {tm tm2 : Tr AV} {ev : Operand → AV}
def Ag (tm tm2 : Tr AV) (l : List Nat) : Prop := ∀ t ∈ l, tm.get t = tm2.get t
theorem Ag.one {x : Operand} (h : Ag tm tm2 (oT x)) : evA tm x = evA tm2 x := by
  cases x with
  | tmp t =>
    have := h t (List.mem_cons_self ..)
    show (tm.get t).getD .undef = (tm2.get t).getD .undef
    rw [this]
  | _ => rfl
theorem Ag.left {a b : List Nat} (h : Ag tm tm2 (a ++ b)) : Ag tm tm2 a := fun t ht => h t (List.mem_append_left _ ht)
theorem Ag.right {a b : List Nat} (h : Ag tm tm2 (a ++ b)) : Ag tm tm2 b := fun t ht => h t (List.mem_append_right _ ht)
theorem Ag.mem {l : List Operand} (h : Ag tm tm2 (oTs l)) {x : Operand} (hx : x ∈ l) : evA tm x = evA tm2 x := Ag.one fun t ht => h t (List.mem_flatMap.2 ⟨x, hx, ht⟩)
theorem Ag.map {l : List Operand} (h : Ag tm tm2 (oTs l)) : l.map (evA tm) = l.map (evA tm2) := List.map_congr_left fun x hx => h.mem hx
theorem Ag.evP {l : List (Nat × Operand)} (h : Ag tm tm2 (oTp l)) : evP (evA tm) l = evP (evA tm2) l := List.map_congr_left fun p hp => by rw [Ag.one (x := p.2) fun t ht => h t (List.mem_flatMap.2 ⟨p, hp, ht⟩)]
theorem Ag.opt {x : Option Operand} (h : Ag tm tm2 (oTo x)) : x.map (evA tm) = x.map (evA tm2) := by
  cases x with
  | none => rfl
  | some x => simp only [Option.map_some]; rw [Ag.one h]
theorem opA_congr (h : Ag tm tm2 (opTmps op)) : opA op P (evA tm) M fid = opA op P (evA tm2) M fid ∧ readsOf op (evA tm) fid = readsOf op (evA tm2) fid := by
  have m0 : ∀ {x : Operand} {l : List Operand}, x ∈ x :: l := List.mem_cons_self ..
  have m1 : ∀ {x y : Operand} {l : List Operand}, x ∈ y :: x :: l := List.mem_cons_of_mem _ (List.mem_cons_self ..)
  have m2 : ∀ {x y z : Operand} {l : List Operand}, x ∈ y :: z :: x :: l := List.mem_cons_of_mem _ (List.mem_cons_of_mem _ (List.mem_cons_self ..))
  cases op with
  | move x => simp only [opA, hMove, readsOf, Ag.one (x := x) h, and_self]
  | assign x => simp only [opA, hMove, readsOf, Ag.one (x := x) h, and_self]
  | pick c a b =>
    have h : Ag tm tm2 (oTs [c, a, b]) := h
    simp only [opA, hPick, readsOf, h.mem (x := c) m0, h.mem (x := a) m1, h.mem (x := b) m2, and_self]
  | box t x => simp only [opA, hBox, readsOf, Ag.one (x := x) h, and_self]
  | build t ps =>
    have h : Ag tm tm2 (oTp ps.toList) := h
    simp only [opA, hBuild, readsOf, h.evP, and_self]
  | buildSlice t n ps =>
    have h : Ag tm tm2 (oTp ps.toList) := h
    simp only [opA, hBuildSlice, readsOf, h.evP, and_self]
  | insert t m k x =>
    have h : Ag tm tm2 (oTs [m, k, x]) := h
    simp only [opA, hMapUp, readsOf, h.mem (x := m) m0, h.mem (x := k) m1, h.mem (x := x) m2, and_self]
  | load t a => simp only [opA, hLoad, readsOf, Ag.one (x := a) h, and_self]
  | store t a x =>
    have h : Ag tm tm2 (oTs [a, x]) := h
    simp only [opA, hStore, readsOf, h.mem (x := a) m0, h.mem (x := x) m1, and_self]
  | nilCheck x => simp only [opA, hNil, readsOf, Ag.one (x := x) h, and_self]
  | binOp o t x y u =>
    have h : Ag tm tm2 (oTs [x, y]) := h
    simp only [opA, hBin, readsOf, h.mem (x := x) m0, h.mem (x := y) m1, and_self]
  | unOp o t x => simp only [opA, hUn, readsOf, Ag.one (x := x) h, and_self]
  | convert s d x => simp only [opA, hConv, readsOf, Ag.one (x := x) h, and_self]
  | makeInterface t x => simp only [opA, hMkI, readsOf, Ag.one (x := x) h, and_self]
  | makeFunc f a b =>
    have h : Ag tm tm2 (oTs a.toList ++ oTs b.toList) := h
    simp only [opA, hMkF, readsOf, h.left.map, h.right.map, and_self]
  | makeSlice t l c =>
    have h : Ag tm tm2 (oTs [l, c]) := h
    simp only [opA, hMkS, readsOf, h.mem (x := l) m0, h.mem (x := c) m1, and_self]
  | slice t x lo hi mx =>
    have h : Ag tm tm2 (oT x ++ (oTo lo ++ (oTo hi ++ oTo mx))) := h
    simp only [opA, hSlice, readsOf, Ag.one h.left, Ag.opt h.right.left, Ag.opt h.right.right.left, Ag.opt h.right.right.right, and_self]
  | fieldAddr s x f => simp only [opA, hFieldAddr, readsOf, Ag.one (x := x) h, and_self]
  | field s x f => simp only [opA, hField, readsOf, Ag.one (x := x) h, and_self]
  | indexAddr t x i =>
    have h : Ag tm tm2 (oTs [x, i]) := h
    simp only [opA, hIndexAddr, readsOf, h.mem (x := x) m0, h.mem (x := i) m1, and_self]
  | index t x i =>
    have h : Ag tm tm2 (oTs [x, i]) := h
    simp only [opA, hIndex, readsOf, h.mem (x := x) m0, h.mem (x := i) m1, and_self]
  | lookup t m k ok =>
    have h : Ag tm tm2 (oTs [m, k]) := h
    simp only [opA, hLookup, readsOf, h.mem (x := m) m0, h.mem (x := k) m1, and_self]
  | mapUpdate t m k x =>
    have h : Ag tm tm2 (oTs [m, k, x]) := h
    simp only [opA, hMapUp, readsOf, h.mem (x := m) m0, h.mem (x := k) m1, h.mem (x := x) m2, and_self]
  | typeAssert x t u ok => simp only [opA, hAssert, readsOf, Ag.one (x := x) h, and_self]
  | extract x i => simp only [opA, hExtract, readsOf, Ag.one (x := x) h, and_self]
  | call c =>
    obtain ⟨callee, args, ts⟩ := c
    cases callee with
    | builtin b =>
      have h : Ag tm tm2 (oTs args.toList) := h
      refine ⟨by simp only [opA, hCall, oCall, h.map], ?_⟩
      cases b <;> try rfl
      show (match args.toList with | [x] => idOf (evA tm x) | _ => []) = (match args.toList with | [x] => idOf (evA tm2 x) | _ => [])
      have key : ∀ l : List Operand, Ag tm tm2 (oTs l) → (match l with | [x] => idOf (evA tm x) | _ => []) = (match l with | [x] => idOf (evA tm2 x) | _ => []) := fun l h => by
        match l, h with
        | [], _ => rfl
        | [x], h => exact congrArg idOf (h.mem (List.mem_cons_self ..))
        | _ :: _ :: _, _ => rfl
      exact key _ h
    | value f => exact ⟨rfl, rfl⟩
    | invoke f n => exact ⟨rfl, rfl⟩
  | panic x => simp only [opA, hPanic, readsOf, Ag.one (x := x) h, and_self]
  | alloc t => exact ⟨rfl, rfl⟩
  | makeMap t x => cases x <;> exact ⟨rfl, rfl⟩
  | _ => exact ⟨rfl, rfl⟩
end
end Go.Proofs.YtpflobodmglmaaaGreat
set_option linter.unusedVariables false
set_option maxHeartbeats 4000000
namespace Go.Proofs.YtpflobodmglmaaaGreat
section
variable {P : Program} {op : Op} {M M' : Mem} {r : AV} {fid : Nat} {ev : Operand → AV}
/-- What one memory has that the other has not: blocks that the log names, and those that S lets be born. -/
structure AT (S : Nat → Prop) (M M' : Mem) : Prop where
  nx : M.nx ≤ M'.nx
  lg : ∃ ex, M'.lg = ex ++ M.lg ∧ ∀ id, ¬ S id → id ∉ ex → M'.h.get id = M.h.get id
  own : ∀ id, Own M' id → Own M id ∨ S id
  wf : (∀ id, Own M id → id < M.nx) → ∀ id, Own M' id → id < M'.nx
theorem at_mk {S : Nat → Prop} {M M' : Mem} (nx : M.nx ≤ M'.nx) (lg : ∃ ex, M'.lg = ex ++ M.lg ∧ ∀ id, ¬ S id → id ∉ ex → M'.h.get id = M.h.get id) (own : ∀ id, Own M' id → Own M id ∨ S id) (h : ∀ id, S id → id < M'.nx) : AT S M M' :=
  ⟨nx, lg, own, fun hw id o => (own id o).elim (fun o => Nat.lt_of_lt_of_le (hw id o) nx) (h id)⟩
theorem AT.refl (S : Nat → Prop) (M : Mem) : AT S M M := ⟨Nat.le_refl _, ⟨[], rfl, fun _ _ _ => rfl⟩, fun _ h => .inl h, fun h => h⟩
theorem AT.trans {S T U : Nat → Prop} {M M' M'' : Mem} (h : AT S M M') (k : AT T M' M'') (hS : ∀ id, S id → U id) (hT : ∀ id, T id → U id) : AT U M M'' := by
  obtain ⟨x, hx, h1⟩ := h.lg
  obtain ⟨y, hy, k1⟩ := k.lg
  refine ⟨Nat.le_trans h.nx k.nx, ⟨y ++ x, by rw [hy, hx, List.append_assoc], fun id hi hn => ?_⟩, fun id o => ?_, fun hw => k.wf (h.wf hw)⟩
  · rw [k1 id (fun e => hi (hT id e)) (fun e => hn (List.mem_append.2 (.inl e))), h1 id (fun e => hi (hS id e)) (fun e => hn (List.mem_append.2 (.inr e)))]
  · rcases k.own id o with e | e
    · exact (h.own id e).imp (fun e => e) (hS id)
    · exact .inr (hT id e)
theorem at_new (k : Blk) (hfx : fid < M.nx) : AT (· = fid) M (newB M fid k) := by
  have gm : ∀ id, (newB M fid k).h.get id = if fid = id then some k else M.h.get id := fun id => get_set _ _ _ _
  refine at_mk (Nat.le_refl _) ⟨[], rfl, fun id h _ => ?_⟩ (fun id ⟨q, h1, h2⟩ => ?_) (fun id e => by rw [e]; exact hfx)
  · rw [gm, if_neg (fun e => h e.symm)]
  · rw [gm] at h1
    by_cases e : fid = id
    · exact .inr e.symm
    · rw [if_neg e] at h1; exact .inl ⟨q, h1, h2⟩
theorem at_put {id : Nat} {k : Blk} (ho : Own M id) (hfx : fid < M.nx) : AT (· = fid) M ⟨M.h.set id k, M.nx, id :: M.lg⟩ := by
  refine at_mk (Nat.le_refl _) ⟨[id], rfl, fun i _ hn => get_set_ne _ _ (fun e => hn (by simp [e]))⟩ (fun i ⟨q, h1, h2⟩ => ?_) (fun id e => by rw [e]; exact hfx)
  by_cases e : id = i
  · rw [← e]; exact .inl ho
  · exact .inl ⟨q, by rw [← h1]; exact (get_set_ne _ _ e).symm, h2⟩
theorem at_poke (hfx : fid < M.nx) {vs : List AV} {p : AV} (h : poke M vs p = some (true, M')) : AT (· = fid) M M' := by
  unfold poke at h
  split at h
  · rename_i id ix sz off
    unfold pokeB at h
    split at h
    · rename_i cs hb
      simp only [Option.some.injEq, Prod.mk.injEq] at h
      rw [← h.2]
      exact at_put ⟨_, hb, by simp⟩ hfx
    · rename_i s n g hb
      simp only [Option.some.injEq, Prod.mk.injEq] at h
      rw [← h.2]
      exact at_put ⟨_, hb, by simp⟩ hfx
    · cases h
  · cases h
theorem at_mapUp (hfx : fid < M.nx) {d : Option TypeDesc} {m k x : AV} (h : oMapUp d m k x M = .val r M') : AT (· = fid) M M' := by
  unfold oMapUp at h
  split at h
  · rename_i id
    split at h
    · rename_i es hb
      unfold oMapUp1 at h
      split at h
      · cases h; exact at_put ⟨_, hb, by simp⟩ hfx
      · cases h
    · rename_i kk kv l hb
      unfold oMapUpI at h
      split at h
      · obtain ⟨_, _, rfl⟩ := bif_val h
        exact at_put ⟨_, hb, by simp⟩ hfx
      · cases h
    · rename_i kv l hb
      unfold oMapUpS at h
      split at h
      · obtain ⟨_, _, rfl⟩ := bif_val h
        exact at_put ⟨_, hb, by simp⟩ hfx
      · cases h
    · cases h
  · cases h
theorem at_app (hfx : fid < M.nx) {id : Nat} {k : Blk} {full : Bool} : AT (· = fid) M ⟨(bif full then M.h else M.h.set id .gone).set fid k, M.nx, fid :: (bif full then M.lg else id :: M.lg)⟩ := by
  cases full with
  | true =>
    refine at_mk (Nat.le_refl _) ⟨[fid], rfl, fun i hi hn => get_set_ne _ _ (fun e => hi e.symm)⟩ (fun i ⟨q, h1, h2⟩ => ?_) (fun id e => by rw [e]; exact hfx)
    by_cases e : fid = i
    · exact .inr e.symm
    · exact .inl ⟨q, by rw [← h1]; exact (get_set_ne _ _ e).symm, h2⟩
  | false =>
    refine at_mk (Nat.le_refl _) ⟨[fid, id], rfl, fun i hi hn => ?_⟩ (fun i ⟨q, h1, h2⟩ => ?_) (fun id e => by rw [e]; exact hfx)
    · show ((M.h.set id .gone).set fid k).get i = _
      rw [get_set_ne _ _ (fun e => hi e.symm), get_set_ne _ _ (fun e => hn (by simp [e]))]
    · change ((M.h.set id .gone).set fid k).get i = _ at h1
      by_cases e : fid = i
      · exact .inr e.symm
      · rw [get_set_ne _ _ e] at h1
        by_cases e2 : id = i
        · rw [e2, get_set_self] at h1; cases h1; exact absurd rfl h2
        · rw [get_set_ne _ _ e2] at h1; exact .inl ⟨q, h1, h2⟩
theorem at_append (hfx : fid < M.nx) {sz : Nat} {s : AV} {x : Option (Nat × (Nat → List AV))} (h : oAppend sz s x M fid = .val r M') : AT (· = fid) M M' := by
  unfold oAppend at h
  split at h
  · rename_i k gx
    split at h
    · replace ⟨h1, h⟩ := bif_no h
      cases k with
      | zero => cases h; exact AT.refl _ _
      | succ k =>
        cases h
        exact at_app hfx (full := true) (id := 0)
    · rename_i id off n full sz'
      cases hcd : Nat.beq sz sz' with
      | false => rw [hcd] at h; cases h
      | true =>
        rw [hcd] at h
        simp only [cond_true] at h
        unfold oAppSl at h
        split at h
        · replace ⟨h1, h⟩ := bif_no h
          cases k with
          | zero => cases h; exact AT.refl _ _
          | succ k => cases h; exact at_app hfx
        · cases h
    · cases h
  · cases h
theorem nx_poke {vs : List AV} {p : AV} {b : Bool} (h : poke M vs p = some (b, M')) : M'.nx = M.nx := by
  unfold poke at h
  split at h
  · unfold pokeB at h
    split at h
    · simp only [Option.some.injEq, Prod.mk.injEq] at h; rw [← h.2]
    · simp only [Option.some.injEq, Prod.mk.injEq] at h; rw [← h.2]
    · cases h
  · cases h
theorem nx_mapUp {d : Option TypeDesc} {m k x : AV} (h : oMapUp d m k x M = .val r M') : M'.nx = M.nx := by
  unfold oMapUp at h
  split at h
  · split at h
    · unfold oMapUp1 at h
      split at h
      · cases h; rfl
      · cases h
    · unfold oMapUpI at h
      split at h
      · obtain ⟨_, _, rfl⟩ := bif_val h
        rfl
      · cases h
    · unfold oMapUpS at h
      split at h
      · obtain ⟨_, _, rfl⟩ := bif_val h
        rfl
      · cases h
    · cases h
  · cases h
theorem nx_append {sz : Nat} {s : AV} {x : Option (Nat × (Nat → List AV))} (h : oAppend sz s x M fid = .val r M') : M'.nx = M.nx := by
  unfold oAppend at h
  split at h
  · rename_i k gx
    split at h
    · replace ⟨h1, h⟩ := bif_no h
      cases k <;> (cases h; rfl)
    · rename_i id off n full sz'
      cases hcd : Nat.beq sz sz' with
      | false => rw [hcd] at h; cases h
      | true =>
        rw [hcd] at h
        simp only [cond_true] at h
        unfold oAppSl at h
        split at h
        · replace ⟨h1, h⟩ := bif_no h
          cases k <;> (cases h; rfl)
        · cases h
    · cases h
  · cases h
theorem at_store (hfx : fid < M.nx) {s : Nat} {a : AV} {vs : Option (List AV)} (h : oStore s a vs M = .val r M') : AT (· = fid) M M' ∧ M'.nx = M.nx := by
  unfold oStore at h
  split at h
  · replace ⟨h1, h⟩ := bif_no h
    unfold oStore1 at h
    split at h
    · rename_i c M2 hp
      obtain ⟨rfl, _, rfl⟩ := bif_val h
      exact ⟨at_poke hfx hp, nx_poke hp⟩
    · cases h
  · cases h
theorem at_appendB (hfx : fid < M.nx) {a b : Bool} {sz : Nat} {s s2 x2 : AV} {x : Option (Nat × (Nat → List AV))} {d : Option TypeDesc} {n : Nat} (h : (bif a then oAppend sz s x M fid else (bif b then oAppMk P d s2 x2 M fid else .no n)) = .val r M') : AT (· = fid) M M' ∧ M'.nx = M.nx := by
  cases a with
  | true => exact ⟨at_append hfx h, nx_append h⟩
  | false =>
    replace ⟨_, h⟩ := bif_no (show (bif b then oAppMk P d s2 x2 M fid else .no n) = _ from h)
    unfold oAppMk at h
    split at h
    · split at h
      · exact ⟨at_append hfx h, nx_append h⟩
      · cases h
    · cases h
theorem opA_at (hfx : fid < M.nx) (h : opA op P ev M fid = .val r M') : AT (· = fid) M M' ∧ M'.nx = M.nx := by
  cases hw : isW op with
  | false =>
    cases hn : isN op with
    | true =>
      obtain ⟨k, _, rfl, _, _⟩ := opA_make hn h
      exact ⟨at_new k hfx, rfl⟩
    | false =>
      have := opA_read (P := P) (M2 := M) (M := M) (fid := fid) (ev := ev) hw hn (fun _ _ => rfl)
      rw [h] at this
      cases this
      exact ⟨AT.refl _ _, rfl⟩
  | true =>
    cases op with
    | store t a x => exact at_store hfx h
    | mapUpdate t m k x => exact ⟨at_mapUp hfx h, nx_mapUp h⟩
    | insert t m k x => exact ⟨at_mapUp hfx h, nx_mapUp h⟩
    | panic x =>
      have h : oPanic (ev x) = .val r M' := h
      unfold oPanic at h
      split at h <;> cases h
    | defer c => cases h
    | call c =>
      obtain ⟨callee, args, ts⟩ := c
      cases callee with
      | builtin b =>
        cases b with
        | append =>
          have h : oBuiltin P .append ts.toList (args.toList.map ev) M fid = .val r M' := h
          unfold oBuiltin at h
          split at h
          · rename_i e _ _; cases e
          · rename_i e _; cases e
          · rename_i e _; cases e
          · exact at_appendB hfx h
          · rename_i e _ _; cases e
          · cases h
        | cap =>
          have h : oBuiltin P .cap ts.toList (args.toList.map ev) M fid = .val r M' := h
          unfold oBuiltin at h
          split at h
          · rename_i e _ _; cases e
          · rename_i e _; cases e
          · rename_i e _; cases e
          · rename_i e _ _; cases e
          · unfold oCap at h
            split at h
            · obtain ⟨_, _, rfl⟩ := bif_val h
              exact ⟨AT.refl _ _, rfl⟩
            · cases h
          · cases h
        | len => cases hw
        | max => cases hw
        | min => cases hw
        | _ => simp [opA, hCall, oCall, oBuiltin] at h
      | value f => cases h
      | invoke f n => cases h
    | _ => cases hw
end
end Go.Proofs.YtpflobodmglmaaaGreat
set_option linter.unusedVariables false
set_option maxHeartbeats 4000000
namespace Go.Proofs.YtpflobodmglmaaaGreat
theorem befT_bit (acc : List Nat) (j : Nat) : ∀ es : List Edge, (befT acc es).testBit j = true ↔ ∃ e ∈ es, Region.binds .any e = true ∧ (j = e.on ∨ (acc.getD e.on 0).testBit j = true)
  | [] => by simp [befT]
  | e :: es => by
    have ih := befT_bit acc j es
    unfold befT
    cases hb : Region.binds .any e with
    | false =>
      simp only [cond_false, ih, List.mem_cons, exists_eq_or_imp, hb, Bool.false_eq_true, false_and, false_or]
    | true =>
      simp only [cond_true, Nat.testBit_or, Bool.or_eq_true, ih, List.mem_cons, exists_eq_or_imp, hb, true_and, Nat.testBit_two_pow, decide_eq_true_eq, eq_comm (a := j)]
theorem befL_len : ∀ (l : List Oper) (acc : List Nat), (befL acc l).length = l.length
  | [], _ => rfl
  | o :: l, acc => by show (befL _ l).length + 1 = l.length + 1; rw [befL_len l]
theorem befL_get : ∀ (l : List Oper) (acc : List Nat) (i : Nat) (o : Oper), l[i]? = some o → (befL acc l)[i]? = some (befT (acc ++ (befL acc l).take i) o.after.toList)
  | [], _, i, o, h => by simp at h
  | o' :: l, acc, 0, o, h => by cases h; simp [befL]
  | o' :: l, acc, i + 1, o, h => by
    have := befL_get l (acc ++ [befT acc o'.after.toList]) i o h
    show (befL (acc ++ [befT acc o'.after.toList]) l)[i]? = _
    rw [this]
    simp [befL]
/-- i is to come before j. -/
def Bf (ops : List Oper) (i j : Nat) : Prop := ((befL [] ops).getD j 0).testBit i = true
/-- Only what comes earlier in the text binds. -/
def Back (ops : List Oper) : Prop := ∀ i j, Bf ops i j → i < j
theorem bf_edge {ops : List Oper} {i j : Nat} {o : Oper} (ho : ops[j]? = some o) (hb : Back ops) : Bf ops i j ↔ ∃ e ∈ o.after.toList, Region.binds .any e = true ∧ (i = e.on ∨ Bf ops i e.on) := by
  unfold Bf
  have hg := befL_get ops [] j o ho
  rw [List.getD_eq_getElem?_getD, hg]
  simp only [Option.getD_some, List.nil_append]
  rw [befT_bit]
  refine exists_congr fun e => and_congr_right fun he => and_congr_right fun hbi => ?_
  have hlt : e.on < j := hb _ _ (by
    unfold Bf
    rw [List.getD_eq_getElem?_getD, hg]
    simp only [Option.getD_some, List.nil_append]
    exact (befT_bit _ _ _).2 ⟨e, he, hbi, .inl rfl⟩)
  rw [List.getD_eq_getElem?_getD, List.getD_eq_getElem?_getD, List.getElem?_take_of_lt hlt]
/-- A listing, from a set that is done. -/
inductive Lin (ops : List Oper) : List Nat → List Nat → Prop
  | nil {D : List Nat} (h : ∀ i, i < ops.length → i ∈ D) : Lin ops D []
  | cons {D l : List Nat} {i : Nat} (hi : i < ops.length) (hn : i ∉ D) (hb : ∀ j, Bf ops j i → j ∈ D) (h : Lin ops (i :: D) l) : Lin ops D (i :: l)
/-- How many are not done. -/
def cnt (D : List Nat) : Nat → Nat
  | 0 => 0
  | n + 1 => cnt D n + (if n ∈ D then 0 else 1)
theorem cnt_cons {D : List Nat} {i : Nat} (hn : i ∉ D) : ∀ n, (n ≤ i → cnt (i :: D) n = cnt D n) ∧ (i < n → cnt (i :: D) n + 1 = cnt D n)
  | 0 => ⟨fun _ => rfl, fun h => by omega⟩
  | n + 1 => by
    obtain ⟨h1, h2⟩ := cnt_cons hn n
    refine ⟨fun h => ?_, fun h => ?_⟩
    · have hne : n ≠ i := by omega
      simp only [cnt, List.mem_cons, hne, false_or]
      rw [h1 (by omega)]
    · by_cases e : n = i
      · subst e
        simp only [cnt, List.mem_cons, true_or, if_true, if_neg hn]
        rw [h1 (Nat.le_refl _)]
      · simp only [cnt, List.mem_cons, e, false_or]
        have := h2 (by omega)
        omega
theorem cnt_zero {D : List Nat} : ∀ n, cnt D n = 0 → ∀ i, i < n → i ∈ D
  | 0, _, i, h => by omega
  | n + 1, h, i, hi => by
    unfold cnt at h
    by_cases e : n ∈ D
    · by_cases e2 : i = n
      · rw [e2]; exact e
      · exact cnt_zero n (by omega) i (by omega)
    · rw [if_neg e] at h; omega
theorem lin_go {ops : Array Oper} (hb : Back ops.toList) : ∀ (fuel t : Nat) (listed : Array Bool) (D : List Nat), listed.size = ops.size → (∀ i, i < ops.size → (listed.getD i true = true ↔ i ∈ D)) → (∀ i j, i ∈ D → Bf ops.toList j i → j ∈ D) → cnt D ops.size ≤ fuel →
    Lin ops.toList D (Region.linearise.go .any ops fuel t listed []) := by
  intro fuel
  induction fuel with
  | zero =>
    intro t listed D hsz hl hc hn
    refine .nil fun i hi => cnt_zero _ (Nat.le_zero.1 hn) i (by simpa using hi)
  | succ fuel ih =>
    intro t listed D hsz hl hc hn
    have ld : ∀ i, i < ops.size → listed.getD i false = listed.getD i true := fun i hi => by
      rw [Array.getD_eq_getD_getElem?, Array.getD_eq_getD_getElem?, Array.getElem?_eq_getElem (by omega)]; rfl
    simp only [Region.linearise.go]
    change Lin ops.toList D (match (Region.ready .any ops listed)[t % (Region.ready .any ops listed).length]? with
      | some i => Region.linearise.go .any ops fuel (t / (Region.ready .any ops listed).length) (listed.setIfInBounds i true) [i]
      | none => [].reverse)
    cases hi : (Region.ready .any ops listed)[t % (Region.ready .any ops listed).length]? with
    | none =>
      have hnil : Region.ready .any ops listed = [] := by
        cases hr : Region.ready .any ops listed with
        | nil => rfl
        | cons x xs =>
          rw [hr] at hi
          have hlt : t % (x :: xs).length < (x :: xs).length := Nat.mod_lt _ (by simp)
          simp at hi
          simp at hlt
          omega
      refine .nil fun i hi => ?_
      have hi : i < ops.size := by simpa using hi
      induction i using Nat.strongRecOn with
      | _ i ihi =>
      refine Classical.byContradiction fun hD => ?_
      have : i ∈ Region.ready .any ops listed := by
        refine mem_ready.2 ⟨?_, ops[i], Array.getElem?_eq_getElem hi, fun e he hbi => ?_⟩
        · cases h : listed.getD i true with
          | false => rfl
          | true => exact absurd ((hl i hi).1 h) hD
        · have hbf : Bf ops.toList e.on i := (bf_edge (o := ops[i]) (by simp [hi]) hb).2 ⟨e, by simpa using he, hbi, .inl rfl⟩
          have hlt := hb _ _ hbf
          have := ihi e.on hlt (by have := hi; simp only [Array.length_toList] at *; omega) (by omega)
          rw [ld _ (by omega)]
          exact (hl _ (by omega)).2 this
      rw [hnil] at this
      cases this
    | some i =>
      have hr : i ∈ Region.ready .any ops listed := List.mem_of_getElem? hi
      obtain ⟨h0, o, ho, hall⟩ := mem_ready.1 hr
      have hlt : i < ops.size := (Array.getElem?_eq_some_iff.1 ho).1
      have hD : i ∉ D := fun e => by
        have := (hl i hlt).2 e
        rw [h0] at this; cases this
      have hbb : ∀ j, Bf ops.toList j i → j ∈ D := fun j hj => by
        obtain ⟨e, he, hbi, hor⟩ := (bf_edge (o := o) (by simpa using ho) hb).1 hj
        have hlte : e.on < i := hb _ _ ((bf_edge (o := o) (by simpa using ho) hb).2 ⟨e, he, hbi, .inl rfl⟩)
        have h1 := hall e (by simpa using he) hbi
        rw [ld _ (by omega)] at h1
        have h2 := (hl _ (by omega)).1 h1
        rcases hor with rfl | hor
        · exact h2
        · exact hc _ _ h2 hor
      simp only []
      rw [linearise_go_acc, List.reverse_singleton, List.singleton_append]
      refine .cons (by simpa using hlt) hD hbb (ih _ _ (i :: D) (by simpa using hsz) (fun j hj => ?_) (fun a b ha hba => ?_) ?_)
      · by_cases e : i = j
        · subst e
          simp [hsz, hlt]
        · rw [getD_set_ne true e, hl j hj]
          simp [Ne.symm e]
      · rcases List.mem_cons.1 ha with rfl | ha
        · exact List.mem_cons_of_mem _ (hbb _ hba)
        · exact List.mem_cons_of_mem _ (hc _ _ ha hba)
      · have := (cnt_cons hD ops.size).2 hlt
        omega
theorem cnt_le (D : List Nat) : ∀ n, cnt D n ≤ n
  | 0 => Nat.le_refl _
  | n + 1 => by
    have := cnt_le D n
    unfold cnt
    split <;> omega
/-- What is drawn is a listing. -/
theorem lin_draw {ops : Array Oper} (hb : Back ops.toList) (t : Nat) : Lin ops.toList [] (Region.linearise .any ops t) := by
  refine lin_go hb _ _ _ [] (by simp) (fun i hi => ?_) (fun i j h => by cases h) (cnt_le _ _)
  simp [hi]
end Go.Proofs.YtpflobodmglmaaaGreat
set_option linter.unusedVariables false
set_option maxHeartbeats 4000000
namespace Go.Proofs.YtpflobodmglmaaaGreat
theorem apAll_spec {b : Nat} {l : List Nat} {d : Option Nat} : ∀ r : List (Nat × List Nat × Option Nat), apAll b l d r = true → ∀ p ∈ r, b.testBit p.1 = true ∨ apT l d p.2.1 p.2.2 = true
  | [], _, p, hp => by cases hp
  | (j, l', d') :: r, h, p, hp => by
    unfold apAll at h
    simp only [Bool.and_eq_true, Bool.or_eq_true] at h
    rcases List.mem_cons.1 hp with rfl | hp
    · exact h.1
    · exact apAll_spec r h.2 p hp
theorem regOk_spec {all : List Oper} : ∀ (bs : List Nat) (seen : List (Nat × List Nat × Option Nat)) (i : Nat) (os : List Oper), regOk all bs seen i os = true → ∀ k o, os[k]? = some o → ∃ b, bs[k]? = some b ∧ b < 2 ^ (i + k) ∧ (∀ p ∈ seen, b.testBit p.1 = true ∨ apT (looks all o) o.dst p.2.1 p.2.2 = true) ∧ ∀ k' o', k' < k → os[k']? = some o' → b.testBit (i + k') = true ∨ apT (looks all o) o.dst (looks all o') o'.dst = true
  | bs, seen, i, [], h, k, o, ho => by simp at ho
  | [], seen, i, o' :: os, h, k, o, ho => by simp [regOk] at h
  | b :: bs, seen, i, o0 :: os, h, k, o, ho => by
    unfold regOk at h
    simp only [Bool.and_eq_true, Nat.blt_eq] at h
    obtain ⟨⟨h1, h2⟩, h3⟩ := h
    cases k with
    | zero =>
      cases ho
      exact ⟨b, rfl, by simpa using h1, apAll_spec _ h2, fun k' o' hk => by omega⟩
    | succ k =>
      obtain ⟨c, hc1, hc2, hc3, hc4⟩ := regOk_spec bs _ (i + 1) os h3 k o ho
      refine ⟨c, hc1, by rw [show i + (k + 1) = i + 1 + k by omega]; exact hc2, fun p hp => hc3 p (List.mem_cons_of_mem _ hp), fun k' o' hk ho' => ?_⟩
      cases k' with
      | zero => cases ho'; exact hc3 _ (List.mem_cons_self ..)
      | succ k' => rw [show i + (k' + 1) = i + 1 + k' by omega]; exact hc4 k' o' (by omega) ho'
theorem regOk_back {ops : List Oper} (h : regOk ops (befL [] ops) [] 0 ops = true) : Back ops := by
  intro i j hij
  unfold Bf at hij
  by_cases hj : j < ops.length
  · obtain ⟨b, hb, hlt, _⟩ := regOk_spec _ _ _ _ h j ops[j] (List.getElem?_eq_getElem hj)
    rw [List.getD_eq_getElem?_getD, hb] at hij
    simp only [Option.getD_some, Nat.zero_add] at hij hlt
    refine Classical.byContradiction fun hge => ?_
    have : b < 2 ^ i := Nat.lt_of_lt_of_le hlt (Nat.pow_le_pow_right (by omega) (by omega))
    rw [Nat.testBit_lt_two_pow this] at hij
    cases hij
  · rw [List.getD_eq_getElem?_getD, List.getElem?_eq_none (by rw [befL_len]; omega)] at hij
    simp at hij
/-- Unordered operations are apart. -/
theorem regOk_apart {ops : List Oper} (h : regOk ops (befL [] ops) [] 0 ops = true) {i j : Nat} {o p : Oper} (hi : ops[i]? = some o) (hj : ops[j]? = some p) (hij : i < j) (hn : ¬ Bf ops i j) : apT (looks ops p) p.dst (looks ops o) o.dst = true := by
  obtain ⟨b, hb, _, _, h4⟩ := regOk_spec _ _ _ _ h j p hj
  rcases h4 i o hij hi with e | e
  · refine absurd ?_ hn
    unfold Bf
    rw [List.getD_eq_getElem?_getD, hb]
    simpa using e
  · exact e
end Go.Proofs.YtpflobodmglmaaaGreat
set_option linter.unusedVariables false
set_option maxHeartbeats 4000000
namespace Go.Proofs.YtpflobodmglmaaaGreat
section
variable {P : Program} {b : Frame} {a : Act} {k : List Item} {cs : List Frame} {w w' : World} {ops : Array Oper} {i : Nat} {rest : List Nat} {o : Oper}
theorem step_value {v : Value} (ho : ops[i]? = some o) (hw : Region.wanted o (yielded ops a.tmps) = true) (hd : ∀ c, o.op ≠ .defer c) (hr : OpRes ((execOp a.eval o).run P w) v w') :
    step P (lone (b.atR a (.inRegion ops (i :: rest) :: k)) cs w) = .next (lone (b.atR (a.put o.dst v) (.inRegion ops rest :: k)) cs w') := by
  have hf := Frame.finish_atR b a ops i rest k v
  rw [ho, Option.bind_some] at hf
  rw [← hf]
  refine step_lone_go ?_
  rw [stepGR_op ho hw, Oper.semAt_eq _ _ _ hd]
  rcases hr with hr | ⟨hr, rfl⟩ <;> simp [stepG.apply, Sem.runT_eq, hr]
theorem step_enter {f : FuncId} {args : Array Value} (ho : ops[i]? = some o) (hw : Region.wanted o (yielded ops a.tmps) = true) (hd : ∀ c, o.op ≠ .defer c) (hr : (execOp a.eval o).run P w = .ok (.enter f args) w') :
    step P (lone (b.atR a (.inRegion ops (i :: rest) :: k)) cs w) = .next (lone (Frame.enter P f args .normal) (b.atR a (.inRegion ops (i :: rest) :: k) :: cs) w') := by
  refine step_lone_go ?_
  rw [stepGR_op ho hw, Oper.semAt_eq _ _ _ hd]
  simp [stepG.apply, Sem.runT_eq, hr, Frame.atR]
theorem step_panic {v : Value} (ho : ops[i]? = some o) (hw : Region.wanted o (yielded ops a.tmps) = true) (hd : ∀ c, o.op ≠ .defer c) (hr : (execOp a.eval o).run P w = .halt (.panic v) w') :
    step P (lone (b.atR a (.inRegion ops (i :: rest) :: k)) cs w) = .next (lone ((b.atR a (.inRegion ops (i :: rest) :: k)).raise [{ v := v, recovered := false }]) cs w') := by
  refine step_lone_go ?_
  rw [stepGR_op ho hw, Oper.semAt_eq _ _ _ hd]
  simp [stepG.apply, Sem.runT_eq, hr]
end
end Go.Proofs.YtpflobodmglmaaaGreat
set_option linter.unusedVariables false
set_option maxHeartbeats 4000000
namespace Go.Proofs.YtpflobodmglmaaaGreat
section
variable {P : Program} {G G' : Gh} {w w' : World} {M M' : Mem}
theorem getD_set {ts : Array Value} {d t : Nat} {v : Value} : (ts.setIfInBounds d v).getD t undef = if d = t ∧ d < ts.size then v else ts.getD t undef := by
  rw [Array.getD_eq_getD_getElem?, Array.getD_eq_getD_getElem?, Array.getElem?_setIfInBounds]
  by_cases e : d = t
  · subst e
    by_cases h : d < ts.size
    · simp [h]
    · simp [h]
  · simp [e]
theorem RT.set {ts : Array Value} {tm : Tr AV} {d sz : Nat} {v : Value} {a : AV} (h : RT G ts tm) (hs : ts.size = sz) (hv : RV G v a) : RT G (ts.setIfInBounds d v) (setT sz tm d a) := by
  intro t
  rw [getD_set]
  unfold setT
  by_cases hlt : d < sz
  · have e : Nat.blt d sz = true := by simpa using hlt
    rw [e]
    show RV G _ (((tm.set d a).get t).getD .undef)
    rw [get_set]
    by_cases e2 : d = t
    · rw [if_pos ⟨e2, by omega⟩, if_pos e2]; exact hv
    · rw [if_neg (fun h => e2 h.1), if_neg e2]; exact h t
  · have e : Nat.blt d sz = false := by
      cases hh : Nat.blt d sz with
      | false => rfl
      | true => exact absurd (by simpa using hh) hlt
    rw [e, if_neg (fun h => hlt (by omega))]
    exact h t
theorem RT.put {a : Act} {tm : Tr AV} {sz : Nat} {o : Oper} {v : Value} {x : AV} (h : RT G a.tmps tm) (hs : a.tmps.size = sz) (hv : RV G v x) : RT G (a.put o.dst v).tmps (setDst sz tm o x) ∧ (a.put o.dst v).tmps.size = sz ∧ (a.put o.dst v).defers = a.defers := by
  unfold setDst
  cases o.dst with
  | none => exact ⟨h, hs, rfl⟩
  | some d => exact ⟨h.set hs hv, by simpa [Act.put] using hs, rfl⟩
theorem RT.top {sz : Nat} {ts : Array Value} (hs : ts.size = sz) : ∀ (ops : List Oper) (tm tm' : Tr AV) , (∀ t, RV G (ts.getD t undef) ((tm.get t).getD .undef) ∨ ∃ o ∈ ops, o.dst = some t ∧ t < sz) → RT G ts (topAll sz ops tm)
  | [], tm, _, h => fun t => by
    rcases h t with h | ⟨o, ho, _⟩
    · exact h
    · cases ho
  | o :: os, tm, _, h => by
    refine RT.top hs os _ tm fun t => ?_
    unfold setDst
    cases hd : o.dst with
    | none =>
      rcases h t with h | ⟨p, hp, h1, h2⟩
      · exact .inl h
      · rcases List.mem_cons.1 hp with rfl | hp
        · rw [hd] at h1; cases h1
        · exact .inr ⟨p, hp, h1, h2⟩
    | some d =>
      unfold setT
      by_cases hlt : d < sz
      · have e : Nat.blt d sz = true := by simpa using hlt
        simp only [e, cond_true]
        by_cases e2 : d = t
        · refine .inl ?_
          show RV G _ (((tm.set d .top).get t).getD .undef)
          rw [get_set, if_pos e2]
          exact .top _
        · have e3 : ((tm.set d .top).get t) = tm.get t := get_set_ne _ _ e2
          show RV G _ (((tm.set d .top).get t).getD .undef) ∨ _
          rw [e3]
          rcases h t with h | ⟨p, hp, h1, h2⟩
          · exact .inl h
          · rcases List.mem_cons.1 hp with rfl | hp
            · rw [hd] at h1; cases h1; exact absurd rfl e2
            · exact .inr ⟨p, hp, h1, h2⟩
      · have e : Nat.blt d sz = false := by
          cases hh : Nat.blt d sz with
          | false => rfl
          | true => exact absurd (by simpa using hh) hlt
        simp only [e, cond_false]
        rcases h t with h | ⟨p, hp, h1, h2⟩
        · exact .inl h
        · rcases List.mem_cons.1 hp with rfl | hp
          · rw [hd] at h1; cases h1; exact absurd h2 hlt
          · exact .inr ⟨p, hp, h1, h2⟩
end
end Go.Proofs.YtpflobodmglmaaaGreat
set_option linter.unusedVariables false
set_option maxHeartbeats 4000000
namespace Go.Proofs.YtpflobodmglmaaaGreat
section
variable {P : Program} {G G' : Gh} {w w' : World} {M M' : Mem}
def WfM (M : Mem) : Prop := ∀ id, Own M id → id < M.nx
def DsR (G : Gh) : List Deferred → List AD → Prop
  | [], [] => True
  | d :: ds, .coll id :: as => (∃ r, d.target = .collected r ∧ G.phi id = some (r, 0)) ∧ DsR G ds as
  | d :: ds, .call f args :: as => (∃ cap, d.target = .fn (.func f) cap ∧ RVs G (d.args ++ cap) args) ∧ DsR G ds as
  | _, _ => False
theorem DsR.mono (k : GLe G G') : ∀ {ds : List Deferred} {as : List AD}, DsR G ds as → DsR G' ds as
  | [], [], _ => trivial
  | d :: ds, .coll id :: as, ⟨⟨r, h1, h2⟩, h3⟩ => ⟨⟨r, h1, k.phi _ _ h2⟩, DsR.mono k h3⟩
  | d :: ds, .call f args :: as, ⟨⟨cap, h1, h2⟩, h3⟩ => ⟨⟨cap, h1, h2.mono k⟩, DsR.mono k h3⟩
def RoR (G : Gh) (b ro : Option Nat) : Prop := match ro with | none => b = none | some l => ∃ r, b = some r ∧ G.phi l = some (r, 0)
theorem RoR.mono (k : GLe G G') {b ro : Option Nat} (h : RoR G b ro) : RoR G' b ro := by
  cases ro with
  | none => exact h
  | some l => obtain ⟨r, h1, h2⟩ := h; exact ⟨r, h1, k.phi _ _ h2⟩
def kindOf (d : Bool) : CallKind := if d then .deferred else .normal
/-- A frame that runs. -/
structure FrR (G : Gh) (f : Fr) (b : Frame) (a : Act) : Prop where
  fn : b.fn = f.fn
  kind : b.kind = kindOf f.dfd
  sz : a.tmps.size = f.sz
  rt : RT G a.tmps f.tm
  ds : DsR G a.defers f.ds
  ro : RoR G b.roundOf f.ro
  rd : f.ro ≠ none → f.dfd = false
theorem FrR.mono {f : Fr} {b : Frame} {a : Act} (h : FrR G f b a) (k : GLe G G') : FrR G' f b a := ⟨h.fn, h.kind, h.sz, h.rt.mono k, h.ds.mono k, h.ro.mono k, h.rd⟩
/-- A frame on its way out. -/
structure LvR (G : Gh) (f : Fr) (u : AMode) (fr : Frame) : Prop where
  fn : fr.fn = f.fn
  kind : fr.kind = kindOf f.dfd
  rt : RT G fr.tmps f.tm
  ds : DsR G fr.defers f.ds
  mode : RM G fr.mode u
  run : fr.mode ≠ .run
theorem FrR.lv {f : Fr} {b : Frame} {a : Act} {todo : List Item} {m : FrameMode} {u : AMode} (h : FrR G f b a) (hm : RM G m u) (hr : m ≠ .run) : LvR G f u { b.atR a todo with mode := m } :=
  ⟨h.fn, h.kind, h.rt, h.ds, hm, hr⟩
theorem LvR.mono {f : Fr} {u : AMode} {fr : Frame} (h : LvR G f u fr) (k : GLe G G') : LvR G' f u fr := ⟨h.fn, h.kind, h.rt.mono k, h.ds.mono k, h.mode.mono k, h.run⟩
/-- What lies below: a frame of deferred calls knows the one that it was called from. -/
def Bel (dfd : Bool) (G : Gh) (bl : AMode) (c0s cs : List Frame) : Prop := match dfd with
  | false => cs = c0s
  | true => ∃ c cs0 u, c0s = c :: cs0 ∧ cs = { c with mode := u } :: cs0 ∧ RM G u bl ∧ (c.mode ≠ .run → u ≠ .run)
theorem Bel.mono (k : GLe G G') {dfd : Bool} {bl : AMode} {c0s cs : List Frame} (h : Bel dfd G bl c0s cs) : Bel dfd G' bl c0s cs := by
  cases dfd with
  | false => exact h
  | true => obtain ⟨c, cs0, u, h1, h2, h3, h4⟩ := h; exact ⟨c, cs0, u, h1, h2, h3.mono k, h4⟩
/-- How a frame ends. -/
def Fin (P : Program) (ro : Option Nat) (dfd : Bool) (fn : Nat) (cs : List Frame) (w : World) (E : Ending) (m : Machine) : Prop := match ro with
  | none => ∃ fr, m = lone fr cs w ∧ fr.fn = fn ∧ (match dfd with | true => fr.kind = .deferred ∧ fr.going P w E | false => fr.leaving P w E)
  | some _ => ∃ c cs0, cs = c :: cs0 ∧ (match E with | .returned v => m = lone (c.finish v) cs0 w | .panicked ch => m = lone (c.raise ch) cs0 w | .outgrown => False)
def Goal (P : Program) (G : Gh) (w : World) (M : Mem) (m : Machine) (ro : Option Nat) (dfd : Bool) (fn : Nat) (c0s : List Frame) (e : AEnd) (bl' : AMode) (M' : Mem) : Prop :=
  ∃ G' w' cs' E m', Steps P m m' ∧ Bel dfd G' bl' c0s cs' ∧ Fin P ro dfd fn cs' w' E m' ∧ RE G' E e ∧ St G' w' M' ∧ Ev G w M G' w' M' ∧ Ub (· < M.nx) G G'
theorem Goal.of {m m1 : Machine} {G1 : Gh} {w1 : World} {M1 : Mem} {ro : Option Nat} {dfd : Bool} {fn : Nat} {c0s : List Frame} {e : AEnd} {bl' : AMode} (h : Steps P m m1) (ev : Ev G w M G1 w1 M1) (ub : Ub (· < M.nx) G G1) (g : Goal P G1 w1 M1 m1 ro dfd fn c0s e bl' M') : Goal P G w M m ro dfd fn c0s e bl' M' := by
  obtain ⟨G', w', cs', E, m', h1, h2, h3, h4, h5, h6, h7⟩ := g
  exact ⟨G', w', cs', E, m', h.trans h1, h2, h3, h4, h5, ev.trans h6, ub.trans (h7.mono fun id hi => Nat.lt_of_lt_of_le hi ev.nx)⟩
theorem Goal.step {m m1 : Machine} {ro : Option Nat} {dfd : Bool} {fn : Nat} {c0s : List Frame} {e : AEnd} {bl' : AMode} (h : step P m = .next m1) (g : Goal P G w M m1 ro dfd fn c0s e bl' M') : Goal P G w M m ro dfd fn c0s e bl' M' :=
  g.of (.one h) (Ev.refl G w M) (Ub.refl _ G)
/-! What jobs bring. -/
def FrS (P : Program) (f : Fr) (bl : AMode) (M : Mem) (e : AEnd) (bl' : AMode) (M' : Mem) : Prop :=
  AT (M.nx ≤ ·) M M' ∧ ∀ G w b a c0s cs, St G w M → WfM M → FrR G f b a → Bel f.dfd G bl c0s cs → (f.ro ≠ none → c0s ≠ []) → Goal P G w M (lone (b.atR a f.todo) cs w) f.ro f.dfd f.fn c0s e bl' M'
def RegS (P : Program) (all rest : List Oper) (f : Fr) (bl : AMode) (M : Mem) (e : AEnd) (bl' : AMode) (M' : Mem) : Prop :=
  AT (M.nx ≤ ·) M M' ∧ ∀ (ops : Array Oper) (i : Nat) G w b a c0s cs, ops.toList = all → all.drop i = rest → St G w M → WfM M → FrR G f b a → Bel f.dfd G bl c0s cs → (f.ro ≠ none → c0s ≠ []) → Goal P G w M (lone (b.atR a (.inRegion ops (List.range' i (ops.size - i)) :: f.todo)) cs w) f.ro f.dfd f.fn c0s e bl' M'
def LvS (P : Program) (f : Fr) (u bl : AMode) (M : Mem) (e : AEnd) (bl' : AMode) (M' : Mem) : Prop :=
  AT (M.nx ≤ ·) M M' ∧ ∀ G w fr c0s cs, St G w M → WfM M → LvR G f u fr → Bel f.dfd G bl c0s cs → (f.ro ≠ none → c0s ≠ []) → Goal P G w M (lone fr cs w) f.ro f.dfd f.fn c0s e bl' M'
def CallS (P : Program) (f : Nat) (args : List AV) (dfd : Bool) (bl : AMode) (M : Mem) (e : AEnd) (bl' : AMode) (M' : Mem) : Prop :=
  (∃ fn, P.funcs[f]? = some fn ∧ fn.body.isSome = true) ∧ AT (M.nx ≤ ·) M M' ∧ ∀ G w vs c0s cs, St G w M → WfM M → RVs G vs args → Bel dfd G bl c0s cs → Goal P G w M (lone (Frame.enter P f vs (kindOf dfd)) cs w) none dfd f c0s e bl' M'
def YldS (P : Program) (l : Nat) (args : List AV) (M : Mem) (e : AEnd) (bl' : AMode) (M' : Mem) : Prop :=
  AT (M.nx ≤ ·) M M' ∧ ∀ G w r vs c cs, St G w M → WfM M → G.phi l = some (r, 0) → RVs G vs args → ∃ fn tm as body, (Instr.yield r vs).run P w = .ok (.round r fn tm as body) w ∧ Goal P G w M (lone (Frame.round r fn tm as body .normal) (c :: cs) w) (some l) false fn (c :: cs) e bl' M'
theorem FrS.of {f f1 : Fr} {bl bl1 : AMode} {M1 : Mem} {e : AEnd} {bl' : AMode} (h : FrS P f1 bl1 M1 e bl' M') (at1 : AT (M.nx ≤ ·) M M1) (k : AT (M.nx ≤ ·) M M' → FrS P f bl M e bl' M') : FrS P f bl M e bl' M' :=
  k (at1.trans h.1 (fun _ h => h) (fun id h => Nat.le_trans at1.nx h))
theorem at_of {M1 : Mem} (at1 : AT (M.nx ≤ ·) M M1) (h : AT (M1.nx ≤ ·) M1 M') : AT (M.nx ≤ ·) M M' := at1.trans h (fun _ h => h) (fun id h => Nat.le_trans at1.nx h)
def back (c : Frame) : Ending → Frame
  | .returned v => c.finish v
  | .panicked ch => c.raise ch
  | .outgrown => c
def startF (P : Program) : Next → Frame
  | .enter f args => Frame.enter P f args .normal
  | .round l f tm as body => Frame.round l f tm as body .normal
  | _ => default
/-- A call of a value. -/
def CvS (P : Program) (g : AV) (as : List AV) (M : Mem) (e : AEnd) (M' : Mem) : Prop :=
  AT (M.nx ≤ ·) M M' ∧ ∀ G w gv vs, St G w M → WfM M → RV G gv g → RVs G vs as → ∃ d nx, (Deferred.ofValue gv vs).run P w = .ok d w ∧ (invoke d.target d.args).run P w = .ok nx w ∧ ((∃ f args, nx = .enter f args) ∨ ∃ l f tm as body, nx = .round l f tm as body) ∧
    ∀ c cs, ∃ G' w' E, Steps P (lone (startF P nx) (c :: cs) w) (lone (back c E) cs w') ∧ RE G' E e ∧ St G' w' M' ∧ Ev G w M G' w' M' ∧ Ub (· < M.nx) G G'
/-- A job's answer: an error, or what was to go on with it. -/
def Out {R : Type} (er : Nat → R) (k : K R) (r : R) (S : AEnd → AMode → Mem → Prop) : Prop := (∃ c, r = er c) ∨ ∃ e bl M, r = k e bl M ∧ S e bl M
theorem Out.imp {R : Type} {er : Nat → R} {k : K R} {r : R} {S T : AEnd → AMode → Mem → Prop} (h : Out er k r S) (i : ∀ e bl M, S e bl M → T e bl M) : Out er k r T := by
  rcases h with h | ⟨e, bl, M, h1, h2⟩
  · exact .inl h
  · exact .inr ⟨e, bl, M, h1, i _ _ _ h2⟩
theorem Out.er {R : Type} {er : Nat → R} {k : K R} {c : Nat} {S : AEnd → AMode → Mem → Prop} : Out er k (er c) S := .inl ⟨c, rfl⟩
/-- More room for ids. -/
theorem nx_ok {n : Nat} (hs : St G w M) : St G w (memNx M n) ∧ Ev G w M G w (memNx M n) := ⟨hs.congr rfl (fun _ => rfl) (Nat.le_add_right _ _), .congr rfl ⟨rfl, rfl, rfl⟩ (fun _ => rfl) (Nat.le_add_right _ _)⟩
theorem at_nx {n : Nat} : AT (M.nx ≤ ·) M (memNx M n) := ⟨Nat.le_add_right _ _, ⟨[], rfl, fun _ _ _ => rfl⟩, fun _ h => .inl h, fun h id o => Nat.lt_of_lt_of_le (h id o) (Nat.le_add_right _ _)⟩
theorem wf_nx {n : Nat} (h : WfM M) : WfM (memNx M n) := fun id o => Nat.lt_of_lt_of_le (h id o) (Nat.le_add_right _ _)
theorem phi_none {id : Nat} (hs : St G w M) (h : M.nx ≤ id) : G.phi id = none := by
  cases e : G.phi id with
  | none => rfl
  | some x => have := hs.fresh id x.1 x.2 e; omega
/-- Guards. -/
noncomputable def wantA (ops : List Oper) (o : Oper) (tm : Tr AV) : Option Bool := match o.guard with
  | none => some true
  | some (j, want) => (match gdst ops j with
    | none => none
    | some d => (match tm.get d with
      | some .top => none
      | some (.bool b) => some (b == want)
      | _ => some false))
def frTm (f : Fr) (tm : Tr AV) : Fr := { f with tm := tm }
theorem jGuard0_want {R : Type} (er : Nat → R) (ops : List Oper) (o : Oper) (f : Fr) {j : Nat} {want : Bool} (hg : o.guard = some (j, want)) (yes no : Fr → R) :
    (∃ c, jGuard0 er (gdst ops j) f want yes no = er c) ∨ ∃ tm1 : Tr AV, (∀ t, tm1.get t = f.tm.get t) ∧ ((wantA ops o tm1 = some true ∧ jGuard0 er (gdst ops j) f want yes no = yes (frTm f tm1)) ∨ (wantA ops o tm1 = some false ∧ jGuard0 er (gdst ops j) f want yes no = no (frTm f tm1))) := by
  obtain ⟨fn, dfd, sz, tm, todo, ds, ro⟩ := f
  unfold jGuard0 wantA
  rw [hg]
  dsimp only
  cases gdst ops j with
  | none => exact .inl ⟨_, rfl⟩
  | some d =>
    dsimp only
    cases hv : tm.get d with
    | none => exact .inr ⟨tm, fun _ => rfl, .inr ⟨by rw [hv], rfl⟩⟩
    | some v =>
      have key : ∀ b, v = .bool b → ∀ t, (tm.set d (.bool b)).get t = tm.get t := fun b e t => by
        by_cases h : d = t
        · rw [← h, get_set_self, hv, e]
        · exact get_set_ne _ _ h
      cases v with
      | top => exact .inl ⟨_, rfl⟩
      | bool b =>
        refine .inr ⟨tm.set d (.bool b), key b rfl, ?_⟩
        rw [get_set_self]
        cases b <;> cases want <;> first | exact .inl ⟨rfl, rfl⟩ | exact .inr ⟨rfl, rfl⟩
      | _ => exact .inr ⟨tm, fun _ => rfl, .inr ⟨by rw [hv], rfl⟩⟩
theorem wantA_ok {ops : Array Oper} {o : Oper} {tm : Tr AV} {ts : Array Value} {t : Bool} (h : wantA ops.toList o tm = some t) (hr : RT G ts tm) : Region.wanted o (yielded ops ts) = t := by
  unfold wantA at h
  unfold Region.wanted
  split at h
  · rename_i hg; cases h; rw [hg]
  · rename_i j want hg
    rw [hg]
    have nthg : ∀ (l : List Oper) (j : Nat), nth l j = l[j]? := fun l => by
      induction l with
      | nil => intro j; rfl
      | cons a l ih =>
        intro j
        cases j with
        | zero => rfl
        | succ j => exact ih j
    split at h
    · cases h
    · rename_i d hd
      have hd' : (ops[j]?).bind (·.dst) = some d := by
        unfold gdst at hd
        rw [nthg] at hd
        rw [← Array.getElem?_toList]
        cases hx : ops.toList[j]? with
        | none => rw [hx] at hd; cases hd
        | some p => rw [hx] at hd; exact hd
      have hv := hr d
      have key : ∀ (v : Value), ts.getD d undef = v → v ≠ undef → ts[d]? = some v := fun v e ne => by
        rw [Array.getD_eq_getD_getElem?] at e
        cases hx : ts[d]? with
        | none => rw [hx] at e; exact absurd e.symm ne
        | some y => rw [hx] at e; exact congrArg some e
      have nb : (∀ b, ts.getD d undef ≠ .bool b) → ∀ b, yielded ops ts j ≠ some b := fun hn b e => by
        unfold yielded at e
        rw [hd'] at e
        simp only [Option.bind_some] at e
        split at e
        · rename_i b' hb
          exact hn b' (by rw [Array.getD_eq_getD_getElem?, hb]; rfl)
        · cases e
      dsimp only
      split at h
      · cases h
      · rename_i b hb
        cases h
        rw [hb] at hv
        have e1 : ts.getD d undef = .bool b := hv.bool_inv
        have : yielded ops ts j = some b := by
          unfold yielded
          rw [hd']
          simp only [Option.bind_some]
          rw [key _ e1 (by unfold undef; simp)]
        rw [this]
        cases b <;> cases want <;> rfl
      · rename_i h1 h2
        cases h
        have : ∀ b, ts.getD d undef ≠ .bool b := fun b e => by
          rw [e] at hv
          cases hx : tm.get d with
          | none => rw [hx] at hv; cases hv
          | some x =>
            rw [hx] at hv
            cases hv with
            | top => exact h1 hx
            | bool => exact h2 _ hx
        have := nb this
        cases hy : yielded ops ts j with
        | none => rfl
        | some b => exact absurd hy (this b)
end
end Go.Proofs.YtpflobodmglmaaaGreat
set_option linter.unusedVariables false
set_option maxHeartbeats 4000000
namespace Go.Proofs.YtpflobodmglmaaaGreat
section
variable {P : Program}
/-- One operation of the trace. -/
def Ent (P : Program) (ops : List Oper) (base j : Nat) (o : Oper) (tm : Tr AV) (M : Mem) (v : AV) (M' : Mem) (rc : Option Rec) : Prop :=
  (wantA ops o tm = some false ∧ v = .undef ∧ M' = M ∧ rc = none) ∨
  (wantA ops o tm = some true ∧ (∀ c, o.op ≠ .defer c) ∧ ∃ M2 rd, M' = ⟨M2.h, M2.nx, M2.lg ++ M.lg⟩ ∧ rc = some ⟨j, isW o.op, rd, M2.lg, M.nx⟩ ∧
    ((opA o.op P (evA tm) ⟨M.h, M.nx, []⟩ (base + j) = .val v M2 ∧ rd = readsOf o.op (evA tm) (base + j)) ∨
     (∃ g args ts, o.op = .call ⟨.value g, args, ts⟩ ∧ CvS P (evA tm g) (args.toList.map (evA tm)) ⟨M.h, M.nx, []⟩ (.ret v) M2)))
/-- An operation that panics. -/
def Pan (P : Program) (ops : List Oper) (base j : Nat) (o : Oper) (tm : Tr AV) (M : Mem) (ch : List AE) (M2 : Mem) : Prop :=
  wantA ops o tm = some true ∧ (∀ c, o.op ≠ .defer c) ∧
    ((∃ v, opA o.op P (evA tm) ⟨M.h, M.nx, []⟩ (base + j) = .panic v ∧ ch = [⟨v, false⟩] ∧ M2 = ⟨M.h, M.nx, []⟩) ∨
     (∃ g args ts, o.op = .call ⟨.value g, args, ts⟩ ∧ CvS P (evA tm g) (args.toList.map (evA tm)) ⟨M.h, M.nx, []⟩ (.pan ch) M2))
structure Trc (P : Program) (bef : List Nat) (ops : List Oper) (base i sz : Nat) (rest : List Oper) (seen : List Rec) (st : Nat) (m : Nat → Mem) (tm : Nat → Tr AV) (v : Nat → AV) (rc : Nat → Option Rec) : Prop where
  le : i ≤ st ∧ st ≤ i + rest.length
  ent : ∀ j, i ≤ j → j < st → ∃ o, rest[j - i]? = some o ∧ (∀ t, (tm (j + 1)).get t = (setDst sz (tm j) o (v j)).get t) ∧ Ent P ops base j o (tm j) (m j) (v j) (m (j + 1)) (rc j)
  ord : ∀ j, i ≤ j → j < st → ∀ r, rc j = some r → (∀ q ∈ seen, okPair (bef.getD (j - i) 0) r q = true) ∧ ∀ j' q, i ≤ j' → j' < j → rc j' = some q → okPair (bef.getD (j - i) 0) r q = true
def DrS (P : Program) (d : Dr) (i : Nat) (rest : List Oper) (f : Fr) (bl : AMode) (M : Mem) (e : AEnd) (bl' : AMode) (M' : Mem) : Prop :=
  ∃ st m tm v rc, m i = M ∧ (∀ t, (tm i).get t = f.tm.get t) ∧ Trc P d.bef d.ops d.base i f.sz rest d.seen st m tm v rc ∧
    ((st = i + rest.length ∧ FrS P (frTm f (tm st)) bl (m st) e bl' M') ∨
     (∃ o ch M2, rest[st - i]? = some o ∧ Pan P d.ops d.base st o (tm st) (m st) ch M2 ∧ allBit st (d.bef.drop (st - i + 1)) = true ∧ ((∀ q ∈ d.seen, q.w = true → (d.bef.getD (st - i) 0).testBit q.i = true) ∧ ∀ j q, i ≤ j → j < st → rc j = some q → q.w = true → (d.bef.getD (st - i) 0).testBit q.i = true) ∧ LvS P (frTop d.ops (frTm f (tm st))) (.pan ch) bl ⟨M2.h, M2.nx, M2.lg ++ (m st).lg⟩ e bl' M'))
theorem dr_ext {d : Dr} {i : Nat} {rest : List Oper} {f : Fr} {tm1 : Tr AV} {bl : AMode} {M : Mem} {e : AEnd} {bl' : AMode} {M' : Mem} (h : DrS P d i rest (frTm f tm1) bl M e bl' M') (he : ∀ t, tm1.get t = f.tm.get t) : DrS P d i rest f bl M e bl' M' := by
  obtain ⟨st, m, tm, v, rc, h1, h2, h3, h4⟩ := h
  exact ⟨st, m, tm, v, rc, h1, fun t => (h2 t).trans (he t), h3, h4⟩
theorem dr_nil {d : Dr} {i : Nat} {f : Fr} {bl : AMode} {M : Mem} {e : AEnd} {bl' : AMode} {M' : Mem} (h : FrS P f bl M e bl' M') : DrS P d i [] f bl M e bl' M' :=
  ⟨i, fun _ => M, fun _ => f.tm, fun _ => .undef, fun _ => none, rfl, fun _ => rfl, ⟨⟨Nat.le_refl _, Nat.le_refl _⟩, fun j h1 h2 => by omega, fun j h1 h2 => by omega⟩, .inl ⟨rfl, h⟩⟩
theorem okO (b : Nat) (r : Rec) : ∀ (l : List Rec), okOrder b r l = true → ∀ q ∈ l, okPair b r q = true
  | [], _, q, hq => by cases hq
  | a :: l, h, q, hq => by
    have h : (okPair b r a && okOrder b r l) = true := h
    simp only [Bool.and_eq_true] at h
    rcases List.mem_cons.1 hq with rfl | hq
    · exact h.1
    · exact okO b r l h.2 q hq
theorem dr_pan {b : Nat} {bef : List Nat} {ops : List Oper} {base : Nat} {seen : List Rec} {i : Nat} {o : Oper} {rest : List Oper} {f : Fr} {bl : AMode} {M : Mem} {e : AEnd} {bl' : AMode} {M' : Mem} {ch : List AE} {M2 : Mem}
    (h : Pan P ops base i o f.tm M ch M2) (hb : allBit i bef = true) {nx : Nat} (hq : okOrder b ⟨i, true, [], [], nx⟩ seen = true) (hl : LvS P (frTop ops f) (.pan ch) bl ⟨M2.h, M2.nx, M2.lg ++ M.lg⟩ e bl' M') : DrS P ⟨b :: bef, ops, base, seen⟩ i (o :: rest) f bl M e bl' M' :=
  by
  refine ⟨i, fun _ => M, fun _ => f.tm, fun _ => .undef, fun _ => none, rfl, fun _ => rfl, ⟨⟨Nat.le_refl _, Nat.le_add_right _ _⟩, fun j h1 h2 => by omega, fun j h1 h2 => by omega⟩, .inr ⟨o, ch, M2, by simp, h, by simpa using hb, ⟨fun q hq' hw => ?_, fun j q h1 h2 => by omega⟩, hl⟩⟩
  have := okO _ _ _ hq q hq'
  unfold okPair at this
  rw [hw] at this
  simpa using this
theorem dr_cons {b : Nat} {bef : List Nat} {ops : List Oper} {base : Nat} {seen seen' : List Rec} {i : Nat} {o : Oper} {rest : List Oper} {f : Fr} {bl : AMode} {M M1 : Mem} {e : AEnd} {bl' : AMode} {M' : Mem} {v : AV} {rc : Option Rec}
    (h : Ent P ops base i o f.tm M v M1 rc) (hs : match rc with | none => seen' = seen | some r => seen' = r :: seen ∧ okOrder b r seen = true) (hd : DrS P ⟨bef, ops, base, seen'⟩ (i + 1) rest (frPut f o v) bl M1 e bl' M') :
    DrS P ⟨b :: bef, ops, base, seen⟩ i (o :: rest) f bl M e bl' M' := by
  obtain ⟨st, m, tm, vv, rr, h1, h2, h3, h4⟩ := hd
  have le := h3.le
  have e2 : (frPut f o v).tm = setDst f.sz f.tm o v := rfl
  have e3 : (frPut f o v).sz = f.sz := rfl
  have ne : ∀ j, i + 1 ≤ j → j ≠ i := fun j h => by omega
  have sb : ∀ j, i + 1 ≤ j → j - i = (j - (i + 1)) + 1 := fun j h => by omega
  refine ⟨st, fun j => if j = i then M else m j, fun j => if j = i then f.tm else tm j, fun j => if j = i then v else vv j, fun j => if j = i then rc else rr j, if_pos rfl, fun t => by simp only [if_pos], ⟨⟨by omega, by have := le.2; simp only [List.length_cons]; omega⟩, fun j hj1 hj2 => ?_, fun j hj1 hj2 r hr => ?_⟩, ?_⟩
  · by_cases e : j = i
    · subst e
      refine ⟨o, by simp, ?_, ?_⟩
      · simp only [if_pos, if_neg (ne (j + 1) (Nat.le_refl _))]
        intro t
        rw [h2 t, e2]
      · simp only [if_pos, if_neg (ne (j + 1) (Nat.le_refl _))]
        rw [h1]
        exact h
    · obtain ⟨p, hp1, hp2, hp3⟩ := h3.ent j (by omega) hj2
      refine ⟨p, by rw [sb j (by omega)]; exact hp1, ?_, ?_⟩
      · simp only [if_neg e, if_neg (ne (j + 1) (by omega))]
        exact hp2
      · simp only [if_neg e, if_neg (ne (j + 1) (by omega))]
        exact hp3
  · by_cases e : j = i
    · subst e
      simp only [if_pos] at hr
      subst hr
      refine ⟨fun q hq => ?_, fun j' q a b => by omega⟩
      simp only [Nat.sub_self, List.getD_cons_zero]
      exact okO _ _ _ hs.2 q hq
    · simp only [if_neg e] at hr
      obtain ⟨k1, k2⟩ := h3.ord j (by omega) hj2 r hr
      rw [sb j (by omega)]
      simp only [List.getD_cons_succ]
      refine ⟨fun q hq => k1 q ?_, fun j' q hj' hlt hq => ?_⟩
      · cases rc with
        | none => have hs : seen' = seen := hs; show q ∈ seen'; rw [hs]; exact hq
        | some r' => show q ∈ seen'; rw [hs.1]; exact List.mem_cons_of_mem _ hq
      · by_cases e' : j' = i
        · subst e'
          simp only [if_pos] at hq
          subst hq
          exact k1 q (by show q ∈ seen'; rw [hs.1]; exact List.mem_cons_self ..)
        · simp only [if_neg e'] at hq
          exact k2 j' q (by omega) hlt hq
  · have est : st ≠ i := by omega
    simp only [if_neg est]
    have ef : ∀ t, frTm (frPut f o v) t = frTm f t := fun t => rfl
    rcases h4 with ⟨k1, k2⟩ | ⟨p, ch, M2, k1, k2, k3, ⟨k5, k6⟩, k4⟩
    · exact .inl ⟨by simp only [List.length_cons]; omega, by rw [← ef]; exact k2⟩
    · refine .inr ⟨p, ch, M2, by rw [sb st (by omega)]; exact k1, k2, ?_, ⟨fun q hq hw => ?_, fun j q hj1 hj2 hq hw => ?_⟩, by rw [← ef]; exact k4⟩
      · rw [sb st (by omega)]
        exact k3
      · rw [sb st (by omega)]
        simp only [List.getD_cons_succ]
        refine k5 q ?_ hw
        cases rc with
        | none => have hs : seen' = seen := hs; show q ∈ seen'; rw [hs]; exact hq
        | some r' => show q ∈ seen'; rw [hs.1]; exact List.mem_cons_of_mem _ hq
      · rw [sb st (by omega)]
        simp only [List.getD_cons_succ]
        by_cases e' : j = i
        · subst e'
          simp only [if_pos] at hq
          subst hq
          exact k5 q (by show q ∈ seen'; rw [hs.1]; exact List.mem_cons_self ..) hw
        · simp only [if_neg e'] at hq
          exact k6 j q (by omega) hj2 hq hw
end
end Go.Proofs.YtpflobodmglmaaaGreat
set_option linter.unusedVariables false
set_option maxHeartbeats 4000000
namespace Go.Proofs.YtpflobodmglmaaaGreat
section
variable {P : Program} {G G' : Gh} {w w' : World} {M M' N N' : Mem}
/-- What is owned. -/
noncomputable def og (M : Mem) (id : Nat) : Option Blk := match M.h.get id with | some .gone => none | x => x
theorem og_some {id : Nat} {k : Blk} (h : og M id = some k) : M.h.get id = some k ∧ k ≠ .gone := by
  unfold og at h
  split at h
  · cases h
  · rename_i hn
    exact ⟨h, fun e => hn (by rw [h, e])⟩
theorem og_of {id : Nat} {k : Blk} (h : M.h.get id = some k) (hk : k ≠ .gone) : og M id = some k := by
  unfold og
  rw [h]
  split
  · rename_i e; cases e; exact absurd rfl hk
  · rfl
theorem own_og {id : Nat} : Own M id ↔ og M id ≠ none := by
  constructor
  · rintro ⟨k, h1, h2⟩ e
    rw [og_of h1 h2] at e; cases e
  · intro h
    cases e : og M id with
    | none => exact absurd e h
    | some k => exact ⟨k, og_some e⟩
theorem og_get {id : Nat} (h : M.h.get id = N.h.get id) : og M id = og N id := by unfold og; rw [h]
theorem own_eq {id : Nat} (h : og M id = og N id) (o : Own M id) : M.h.get id = N.h.get id := by
  obtain ⟨k, h1, h2⟩ := o
  have := og_of h1 h2
  rw [h] at this
  rw [h1, (og_some this).1]
theorem own_cong {id : Nat} (h : og M id = og N id) : Own M id ↔ Own N id := by rw [own_og, own_og, h]
theorem BlkR.same {G : Gh} {b base : Nat} {k : Blk} (h : BlkR G w b base k) (hh : w'.heap[b]? = w.heap[b]?) : BlkR G w' b base k := h.heap hh
/-- The same for the ids that are known, or less. -/
theorem St.ofOg (hs : St G w M) (h : ∀ id, G.phi id ≠ none → og N id = og M id ∨ og N id = none) (hn : ∀ id b base, G.phi id = some (b, base) → id < N.nx) : St G w N := by
  have get : ∀ id b base k, G.phi id = some (b, base) → N.h.get id = some k → k ≠ .gone → M.h.get id = some k := fun id b base k hp hk hg => by
    have e := og_of hk hg
    rcases h id (by rw [hp]; simp) with e1 | e1
    · rw [e] at e1; exact (og_some e1.symm).1
    · rw [e] at e1; cases e1
  have own : ∀ id b base, G.phi id = some (b, base) → Own N id → Own M id := fun id b base hp ⟨k, h1, h2⟩ => ⟨k, get id b base k hp h1 h2, h2⟩
  refine ⟨fun id k b base h1 h2 => ?_, fun id id' b b1 b2 o1 o2 h1 h2 => hs.inj id id' b b1 b2 (own _ _ _ h1 o1) (own _ _ _ h2 o2) h1 h2, hs.lt, hn, hs.con, hs.cob, fun id b base i o h => hs.sep id b base i (own _ _ _ h o) h, fun id b base o h => hs.sep2 id b base (own _ _ _ h o) h⟩
  by_cases hk : k = .gone
  · subst hk; trivial
  · exact hs.blk id k b base (get id b base k h2 h1 hk) h2
theorem OwnB.up {b : Nat} (h : ∀ id, G.phi id ≠ none → Own M id → Own N id) (o : OwnB G M b) : OwnB G N b := by
  obtain ⟨id, base, o, e⟩ := o
  exact ⟨id, base, h id (by rw [e]; simp) o, e⟩
theorem Ev.ofOg (h : Ev G w M G' w' M') (h1 : ∀ id, G.phi id ≠ none → Own M id → Own N id) (h2 : ∀ id, G.phi id ≠ none → Own N' id → Own N id) (hn : N.nx ≤ N'.nx) : Ev G w N G' w' N' :=
  ⟨h.le, fun id b base e => (h.phin id b base e).imp (fun e => e) (fun e => e.imp (fun e => e) (OwnB.up h1)), fun b i v e => (h.conn b i v e).imp (fun e => e) (fun e => e.imp (fun e => e) (OwnB.up h1)), fun b v e => (h.cobn b v e).imp (fun e => e) (fun e => e.imp (fun e => e) (OwnB.up h1)), h.tot, fun b hb hn => h.keep b hb (fun o => hn (o.up h1)), h.size, h.os, hn, fun id o => by
    cases e : G.phi id with
    | none => exact .inr rfl
    | some x => exact .inl (h2 id (by rw [e]; simp) o)⟩
/-- What a part of memory does, with more beside it. -/
theorem St.frame {Ms M1 M2 C : Mem} {E : Nat → Prop} (hs : St G w Ms) (s1 : St G w M1) (ev : Ev G w M1 G' w' M2) (s2 : St G' w' M2) (hE : ∀ id, E id → G.phi id ≠ none ∧ ¬ Own M1 id) (hM : ∀ id, G.phi id ≠ none → Own M1 id → Own Ms id)
    (hC1 : ∀ id, E id → og C id = og Ms id) (hC2 : ∀ id, ¬ E id → og C id = og M2 id) (hn : M2.nx ≤ C.nx) (hn2 : Ms.nx ≤ C.nx) : St G' w' C ∧ Ev G w Ms G' w' C := by
  have nb : ∀ id b base, E id → Own Ms id → G.phi id = some (b, base) → ¬ OwnB G M1 b := fun id b base he ho hp ⟨id2, base2, o2, e2⟩ => by
    have := hs.inj id id2 b base base2 ho (hM id2 (by rw [e2]; simp) o2) hp e2
    subst this
    exact (hE id he).2 o2
  have cE : ∀ id, E id → Own C id → Own Ms id := fun id he o => (own_cong (hC1 id he)).1 o
  have cN : ∀ id, ¬ E id → Own C id → Own M2 id := fun id he o => (own_cong (hC2 id he)).1 o
  have ph : ∀ id x, E id → G'.phi id = some x → G.phi id = some x := fun id x he hx => by
    cases e : G.phi id with
    | none => exact absurd e (hE id he).1
    | some y => rw [ev.le.phi id y e] at hx; exact hx
  have nb2 : ∀ id b base, E id → Own Ms id → G.phi id = some (b, base) → ¬ OwnB G' M2 b := fun id b base he ho hp o => nb id b base he ho hp (ev.ownB (hs.lt _ _ _ hp) o)
  constructor
  · refine ⟨fun id k b base h1 h2 => ?_, fun id id' b base base' o1 o2 h1 h2 => ?_, s2.lt, fun id b base h => Nat.lt_of_lt_of_le (s2.fresh id b base h) hn, s2.con, s2.cob, fun id b base i o h => ?_, fun id b base o h => ?_⟩
    · by_cases hk : k = .gone
      · subst hk; trivial
      · by_cases he : E id
        · have hp := ph id _ he h2
          have e1 : og Ms id = some k := by rw [← hC1 id he]; exact og_of h1 hk
          have own : Own Ms id := own_og.2 (by rw [e1]; simp)
          exact (hs.blk id k b base (og_some e1).1 hp).mono ev.le (ev.keep b (hs.lt _ _ _ hp) (nb id b base he own hp)) hp
        · have e1 : og M2 id = some k := by rw [← hC2 id he]; exact og_of h1 hk
          exact s2.blk id k b base (og_some e1).1 h2
    · by_cases he : E id <;> by_cases he' : E id'
      · exact hs.inj id id' b base base' (cE _ he o1) (cE _ he' o2) (ph _ _ he h1) (ph _ _ he' h2)
      · exact absurd ⟨id', base', cN _ he' o2, h2⟩ (nb2 id b base he (cE _ he o1) (ph _ _ he h1))
      · exact absurd ⟨id, base, cN _ he o1, h1⟩ (nb2 id' b base' he' (cE _ he' o2) (ph _ _ he' h2))
      · exact s2.inj id id' b base base' (cN _ he o1) (cN _ he' o2) h1 h2
    · by_cases he : E id
      · have hp := ph id _ he h
        cases hc : G'.con b i with
        | none => rfl
        | some v =>
          exfalso
          rcases ev.conn b i v hc with e | e | e
          · rw [hs.sep id b base i (cE _ he o) hp] at e; cases e
          · have := hs.lt _ _ _ hp; omega
          · exact nb id b base he (cE _ he o) hp e
      · exact s2.sep id b base i (cN _ he o) h
    · by_cases he : E id
      · have hp := ph id _ he h
        cases hc : G'.cob b with
        | none => rfl
        | some v =>
          exfalso
          rcases ev.cobn b v hc with e | e | e
          · rw [hs.sep2 id b base (cE _ he o) hp] at e; cases e
          · have := hs.lt _ _ _ hp; omega
          · exact nb id b base he (cE _ he o) hp e
      · exact s2.sep2 id b base (cN _ he o) h
  · refine ev.ofOg hM (fun id hp o => ?_) hn2
    by_cases he : E id
    · exact cE _ he o
    · rcases ev.dom id (cN _ he o) with e | e
      · exact hM id hp e
      · exact absurd e hp
/-- Two memories in one. -/
theorem merge (E : Nat → Prop) (n : Nat) (A B : Mem) : ∀ l : List Nat, ∃ C : Mem, C.nx = n ∧ (∀ id, id ∈ l → E id → og C id = og B id) ∧ ∀ id, ¬ (id ∈ l ∧ E id) → og C id = og A id
  | [] => ⟨⟨A.h, n, A.lg⟩, rfl, fun id h _ => by (cases h), fun id _ => rfl⟩
  | x :: l => by
    obtain ⟨C, h1, h2, h3⟩ := merge E n A B l
    by_cases hx : E x
    · have gm : ∀ id, og (⟨C.h.set x ((B.h.get x).getD .gone), n, C.lg⟩ : Mem) id = if x = id then og B x else og C id := fun id => by
        unfold og
        show (match (C.h.set x ((B.h.get x).getD .gone)).get id with | some .gone => none | x => x) = _
        rw [get_set]
        by_cases e : x = id
        · rw [if_pos e, if_pos e]
          cases hb : B.h.get x with
          | none => rfl
          | some k => cases k <;> rfl
        · rw [if_neg e, if_neg e]
      refine ⟨⟨C.h.set x ((B.h.get x).getD .gone), n, C.lg⟩, rfl, fun id hi he => ?_, fun id hn => ?_⟩
      · rw [gm]
        by_cases e : x = id
        · rw [if_pos e, e]
        · rw [if_neg e]
          exact h2 id ((List.mem_cons.1 hi).resolve_left (fun h => e h.symm)) he
      · have ne : x ≠ id := fun e => hn ⟨by rw [← e]; exact List.mem_cons_self .., by rw [← e]; exact hx⟩
        rw [gm, if_neg ne]
        exact h3 id (fun h => hn ⟨List.mem_cons_of_mem _ h.1, h.2⟩)
    · refine ⟨C, h1, fun id hi he => ?_, fun id hn => ?_⟩
      · rcases List.mem_cons.1 hi with rfl | hi
        · exact absurd he hx
        · exact h2 id hi he
      · exact h3 id (fun h => hn ⟨List.mem_cons_of_mem _ h.1, h.2⟩)
/-! A thing's history. -/
def Hist {β : Type} (c : Nat → β) (st : Nat) (D : List Nat) (x : β) : Prop := ∃ s, s ≤ st ∧ x = c s ∧ (∀ j, j < s → c (j + 1) ≠ c j → j ∈ D) ∧ ∀ j, s ≤ j → j < st → c (j + 1) ≠ c j → j ∉ D
theorem const_of {β : Type} {c : Nat → β} {a : Nat} : ∀ b, a ≤ b → (∀ j, a ≤ j → j < b → c (j + 1) = c j) → c b = c a
  | 0, h, _ => by rw [show a = 0 by omega]
  | b + 1, h, k => by
    by_cases e : a = b + 1
    · rw [e]
    · rw [k b (by omega) (by omega)]
      exact const_of b (by omega) (fun j h1 h2 => k j h1 (by omega))
theorem Hist.at' {β : Type} {c : Nat → β} {st i : Nat} {D : List Nat} {x : β} (h : Hist c st D x) (hi : i ≤ st) (lo : ∀ j, j < i → c (j + 1) ≠ c j → j ∈ D) (hi2 : ∀ j, i ≤ j → j < st → c (j + 1) ≠ c j → j ∉ D) : x = c i := by
  obtain ⟨s, hs, rfl, h1, h2⟩ := h
  by_cases e : s ≤ i
  · refine (const_of i e fun j a b => Classical.byContradiction fun hn => h2 j a (by omega) hn (lo j b hn)).symm
  · exact const_of s (by omega) fun j a b => Classical.byContradiction fun hn => hi2 j a (by omega) hn (h1 j b hn)
theorem Hist.same {β : Type} {c : Nat → β} {st i : Nat} {D : List Nat} {x : β} (h : Hist c st D x) (e : c (i + 1) = c i) : Hist c st (i :: D) x := by
  obtain ⟨s, hs, hx, h1, h2⟩ := h
  refine ⟨s, hs, hx, fun j a b => List.mem_cons_of_mem _ (h1 j a b), fun j a b hn hm => ?_⟩
  rcases List.mem_cons.1 hm with rfl | hm
  · exact hn e
  · exact h2 j a b hn hm
theorem Hist.new {β : Type} {c : Nat → β} {st i : Nat} {D : List Nat} (hi : i < st) (lo : ∀ j, j < i → c (j + 1) ≠ c j → j ∈ D) (h2 : ∀ j, i < j → j < st → c (j + 1) ≠ c j → j ∉ D) : Hist c st (i :: D) (c (i + 1)) := by
  refine ⟨i + 1, hi, rfl, fun j a b => ?_, fun j a b hn hm => ?_⟩
  · by_cases e : j = i
    · rw [e]; exact List.mem_cons_self ..
    · exact List.mem_cons_of_mem _ (lo j (by omega) b)
  · rcases List.mem_cons.1 hm with rfl | hm
    · omega
    · exact h2 j (by omega) b hn hm
theorem Hist.last {β : Type} {c : Nat → β} {st : Nat} {D : List Nat} {x : β} (h : Hist c st D x) (hD : ∀ i, i < st → i ∈ D) : x = c st :=
  h.at' (Nat.le_refl _) (fun j a _ => hD j a) (fun j a b => by omega)
theorem Hist.first {β : Type} {c : Nat → β} {st : Nat} : Hist c st [] (c 0) := ⟨0, Nat.zero_le _, rfl, fun j h => by omega, fun j _ _ _ h => by cases h⟩
/-- An operation's step, whatever it is. -/
theorem does_wr {ρ : Operand → Value} {o : Oper} {fid : Nat} {r : AV} (hs : St G w M) (hf : G.phi fid = none) (hfx : fid < M.nx) (d : Does P G ρ o w M fid r M') : Wr P G ρ o w M fid r M' := by
  cases hw : isW o.op with
  | true => exact d.2 hw
  | false =>
    rcases d.1 hw with ⟨_, ⟨v, h1, h2⟩, rfl⟩ | ⟨_, k, ⟨hk, v, ob, n, h1, h2, h3⟩, rfl⟩
    · exact ⟨G, w, v, .inl h1, h2, hs, Ev.refl _ _ _, Ub.refl _ _⟩
    · obtain ⟨a1, a2⟩ := hs.alloc hf hfx h3 hk
      exact ⟨_, _, v, .inl h1, h2, a1, a2, fun id hne e => by show (if id = fid then _ else _) = _; rw [if_neg hne]; exact e⟩
end
end Go.Proofs.YtpflobodmglmaaaGreat
