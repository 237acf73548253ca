/- append, whole; the other built-in functions. No condition. -/
import Derived.Test.YtbknpfckdnladaaGreatAl
set_option linter.unusedVariables false
set_option maxHeartbeats 4000000
namespace Go.Proofs.YtbknpfckdnladaaGreat
section
variable {P : Program} {G : Gh} {ρ : Operand → Value} {ev : Operand → AV} {o : Oper} {w : World} {M M' : Mem} {r : AV}
/-- What append answers. -/
def Ap (P : Program) (G : Gh) (w : World) (M : Mem) (fid : Nat) (s : Sem Value) (a : AV) (M' : Mem) : Prop := ∃ G' w' v, s.run P w = .ok v w' ∧ RV G' v a ∧ St G' w' M' ∧ Ev G w M G' w' M' ∧ Ub (· ≠ fid) G G'
theorem Ap.grow {sz n k fid : Nat} {t0 t1 e ty : TypeId} {i : TypeInfo} {d2 : TypeDesc} {z : Value} {ao : Option Addr} {x : Value} {cap : Nat} {g gx : Nat → List AV} {x' s' : AV} {lg : List Nat} {h : Tr Blk} (hs : St G w M) (hf : G.phi fid = none) (hfx : fid < M.nx)
    (h0 : undB P t0 = some (.slice e)) (hi : infoB P e = some i) (hz : i.zero = some z) (h1 : undB P t1 = some d2) (hd : notInt (some d2) = true) (hsz : i.size = sz) (hzs : z.cells.size = sz) (h00 : 0 < sz) (hby : i.bytes ≤ 65536)
    (hx : RV G x x') (hgx : getSl M x' = some (k, gx)) (hk1 : k = 0 ∨ (gx 0).length = sz) (hx2 : RV G (.slice ao n cap) s') (hgs : getSl M s' = some (n, g)) (hn1 : n = 0 ∨ (g 0).length = sz) (hc : cap < n + k) (hb : n + k ≤ 16777216)
    (hh : h = M.h ∨ ∃ id, h = M.h.set id .gone) : Ap P G w M fid (Builtin.append_ #[t0, t1] ty #[.slice ao n cap, x]) (.sl fid 0 (n + k) false sz) ⟨h.set fid (.row sz (n + k) (appRow n k g gx)), M.nx, lg⟩ := by
  have hsd : St G w.drew M := hs.congr rfl (fun _ => rfl) (Nat.le_refl _)
  obtain ⟨hl, new, hnew, hns, hnr⟩ := src_ok (P := P) (w := w.drew) hsd hx hgx h00 hk1
  obtain ⟨_, old, hold, hos, hor⟩ := src_ok (P := P) (w := w.drew) hsd hx2 hgs h00 hn1
  obtain ⟨hl', _⟩ := src_ok (P := P) (w := w) hs hx hgx h00 hk1
  subst hsz
  obtain ⟨nc, hnc, hrun⟩ := append_grow (ty := ty) h0 hi hz h1 hd hl' hnew hold hc hb hby
  have e1 : Ev G w M G w.drew M := Ev.congr rfl ⟨rfl, rfl, rfl⟩ (fun _ => rfl) (Nat.le_refl _)
  have hsM : St G w.drew ⟨h, M.nx, lg⟩ ∧ Ev G w.drew M G w.drew ⟨h, M.nx, lg⟩ := by
    rcases hh with rfl | ⟨id, rfl⟩
    · exact ⟨hsd.congr rfl (fun _ => rfl) (Nat.le_refl _), Ev.congr rfl ⟨rfl, rfl, rfl⟩ (fun _ => rfl) (Nat.le_refl _)⟩
    · exact hsd.drop
  generalize hzz : Builtin.zeroCells z.cells (nc - (n + k)) = zs at hrun
  have hzl : zs.size = (nc - (n + k)) * i.size := by rw [← hzz]; simp [Builtin.zeroCells, hzs]
  have hcells : (old ++ new ++ zs).size = nc * i.size := by
    rw [Array.size_append, Array.size_append, hos, hns, hzl, ← Nat.add_mul, ← Nat.add_mul]
    congr 1
    omega
  have hle : (n + k) * i.size ≤ nc * i.size := Nat.mul_le_mul_right _ hnc
  have hrow := hor.app hnr (rest := zs) hos hns
  have htot : (G.new fid w.drew.heap.size (nc * i.size)).tot w.drew.heap.size = nc * i.size := if_pos rfl
  have hp : (G.new fid w.drew.heap.size (nc * i.size)).phi fid = some (w.drew.heap.size, 0) := if_pos rfl
  obtain ⟨s1, e3⟩ := St.alloc (n := nc * i.size) (ob := .cells (old ++ new ++ zs) e) (k := .row i.size (n + k) (appRow n k g gx)) hsM.1 hf hfx ⟨_, e, heap_push_eq, by omega, by rw [hcells, htot], fun j hj => ⟨(hrow j hj).1, fun q v a e f => ((hrow j hj).2 q v a e f).mono (Gh.new_le hsM.1 hf)⟩⟩ (by simp)
  refine ⟨_, _, _, hrun, ?_, s1, (e1.trans hsM.2).trans e3, fun id hne h => by show (if id = fid then _ else G.phi id) = none; rw [if_neg hne]; exact h⟩
  exact RV.sl (o := 0) (off := 0) hp hnc (fun h => by cases h) (by refine Nat.le_of_eq (Eq.trans ?_ htot.symm); simp) (.inr (by simp))
theorem zero_len (G : Gh) {t : TypeId} {i : TypeInfo} {v : Value} {z : List AV} (hi : infoB P t = some i) (hz : i.zero = some v) (h : zeroC P t = some z) : v.cells.size = z.length := by
  unfold zeroC zeroB at h
  simp only [hi, hz] at h
  exact ((RV.ofVal G v).cells h).1.len
/-- The row stays where it is. -/
theorem Ap.room {sz n k fid id off n0 b oo cap : Nat} {t0 t1 e ty : TypeId} {i : TypeInfo} {d2 : TypeDesc} {x : Value} {g gx : Nat → List AV} {x' : AV} {lg : List Nat} (hs : St G w M) (hf : G.phi fid = none) (hfx : fid < M.nx)
    (h0 : undB P t0 = some (.slice e)) (hi : infoB P e = some i) (h1 : undB P t1 = some d2) (hd : notInt (some d2) = true) (hsz : i.size = sz) (h00 : 0 < sz)
    (hx : RV G x x') (hgx : getSl M x' = some (k, gx)) (hk : 0 < k) (hk1 : (gx 0).length = sz) (hall : allOne k gx = true) (hx2 : RV G (.slice (some ⟨b, oo, none⟩) n cap) (.sl id off n false sz)) (hb : M.h.get id = some (.row sz n0 g)) (hn0 : off + n ≤ n0) (hc : n + k ≤ cap) :
    Ap P G w M fid (Builtin.append_ #[t0, t1] ty #[.slice (some ⟨b, oo, none⟩) n cap, x]) (.sl fid 0 (n + k) false sz) ⟨(M.h.set id .gone).set fid (.row sz (n + k) (appRow n k (fun j => g (off + j)) gx)), M.nx, lg⟩ := by
  obtain ⟨hl, new, hnew, hns, hnr⟩ := src_ok (P := P) (w := w) hs hx hgx h00 (.inr hk1)
  subst hsz
  have hrun := append_room (ty := ty) (ao := some ⟨b, oo, none⟩) h0 hi h1 hd hl hnew hc
  cases hx2 with
  | sl hp hcc hfu ht hoo =>
  rename_i base
  have hoo : oo = base + off * i.size := by
    rcases hoo with e | e
    · omega
    · exact e
  subst hoo
  obtain ⟨arr, t, hca, hsa, hta, hr⟩ := hs.blk _ _ _ _ hb hp
  have hlc : (n + k) * i.size ≤ cap * i.size := Nat.mul_le_mul_right _ hc
  have hln : (off + n) * i.size ≤ n0 * i.size := Nat.mul_le_mul_right _ hn0
  rw [Nat.add_mul] at hlc hln ht
  have hone : ∀ u ∈ new.toList, u.oneCell' = true := fun u hu => by
    obtain ⟨q, hq⟩ := List.getElem?_of_mem hu
    have hqk : q < k * i.size := by have := (List.getElem?_eq_some_iff.1 hq).1; rw [Array.length_toList, hns] at this; exact this
    have d1 : q / i.size < k := Nat.div_lt_of_lt_mul (by rw [Nat.mul_comm]; exact hqk)
    have d2 : q % i.size < i.size := Nat.mod_lt _ h00
    have d3 : q / i.size * i.size + q % i.size = q := by rw [Nat.mul_comm]; exact Nat.div_add_mod q i.size
    obtain ⟨r1, r2⟩ := hnr _ d1
    obtain ⟨a, ha⟩ : ∃ a, (gx (q / i.size))[q % i.size]? = some a := ⟨_, List.getElem?_eq_getElem (by rw [r1]; exact d2)⟩
    refine (r2 _ u a (by rw [Nat.zero_add, d3]; simpa using hq) ha).one ?_
    unfold allOne at hall
    rw [List.all_eq_true] at hall
    have := hall _ (List.mem_range.2 d1)
    rw [List.all_eq_true] at this
    exact this a (List.mem_of_getElem? ha)
  have hst := run_storeCells_at (P := P) b (base + off * i.size + n * i.size) t new.toList 0 arr w hca (by rw [Array.length_toList, hns]; omega) hone
  rw [Nat.add_zero, splice_eq _ _ _ (by rw [Array.length_toList, hns]; omega)] at hst
  simp only [add_none, hst, Result.andThen_ok] at hrun
  have hnl : new.toList.length = k * i.size := by rw [Array.length_toList, hns]
  have hrow : RowR G (setV arr (base + off * i.size + n * i.size) new.toList) (base + off * i.size) i.size (n + k) (appRow n k (fun j => g (off + j)) gx) := by
    intro q hq
    unfold appRow
    by_cases hin : q < n
    · have e : Nat.blt q n = true := by simpa using hin
      rw [e]
      obtain ⟨q1, q2⟩ := hr (off + q) (by omega)
      refine ⟨q1, fun j v a e1 e2 => ?_⟩
      have e2 : (g (off + q))[j]? = some a := e2
      have hj : j < i.size := by rw [← q1]; exact (List.getElem?_eq_some_iff.1 e2).1
      have hle : (q + 1) * i.size ≤ n * i.size := Nat.mul_le_mul_right _ hin
      rw [Nat.succ_mul] at hle
      rw [setV_get _ _ _ _ (by rw [hnl]; omega), if_neg (by omega)] at e1
      refine q2 j v a ?_ e2
      rw [← e1, Nat.add_mul]
      congr 1
      omega
    · have e : Nat.blt q n = false := by
        cases hh : Nat.blt q n with
        | false => rfl
        | true => exact absurd (by simpa using hh) hin
      rw [e]
      obtain ⟨q1, q2⟩ := hnr (q - n) (by omega)
      refine ⟨q1, fun j v a e1 e2 => ?_⟩
      have e2 : (gx (q - n))[j]? = some a := e2
      have hj : j < i.size := by rw [← q1]; exact (List.getElem?_eq_some_iff.1 e2).1
      have hle : (q - n + 1) * i.size ≤ k * i.size := Nat.mul_le_mul_right _ (by omega)
      rw [Nat.succ_mul] at hle
      have hi2 : q * i.size = n * i.size + (q - n) * i.size := by rw [← Nat.add_mul]; congr 1; omega
      rw [setV_get _ _ _ _ (by rw [hnl]; omega), if_pos (by rw [hnl]; omega)] at e1
      refine q2 j v a ?_ e2
      rw [← e1, Array.getElem?_toList]
      congr 1
      omega
  have hp' : (G.mv fid b (base + off * i.size)).phi fid = some (b, base + off * i.size) := if_pos rfl
  obtain ⟨s1, s2⟩ := St.move (lg := lg) (k := .row i.size (n + k) (appRow n k (fun j => g (off + j)) gx)) (w' := w.setRow b (setV arr (base + off * i.size + n * i.size) new.toList)) hs ⟨_, hb, by simp⟩ hp hf hfx (fun y hy => setRow_other w b y _ hy) (by simp) ⟨rfl, rfl, rfl⟩
    ⟨_, t, setRow_heap w b arr _ t _ hca, by rw [setV_size, hta, Nat.add_mul]; omega, by rw [setV_size]; exact hta, fun j hj => ⟨(hrow j hj).1, fun q v a e f => ((hrow j hj).2 q v a e f).mono (Gh.mv_le hf)⟩⟩
  refine ⟨_, _, _, hrun, ?_, s1, s2, fun id hne h => by show (if id = fid then _ else G.phi id) = none; rw [if_neg hne]; exact h⟩
  have htt : (G.mv fid b (base + off * i.size)).tot b = G.tot b := rfl
  exact RV.sl (off := 0) hp' hc (fun h => by cases h) (by rw [htt, Nat.zero_add]; omega) (.inr (by omega))
end
end Go.Proofs.YtbknpfckdnladaaGreat
