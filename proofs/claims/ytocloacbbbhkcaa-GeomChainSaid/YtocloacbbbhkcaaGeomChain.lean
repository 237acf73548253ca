/- The law GeomChain. -/
import Derived.Test.YtocloacbbbhkcaaAlive5
import Derived.Test.YtocloacbbbhkcaaChainPlain
import Derived.Deep.CutBlock
import Derived.Deep.DeepCutAuto
namespace Go.Proofs.Ytocloacbbbhkcaa
open Go.RowKit

/-- How Places of a chain ends. -/
def PostC (l : List Int) (w : World) (e : Ending) (w' : World) : Prop :=
  ∃ aN nN cN gP cP, e = .returned (.tuple #[.slice aN nN cN, .slice (some ⟨gP, 0, none⟩) (l.length + 1) cP, .int .i64 0]) ∧ Ext w w' ∧
    (w'.cell? ⟨gP, 0, none⟩ = some (.int .i64 0) ∧ w'.cell? ⟨gP, 1, none⟩ = some (.int .i64 0) ∧ w'.cell? ⟨gP, 2, none⟩ = some (.int .i64 (1 + sumC l + l.length))) ∧
    (w'.cell? ⟨gP, l.length * 3, none⟩ = some (.int .i64 0) ∧ w'.cell? ⟨gP, l.length * 3 + 1, none⟩ = some (.int .i64 (sumC l)) ∧ w'.cell? ⟨gP, l.length * 3 + 2, none⟩ = some (.int .i64 1))
theorem postC (l : List Int) (h1 : 1 ≤ l.length) (h2 : l.length ≤ 5) (hs : small l) (w : World) (e : Ending) (w' : World) (h : PlacesPost w (placesS [chainC 0 l]) e w') : PostC l w e w' := by
  cases l with
  | nil => simp at h1
  | cons x l =>
  obtain ⟨σ, hp, hpl⟩ := chain_places x l (by simpa using h2) hs
  rw [hp] at h
  obtain ⟨xx, vN, vP, he, q1, q2, _⟩ := h
  obtain ⟨aN, cN, rfl, _, _⟩ := (Row.of_owns q1).shape
  have hlen : σ.places.length = (x :: l).length + 1 := by rw [hpl, plsC_len]
  obtain ⟨gP, cP, rfl, hc, _, _⟩ := owns_cells q2 (by omega)
  rw [hlen] at he hc
  have at0 : σ.places[0]? = some ⟨0, 0, (chainC 0 (x :: l)).width⟩ := by rw [hpl]; exact plsC_first _ _ _ _
  have at1 : σ.places[(x :: l).length]? = some ⟨0, 0 + sumC (x :: l), 1⟩ := by rw [hpl]; exact plsC_last _ _ _ _
  rw [width_sum] at at0
  rw [Int.zero_add] at at1
  obtain ⟨g0, _, e0, a0, a1, a2⟩ := places_at q2 at0
  cases e0
  obtain ⟨g1, _, e1, b0, b1, b2⟩ := places_at q2 at1
  cases e1
  exact ⟨_, _, _, _, _, he, xx, ⟨by simpa using a0, by simpa using a1, by simpa using a2⟩, b0, b1, b2⟩
theorem sumC_drop (l : List Int) (k : Nat) (h : k < l.length) : sumC (l.drop k) = sumC (l.drop (k + 1)) + l.getD k 0 := by
  rw [List.drop_eq_getElem_cons h, sumC]
  simp [List.getD_eq_getElem?_getD, List.getElem?_eq_getElem h]
theorem chain_drop (l : List Int) (k : Nat) (h : k < l.length) : chainC k (l.drop k) = .mk (nmC k) ((chainC (k + 1) (l.drop (k + 1))).width + l.getD k 0 + 1) 0 [(chainC (k + 1) (l.drop (k + 1))).setBeg (l.getD k 0)] := by
  rw [List.drop_eq_getElem_cons h, chainC]
  simp [List.getD_eq_getElem?_getD, List.getElem?_eq_getElem h]
theorem small_drop (l : List Int) (k : Nat) (h : k < l.length) (hx : 0 ≤ l.getD k 0 ∧ l.getD k 0 ≤ 10) (hs : small (l.drop (k + 1))) : small (l.drop k) := by
  rw [List.drop_eq_getElem_cons h]
  intro y hy
  rcases List.mem_cons.1 hy with rfl | hy
  · simpa [List.getD_eq_getElem?_getD, List.getElem?_eq_getElem h] using hx
  · exact hs y hy
theorem drop_len_small (l : List Int) (k : Nat) (h : l.length ≤ 5) : (l.drop k).length ≤ 5 := by simp; omega

/-- Registers in memory, in blocks of a kind. -/
inductive RegsInS (W : World) (S : Nat → Prop) : Value → List RegT → Prop where
  | mk {v : Value} {l : List RegT} (vs : List Value) (hl : vs.length = l.length) (hrow : Row W 4 v l.length (regCells l vs)) (hb : ∀ k, v.ownBlock = some k → S k)
      (hw : ∀ r ∈ l, fits64 r.width ∧ fits64 r.beg) (hs : ∀ (i : Nat) (r : RegT) (u : Value), l[i]? = some r → vs[i]? = some u → RegsInS W S u r.subs) : RegsInS W S v l
theorem RegsInS.same {W W' : World} {S S' : Nat → Prop} (hk : ∀ k, S k → W'.heap[k]? = W.heap[k]?) (hs : ∀ k, S k → S' k) {v : Value} {l : List RegT} (h : RegsInS W S v l) : RegsInS W' S' v l := by
  induction h with
  | mk vs hl hrow hb hw _ ih => exact .mk vs hl (hrow.same fun k e => hk k (hb k e)) (fun k e => hs k (hb k e)) hw ih
theorem RegsInS.to {W : World} {S : Nat → Prop} {n0 : Nat} (hs : ∀ k, S k → k < n0) {v : Value} {l : List RegT} (h : RegsInS W S v l) : RegsIn W n0 v l := by
  induction h with
  | mk vs hl hrow hb hw _ ih => exact .mk vs hl hrow (fun k e => hs k (hb k e)) hw ih
theorem RegsInS.nil (W : World) (S : Nat → Prop) : RegsInS W S (.slice none 0 0) [] :=
  .mk [] rfl ⟨rfl, Or.inl ⟨rfl, rfl⟩⟩ (fun k h => by cases h) (fun r h => by simp at h) (fun i r u h => by simp at h)
theorem RegsInS.one {W : World} {S : Nat → Prop} {b : Nat} {t : TypeId} {r : RegT} {v : Value} (h : W.heap[b]? = some (.cells #[.string r.name, .int .i64 r.width, .int .i64 r.beg, v] t (0, 0))) (hb : S b) (hf : fits64 r.width ∧ fits64 r.beg) (hs : RegsInS W S v r.subs) : RegsInS W S (.slice (some ⟨b, 0, none⟩) 1 1) [r] := by
  refine .mk [v] rfl ?_ (fun k e => by cases e; exact hb) (fun r' hr' => by simp at hr'; subst hr'; exact hf) (fun i r' u hr hu => ?_)
  · have := row_of_block (n := 1) (size := 4) h rfl (by decide)
    simpa [regCells] using this
  · match i, hr, hu with
    | 0, hr, hu => simp at hr hu; subst hr; subst hu; exact hs
    | i + 1, hr, _ => simp at hr
theorem RegsInS.form {W : World} {S : Nat → Prop} {v : Value} {l : List RegT} (h : RegsInS W S v l) : ∃ a c, v = .slice a l.length c := by
  cases h with
  | mk vs hl hrow _ _ _ => obtain ⟨a, c, e, _, _⟩ := hrow.shape; exact ⟨a, c, e⟩

/-- The loop's state at a register of the chain. -/
def ChI (l : List Int) (w1 : World) (bR : Nat) (k : Nat) (wr : World) : Prop :=
  Ext w1 wr ∧ small (l.drop k) ∧ ∃ v, wr.heap[bR]? = some (.cells #[.string (chainC k (l.drop k)).name, .int .i64 (chainC k (l.drop k)).width, .int .i64 0, v] 26 (0, 0)) ∧
    RegsInS wr (fun q => q ≠ bR ∧ q < wr.heap.size) v (chainC k (l.drop k)).subs

set_option maxRecDepth 100000 in
set_option maxHeartbeats 4000000 in
theorem geomChain_any (l : List Int) (v : Value) (w : World) (hv : SliceInts w v l) (hx : ∀ x ∈ l, fits64 x) :
    Calls Try.prog 5 #[v] w fun e w' => e = .returned (.bool true) ∧ Below w.heap.size w w' := by
  obtain ⟨ad, cap, rfl, hcells⟩ := SliceInts.open hv
  have HV := Lib.hid hv
  have HX := Lib.hid hx
  have HC := Lib.hid hcells
  clear hv hx hcells
  go_enter Try.func5, Try.ntmps5
  go_wp2_with fail
  refine (alive5_any _).mono ?_
  rintro e w1 ⟨rfl, x1⟩
  have X1 := Lib.hid x1
  clear x1
  by_cases q1 : (l.length : Int) < 1
  · go_wp2_with fail
    go_ret
    exact ⟨rfl, X1.out⟩
  by_cases q2 : (5 : Int) < l.length
  · go_wp2_with fail
    go_ret
    exact ⟨rfl, X1.out⟩
  have q1b : decide ((l.length : Int) < 1) = false := by simpa using q1
  have q2b : decide ((5 : Int) < l.length) = false := by simpa using q2
  obtain ⟨b, off, rfl, hbl, hcl⟩ := HC.out (fun e => by rw [e] at q1; simp at q1)
  have CL := Lib.hid hcl
  clear hcl HC
  go_upto_block 0 with (fail)
  rename_i K1 hK1
  have hK1h := Lib.hid hK1
  clear hK1
  go_wp2_with fail
  have start : Hid (ChI l w1 w1.heap.size l.length (w1.alloc (.cells #[.string ⟨#[120, 53]⟩, .int .i64 1, .int .i64 0, .slice none 0 0] 26))) := Lib.hid (by
    unfold ChI
    rw [List.drop_length]
    exact ⟨Ext.alloc _ _, fun x hx => by simp at hx, _, heap_alloc_new _ _, RegsInS.nil _ _⟩)
  generalize w1.alloc (.cells #[.string ⟨#[120, 53]⟩, .int .i64 1, .int .i64 0, .slice none 0 0] 26) = W0 at start ⊢
  have h0 : Hid (sumC (l.drop l.length) = 0) := Lib.hid (by rw [List.drop_length]; rfl)
  go_loopw [4, 6] (fun s i wr => ∃ (k : Nat), k ≤ l.length ∧ i = .int .i64 ((k : Int) - 1) ∧ s = .int .i64 (sumC (l.drop k)) ∧ Hid (ChI l w1 w1.heap.size k wr)) (fun _ i _ => (intOf i + 1).toNat)
  case atStart => exact ⟨l.length, by omega, rfl, by rw [h0.out], start⟩
  case round =>
    clear start h0
    obtain ⟨k, hk, rfl, rfl, hin⟩ := hrel
    obtain ⟨xw, hsm, v, hbv, hregs⟩ := hin.out
    have hsb := sumC_bd _ hsm
    have hwb := chain_width k _ hsm
    have hdl := drop_len_small l k (by omega)
    obtain ⟨va, vc, rfl⟩ := hregs.form
    obtain ⟨s0, hs0⟩ : ∃ s, sumC (l.drop k) = s := ⟨_, rfl⟩
    obtain ⟨wd, hwd⟩ : ∃ s, (chainC k (l.drop k)).width = s := ⟨_, rfl⟩
    obtain ⟨nm, hnm0⟩ : ∃ s, (chainC k (l.drop k)).name = s := ⟨_, rfl⟩
    obtain ⟨vn, hvn⟩ : ∃ n, (chainC k (l.drop k)).subs.length = n := ⟨_, rfl⟩
    rw [hwd, hnm0, hvn] at hbv
    rw [hvn] at hregs
    rw [hs0] at hsb ⊢
    rw [hwd] at hwb
    have XW := Lib.hid xw
    have SM := Lib.hid hsm
    have BV := Lib.hid hbv
    have RG := Lib.hid hregs
    have WD := Lib.hid hwd
    have NM := Lib.hid hnm0
    have S0 := Lib.hid hs0
    clear hin xw hsm hregs hwd hnm0 hs0 hvn hbv
    by_cases hk0 : k = 0
    · subst hk0
      have tz : ((0 : Nat) : Int) - 1 = -1 := by omega
      rw [tz]
      go_wp2_with fail
      refine hK1h.out _ _ ?_
      have r0 : wr.cell? ⟨w1.heap.size, 0, none⟩ = some (.string nm) := by simp [World.cell?, BV.out]
      have r1 : wr.cell? ⟨w1.heap.size, 1, none⟩ = some (.int .i64 wd) := by simp [World.cell?, BV.out]
      have r2 : wr.cell? ⟨w1.heap.size, 2, none⟩ = some (.int .i64 0) := by simp [World.cell?, BV.out]
      have r3 : wr.cell? ⟨w1.heap.size, 3, none⟩ = some (.slice va vn vc) := by simp [World.cell?, BV.out]
      have lR : w1.heap.size < wr.heap.size := (Array.getElem?_eq_some_iff.1 BV.out).1
      have e0 : (chainC 0 l).beg = 0 := by cases l <;> rfl
      have hreg : Hid (RegsIn (wr.alloc (.cells #[.string nm, .int .i64 wd, .int .i64 0, .slice va vn vc] 26)) (wr.alloc (.cells #[.string nm, .int .i64 wd, .int .i64 0, .slice va vn vc] 26)).heap.size (.slice (some ⟨wr.heap.size, 0, none⟩) 1 1) [chainC 0 l]) := Lib.hid (by
        refine RegsInS.to (S := fun q => q ≠ w1.heap.size ∧ q < (wr.alloc (.cells #[.string nm, .int .i64 wd, .int .i64 0, .slice va vn vc] 26)).heap.size) (fun q hq => hq.2) ?_
        refine RegsInS.one (t := 26) (v := .slice va vn vc) ?_ ⟨by omega, by simp⟩ ⟨?_, ?_⟩ ?_
        · have h1 : (chainC 0 l).name = nm := NM.out
          have h2 : (chainC 0 l).width = wd := WD.out
          rw [h1, h2, e0]; exact heap_alloc_new _ _
        · have h2 : (chainC 0 l).width = wd := WD.out
          rw [h2]; exact ⟨by omega, by omega⟩
        · rw [e0]; exact ⟨by decide, by decide⟩
        · exact RG.out.same (fun q hq => Below.block (Ext.alloc wr _) q hq.2) (fun q hq => ⟨hq.1, by simp; omega⟩))
      have XA := Lib.hid (X1.out.trans (XW.out.trans (Ext.alloc wr (.cells #[.string nm, .int .i64 wd, .int .i64 0, .slice va vn vc] 26))))
      clear RG BV
      go_wp2_with fail
      refine (places_any [chainC 0 l] _ 1 1 _ hreg.out).mono ?_
      intro e w3 hpost
      obtain ⟨aN, nN, cN, gP, cP, rfl, x3, ⟨z0, z1, z2⟩, ⟨y0, y1, y2⟩⟩ := postC l (by omega) (by omega) SM.out _ _ _ hpost
      have hs0 : sumC l = s0 := S0.out
      rw [hs0] at z2 y1
      have X3 := Lib.hid (XA.out.trans x3)
      clear hpost x3 hreg XA r0 r1 r2 r3 hs0 e0
      go_wp2_with fail
      refine (num5_any _ _).mono ?_
      rintro e w4 ⟨rfl, rfl⟩
      have b1 : (0 : Int) ≤ l.length := by omega
      have b2 : (l.length : Int) < (l.length : Int) + 1 := by omega
      go_wp2_with fail
      have xc : Ext w3 (w3.alloc (.cells #[.int .i64 0, .int .i64 s0, .int .i64 1] 34)) := Ext.alloc _ _
      have z0 := xc.cell z0
      have z1 := xc.cell z1
      have z2 := xc.cell z2
      have u0 : (w3.alloc (.cells #[.int .i64 0, .int .i64 s0, .int .i64 1] 34)).cell? ⟨w3.heap.size, 0, none⟩ = some (.int .i64 0) := cell_new w3 _ _ 0
      have u1 : (w3.alloc (.cells #[.int .i64 0, .int .i64 s0, .int .i64 1] 34)).cell? ⟨w3.heap.size, 1, none⟩ = some (.int .i64 s0) := cell_new w3 _ _ 1
      have u2 : (w3.alloc (.cells #[.int .i64 0, .int .i64 s0, .int .i64 1] 34)).cell? ⟨w3.heap.size, 2, none⟩ = some (.int .i64 1) := cell_new w3 _ _ 2
      have XC := Lib.hid (X3.out.trans xc)
      clear xc y0 y1 y2
      generalize (w3.alloc (.cells #[.int .i64 0, .int .i64 s0, .int .i64 1] 34)) = w5 at z0 z1 z2 u0 u1 u2 XC ⊢
      have L1 := Lib.hid (withinC s0 l.length hsb.1 (by omega))
      have fA : Pl.fit ⟨0, s0, 1⟩ := by refine ⟨⟨?_, ?_⟩, ⟨?_, ?_⟩, ⟨?_, ?_⟩⟩ <;> simp only [] <;> omega
      have fB : Pl.fit ⟨0, 0, 1 + s0 + l.length⟩ := by refine ⟨⟨?_, ?_⟩, ⟨?_, ?_⟩, ⟨?_, ?_⟩⟩ <;> simp only [] <;> omega
      have b3 : (0 : Int) < (l.length : Int) + 1 := by omega
      refine wp_region_M (fun w' => w'.cell? ⟨w3.heap.size, 0, none⟩ = some (.int .i64 0) ∧ w'.cell? ⟨w3.heap.size, 1, none⟩ = some (.int .i64 s0) ∧ w'.cell? ⟨w3.heap.size, 2, none⟩ = some (.int .i64 1) ∧ w'.cell? ⟨gP, 0, none⟩ = some (.int .i64 0) ∧ w'.cell? ⟨gP, 1, none⟩ = some (.int .i64 0) ∧ w'.cell? ⟨gP, 2, none⟩ = some (.int .i64 (1 + s0 + l.length))) 11 (by kernel_rfl) ⟨u0, u1, u2, z0, z1, z2⟩ (fun hS => ?_)
      refine wpAnyM_take (v := ?_) 0 rfl (by kernel_rfl) (fun _ _ _ h => h) hS rfl ?_ ?_; rotate_left; · (intro w hSw; (try dsimp only at hSw); go_simp; try with_reducible rfl)
      (try simp only [Act.put, List.setIfInBounds_toArray, List.set_cons_zero, List.set_cons_succ])
      refine wpAnyM_take (v := ?_) 1 rfl (by kernel_rfl) (fun _ _ _ h => h) hS rfl ?_ ?_; rotate_left; · (intro w hSw; (try dsimp only at hSw); go_simp; try with_reducible rfl)
      (try simp only [Act.put, List.setIfInBounds_toArray, List.set_cons_zero, List.set_cons_succ])
      refine wpAnyM_take (v := ?_) 2 rfl (by kernel_rfl) (fun _ _ _ h => h) hS rfl ?_ ?_; rotate_left; · (intro w hSw; (try dsimp only at hSw); go_simp; try with_reducible rfl)
      (try simp only [Act.put, List.setIfInBounds_toArray, List.set_cons_zero, List.set_cons_succ])
      refine wpAnyM_take (v := ?_) 3 rfl (by kernel_rfl) (fun _ _ _ h => h) hS rfl ?_ ?_; rotate_left; · (intro w hSw; (try dsimp only at hSw); go_simp; try with_reducible rfl)
      (try simp only [Act.put, List.setIfInBounds_toArray, List.set_cons_zero, List.set_cons_succ])
      refine wpAnyM_take (v := ?_) 4 rfl (by kernel_rfl) (fun _ _ _ h => h) hS rfl ?_ ?_; rotate_left; · (intro w hSw; (try dsimp only at hSw); go_simp; try with_reducible rfl)
      (try simp only [Act.put, List.setIfInBounds_toArray, List.set_cons_zero, List.set_cons_succ])
      refine wpAnyM_take (v := ?_) 5 rfl (by kernel_rfl) (fun _ _ _ h => h) hS rfl ?_ ?_; rotate_left; · (intro w hSw; (try dsimp only at hSw); go_simp; try with_reducible rfl)
      (try simp only [Act.put, List.setIfInBounds_toArray, List.set_cons_zero, List.set_cons_succ])
      refine wpAnyM_take (v := ?_) 6 rfl (by kernel_rfl) (fun _ _ _ h => h) hS rfl ?_ ?_; rotate_left; · (intro w hSw; (try dsimp only at hSw); go_simp; try with_reducible rfl)
      (try simp only [Act.put, List.setIfInBounds_toArray, List.set_cons_zero, List.set_cons_succ])
      refine wpAnyM_take (v := ?_) 7 rfl (by kernel_rfl) (fun _ _ _ h => h) hS rfl ?_ ?_; rotate_left; · (intro w hSw; (try dsimp only at hSw); go_simp; try with_reducible rfl)
      (try simp only [Act.put, List.setIfInBounds_toArray, List.set_cons_zero, List.set_cons_succ])
      refine wpAnyM_take (v := ?_) 8 rfl (by kernel_rfl) (fun _ _ _ h => h) hS rfl ?_ ?_; rotate_left; · (intro w hSw; (try dsimp only at hSw); go_simp; try with_reducible rfl)
      (try simp only [Act.put, List.setIfInBounds_toArray, List.set_cons_zero, List.set_cons_succ])
      refine wpAnyM_ready [9] (by kernel_rfl) rfl ?_
      refine AllM.cons rfl rfl (fun K hK => ?_) AllM.nil
      go_simp
      refine (within_any ⟨0, s0, 1⟩ ⟨0, 0, 1 + s0 + l.length⟩ _ fA fB).mono ?_
      rintro e w6 ⟨rfl, hb6⟩
      rw [L1.out]
      have x6 : Ext w5 w6 := (Ext.drew w5).trans hb6
      have S6 : (fun w' => w'.cell? ⟨w3.heap.size, 0, none⟩ = some (.int .i64 0) ∧ w'.cell? ⟨w3.heap.size, 1, none⟩ = some (.int .i64 s0) ∧ w'.cell? ⟨w3.heap.size, 2, none⟩ = some (.int .i64 1) ∧ w'.cell? ⟨gP, 0, none⟩ = some (.int .i64 0) ∧ w'.cell? ⟨gP, 1, none⟩ = some (.int .i64 0) ∧ w'.cell? ⟨gP, 2, none⟩ = some (.int .i64 (1 + s0 + l.length))) w6 := ⟨x6.cell u0, x6.cell u1, x6.cell u2, x6.cell z0, x6.cell z1, x6.cell z2⟩
      refine hK.out _ _ S6 ?_
      (try simp only [Act.put, List.setIfInBounds_toArray, List.set_cons_zero, List.set_cons_succ])
      clear hK K hS
      have hS := S6
      refine wpAnyM_take (v := ?_) 10 rfl (by kernel_rfl) (fun _ _ _ h => h) hS rfl ?_ ?_; rotate_left; · (intro w hSw; (try dsimp only at hSw); go_simp; try with_reducible rfl)
      (try simp only [Act.put, List.setIfInBounds_toArray, List.set_cons_zero, List.set_cons_succ])
      refine wpAnyM_ready [11] (by kernel_rfl) rfl ?_
      refine AllM.late rfl rfl (by kernel_rfl) (fun K hK => ?_) AllM.nil
      go_simp
      refine hK.out _ _ ?_
      (try simp only [Act.put, List.setIfInBounds_toArray, List.set_cons_zero, List.set_cons_succ])
      clear hK K hS
      refine wpAnyM_done (by kernel_rfl) ?_ _
      have fin : Hid (Below w.heap.size w w6) := Lib.hid (XC.out.trans x6)
      clear x6 hb6 S6
      go_wp2_with fail
      go_ret
      exact ⟨rfl, fin.out⟩
    · obtain ⟨j, rfl⟩ : ∃ j, k = j + 1 := ⟨k - 1, by omega⟩
      rw [show (((j + 1 : Nat) : Int) - 1) = (j : Int) by omega]
      have ck := (X1.out.trans XW.out).cell (CL.out j (by omega))
      obtain ⟨xk, hxk⟩ : ∃ x, l.getD j 0 = x := ⟨_, rfl⟩
      rw [hxk] at ck
      have HXK := Lib.hid hxk
      clear hxk
      have bb : (0 : Int) ≤ j := by omega
      have bk : (j : Int) < l.length := by omega
      by_cases p1 : xk < 0
      · have hb : Hid (Below w.heap.size w wr) := Lib.hid (X1.out.trans XW.out)
        go_wp2_with fail
        go_ret
        exact ⟨rfl, hb.out⟩
      by_cases p2 : 10 < xk
      · have hb : Hid (Below w.heap.size w wr) := Lib.hid (X1.out.trans XW.out)
        go_wp2_with fail
        go_ret
        exact ⟨rfl, hb.out⟩
      have r0 : wr.cell? ⟨w1.heap.size, 0, none⟩ = some (.string nm) := by simp [World.cell?, BV.out]
      have r1 : wr.cell? ⟨w1.heap.size, 1, none⟩ = some (.int .i64 wd) := by simp [World.cell?, BV.out]
      have r2 : wr.cell? ⟨w1.heap.size, 2, none⟩ = some (.int .i64 0) := by simp [World.cell?, BV.out]
      have r3 : wr.cell? ⟨w1.heap.size, 3, none⟩ = some (.slice va vn vc) := by simp [World.cell?, BV.out]
      have f2 : wr.frozen? ⟨w1.heap.size, 2, none⟩ = false := by simp [World.frozen?, BV.out]
      go_upto_region 13 with (fail)
      have kA := Keep.setCell (fun q => q = w1.heap.size) wr ⟨w1.heap.size, 2, none⟩ (.int .i64 xk) rfl
      have BA : (wr.setCell ⟨w1.heap.size, 2, none⟩ (.int .i64 xk)).heap[w1.heap.size]? = some (.cells #[.string nm, .int .i64 wd, .int .i64 xk, .slice va vn vc] 26 (0, 0)) := heap_set_cells BV.out 2 _
      have hbR : b < w1.heap.size := Nat.lt_of_lt_of_le hbl X1.out.size
      have cA := kA.cell ck (fun (h : b = w1.heap.size) => by omega)
      have xA := XW.out.keep kA (fun q (h : q = w1.heap.size) => by omega)
      have RA := RG.out.same (W' := wr.setCell ⟨w1.heap.size, 2, none⟩ (.int .i64 xk)) (S' := fun q => q ≠ w1.heap.size ∧ q < (wr.setCell ⟨w1.heap.size, 2, none⟩ (.int .i64 xk)).heap.size) (fun q hq => kA.block q hq.2 hq.1) (fun q hq => ⟨hq.1, Nat.lt_of_lt_of_le hq.2 kA.size⟩)
      generalize wr.setCell ⟨w1.heap.size, 2, none⟩ (.int .i64 xk) = wA at kA BA cA xA RA ⊢
      have RAh := Lib.hid RA
      have XA := Lib.hid xA
      clear RA xA kA r0 r1 r2 r3 f2 ck RG BV XW
      have r0 : wA.cell? ⟨w1.heap.size, 0, none⟩ = some (.string nm) := by simp [World.cell?, BA]
      have r1 : wA.cell? ⟨w1.heap.size, 1, none⟩ = some (.int .i64 wd) := by simp [World.cell?, BA]
      have r2 : wA.cell? ⟨w1.heap.size, 2, none⟩ = some (.int .i64 xk) := by simp [World.cell?, BA]
      have r3 : wA.cell? ⟨w1.heap.size, 3, none⟩ = some (.slice va vn vc) := by simp [World.cell?, BA]
      have e1 : IntKind.i64.wrap ((j : Int) + 1) = ((j + 1 : Nat) : Int) := by rw [IntWalk.i64_in _ (by omega)]; omega
      have e2 : IntKind.i64.wrap (wd + xk) = wd + xk := IntWalk.i64_in _ (by omega)
      have e3 : IntKind.i64.wrap (wd + xk + 1) = wd + xk + 1 := IntWalk.i64_in _ (by omega)
      obtain ⟨j1, hj1⟩ : ∃ n, j + 1 = n := ⟨_, rfl⟩
      rw [hj1] at e1
      have g1 : (j1 : Int) ≤ 5 := by omega
      have g2 : (j : Int) ≤ j1 := by omega
      have g4 : (0 : Int) ≤ j1 := by omega
      have m1 : ¬ 9223372036854775807 < 1 + (min j1 5 - j) := by omega
      have KK := Lib.hid hj1
      clear hj1
      refine wp_region_M (fun w' => w'.cell? ⟨b, off + j, none⟩ = some (.int .i64 xk) ∧ w'.cell? ⟨w1.heap.size, 0, none⟩ = some (.string nm) ∧ w'.cell? ⟨w1.heap.size, 1, none⟩ = some (.int .i64 wd) ∧ w'.cell? ⟨w1.heap.size, 2, none⟩ = some (.int .i64 xk) ∧ w'.cell? ⟨w1.heap.size, 3, none⟩ = some (.slice va vn vc)) 16 (by kernel_rfl) ⟨cA, r0, r1, r2, r3⟩ (fun hS => ?_)
      refine wpAnyM_take (v := ?_) 0 rfl (by kernel_rfl) (fun _ _ _ h => h) hS rfl ?_ ?_; rotate_left; · (intro w hSw; (try dsimp only at hSw); go_simp; try with_reducible rfl)
      (try simp only [Act.put, List.setIfInBounds_toArray, List.set_cons_zero, List.set_cons_succ])
      refine wpAnyM_take (v := ?_) 1 rfl (by kernel_rfl) (fun _ _ _ h => h) hS rfl ?_ ?_; rotate_left; · (intro w hSw; (try dsimp only at hSw); go_simp; try with_reducible rfl)
      (try simp only [Act.put, List.setIfInBounds_toArray, List.set_cons_zero, List.set_cons_succ])
      refine wpAnyM_take (v := ?_) 2 rfl (by kernel_rfl) (fun _ _ _ h => h) hS rfl ?_ ?_; rotate_left; · (intro w hSw; (try dsimp only at hSw); go_simp; try with_reducible rfl)
      (try simp only [Act.put, List.setIfInBounds_toArray, List.set_cons_zero, List.set_cons_succ])
      refine wpAnyM_take (v := ?_) 3 rfl (by kernel_rfl) (fun _ _ _ h => h) hS rfl ?_ ?_; rotate_left; · (intro w hSw; (try dsimp only at hSw); go_simp; try with_reducible rfl)
      (try simp only [Act.put, List.setIfInBounds_toArray, List.set_cons_zero, List.set_cons_succ])
      refine wpAnyM_take (v := ?_) 4 rfl (by kernel_rfl) (fun _ _ _ h => h) hS rfl ?_ ?_; rotate_left; · (intro w hSw; (try dsimp only at hSw); go_simp; try with_reducible rfl)
      (try simp only [Act.put, List.setIfInBounds_toArray, List.set_cons_zero, List.set_cons_succ])
      refine wpAnyM_take (v := ?_) 5 rfl (by kernel_rfl) (fun _ _ _ h => h) hS rfl ?_ ?_; rotate_left; · (intro w hSw; (try dsimp only at hSw); go_simp; try with_reducible rfl)
      (try simp only [Act.put, List.setIfInBounds_toArray, List.set_cons_zero, List.set_cons_succ])
      refine wpAnyM_take (v := ?_) 6 rfl (by kernel_rfl) (fun _ _ _ h => h) hS rfl ?_ ?_; rotate_left; · (intro w hSw; (try dsimp only at hSw); go_simp; try with_reducible rfl)
      (try simp only [Act.put, List.setIfInBounds_toArray, List.set_cons_zero, List.set_cons_succ])
      refine wpAnyM_take (v := ?_) 7 rfl (by kernel_rfl) (fun _ _ _ h => h) hS rfl ?_ ?_; rotate_left; · (intro w hSw; (try dsimp only at hSw); go_simp; try with_reducible rfl)
      (try simp only [Act.put, List.setIfInBounds_toArray, List.set_cons_zero, List.set_cons_succ])
      refine wpAnyM_take (v := ?_) 8 rfl (by kernel_rfl) (fun _ _ _ h => h) hS rfl ?_ ?_; rotate_left; · (intro w hSw; (try dsimp only at hSw); go_simp; try with_reducible rfl)
      (try simp only [Act.put, List.setIfInBounds_toArray, List.set_cons_zero, List.set_cons_succ])
      refine wpAnyM_take (v := ?_) 9 rfl (by kernel_rfl) (fun _ _ _ h => h) hS rfl ?_ ?_; rotate_left; · (intro w hSw; (try dsimp only at hSw); go_simp; try with_reducible rfl)
      (try simp only [Act.put, List.setIfInBounds_toArray, List.set_cons_zero, List.set_cons_succ])
      refine wpAnyM_take (v := ?_) 10 rfl (by kernel_rfl) (fun _ _ _ h => h) hS rfl ?_ ?_; rotate_left; · (intro w hSw; (try dsimp only at hSw); go_simp; try with_reducible rfl)
      (try simp only [Act.put, List.setIfInBounds_toArray, List.set_cons_zero, List.set_cons_succ])
      refine wpAnyM_take (v := ?_) 11 rfl (by kernel_rfl) (fun _ _ _ h => h) hS rfl ?_ ?_; rotate_left; · (intro w hSw; (try dsimp only at hSw); go_simp; try with_reducible rfl)
      (try simp only [Act.put, List.setIfInBounds_toArray, List.set_cons_zero, List.set_cons_succ])
      refine wpAnyM_take (v := ?_) 12 rfl (by kernel_rfl) (fun _ _ _ h => h) hS rfl ?_ ?_; rotate_left; · (intro w hSw; (try dsimp only at hSw); go_simp; try with_reducible rfl)
      (try simp only [Act.put, List.setIfInBounds_toArray, List.set_cons_zero, List.set_cons_succ])
      refine wpAnyM_take (v := ?_) 13 rfl (by kernel_rfl) (fun _ _ _ h => h) hS rfl ?_ ?_; rotate_left; · (intro w hSw; (try dsimp only at hSw); go_simp; try with_reducible rfl)
      (try simp only [Act.put, List.setIfInBounds_toArray, List.set_cons_zero, List.set_cons_succ])
      refine wpAnyM_ready [14] (by kernel_rfl) rfl ?_
      refine AllM.cons rfl rfl (fun K hK => ?_) AllM.nil
      go_simp
      have xa : Ext wA (wA.alloc (.cells #[.string nm, .int .i64 wd, .int .i64 xk, .slice va vn vc] 26)).drew := (Ext.alloc wA _).trans (Ext.drew _)
      have nb : (wA.alloc (.cells #[.string nm, .int .i64 wd, .int .i64 xk, .slice va vn vc] 26)).drew.heap[wA.heap.size]? = some (.cells #[.string nm, .int .i64 wd, .int .i64 xk, .slice va vn vc] 26 (0, 0)) := heap_alloc_new wA _
      have S1 : (fun w' => w'.cell? ⟨b, off + j, none⟩ = some (.int .i64 xk) ∧ w'.cell? ⟨w1.heap.size, 0, none⟩ = some (.string nm) ∧ w'.cell? ⟨w1.heap.size, 1, none⟩ = some (.int .i64 wd) ∧ w'.cell? ⟨w1.heap.size, 2, none⟩ = some (.int .i64 xk) ∧ w'.cell? ⟨w1.heap.size, 3, none⟩ = some (.slice va vn vc)) (wA.alloc (.cells #[.string nm, .int .i64 wd, .int .i64 xk, .slice va vn vc] 26)).drew := ⟨xa.cell cA, xa.cell r0, xa.cell r1, xa.cell r2, xa.cell r3⟩
      have BB := xa.block BA
      have lA : w1.heap.size < wA.heap.size := (Array.getElem?_eq_some_iff.1 BA).1
      have sB : (wA.alloc (.cells #[.string nm, .int .i64 wd, .int .i64 xk, .slice va vn vc] 26)).drew.heap.size = wA.heap.size + 1 := by simp
      refine hK.out _ _ S1 ?_
      (try simp only [Act.put, List.setIfInBounds_toArray, List.set_cons_zero, List.set_cons_succ])
      clear hK K hS
      have hS := S1
      have RB := Lib.hid (RAh.out.same (W' := (wA.alloc (.cells #[.string nm, .int .i64 wd, .int .i64 xk, .slice va vn vc] 26)).drew) (S' := fun q => q ≠ w1.heap.size ∧ q < (wA.alloc (.cells #[.string nm, .int .i64 wd, .int .i64 xk, .slice va vn vc] 26)).drew.heap.size) (fun q hq => Below.block xa q hq.2) (fun q hq => ⟨hq.1, Nat.lt_of_lt_of_le hq.2 xa.size⟩))
      have XB := Lib.hid (XA.out.trans xa)
      generalize (wA.alloc (.cells #[.string nm, .int .i64 wd, .int .i64 xk, .slice va vn vc] 26)).drew = wB at nb S1 hS BB RB XB sB xa ⊢
      obtain ⟨bN, hbN⟩ : ∃ n, wA.heap.size = n := ⟨_, rfl⟩
      rw [hbN] at nb lA sB ⊢
      clear hbN xa RAh XA
      refine wpAnyM_take (v := ?_) 15 rfl (by kernel_rfl) (fun _ _ _ h => h) hS rfl ?_ ?_; rotate_left; · (intro w hSw; (try dsimp only at hSw); go_simp; try with_reducible rfl)
      (try simp only [Act.put, List.setIfInBounds_toArray, List.set_cons_zero, List.set_cons_succ])
      have t0 : wB.frozen? ⟨w1.heap.size, 0, none⟩ = false := by simp [World.frozen?, BB]
      have t1 : wB.frozen? ⟨w1.heap.size, 1, none⟩ = false := by simp [World.frozen?, BB]
      have t2 : wB.frozen? ⟨w1.heap.size, 2, none⟩ = false := by simp [World.frozen?, BB]
      have t3 : wB.frozen? ⟨w1.heap.size, 3, none⟩ = false := by simp [World.frozen?, BB]
      obtain ⟨_, y0, y1, y2, y3⟩ := S1
      refine wpAnyM_ready [16] (by kernel_rfl) rfl ?_
      refine AllM.late rfl rfl (by kernel_rfl) (fun K hK => ?_) AllM.nil
      go_simp
      refine hK.out _ _ ?_
      (try simp only [Act.put, List.setIfInBounds_toArray, List.set_cons_zero, List.set_cons_succ])
      clear hK K hS
      refine wpAnyM_done (by kernel_rfl) ?_ _
      have kC : Keep (fun q => q = w1.heap.size) wB ((((wB.setCell ⟨w1.heap.size, 0, none⟩ (.string (⟨#[120]⟩ ++ (⟨#[48, 49, 50, 51, 52]⟩ : ByteArray).extract j j1))).setCell ⟨w1.heap.size, 1, none⟩ (.int .i64 (wd + xk + 1))).setCell ⟨w1.heap.size, 2, none⟩ (.int .i64 0)).setCell ⟨w1.heap.size, 3, none⟩ (.slice (some ⟨bN, 0, none⟩) 1 1)) :=
        (((Keep.setCell (fun q => q = w1.heap.size) wB ⟨w1.heap.size, 0, none⟩ _ rfl).trans (Keep.setCell (fun q => q = w1.heap.size) _ ⟨w1.heap.size, 1, none⟩ _ rfl) (fun _ _ h => h)).trans (Keep.setCell (fun q => q = w1.heap.size) _ ⟨w1.heap.size, 2, none⟩ _ rfl) (fun _ _ h => h)).trans (Keep.setCell (fun q => q = w1.heap.size) _ ⟨w1.heap.size, 3, none⟩ _ rfl) (fun _ _ h => h)
      have BC : ((((wB.setCell ⟨w1.heap.size, 0, none⟩ (.string (⟨#[120]⟩ ++ (⟨#[48, 49, 50, 51, 52]⟩ : ByteArray).extract j j1))).setCell ⟨w1.heap.size, 1, none⟩ (.int .i64 (wd + xk + 1))).setCell ⟨w1.heap.size, 2, none⟩ (.int .i64 0)).setCell ⟨w1.heap.size, 3, none⟩ (.slice (some ⟨bN, 0, none⟩) 1 1)).heap[w1.heap.size]? = some (.cells #[.string (⟨#[120]⟩ ++ (⟨#[48, 49, 50, 51, 52]⟩ : ByteArray).extract j j1), .int .i64 (wd + xk + 1), .int .i64 0, .slice (some ⟨bN, 0, none⟩) 1 1] 26 (0, 0)) :=
        heap_set_cells (heap_set_cells (heap_set_cells (heap_set_cells BB 0 _) 1 _) 2 _) 3 _
      generalize ((((wB.setCell ⟨w1.heap.size, 0, none⟩ (.string (⟨#[120]⟩ ++ (⟨#[48, 49, 50, 51, 52]⟩ : ByteArray).extract j j1))).setCell ⟨w1.heap.size, 1, none⟩ (.int .i64 (wd + xk + 1))).setCell ⟨w1.heap.size, 2, none⟩ (.int .i64 0)).setCell ⟨w1.heap.size, 3, none⟩ (.slice (some ⟨bN, 0, none⟩) 1 1)) = wC at kC BC ⊢
      have key : ChI l w1 w1.heap.size j wC := by
        have hjl : j < l.length := by omega
        have hx01 : 0 ≤ l.getD j 0 ∧ l.getD j 0 ≤ 10 := by rw [HXK.out]; omega
        refine ⟨XB.out.keep kC (fun q (h : q = w1.heap.size) => by omega), small_drop l j hjl hx01 SM.out, .slice (some ⟨bN, 0, none⟩) 1 1, ?_, ?_⟩
        · rw [chain_drop l j hjl]
          have hn : nmC j = ⟨#[120]⟩ ++ (⟨#[48, 49, 50, 51, 52]⟩ : ByteArray).extract j j1 := by unfold nmC; rw [KK.out]; rfl
          show _ = some (Obj.cells #[.string (nmC j), .int .i64 ((chainC (j + 1) (l.drop (j + 1))).width + l.getD j 0 + 1), .int .i64 0, .slice (some ⟨bN, 0, none⟩) 1 1] _ _)
          rw [WD.out, HXK.out, hn]; exact BC
        · rw [chain_drop l j hjl]
          refine RegsInS.one (t := 26) (v := .slice va vn vc) ?_ ⟨by omega, by have := kC.size; omega⟩ ⟨?_, ?_⟩ ?_
          · rw [kC.block bN (by omega) (fun (h : bN = w1.heap.size) => by omega)]
            show _ = some (Obj.cells #[.string (chainC (j + 1) (l.drop (j + 1))).name, .int .i64 (chainC (j + 1) (l.drop (j + 1))).width, .int .i64 (l.getD j 0), .slice va vn vc] _ _)
            rw [NM.out, WD.out, HXK.out]; exact nb
          · show fits64 (chainC (j + 1) (l.drop (j + 1))).width
            rw [WD.out]; exact ⟨by omega, by omega⟩
          · show fits64 (l.getD j 0)
            exact ⟨by omega, by omega⟩
          · exact RB.out.same (fun q hq => kC.block q hq.2 hq.1) (fun q hq => ⟨hq.1, Nat.lt_of_lt_of_le hq.2 kC.size⟩)
      have hsum : Hid (s0 + xk = sumC (l.drop j)) := Lib.hid (by rw [sumC_drop l j (by omega), S0.out, HXK.out])
      have KEY := Lib.hid key
      clear key kC BC BB nb RB XB e1 e2 e3 m1 t0 t1 t2 t3 y0 y1 y2 y3 r0 r1 r2 r3 cA BA
      go_wp2_with fail
      go_roundw
      case rel => exact ⟨j, by omega, rfl, by rw [← hsum.out], KEY⟩
      case measure => simp [intOf] <;> omega
end Go.Proofs.Ytocloacbbbhkcaa
