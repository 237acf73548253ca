/- A drawn region, walked along any listing: one operation. No condition. -/
import Derived.Test.YtbknpfckdnladaaGreatBa
set_option linter.unusedVariables false
set_option maxHeartbeats 4000000
namespace Go.Proofs.YtbknpfckdnladaaGreat
section
variable {P : Program} {ops : Array Oper} {base sz st : Nat} {m : Nat → Mem} {tm : Nat → Tr AV} {v : Nat → AV} {rc : Nat → Option Rec} {D : List Nat} {G G' : Gh} {w w' : World} {Ms : Mem} {T : Tr AV} {a : Act} {i : Nat} {o : Oper}
structure Inv (ops : Array Oper) (base sz st : Nat) (m : Nat → Mem) (tm : Nat → Tr AV) (rc : Nat → Option Rec) (D : List Nat) (G : Gh) (w : World) (Ms : Mem) (T : Tr AV) (a : Act) : Prop where
  s : St G w Ms
  nx : Ms.nx = (m st).nx
  mem : ∀ id, G.phi id ≠ none → Hist (fun j => og (m j) id) st D (og Ms id)
  unb : ∀ i, i < ops.size → i ∉ D → G.phi (base + i) = none
  fr : ∀ i r, i < st → i ∉ D → rc i = some r → r.w = true → ∀ id, G.phi id ≠ none → id < (m i).nx
  sz : a.tmps.size = sz
  rt : RT G a.tmps T
  tmp : ∀ t, Hist (fun j => (tm j).get t) st D (T.get t)
  dl : ∀ i ∈ D, i < st
  cl : ∀ i ∈ D, ∀ j, Bf ops.toList j i → j ∈ D
theorem setDst_chg {tm : Tr AV} {o : Oper} {v : AV} {t : Nat} (h : (setDst sz tm o v).get t ≠ tm.get t) : o.dst = some t ∧ t < sz := by
  unfold setDst at h
  cases hd : o.dst with
  | none => rw [hd] at h; exact absurd rfl h
  | some d =>
    rw [hd] at h
    unfold setT at h
    cases hb : Nat.blt d sz with
    | false => simp only [hb, cond_false] at h; exact absurd rfl h
    | true =>
      simp only [hb, cond_true] at h
      by_cases e : d = t
      · subst e; exact ⟨rfl, by simpa using hb⟩
      · exact absurd (get_set_ne _ _ e) h
theorem setDst_get {tm : Tr AV} {o : Oper} {v : AV} {t : Nat} : (setDst sz tm o v).get t = if o.dst = some t ∧ t < sz then some v else tm.get t := by
  unfold setDst
  cases hd : o.dst with
  | none => rw [if_neg (fun h => by cases h.1)]
  | some d =>
    dsimp only
    unfold setT
    cases hb : Nat.blt d sz with
    | false =>
      simp only [cond_false]
      rw [if_neg]
      rintro ⟨e, h⟩
      cases e
      rw [show Nat.blt t sz = true by simpa using h] at hb
      cases hb
    | true =>
      simp only [cond_true]
      have hb' : d < sz := by simpa using hb
      rw [get_set]
      by_cases e : d = t
      · subst e; rw [if_pos rfl, if_pos ⟨rfl, hb'⟩]
      · rw [if_neg e, if_neg (fun h => e (by cases h.1; rfl))]
theorem notIn_not {d : Option Nat} {l : List Nat} {t : Nat} (h : notIn d l = true) (hd : d = some t) : t ∉ l := by
  subst hd
  unfold notIn at h
  rw [List.all_eq_true] at h
  intro hm
  have := h t hm
  simp at this
theorem apT_spec {l l' : List Nat} {d d' : Option Nat} (h : apT l d l' d' = true) : notIn d l' = true ∧ notIn d' l = true ∧ neD d d' = true := by
  unfold apT at h
  simp only [Bool.and_eq_true] at h
  exact ⟨h.1, h.2.1, h.2.2⟩
theorem neD_not {d d' : Option Nat} {t : Nat} (h : neD d d' = true) (h1 : d = some t) (h2 : d' = some t) : False := by
  subst h1; subst h2
  simp [neD] at h
/-- What an operation looks at is as it was in the listed order. -/
theorem looks_eq (hR : Reg P ops base sz st m tm v rc) (hI : Inv ops base sz st m tm rc D G w Ms T a) (hi : i ≤ st) (ho : ops[i]? = some o) (hiD : i ∉ D) (hb : ∀ j, Bf ops.toList j i → j ∈ D) : Ag T (tm i) (looks ops.toList o) := by
  intro t ht
  refine (hI.tmp t).at' hi (fun j hj hne => ?_) (fun j h1 h2 hne hD => ?_)
  · obtain ⟨p, e1, e2, _⟩ := hR.ent (j := j) (by omega)
    rw [e2 t] at hne
    have hd := (setDst_chg hne).1
    refine Classical.byContradiction fun hc => ?_
    have ap := apT_spec (regOk_apart hR.ok (i := j) (j := i) (by simpa using e1) (by simpa using ho) hj (fun h => hc (hb j h)))
    exact notIn_not ap.2.1 hd ht
  · have hij : j ≠ i := fun e => hiD (e ▸ hD)
    obtain ⟨p, e1, e2, _⟩ := hR.ent (j := j) h2
    rw [e2 t] at hne
    have hd := (setDst_chg hne).1
    have ap := apT_spec (regOk_apart hR.ok (i := i) (j := j) (by simpa using ho) (by simpa using e1) (by omega) (fun h => hiD (hI.cl j hD i h)))
    exact notIn_not ap.1 hd ht
theorem tmp_step (hR : Reg P ops base sz st m tm v rc) (hI : Inv ops base sz st m tm rc D G w Ms T a) (hi : i < st) (ho : ops[i]? = some o) (hiD : i ∉ D) (hb : ∀ j, Bf ops.toList j i → j ∈ D) (he : ∀ t, (tm (i + 1)).get t = (setDst sz (tm i) o (v i)).get t) (t : Nat) :
    Hist (fun j => (tm j).get t) st (i :: D) ((setDst sz T o (v i)).get t) := by
  rw [setDst_get]
  by_cases hc : o.dst = some t ∧ t < sz
  · rw [if_pos hc]
    have e : (tm (i + 1)).get t = some (v i) := by rw [he t, setDst_get, if_pos hc]
    rw [← e]
    refine Hist.new (c := fun j => (tm j).get t) hi (fun j hj hne => ?_) (fun j h1 h2 hne hD => ?_)
    · obtain ⟨p, e1, e2, _⟩ := hR.ent (j := j) (by omega)
      have hne : (tm (j + 1)).get t ≠ (tm j).get t := hne
      rw [e2 t] at hne
      have hd := (setDst_chg hne).1
      refine Classical.byContradiction fun hn => ?_
      have ap := apT_spec (regOk_apart hR.ok (i := j) (j := i) (by simpa using e1) (by simpa using ho) hj (fun h => hn (hb j h)))
      exact neD_not ap.2.2 hc.1 hd
    · obtain ⟨p, e1, e2, _⟩ := hR.ent (j := j) h2
      have hne : (tm (j + 1)).get t ≠ (tm j).get t := hne
      rw [e2 t] at hne
      have hd := (setDst_chg hne).1
      have ap := apT_spec (regOk_apart hR.ok (i := i) (j := j) (by simpa using ho) (by simpa using e1) (by omega) (fun h => hiD (hI.cl j hD i h)))
      exact neD_not ap.2.2 hd hc.1
  · rw [if_neg hc]
    refine (hI.tmp t).same ?_
    show (tm (i + 1)).get t = (tm i).get t
    rw [he t, setDst_get, if_neg hc]
/-- Memory for an operation that writes. -/
theorem mem_w (hR : Reg P ops base sz st m tm v rc) (hI : Inv ops base sz st m tm rc D G w Ms T a) (hi : i ≤ st) (hiD : i ∉ D) (w1 : ∀ j r, j < i → rc j = some r → r.w = true → j ∈ D) (w2 : ∀ j r, i < j → j < st → rc j = some r → r.w = true → j ∉ D) (id : Nat) (hp : G.phi id ≠ none) :
    og Ms id = og (m i) id ∨ ∃ j, i < j ∧ j < st ∧ j ∈ D ∧ id = base + j := by
  by_cases he : ∃ j, i < j ∧ j < st ∧ j ∈ D ∧ id = base + j
  · exact .inr he
  · refine .inl ((hI.mem id hp).at' hi (fun j hj hne => ?_) (fun j h1 h2 hne hD => ?_))
    · obtain ⟨r, hr, k1, k2⟩ := hR.chg (j := j) (by omega) hne
      cases hw : r.w with
      | true => exact w1 j r hj hr hw
      | false =>
        refine Classical.byContradiction fun hn => hp ?_
        rw [(k1 hw).1]
        exact hI.unb j (by have := hR.st_le; omega) hn
    · have hij : j ≠ i := fun e => hiD (e ▸ hD)
      obtain ⟨r, hr, k1, k2⟩ := hR.chg (j := j) h2 hne
      cases hw : r.w with
      | true => exact w2 j r (by omega) h2 hr hw hD
      | false => exact he ⟨j, by omega, h2, hD, (k1 hw).1⟩
theorem early_none (hR : Reg P ops base sz st m tm v rc) {j : Nat} (hij : i ≤ j) (hi : i ≤ st) (hj : j < ops.size) : og (m i) (base + j) = none := by
  cases e : og (m i) (base + j) with
  | none => rfl
  | some k => exact absurd (own_og.2 (by rw [e]; simp)) ((hR.nx_of i hi).2.2 j hij hj)
theorem st_w (hR : Reg P ops base sz st m tm v rc) (hI : Inv ops base sz st m tm rc D G w Ms T a) (hi : i ≤ st) (hiD : i ∉ D) (w1 : ∀ j r, j < i → rc j = some r → r.w = true → j ∈ D) (w2 : ∀ j r, i < j → j < st → rc j = some r → r.w = true → j ∉ D) (hf : ∀ id, G.phi id ≠ none → id < (m i).nx) :
    St G w ⟨(m i).h, (m i).nx, []⟩ := by
  refine hI.s.ofOg (fun id hp => ?_) (fun id b bs h => hf id (by rw [h]; simp))
  rcases mem_w hR hI hi hiD w1 w2 id hp with e | ⟨j, h1, h2, h3, rfl⟩
  · exact .inl e.symm
  · exact .inr (early_none hR (by omega) hi (by have := hR.st_le; omega))
/-- Behind an operation that writes. -/
theorem after_w {M2 : Mem} {x : Value} (hR : Reg P ops base sz st m tm v rc) (hI : Inv ops base sz st m tm rc D G w Ms T a) (hi : i < st) (ho : ops[i]? = some o) (hiD : i ∉ D) (hb : ∀ j, Bf ops.toList j i → j ∈ D) (w1 : ∀ j r, j < i → rc j = some r → r.w = true → j ∈ D) (w2 : ∀ j r, i < j → j < st → rc j = some r → r.w = true → j ∉ D)
    (s1 : St G w ⟨(m i).h, (m i).nx, []⟩) (s2 : St G' w' M2) (ev : Ev G w ⟨(m i).h, (m i).nx, []⟩ G' w' M2) (ub : ∀ id, id ≠ base + i → id < (m i).nx → G.phi id = none → G'.phi id = none) (hm1 : (m (i + 1)).h = M2.h) (hm2 : (m (i + 1)).nx = M2.nx) (he : ∀ t, (tm (i + 1)).get t = (setDst sz (tm i) o (v i)).get t) (hx : RV G' x (v i)) :
    ∃ C, Inv ops base sz st m tm rc (i :: D) G' w' C (setDst sz T o (v i)) (a.put o.dst x) ∧ Ev G w Ms G' w' C := by
  have szs := hR.st_le
  have nxi := (hR.nx_of i (by omega)).1
  have ogm : ∀ id, og (m (i + 1)) id = og M2 id := fun id => og_get (by rw [hm1])
  let E : Nat → Prop := fun id => ∃ j, i < j ∧ j < st ∧ j ∈ D ∧ id = base + j ∧ G.phi id ≠ none
  obtain ⟨C, c1, c2, c3⟩ := merge E (m st).nx M2 Ms (D.map (base + ·))
  have cE : ∀ id, E id → og C id = og Ms id := fun id hE => by
    have hE' := hE
    obtain ⟨j, _, _, h3, h4, _⟩ := hE'
    exact c2 id (List.mem_map.2 ⟨j, h3, h4.symm⟩) hE
  have cN : ∀ id, ¬ E id → og C id = og M2 id := fun id he => c3 id (fun h => he h.2)
  have hn : M2.nx ≤ C.nx := by rw [c1, ← hm2]; exact hR.nx_le st (by omega) (Nat.le_refl _)
  have nE : ∀ id, E id → ¬ Own (⟨(m i).h, (m i).nx, []⟩ : Mem) id := fun id ⟨j, h1, h2, h3, h4, h5⟩ o => by
    rw [h4] at o
    exact (hR.nx_of i (by omega)).2.2 j (by omega) (by omega) o
  obtain ⟨sC, eC⟩ := St.frame (E := E) (Ms := Ms) (C := C) hI.s s1 ev s2 (fun id h => ⟨h.elim fun j h => h.2.2.2.2, nE id h⟩) (fun id hp o => by
    rcases mem_w hR hI (by omega) hiD w1 w2 id hp with e | ⟨j, h1, h2, h3, h4⟩
    · exact (own_cong e).2 o
    · exact absurd o (nE id ⟨j, h1, h2, h3, h4, hp⟩)) cE cN hn (by rw [c1, hI.nx]; exact Nat.le_refl _)
  obtain ⟨r1, r2, r3⟩ := RT.put (o := o) (hI.rt.mono ev.le) hI.sz hx
  refine ⟨C, ⟨sC, c1, fun id hp => ?_, fun i' h1 h2 => ?_, fun i' r h1 h2 hr hw id hp => ?_, r2, r1, tmp_step hR hI hi ho hiD hb he, fun j hj => ?_, fun j hj k hk => ?_⟩, eC⟩
  · by_cases hE : E id
    · rw [cE id hE]
      obtain ⟨j, h1, h2, h3, rfl, h5⟩ := hE
      refine (hI.mem _ h5).same ?_
      show og (m (i + 1)) (base + j) = og (m i) (base + j)
      rw [early_none hR (by omega) (by omega) (by omega), early_none hR (by omega) (by omega) (by omega)]
    · rw [cN id hE, ← ogm]
      refine Hist.new (c := fun j => og (m j) id) hi (fun j hj hne => ?_) (fun j h1 h2 hne hD => ?_)
      · obtain ⟨r, hr, k1, k2⟩ := hR.chg (j := j) (by omega) hne
        cases hw : r.w with
        | true => exact w1 j r hj hr hw
        | false =>
          have e := (k1 hw).1
          refine Classical.byContradiction fun hn => ?_
          have := hI.unb j (by omega) hn
          rw [← e] at this
          exact hp (ub id (by omega) (by omega) this)
      · obtain ⟨r, hr, k1, k2⟩ := hR.chg (j := j) h2 hne
        cases hw : r.w with
        | true => exact w2 j r h1 h2 hr hw hD
        | false =>
          have e := (k1 hw).1
          cases hg : G.phi id with
          | none => exact hp (ub id (by omega) (by omega) hg)
          | some y => exact hE ⟨j, h1, h2, hD, e, by rw [hg]; simp⟩
  · have hne : i' ≠ i := fun e => h2 (e ▸ List.mem_cons_self ..)
    exact ub _ (by omega) (by omega) (hI.unb i' h1 (fun h => h2 (List.mem_cons_of_mem _ h)))
  · have hne : i' ≠ i := fun e => h2 (e ▸ List.mem_cons_self ..)
    have hgt : i < i' := Classical.byContradiction fun h => h2 (List.mem_cons_of_mem _ (w1 i' r (by omega) hr hw))
    cases hg : G'.phi id with
    | none => exact absurd hg hp
    | some y =>
      have := s2.fresh id y.1 y.2 hg
      rw [← hm2] at this
      exact Nat.lt_of_lt_of_le this (hR.nx_le i' (by omega) (by omega))
  · rcases List.mem_cons.1 hj with rfl | hj
    · exact hi
    · exact hI.dl j hj
  · rcases List.mem_cons.1 hj with rfl | hj
    · exact List.mem_cons_of_mem _ (hb k hk)
    · exact List.mem_cons_of_mem _ (hI.cl j hj k hk)
/-- Behind an operation that leaves memory as it is. -/
theorem after_q {x : Value} (hR : Reg P ops base sz st m tm v rc) (hI : Inv ops base sz st m tm rc D G w Ms T a) (hi : i < st) (ho : ops[i]? = some o) (hiD : i ∉ D) (hb : ∀ j, Bf ops.toList j i → j ∈ D) (hm : ∀ id, og (m (i + 1)) id = og (m i) id) (he : ∀ t, (tm (i + 1)).get t = (setDst sz (tm i) o (v i)).get t) (hx : RV G x (v i)) :
    Inv ops base sz st m tm rc (i :: D) G w Ms (setDst sz T o (v i)) (a.put o.dst x) := by
  obtain ⟨r1, r2, r3⟩ := RT.put (o := o) hI.rt hI.sz hx
  refine ⟨hI.s, hI.nx, fun id hp => (hI.mem id hp).same (hm id), fun i' h1 h2 => hI.unb i' h1 (fun h => h2 (List.mem_cons_of_mem _ h)), fun i' r h1 h2 => hI.fr i' r h1 (fun h => h2 (List.mem_cons_of_mem _ h)), r2, r1, tmp_step hR hI hi ho hiD hb he, fun j hj => ?_, fun j hj k hk => ?_⟩
  · rcases List.mem_cons.1 hj with rfl | hj
    · exact hi
    · exact hI.dl j hj
  · rcases List.mem_cons.1 hj with rfl | hj
    · exact List.mem_cons_of_mem _ (hb k hk)
    · exact List.mem_cons_of_mem _ (hI.cl j hj k hk)
/-- Behind an operation that makes a block. -/
theorem after_m {x : Value} {k : Blk} {n : Nat} {ob : Obj} {r : Rec} (hR : Reg P ops base sz st m tm v rc) (hI : Inv ops base sz st m tm rc D G w Ms T a) (hi : i < st) (ho : ops[i]? = some o) (hiD : i ∉ D) (hb : ∀ j, Bf ops.toList j i → j ∈ D) (hk : k ≠ .gone) (hm : (m (i + 1)).h = (m i).h.set (base + i) k) (hr : rc i = some r) (hrw : r.w = false) (hrd : r.rd = [base + i])
    (he : ∀ t, (tm (i + 1)).get t = (setDst sz (tm i) o (v i)).get t) (hx : RV (G.new (base + i) w.heap.size n) x (v i)) (hB : BlkR (G.new (base + i) w.heap.size n) { w with heap := w.heap.push ob } w.heap.size 0 k) :
    Inv ops base sz st m tm rc (i :: D) (G.new (base + i) w.heap.size n) { w with heap := w.heap.push ob } (newB Ms (base + i) k) (setDst sz T o (v i)) (a.put o.dst x) ∧ Ev G w Ms (G.new (base + i) w.heap.size n) { w with heap := w.heap.push ob } (newB Ms (base + i) k) := by
  have szs := hR.st_le
  have n0 := (hR.nx_of st (Nat.le_refl _)).1
  have hf := hI.unb i (by omega) hiD
  obtain ⟨a1, a2⟩ := hI.s.alloc hf (by rw [hI.nx]; omega) hB hk
  obtain ⟨r1, r2, r3⟩ := RT.put (o := o) (hI.rt.mono a2.le) hI.sz hx
  have gp : ∀ id, (G.new (base + i) w.heap.size n).phi id = if id = base + i then some (w.heap.size, 0) else G.phi id := fun _ => rfl
  refine ⟨⟨a1, hI.nx, fun id hp => ?_, fun i' h1 h2 => ?_, fun i' r' h1 h2 hr' hw id hp => ?_, r2, r1, tmp_step hR hI hi ho hiD hb he, fun j hj => ?_, fun j hj k hk => ?_⟩, a2⟩
  · by_cases e : id = base + i
    · subst e
      have e1 : og (newB Ms (base + i) k) (base + i) = og (m (i + 1)) (base + i) := by
        have e2 : og (m (i + 1)) (base + i) = some k := og_of (by rw [hm]; exact get_set_self _ _ _) hk
        have e3 : og (newB Ms (base + i) k) (base + i) = some k := og_of (M := newB Ms (base + i) k) (get_set_self Ms.h _ _) hk
        rw [e2, e3]
      rw [e1]
      refine Hist.new (c := fun j => og (m j) (base + i)) hi (fun j hj hne => ?_) (fun j h1 h2 hne hD => ?_)
      · refine absurd ?_ hne
        show og (m (j + 1)) (base + i) = og (m j) (base + i)
        rw [early_none hR (by omega) (by omega) (by omega), early_none hR (by omega) (by omega) (by omega)]
      · obtain ⟨r', hr', k1, k2⟩ := hR.chg (j := j) h2 hne
        cases hw : r'.w with
        | false => have := (k1 hw).1; omega
        | true =>
          rcases hR.pair (i := i) (j := j) h1 h2 hr hr' with e | ⟨_, e⟩ | ⟨e, _⟩ | ⟨_, _, e⟩
          · exact hiD (hI.cl j hD i e)
          · rw [e] at hw; cases hw
          · rw [hrw] at e; cases e
          · obtain ⟨e1, e2⟩ := e (base + i) (by rw [hrd]; exact List.mem_cons_self ..)
            rcases k2 hw with e | e | e
            · exact e2 e
            · omega
            · omega
    · have e1 : og (newB Ms (base + i) k) id = og Ms id := og_get (get_set_ne _ _ (fun h => e h.symm))
      rw [e1]
      rw [gp, if_neg e] at hp
      refine (hI.mem id hp).same ?_
      show og (m (i + 1)) id = og (m i) id
      exact og_get (by rw [hm]; exact get_set_ne _ _ (fun h => e h.symm))
  · have hne : i' ≠ i := fun e => h2 (e ▸ List.mem_cons_self ..)
    rw [gp, if_neg (by omega)]
    exact hI.unb i' h1 (fun h => h2 (List.mem_cons_of_mem _ h))
  · by_cases e : id = base + i
    · have := (hR.nx_of i' (by omega)).1; omega
    · rw [gp, if_neg e] at hp
      exact hI.fr i' r' h1 (fun h => h2 (List.mem_cons_of_mem _ h)) hr' hw id hp
  · rcases List.mem_cons.1 hj with rfl | hj
    · exact hi
    · exact hI.dl j hj
  · rcases List.mem_cons.1 hj with rfl | hj
    · exact List.mem_cons_of_mem _ (hb k hk)
    · exact List.mem_cons_of_mem _ (hI.cl j hj k hk)
end
end Go.Proofs.YtbknpfckdnladaaGreat
