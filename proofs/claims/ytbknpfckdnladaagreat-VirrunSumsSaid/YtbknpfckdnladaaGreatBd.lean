/- A drawn region, whole. No condition. -/
import Derived.Test.YtbknpfckdnladaaGreatBc
set_option linter.unusedVariables false
set_option maxHeartbeats 4000000
namespace Go.Proofs.YtbknpfckdnladaaGreat
section
variable {P : Program} {ops : Array Oper} {base sz st : Nat} {m : Nat → Mem} {tm : Nat → Tr AV} {v : Nat → AV} {rc : Nat → Option Rec}
theorem Reg.walk_end (hR : Reg P ops base sz st m tm v rc) (hst : st = ops.size) {D l : List Nat} (hL : Lin ops.toList D l) : ∀ {G : Gh} {w : World} {Ms : Mem} {T : Tr AV} {a : Act}, Inv ops base sz st m tm rc D G w Ms T a → ∀ (b : Frame) (k : List Item) (cs : List Frame),
    ∃ G' w' Ms' a', Steps P (lone (b.atR a (.inRegion ops l :: k)) cs w) (lone (b.atR a' k) cs w') ∧ a'.defers = a.defers ∧ a'.tmps.size = sz ∧ RT G' a'.tmps (tm st) ∧ St G' w' (m st) ∧ Ms'.nx = (m st).nx ∧ (∀ id, G'.phi id ≠ none → og Ms' id = og (m st) id) ∧ Ev G w Ms G' w' Ms' ∧ Ub (· < base) G G' := by
  induction hL with
  | @nil D h =>
    intro G w Ms T a hI b k cs
    have hD : ∀ i, i < st → i ∈ D := fun i hi => h i (by simpa [hst] using hi)
    have og1 : ∀ id, G.phi id ≠ none → og Ms id = og (m st) id := fun id hp => (hI.mem id hp).last hD
    refine ⟨G, w, Ms, a, .one stepR_region_end, rfl, hI.sz, fun t => ?_, hI.s.ofOg (fun id hp => .inl (og1 id hp).symm) (fun id b bs h => by rw [← hI.nx]; exact hI.s.fresh id b bs h), hI.nx, og1, Ev.refl _ _ _, Ub.refl _ _⟩
    have : T.get t = (tm st).get t := (hI.tmp t).last hD
    rw [← this]
    exact hI.rt t
  | @cons D l i hi hn hb hL ih =>
    intro G w Ms T a hI b k cs
    have hi' : i < ops.size := by simpa using hi
    obtain ⟨G1, w1, Ms1, T1, a1, s1, d1, I1, e1, u1⟩ := hR.exec hI (by omega) (Array.getElem?_eq_getElem hi') hn hb b k cs l
    obtain ⟨G2, w2, Ms2, a2, s2, d2, z2, r2, t2, n2, o2, e2, u2⟩ := ih I1 b k cs
    exact ⟨G2, w2, Ms2, a2, s1.trans s2, d2.trans d1, z2, r2, t2, n2, o2, e1.trans e2, u1.trans u2⟩
theorem Reg.walk_pan (hR : Reg P ops base sz st m tm v rc) {o : Oper} {ch : List AE} {M2 : Mem} (ho : ops[st]? = some o) (hp : Pan P ops.toList base st o (tm st) (m st) ch M2) (v1 : ∀ j r, j < st → rc j = some r → r.w = true → Bf ops.toList j st) (v2 : ∀ j, st < j → j < ops.size → Bf ops.toList st j) {D l : List Nat} (hL : Lin ops.toList D l) :
    ∀ {G : Gh} {w : World} {Ms : Mem} {T : Tr AV} {a : Act}, Inv ops base sz st m tm rc D G w Ms T a → ∀ (b : Frame) (k : List Item) (cs : List Frame),
    ∃ G' w' a' rest pc, Steps P (lone (b.atR a (.inRegion ops l :: k)) cs w) (lone ((b.atR a' (.inRegion ops (st :: rest) :: k)).raise pc) cs w') ∧ RCh G' pc ch ∧ a'.defers = a.defers ∧ RT G' a'.tmps (topAll sz ops.toList (tm st)) ∧ St G' w' M2 ∧ Ev G w Ms G' w' ⟨M2.h, max M2.nx Ms.nx, []⟩ ∧ Ub (· < base) G G' := by
  have hlt : st < ops.size := (Array.getElem?_eq_some_iff.1 ho).1
  induction hL with
  | @nil D h =>
    intro G w Ms T a hI b k cs
    have := hI.dl st (h st (by simpa using hlt))
    omega
  | @cons D l i hi hn hb hL ih =>
    intro G w Ms T a hI b k cs
    have hi' : i < ops.size := by simpa using hi
    by_cases e : i < st
    · obtain ⟨G1, w1, Ms1, T1, a1, s1, d1, I1, e1, u1⟩ := hR.exec hI e (Array.getElem?_eq_getElem hi') hn hb b k cs l
      obtain ⟨G2, w2, a2, rest, pc, s2, c2, d2, r2, t2, e2, u2⟩ := ih I1 b k cs
      have hnx : Ms1.nx = Ms.nx := by rw [I1.nx, hI.nx]
      rw [hnx] at e2
      exact ⟨G2, w2, a2, rest, pc, s1.trans s2, c2, d2.trans d1, r2, t2, e1.trans e2, u1.trans u2⟩
    · by_cases e2 : i = st
      · subst e2
        obtain ⟨G', w', pc, s1, c1, t1, e1, u1⟩ := hR.pan hI ho hb hp v1 b k cs l
        refine ⟨G', w', a, l, pc, s1, c1, rfl, ?_, t1, e1, u1⟩
        refine RT.top hI.sz _ _ .nil fun t => ?_
        by_cases hc : ∃ o ∈ ops.toList, o.dst = some t ∧ t < sz
        · exact .inr hc
        · refine .inl ?_
          obtain ⟨s, hs, h1, _⟩ := hI.tmp t
          have : (tm i).get t = (tm s).get t := const_of (c := fun j => (tm j).get t) i hs fun j h2 h3 => Classical.byContradiction fun hne => by
            obtain ⟨p, q1, q2, _⟩ := hR.ent (j := j) h3
            have hne : (tm (j + 1)).get t ≠ (tm j).get t := hne
            rw [q2 t] at hne
            exact hc ⟨p, List.mem_of_getElem? (by simpa using q1), setDst_chg hne⟩
          have h1 : T.get t = (tm s).get t := h1
          rw [this, ← h1]
          exact (hI.rt t).mono e1.le
      · have := hb st (v2 i (by omega) hi')
        have := hI.dl st this
        omega
end
section
variable {P : Program} {G : Gh} {w : World} {M : Mem}
theorem trc_at {bef : List Nat} {ops : List Oper} {base sz st : Nat} {m : Nat → Mem} {tm : Nat → Tr AV} {v : Nat → AV} {rc : Nat → Option Rec} (h : Trc P bef ops base 0 sz ops [] st m tm v rc) (hn : base + ops.length ≤ (m 0).nx) : ∀ j, j ≤ st → base + ops.length ≤ (m j).nx ∧ AT (base ≤ ·) (m 0) (m j)
  | 0, _ => ⟨hn, AT.refl _ _⟩
  | j + 1, hj => by
    obtain ⟨h1, h2⟩ := trc_at h hn j (by omega)
    obtain ⟨o, e1, e2, e3⟩ := h.ent j (Nat.zero_le _) (by omega)
    have hle := h.le.2
    have hat := (ent_at e3 (by omega)).1
    exact ⟨Nat.le_trans h1 hat.nx, h2.trans hat (fun _ e => e) (fun id e => by rcases e with e | e <;> omega)⟩
theorem at_lg {S : Nat → Prop} {M2 : Mem} (h : AT S ⟨M.h, M.nx, []⟩ M2) : AT S M ⟨M2.h, M2.nx, M2.lg ++ M.lg⟩ := by
  obtain ⟨ex, hex, hl⟩ := h.lg
  have hex : M2.lg = ex ++ [] := hex
  rw [List.append_nil] at hex
  exact ⟨h.nx, ⟨ex, by rw [hex], hl⟩, h.own, h.wf⟩
theorem Pan.at' {ops : List Oper} {base j : Nat} {o : Oper} {tm : Tr AV} {ch : List AE} {M2 : Mem} (h : Pan P ops base j o tm M ch M2) : AT (M.nx ≤ ·) M ⟨M2.h, M2.nx, M2.lg ++ M.lg⟩ := by
  rcases h.2.2 with ⟨v, _, _, rfl⟩ | ⟨g, args, ts, _, h⟩
  · exact at_lg (AT.refl _ _)
  · exact at_lg h.1
theorem DrS.at' {ops : List Oper} {f : Fr} {bl : AMode} {e : AEnd} {bl' : AMode} {M' : Mem} {bef : List Nat} (h : DrS P ⟨bef, ops, M.nx, []⟩ 0 ops f bl (memNx M ops.length) e bl' M') : AT (M.nx ≤ ·) M M' := by
  obtain ⟨st, m, tm, v, rc, h1, h2, h3, h4⟩ := h
  have h3 : Trc P bef ops M.nx 0 f.sz ops [] st m tm v rc := h3
  have hn : M.nx + ops.length ≤ (m 0).nx := by rw [h1]; exact Nat.le_refl _
  have ka := trc_at h3 hn
  have a0 : AT (M.nx ≤ ·) M (m 0) := by rw [h1]; exact at_nx
  have a1 : AT (M.nx ≤ ·) M (m st) := a0.trans (ka st (Nat.le_refl _)).2 (fun _ e => e) (fun _ e => e)
  rcases h4 with ⟨_, k⟩ | ⟨o, ch, M2, k1, k2, k3, _, k4⟩
  · exact at_of a1 k.1
  · exact at_of a1 (at_of k2.at' k4.1)
theorem dreg_goal {ops : Array Oper} {f : Fr} {bl : AMode} {e : AEnd} {bl' : AMode} {M' : Mem} {l : List Nat} (h : DrS P ⟨befL [] ops.toList, ops.toList, M.nx, []⟩ 0 ops.toList f bl (memNx M ops.toList.length) e bl' M') (hok : regOk ops.toList (befL [] ops.toList) [] 0 ops.toList = true) (hL : Lin ops.toList [] l)
    {b : Frame} {a : Act} {c0s cs : List Frame} (hs : St G w M) (hw : WfM M) (hf : FrR G f b a) (hb : Bel f.dfd G bl c0s cs) (hr : f.ro ≠ none → c0s ≠ []) : Goal P G w M (lone (b.atR a (.inRegion ops l :: f.todo)) cs w) f.ro f.dfd f.fn c0s e bl' M' := by
  obtain ⟨fn, dfd, sz, tm0, todo, ds, ro⟩ := f
  obtain ⟨st, m, tm, v, rc, h1, h2, h3, h4⟩ := h
  have h2 : ∀ t, (tm 0).get t = tm0.get t := h2
  have hR : Reg P ops M.nx sz st m tm v rc := ⟨h3, hok, by rw [h1]; simp [memNx], by rw [h1]; exact wf_nx hw, fun j _ o => by
    rw [h1] at o
    have := hw (M.nx + j) o
    omega⟩
  have hn0 : (m 0).nx ≤ (m st).nx := hR.nx_le st (Nat.zero_le _) (Nat.le_refl _)
  have hM0 : M.nx ≤ (m 0).nx := by rw [h1]; exact Nat.le_add_right _ _
  have hI : Inv ops M.nx sz st m tm rc [] G w ⟨M.h, (m st).nx, []⟩ (tm 0) a := by
    refine ⟨hs.congr rfl (fun _ => rfl) (Nat.le_trans hM0 hn0), rfl, fun id hp => ?_, fun i hi _ => phi_none hs (Nat.le_add_right _ _), fun i r hi _ _ _ id hp => ?_, hf.sz, fun t => (by rw [h2 t]; exact hf.rt t), fun t => Hist.first (c := fun j => (tm j).get t), fun i h => (by cases h), fun i h => (by cases h)⟩
    · have : og (⟨M.h, (m st).nx, []⟩ : Mem) id = og (m 0) id := by rw [h1]; rfl
      rw [this]
      exact Hist.first (c := fun j => og (m j) id)
    · cases e : G.phi id with
      | none => exact absurd e hp
      | some y =>
        have := hs.fresh id y.1 y.2 e
        have := hR.nx_le (a := 0) i (Nat.zero_le _) (by omega)
        omega
  rcases h4 with ⟨k1, k2⟩ | ⟨o, ch, M2, k1, k2, k3, ⟨_, k5⟩, k4⟩
  · obtain ⟨G', w', Ms', a', s1, d1, z1, r1, t1, n1, o1, e1, u1⟩ := hR.walk_end (by simpa using k1) hL hI b todo cs
    have ev : Ev G w M G' w' (m st) := e1.ofOg (fun _ _ o => o) (fun id hp o => by
      have hp' : G'.phi id ≠ none := by
        cases e : G.phi id with
        | none => exact absurd e hp
        | some y => rw [e1.le.phi id y e]; simp
      have o2 : Own Ms' id := (own_cong (o1 id hp')).2 o
      rcases e1.dom id o2 with o3 | o3
      · exact o3
      · exact absurd o3 hp) (Nat.le_trans hM0 hn0)
    have fr' : FrR G' (frTm ⟨fn, dfd, sz, tm0, todo, ds, ro⟩ (tm st)) b a' := ⟨hf.fn, hf.kind, z1, r1, by rw [d1]; exact hf.ds.mono e1.le, hf.ro.mono e1.le, hf.rd⟩
    exact (k2.2 G' w' b a' c0s cs t1 ((hR.nx_of st (Nat.le_refl _)).2.1) fr' (hb.mono e1.le) hr).of s1 ev u1
  · have k2 : Pan P ops.toList M.nx st o (tm st) (m st) ch M2 := k2
    have ho : ops[st]? = some o := by rw [Nat.sub_zero] at k1; simpa using k1
    have v1 : ∀ j r, j < st → rc j = some r → r.w = true → Bf ops.toList j st := fun j r hj hr hrw => by
      have := k5 j r (Nat.zero_le _) hj hr hrw
      rw [Nat.sub_zero, (hR.rcd hj hr).1] at this
      exact this
    have v2 : ∀ j, st < j → j < ops.size → Bf ops.toList st j := fun j hj hj2 => by
      have hl : (befL [] ops.toList).length = ops.size := by rw [befL_len]; simp
      have k3 : allBit st ((befL [] ops.toList).drop (st + 1)) = true := by rw [Nat.sub_zero] at k3; exact k3
      unfold allBit at k3
      rw [List.all_eq_true] at k3
      unfold Bf
      refine k3 _ ?_
      rw [List.getD_eq_getElem?_getD, List.getElem?_eq_getElem (by omega)]
      simp only [Option.getD_some]
      rw [List.mem_iff_getElem]
      refine ⟨j - (st + 1), by rw [List.length_drop]; omega, ?_⟩
      simp only [List.getElem_drop]
      congr 1
      omega
    obtain ⟨G', w', a', rest, pc, s1, c1, d1, r1, t1, e1, u1⟩ := hR.walk_pan ho k2 v1 v2 hL hI b todo cs
    have ev : Ev G w M G' w' M2 := e1.ofOg (fun _ _ o => o) (fun id hp o => by
      rcases e1.dom id o with o3 | o3
      · exact o3
      · exact absurd o3 hp) (by
        have := k2.at'.nx
        have : (m st).nx ≤ M2.nx := this
        omega)
    have lv : LvR G' (frTop ops.toList (frTm ⟨fn, dfd, sz, tm0, todo, ds, ro⟩ (tm st))) (.pan ch) ((b.atR a' (.inRegion ops (st :: rest) :: todo)).raise pc) :=
      ⟨hf.fn, hf.kind, r1, by show DsR G' a'.defers ds; rw [d1]; exact hf.ds.mono e1.le, c1, by rw [Frame.raise_atR]; simp⟩
    have wf2 : WfM ⟨M2.h, M2.nx, M2.lg ++ (m st).lg⟩ := k2.at'.wf (hR.nx_of st (Nat.le_refl _)).2.1
    have ev2 : Ev G w M G' w' ⟨M2.h, M2.nx, M2.lg ++ (m st).lg⟩ := ev.ofOg (fun _ _ o => o) (fun id hp o => by
      rcases ev.dom id o with o3 | o3
      · exact o3
      · exact absurd o3 hp) ev.nx
    exact (k4.2 G' w' _ c0s cs (t1.congr rfl (fun _ => rfl) (Nat.le_refl _)) wf2 lv (hb.mono e1.le) hr).of s1 ev2 u1
end
end Go.Proofs.YtbknpfckdnladaaGreat
