/- Several texts joined. No condition. -/
import Derived.Test.YtpflobodmglmaaaGreatMep
set_option linter.unusedSimpArgs false
set_option linter.unusedSectionVars false
set_option linter.unusedVariables false
set_option maxHeartbeats 4000000
namespace Go.Proofs.YtpflobodmglmaaaGreat
noncomputable section
/-- Where what is new stands. -/
def kB : Nat := 1000
def kIx (R K : Nat) : List Nat := List.range R ++ (List.range K).map (Nat.add kB)
def finK (M : Mem) (R : Nat) (N : List Blk) : Mem := ⟨bldI (kIx R (N.length - R)) N .nil, Nat.add kB (N.length - R), List.range M.nx ++ M.lg⟩
def FrK (P : Program) (f : Fr) (M : Mem) (R : Nat) (e : AEnd) (N : List Blk) : Prop := ∀ bl bl', FrS P f bl M e bl' (finK M R N)
def CtK (P : Program) (f : Nat) (args : List AV) (N0 : List Blk) (e : AEnd) (N : List Blk) : Prop := ∀ bl bl', CallS P f args false bl (clM N0) e bl' (finK (clM N0) N0.length N)
/-- The first R ids, and K new ones. -/
def kR (R : Nat) (ids : List Nat) (nb K c : Nat) : Option Nat := bif Nat.blt c R then nth ids c else bif Nat.ble kB c && Nat.blt c (Nat.add kB K) then some (Nat.add nb (Nat.sub c kB)) else none
def qn1 (ρ : Nat → Option Nat) (a : AV) : AV := match a with
  | .ptr c ix sz off => (match ρ c with | some id => .ptr id ix sz off | none => .top)
  | .sl c off len full sz => (match ρ c with | some id => .sl id off len full sz | none => .top)
  | .map c => (match ρ c with | some id => .map id | none => .top)
  | .yld c => (match ρ c with | some id => .yld id | none => .top)
  | a => frz0 a
def qn2 (ρ : Nat → Option Nat) (a : AV) : AV := match a with
  | .fn f l r => .fn f (l.map (qn1 ρ)) (r.map (qn1 ρ))
  | .ifc t v => .ifc t (qn1 ρ v)
  | .agg l => .agg (l.map (qn1 ρ))
  | .tup l => .tup (l.map (qn1 ρ))
  | a => qn1 ρ a
def qnV (ρ : Nat → Option Nat) (a : AV) : AV := match a with
  | .fn f l r => .fn f (l.map (qn2 ρ)) (r.map (qn2 ρ))
  | .ifc t v => .ifc t (qn2 ρ v)
  | .agg l => .agg (l.map (qn2 ρ))
  | .tup l => .tup (l.map (qn2 ρ))
  | a => qn1 ρ a
def qnK (ρ : Nat → Option Nat) (b : Blk) : Blk := match b with
  | .loop fn sz tm ps asg body d st pe => (match ρ d with | some d' => .loop fn sz (trM (qnV ρ) tm) ps asg body d' st pe | none => .gone)
  | .dfr => .dfr
  | .var cs => .var (cs.map (qnV ρ))
  | .row sz n g => .row sz n (fun i => (g i).map frz0)
  | .mpi kk kv l => .mpi kk kv l
  | .mps kv f => .mps kv f
  | _ => .gone
def qnE (ρ : Nat → Option Nat) (e : AEnd) : AEnd := match e with
  | .ret v => .ret (qnV ρ v)
  | .pan l => .pan (l.map fun p => ⟨qnV ρ p.v, p.rcv⟩)
end
structure RtR (ρ : Nat → Option Nat) (G1 G2 : Gh) : Prop where
  phi : ∀ c id x, ρ c = some id → G1.phi c = some x → G2.phi id = some x
  le : GLe G1.nph G2.nph
  tot : ∀ c id b base, ρ c = some id → G1.phi c = some (b, base) → G2.tot b = G1.tot b
section
variable {P : Program} {G1 G2 : Gh} {ρ : Nat → Option Nat}
theorem qn1_ok {v : Value} {a : AV} (hr : RtR ρ G1 G2) (h : RV G1 v a) : RV G2 v (qn1 ρ a) := by
  have hle := hr.le.trans (nph_le G2)
  have base := frz0_ok hle h
  have pick : ∀ {c : Nat} {x : Nat × Nat} (F : Nat → AV), G1.phi c = some x → (∀ id, ρ c = some id → G2.phi id = some x → RV G2 v (F id)) → RV G2 v (match ρ c with | some id => F id | none => .top) := fun {c x} F hp hF => by
    cases hi : ρ c with
    | none => exact .top _
    | some id => exact hF id hi (hr.phi c id x hi hp)
  cases h with
  | ptr hp => exact pick (fun id => .ptr id _ _ _) hp fun id _ h => .ptr h
  | sl hp hc hf ht ho => exact pick (fun id => .sl id _ _ _ _) hp fun id hi h => .sl h hc hf (by rw [hr.tot _ _ _ _ hi hp]; exact ht) ho
  | map hp => exact pick (fun id => .map id) hp fun id _ h => .map h
  | yld hp => exact pick (fun id => .yld id) hp fun id _ h => .yld h
  | _ => exact base
theorem qn2_ok {v : Value} {a : AV} (hr : RtR ρ G1 G2) (h : RV G1 v a) : RV G2 v (qn2 ρ a) := by
  have base := qn1_ok hr h
  cases h with
  | fn hl hr1 hl2 hr2 => exact .fn (by rw [List.length_map]; exact hl) (rvl_map hr1 fun v a _ h => qn1_ok hr h) (by rw [List.length_map]; exact hl2) (rvl_map hr2 fun v a _ h => qn1_ok hr h)
  | ifc h => exact .ifc (qn1_ok hr h)
  | agg hl hr1 => exact .agg (by rw [List.length_map]; exact hl) (rvl_map hr1 fun v a _ h => qn1_ok hr h)
  | tup hl hr1 => exact .tup (by rw [List.length_map]; exact hl) (rvl_map hr1 fun v a _ h => qn1_ok hr h)
  | _ => exact base
theorem qnV_ok {v : Value} {a : AV} (hr : RtR ρ G1 G2) (h : RV G1 v a) : RV G2 v (qnV ρ a) := by
  have base := qn1_ok hr h
  cases h with
  | fn hl hr1 hl2 hr2 => exact .fn (by rw [List.length_map]; exact hl) (rvl_map hr1 fun v a _ h => qn2_ok hr h) (by rw [List.length_map]; exact hl2) (rvl_map hr2 fun v a _ h => qn2_ok hr h)
  | ifc h => exact .ifc (qn2_ok hr h)
  | agg hl hr1 => exact .agg (by rw [List.length_map]; exact hl) (rvl_map hr1 fun v a _ h => qn2_ok hr h)
  | tup hl hr1 => exact .tup (by rw [List.length_map]; exact hl) (rvl_map hr1 fun v a _ h => qn2_ok hr h)
  | _ => exact base
theorem qnE_ok {e : AEnd} {E : Ending} (hr : RtR ρ G1 G2) (h : RE G1 E e) : RE G2 E (qnE ρ e) := by
  cases e with
  | ret v =>
    cases E with
    | returned x => exact qnV_ok hr h
    | panicked ch => exact h
    | outgrown => exact h
  | pan l =>
    cases E with
    | returned x => exact h
    | outgrown => exact h
    | panicked ch =>
      have go : ∀ (ch : List PanicEntry) (l : List AE), RCh G1 ch l → RCh G2 ch (l.map fun p => ⟨qnV ρ p.v, p.rcv⟩) := fun ch => by
        induction ch with
        | nil => intro l h; cases l with | nil => exact h | cons => exact h
        | cons p ch ih =>
          intro l h
          cases l with
          | nil => exact h
          | cons a l => exact ⟨h.1, h.2.1, qnV_ok hr h.2.2.1, ih l h.2.2.2⟩
      exact go ch l h
theorem qnK_ok {x : Blk} {w : World} {b base : Nat} (hr : RtR ρ G1 G2) (hc : ∃ c id, ρ c = some id ∧ G1.phi c = some (b, base)) (h : BlkR G1 w b base x) : BlkR G2 w b base (qnK ρ x) := by
  obtain ⟨c, cid, hc1, hc2⟩ := hc
  cases x with
  | var cs =>
    obtain ⟨h0, arr, t, h1, h2⟩ := h
    exact ⟨h0, arr, t, h1, by rw [List.length_map]; exact h2.len, rvl_map h2.at' fun v a _ h => qnV_ok hr h⟩
  | row sz n g =>
    obtain ⟨arr, t, h1, h2, h3, h4⟩ := h
    exact ⟨arr, t, h1, h2, by rw [hr.tot c cid b base hc1 hc2]; exact h3, fun i hi => ⟨by rw [List.length_map]; exact (h4 i hi).1, fun j v a e f => by
        rw [List.getElem?_map] at f
        cases hc : (g i)[j]? with
        | none => rw [hc] at f; cases f
        | some a0 =>
          rw [hc] at f
          cases f
          exact frz0_ok (hr.le.trans (nph_le G2)) ((h4 i hi).2 j v a0 e hc)⟩⟩
  | mpi kk kv l => exact h
  | mps kv f => exact h
  | dfr => exact h
  | loop fn sz tm ps asg body d st pe =>
    obtain ⟨h0, ts, db, h1, h2, h3, h4⟩ := h
    show BlkR G2 w b base (match ρ d with | some d' => .loop fn sz (trM (qnV ρ) tm) ps asg body d' st pe | none => .gone)
    cases hi : ρ d with
    | none => trivial
    | some d' =>
      refine ⟨h0, ts, db, h1, h2, fun t => ?_, hr.phi d d' _ hi h4⟩
      rw [trM_get]
      have := h3 t
      cases ht : tm.get t with
      | none => rw [ht] at this; exact qnV_ok (a := .undef) hr this
      | some a => rw [ht] at this; exact qnV_ok hr this
  | _ => trivial
end
theorem kIx_get (R K c : Nat) : (kIx R K)[c]? = if c < R then some c else if c < R + K then some (kB + (c - R)) else none := by
  unfold kIx
  by_cases h : c < R
  · rw [if_pos h, List.getElem?_append_left (by simpa using h), List.getElem?_range h]
  · rw [if_neg h, List.getElem?_append_right (by simpa using Nat.le_of_not_lt h), List.length_range, List.getElem?_map]
    by_cases h2 : c < R + K
    · rw [if_pos h2, List.getElem?_range (by omega)]
      rfl
    · rw [if_neg h2, List.getElem?_eq_none (by simp; omega)]
      rfl
theorem kIx_len (R K : Nat) : (kIx R K).length = R + K := by
  unfold kIx
  simp
theorem kIx_nodup {R K : Nat} (h : R ≤ kB) : (kIx R K).Nodup := by
  unfold kIx
  rw [List.nodup_append]
  refine ⟨List.nodup_range, ?_, fun a ha b hb e => ?_⟩
  · unfold List.Nodup
    rw [List.pairwise_map]
    exact List.Pairwise.imp (fun {a b} hab e => hab (Nat.add_left_cancel e)) List.nodup_range
  · obtain ⟨i, _, rfl⟩ := List.mem_map.1 hb
    have : a < R := by simpa using ha
    have e : a = kB + i := e
    omega
theorem finK_get {M : Mem} {R : Nat} {N : List Blk} (hR : R ≤ kB) (hl : R ≤ N.length) (id : Nat) : (finK M R N).h.get id = if id < R then N[id]? else if kB ≤ id ∧ id < kB + (N.length - R) then N[R + (id - kB)]? else none := by
  have e : (finK M R N).h.get id = (bldI (kIx R (N.length - R)) N .nil).get id := rfl
  rw [e]
  rcases bldI_get (kIx R (N.length - R)) N .nil id (kIx_nodup hR) (by rw [kIx_len]; omega) with ⟨c, k, h1, h2, h3⟩ | ⟨h1, h2⟩
  · rw [h3]
    rw [kIx_get] at h1
    by_cases hc : c < R
    · rw [if_pos hc] at h1
      cases h1
      rw [if_pos hc, h2]
    · rw [if_neg hc] at h1
      have hcl := (List.getElem?_eq_some_iff.1 h2).1
      rw [if_pos (by omega)] at h1
      cases h1
      rw [if_neg (by omega), if_pos (by omega), show R + (kB + (c - R) - kB) = c by omega, h2]
  · rw [h2, get_nil]
    by_cases hc : id < R
    · exact absurd (List.mem_of_getElem? (show (kIx R (N.length - R))[id]? = some id by rw [kIx_get, if_pos hc])) h1
    · rw [if_neg hc]
      by_cases hk : kB ≤ id ∧ id < kB + (N.length - R)
      · exact absurd (List.mem_of_getElem? (show (kIx R (N.length - R))[R + (id - kB)]? = some id by rw [kIx_get, if_neg (by omega), if_pos (by omega)]; congr 1; omega)) h1
      · rw [if_neg hk]
end Go.Proofs.YtpflobodmglmaaaGreat
set_option linter.unusedVariables false
set_option maxHeartbeats 4000000
namespace Go.Proofs.YtpflobodmglmaaaGreat
section
variable {P : Program} {G G' G1 G2 : Gh} {w w' : World} {M M1 M2 Mc : Mem} {ids : List Nat} {z : Nat → Bool} {N N2 : List Blk} {R K nb : Nat} {hw : Nat → Hw}
theorem kR_inv {c id : Nat} (h : kR R ids nb K c = some id) : (c < R ∧ ids[c]? = some id) ∨ (¬ c < R ∧ kB ≤ c ∧ c < kB + K ∧ id = nb + (c - kB)) := by
  unfold kR at h
  by_cases hc : c < R
  · rw [blt_t hc, cond_true, nth_get] at h
    exact .inl ⟨hc, h⟩
  · rw [blt_f (Nat.le_of_not_lt hc), cond_false] at h
    cases hb : Nat.ble kB c && Nat.blt c (Nat.add kB K) with
    | false => rw [hb] at h; cases h
    | true =>
      rw [hb] at h
      simp only [Bool.and_eq_true, Nat.ble_eq, Nat.blt_eq] at hb
      exact .inr ⟨hc, hb.1, hb.2, (Option.some.inj h).symm⟩
structure UpdK (M : Mem) (ids : List Nat) (z : Nat → Bool) (R K nb : Nat) (N N2 : List Blk) (M2 : Mem) : Prop where
  nx : M.nx ≤ M2.nx
  nbk : M.nx ≤ nb ∧ nb + K ≤ M2.nx
  own : ∀ id, Own M2 id → (∃ (c : Nat) (k k2 : Blk), c < R ∧ ids[c]? = some id ∧ N[c]? = some k ∧ k ≠ .gone ∧ N2[c]? = some k2 ∧ M2.h.get id = some k2 ∧ Own M id) ∨ (∃ (i : Nat) (k k2 : Blk), i < K ∧ id = nb + i ∧ N[R + i]? = some k ∧ k ≠ .gone ∧ N2[R + i]? = some k2 ∧ M2.h.get id = some k2) ∨ (Own M id ∧ z id = false ∧ id ∉ ids ∧ M2.h.get id = M.h.get id)
  lg : ∃ ex, M2.lg = ex ++ M.lg ∧ ∀ id, ¬ M.nx ≤ id → id ∉ ex → M2.h.get id = M.h.get id
theorem updK_at (hu : UpdK M ids z R K nb N N2 M2) : AT (M.nx ≤ ·) M M2 := by
  refine ⟨hu.nx, hu.lg, fun id o => ?_, fun h id o => ?_⟩
  · rcases hu.own id o with ⟨c, k, k2, _, _, _, _, _, _, o⟩ | ⟨i, k, k2, _, e, _⟩ | ⟨o, _⟩
    · exact .inl o
    · exact .inr (by have := hu.nbk.1; omega)
    · exact .inl o
  · rcases hu.own id o with ⟨c, k, k2, _, _, _, _, _, _, o⟩ | ⟨i, k, k2, hi, e, _⟩ | ⟨o, _⟩
    · exact Nat.lt_of_lt_of_le (h id o) hu.nx
    · have := hu.nbk.2; omega
    · exact Nat.lt_of_lt_of_le (h id o) hu.nx
open Classical in
theorem gc_backK {e e2 : AEnd} (hs : St G w M) (hwf : WfM M) (hnd : ids.Nodup) (hR : R ≤ ids.length) (hB : ids.length ≤ kB) (hl : N.length = R + K)
    (hrt : ∀ (c : Nat) (k k2 : Blk), N[c]? = some k → N2[c]? = some k2 → ∀ G1 G2 w b base, RtR (kR R ids nb K) G1 G2 → (∃ c id, kR R ids nb K c = some id ∧ G1.phi c = some (b, base)) → BlkR G1 w b base k → BlkR G2 w b base k2)
    (hE : ∀ G1 G2 E, RtR (kR R ids nb K) G1 G2 → RE G1 E e → RE G2 E e2) (hu : UpdK M ids z R K nb N N2 M2) {E : Ending}
    (q4 : RE G' E e) (q5 : St G' w' (finK (clM (gcB ids z M hw)) R N)) (q6 : Ev (gcG ids z G w M) w (clM (gcB ids z M hw)) G' w' (finK (clM (gcB ids z M hw)) R N)) (q7 : Ub (· < (clM (gcB ids z M hw)).nx) (gcG ids z G w M) G') :
    ∃ G2, RE G2 E e2 ∧ St G2 w' M2 ∧ Ev G w M G2 w' M2 ∧ Ub (· < M.nx) G G2 := by
  have hRB : R ≤ kB := Nat.le_trans hR hB
  have fget : ∀ id, (finK (clM (gcB ids z M hw)) R N).h.get id = if id < R then N[id]? else if kB ≤ id ∧ id < kB + (N.length - R) then N[R + (id - kB)]? else none := finK_get hRB (by omega)
  have fR : ∀ c, c < R → (finK (clM (gcB ids z M hw)) R N).h.get c = N[c]? := fun c h => by rw [fget, if_pos h]
  have fK : ∀ i, i < K → (finK (clM (gcB ids z M hw)) R N).h.get (kB + i) = N[R + i]? := fun i h => by rw [fget, if_neg (by omega), if_pos (by omega), show R + (kB + i - kB) = R + i by omega]
  have nxc : ∀ c, c < R → c < (clM (gcB ids z M hw)).nx := fun c h => by
    rw [gcB_len]
    omega
  have nf : ∀ id b base, Own M id → z id = false → G.phi id = some (b, base) → ¬ FzB z G M b := fun id b base o hzf hp ⟨id', base', o', hz', hp'⟩ => by
    have := hs.inj id id' b base base' o o' hp hp'
    subst this
    rw [hzf] at hz'
    cases hz'
  have ob : ∀ b, OwnB (gcG ids z G w M) (clM (gcB ids z M hw)) b → ∃ id base, id ∈ ids ∧ Own M id ∧ G.phi id = some (b, base) := fun b ⟨c, base, o, hp⟩ => by
    obtain ⟨id, e1, e2⟩ := gcB_own o
    rw [gcG_phi e1] at hp
    exact ⟨id, base, List.mem_of_getElem? e1, e2, hp⟩
  have conG : ∀ b i v, (gcG ids z G w M).con b i = some v → G.con b i = some v ∨ FzB z G M b := fun b i v h => by
    have h : (if FzB z G M b then w.cell? ⟨b, i, none⟩ else G.con b i) = some v := h
    by_cases e : FzB z G M b
    · exact .inr e
    · rw [if_neg e] at h; exact .inl h
  have cobG : ∀ b v, (gcG ids z G w M).cob b = some v → G.cob b = some v ∨ FzB z G M b := fun b v h => by
    have h : (if FzB z G M b then (match w.heap[b]? with | some (.map e _) => some e | _ => none) else G.cob b) = some v := h
    by_cases e : FzB z G M b
    · exact .inr e
    · rw [if_neg e] at h; exact .inl h
  have fzo : ∀ b, FzB z G M b → OwnB G M b := fun b ⟨id, base, o, _, hp⟩ => ⟨id, base, o, hp⟩
  have phi1 : ∀ c id x, c < R → ids[c]? = some id → G'.phi c = some x → G.phi id = some x := fun c id x hc hi hx => by
    cases e : G.phi id with
    | some y =>
      have := q6.le.phi c y (by rw [gcG_phi hi]; exact e)
      rw [hx] at this
      exact this.symm
    | none =>
      have := q7 c (nxc c hc) (by rw [gcG_phi hi]; exact e)
      rw [hx] at this
      cases this
  have gcN : ∀ i x, (gcG ids z G w M).phi (kB + i) ≠ some x := fun i x h => by
    obtain ⟨id, h1, _⟩ := gcG_phi' h
    have := (List.getElem?_eq_some_iff.1 h1).1
    omega
  have phiN : ∀ i b base, G'.phi (kB + i) = some (b, base) → w.heap.size ≤ b ∨ ∃ id base, id ∈ ids ∧ Own M id ∧ G.phi id = some (b, base) := fun i b base h => by
    rcases q6.phin _ _ _ h with h | h | h
    · exact absurd h (gcN i _)
    · exact .inl h
    · exact .inr (ob b h)
  let G2 : Gh := ⟨fun id => if id < M.nx then G.phi id else if nb ≤ id ∧ id < nb + K then G'.phi (kB + (id - nb)) else none, G'.con, G'.cob, fun b => if b < w.heap.size then G.tot b else G'.tot b⟩
  have p1 : ∀ id, id < M.nx → G2.phi id = G.phi id := fun id h => if_pos h
  have p2 : ∀ i, i < K → G2.phi (nb + i) = G'.phi (kB + i) := fun i h => by
    have := hu.nbk.1
    show (if nb + i < M.nx then G.phi (nb + i) else if nb ≤ nb + i ∧ nb + i < nb + K then G'.phi (kB + (nb + i - nb)) else none) = _
    rw [if_neg (by omega), if_pos (by omega), show nb + i - nb = i by omega]
  have p3 : ∀ id x, G2.phi id = some x → (id < M.nx ∧ G.phi id = some x) ∨ ∃ i, i < K ∧ id = nb + i ∧ G'.phi (kB + i) = some x := fun id x h => by
    by_cases h1 : id < M.nx
    · rw [p1 id h1] at h; exact .inl ⟨h1, h⟩
    · have h : (if id < M.nx then G.phi id else if nb ≤ id ∧ id < nb + K then G'.phi (kB + (id - nb)) else none) = some x := h
      rw [if_neg h1] at h
      by_cases h2 : nb ≤ id ∧ id < nb + K
      · rw [if_pos h2] at h
        exact .inr ⟨id - nb, by omega, by omega, h⟩
      · rw [if_neg h2] at h; cases h
  have tot2 : ∀ b, G2.tot b = G'.tot b := fun b => by
    show (if b < w.heap.size then G.tot b else G'.tot b) = _
    by_cases hb : b < w.heap.size
    · rw [if_pos hb]
      exact (q6.tot b hb).symm
    · rw [if_neg hb]
  have le12 : GLe G G2 := ⟨fun id x h => by rw [p1 id (hs.fresh id x.1 x.2 h)]; exact h, fun b i v h => q6.le.con b i v ((gcG_le (ids := ids) (z := z) hs).con b i v h), fun b v h => q6.le.cob b v ((gcG_le (ids := ids) (z := z) hs).cob b v h), fun id b base h => by
    show (if b < w.heap.size then G.tot b else G'.tot b) = _
    rw [if_pos (hs.lt id b base h)]⟩
  have rt : RtR (kR R ids nb K) G' G2 := by
    refine ⟨fun c id x hc hx => ?_, ⟨fun _ _ h => (by cases h), fun _ _ _ h => h, fun _ _ h => h, fun _ _ _ h => (by cases h)⟩, fun c id b base hc hx => tot2 b⟩
    rcases kR_inv hc with ⟨h1, h2⟩ | ⟨h0, h1, h2, hid⟩
    · have := phi1 c id x h1 h2 hx
      rw [p1 id (hs.fresh id x.1 x.2 this)]
      exact this
    · rw [hid, p2 (c - kB) (by omega), show kB + (c - kB) = c by omega]
      exact hx
  have inR : ∀ c id, c < R → ids[c]? = some id → kR R ids nb K c = some id := fun c id h1 h2 => by
    unfold kR
    rw [blt_t h1, cond_true, nth_get]
    exact h2
  have inK : ∀ i, i < K → kR R ids nb K (kB + i) = some (nb + i) := fun i h => by
    unfold kR
    rw [blt_f (show R ≤ kB + i by omega), cond_false, show Nat.ble kB (kB + i) = true by simp, show Nat.blt (kB + i) (Nat.add kB K) = true from blt_t (show kB + i < kB + K by omega)]
    show some (nb + (kB + i - kB)) = _
    rw [show kB + i - kB = i by omega]
  have kept : ∀ id b base, Own M id → z id = false → id ∉ ids → G.phi id = some (b, base) → ¬ OwnB (gcG ids z G w M) (clM (gcB ids z M hw)) b := fun id b base o hzf hn hp ho => by
    obtain ⟨id', base', h1, h2, h3⟩ := ob b ho
    have := hs.inj id id' b base base' o h2 hp h3
    subst this
    exact hn h1
  have ownR : ∀ c k, c < R → N[c]? = some k → k ≠ .gone → Own (finK (clM (gcB ids z M hw)) R N) c := fun c k h1 h2 h3 => ⟨k, by rw [fR c h1]; exact h2, h3⟩
  have ownK : ∀ i k, i < K → N[R + i]? = some k → k ≠ .gone → Own (finK (clM (gcB ids z M hw)) R N) (kB + i) := fun i k h1 h2 h3 => ⟨k, by rw [fK i h1]; exact h2, h3⟩
  have lt' : ∀ id, Own M id → id < M.nx := hwf
  have nbM := hu.nbk.1
  -- what an owned id is
  have cls : ∀ id b base, Own M2 id → G2.phi id = some (b, base) → (∃ c k k2, c < R ∧ ids[c]? = some id ∧ N[c]? = some k ∧ k ≠ .gone ∧ N2[c]? = some k2 ∧ M2.h.get id = some k2 ∧ Own M id ∧ G.phi id = some (b, base) ∧ G'.phi c = some (b, base)) ∨ (∃ i k k2, i < K ∧ id = nb + i ∧ N[R + i]? = some k ∧ k ≠ .gone ∧ N2[R + i]? = some k2 ∧ M2.h.get id = some k2 ∧ G'.phi (kB + i) = some (b, base)) ∨ (Own M id ∧ z id = false ∧ id ∉ ids ∧ M2.h.get id = M.h.get id ∧ G.phi id = some (b, base)) := fun id b base o hp => by
    rcases hu.own id o with ⟨c, k, k2, h1, h2, h3, h4, h5, h6, h7⟩ | ⟨i, k, k2, h1, h2, h3, h4, h5, h6⟩ | ⟨h1, h2, h3, h4⟩
    · rw [p1 id (lt' id h7)] at hp
      exact .inl ⟨c, k, k2, h1, h2, h3, h4, h5, h6, h7, hp, q6.le.phi c _ (by rw [gcG_phi h2]; exact hp)⟩
    · subst h2
      rw [p2 i h1] at hp
      exact .inr (.inl ⟨i, k, k2, h1, rfl, h3, h4, h5, h6, hp⟩)
    · rw [p1 id (lt' id h1)] at hp
      exact .inr (.inr ⟨h1, h2, h3, h4, hp⟩)
  have mix : ∀ id id' b base base', Own M2 id → Own M id' → id' ∉ ids → G.phi id' = some (b, base') → (∃ i, i < K ∧ G'.phi (kB + i) = some (b, base)) → False := fun id id' b base base' o o' hn hp ⟨i, hi, hk⟩ => by
    rcases phiN i b base hk with h | ⟨id2, base2, h1, h2, h3⟩
    · have := hs.lt id' b base' hp; omega
    · have := hs.inj id' id2 b base' base2 o' h2 hp h3
      subst this
      exact hn h1
  refine ⟨G2, hE _ _ _ rt q4, ⟨fun id k b base h1 h2 => ?_, fun id id' b b1 b2 o1 o2 e1 e2 => ?_, fun id b base e => ?_, fun id b base e => ?_, q5.con, q5.cob, fun id b base i o e => ?_, fun id b base o e => ?_⟩, ⟨le12, fun id b base h => ?_, fun b i v h => ?_, fun b v h => ?_, fun b hb => ?_, fun b hb hn => ?_, q6.size, q6.os, hu.nx, fun id o => ?_⟩, fun id hi h => by rw [p1 id hi]; exact h⟩
  · by_cases hgone : k = .gone
    · subst hgone; trivial
    · rcases cls id b base ⟨k, h1, hgone⟩ h2 with ⟨c, k1, k2, i1, i2, i3, i4, i5, i6, i7, i8, i9⟩ | ⟨i, k1, k2, i1, i2, i3, i4, i5, i6, i7⟩ | ⟨i1, i2, i3, i4, i5⟩
      · rw [h1] at i6
        cases i6
        exact hrt c k1 k i3 i5 G' G2 w' b base rt ⟨c, id, inR c id i1 i2, i9⟩ (q5.blk c k1 b base (by rw [fR c i1]; exact i3) i9)
      · rw [h1] at i6
        cases i6
        exact hrt (R + i) k1 k i3 i5 G' G2 w' b base rt ⟨kB + i, nb + i, inK i i1, i7⟩ (q5.blk (kB + i) k1 b base (by rw [fK i i1]; exact i3) i7)
      · rw [i4] at h1
        have := (hs.blk id k b base h1 i5).mono le12 (q6.keep b (hs.lt id b base i5) (kept id b base i1 i2 i3 i5)) i5
        exact this
  · rcases cls id b b1 o1 e1 with ⟨c, k1, k2, i1, i2, i3, i4, i5, i6, i7, i8, i9⟩ | ⟨i, k1, k2, i1, i2, i3, i4, i5, i6, i7⟩ | ⟨i1, i2, i3, i4, i5⟩
    · rcases cls id' b b2 o2 e2 with ⟨c', k1', k2', j1, j2, j3, j4, j5, j6, j7, j8, j9⟩ | ⟨j, k1', k2', j1, j2, j3, j4, j5, j6, j7⟩ | ⟨j1, j2, j3, j4, j5⟩
      · exact hs.inj id id' b b1 b2 i7 j7 i8 j8
      · have := q5.inj c (kB + j) b b1 b2 (ownR c k1 i1 i3 i4) (ownK j k1' j1 j3 j4) i9 j7
        omega
      · exact hs.inj id id' b b1 b2 i7 j1 i8 j5
    · rcases cls id' b b2 o2 e2 with ⟨c', k1', k2', j1, j2, j3, j4, j5, j6, j7, j8, j9⟩ | ⟨j, k1', k2', j1, j2, j3, j4, j5, j6, j7⟩ | ⟨j1, j2, j3, j4, j5⟩
      · have := q5.inj (kB + i) c' b b1 b2 (ownK i k1 i1 i3 i4) (ownR c' k1' j1 j3 j4) i7 j9
        omega
      · have := q5.inj (kB + i) (kB + j) b b1 b2 (ownK i k1 i1 i3 i4) (ownK j k1' j1 j3 j4) i7 j7
        omega
      · exact (mix id id' b b1 b2 o1 j1 j3 j5 ⟨i, i1, i7⟩).elim
    · rcases cls id' b b2 o2 e2 with ⟨c', k1', k2', j1, j2, j3, j4, j5, j6, j7, j8, j9⟩ | ⟨j, k1', k2', j1, j2, j3, j4, j5, j6, j7⟩ | ⟨j1, j2, j3, j4, j5⟩
      · exact hs.inj id id' b b1 b2 i1 j7 i5 j8
      · exact (mix id' id b b2 b1 o2 i1 i3 i5 ⟨j, j1, j7⟩).elim
      · exact hs.inj id id' b b1 b2 i1 j1 i5 j5
  · rcases p3 id _ e with ⟨_, h⟩ | ⟨i, _, _, h⟩
    · exact Nat.lt_of_lt_of_le (hs.lt id b base h) q6.size
    · exact q5.lt _ b base h
  · rcases p3 id _ e with ⟨h, _⟩ | ⟨i, h, rfl, _⟩
    · exact Nat.lt_of_lt_of_le h hu.nx
    · have := hu.nbk.2; omega
  · rcases cls id b base o e with ⟨c, k1, k2, i1, i2, i3, i4, i5, i6, i7, i8, i9⟩ | ⟨j, k1, k2, i1, i2, i3, i4, i5, i6, i7⟩ | ⟨i1, i2, i3, i4, i5⟩
    · exact q5.sep c b base i (ownR c k1 i1 i3 i4) i9
    · exact q5.sep (kB + j) b base i (ownK j k1 i1 i3 i4) i7
    · show G'.con b i = none
      cases hc : G'.con b i with
      | none => rfl
      | some v =>
        exfalso
        rcases q6.conn b i v hc with h | h | h
        · rcases conG b i v h with h | h
          · rw [hs.sep id b base i i1 i5] at h; cases h
          · exact nf id b base i1 i2 i5 h
        · have := hs.lt id b base i5; omega
        · exact kept id b base i1 i2 i3 i5 h
  · rcases cls id b base o e with ⟨c, k1, k2, i1, i2, i3, i4, i5, i6, i7, i8, i9⟩ | ⟨j, k1, k2, i1, i2, i3, i4, i5, i6, i7⟩ | ⟨i1, i2, i3, i4, i5⟩
    · exact q5.sep2 c b base (ownR c k1 i1 i3 i4) i9
    · exact q5.sep2 (kB + j) b base (ownK j k1 i1 i3 i4) i7
    · show G'.cob b = none
      cases hc : G'.cob b with
      | none => rfl
      | some v =>
        exfalso
        rcases q6.cobn b v hc with h | h | h
        · rcases cobG b v h with h | h
          · rw [hs.sep2 id b base i1 i5] at h; cases h
          · exact nf id b base i1 i2 i5 h
        · have := hs.lt id b base i5; omega
        · exact kept id b base i1 i2 i3 i5 h
  · rcases p3 id _ h with ⟨_, h⟩ | ⟨i, h1, h2, h⟩
    · exact .inl h
    · rcases phiN i b base h with h | ⟨id2, base2, _, h3, h4⟩
      · exact .inr (.inl h)
      · exact .inr (.inr ⟨id2, base2, h3, h4⟩)
  · rcases q6.conn b i v h with h | h | h
    · rcases conG b i v h with h | h
      · exact .inl h
      · exact .inr (.inr (fzo b h))
    · exact .inr (.inl h)
    · obtain ⟨id, base, _, h2, h3⟩ := ob b h
      exact .inr (.inr ⟨id, base, h2, h3⟩)
  · rcases q6.cobn b v h with h | h | h
    · rcases cobG b v h with h | h
      · exact .inl h
      · exact .inr (.inr (fzo b h))
    · exact .inr (.inl h)
    · obtain ⟨id, base, _, h2, h3⟩ := ob b h
      exact .inr (.inr ⟨id, base, h2, h3⟩)
  · show (if b < w.heap.size then G.tot b else G'.tot b) = _
    rw [if_pos hb]
  · refine q6.keep b hb fun ho => hn ?_
    obtain ⟨id, base, _, h2, h3⟩ := ob b ho
    exact ⟨id, base, h2, h3⟩
  · rcases hu.own id o with ⟨c, k, k2, _, _, _, _, _, _, o⟩ | ⟨i, k, k2, _, e, _⟩ | ⟨o, _⟩
    · exact .inl o
    · refine .inr ?_
      cases hx : G.phi id with
      | none => rfl
      | some x => have := hs.fresh id x.1 x.2 hx; omega
    · exact .inl o
/-! A call. -/
theorem gc_callK {f : Nat} {args : List AV} {e : AEnd} (h : CtK P f (args.map (cn (rhoI ids) z 4 M)) (gcB ids z M hw) e N) (hnd : nodB ids = true) (hB : ids.length ≤ kB) (hl : N.length = ids.length + K) (hz : ∀ id, z id = true → id ∉ ids)
    (hob : allP (args.flatMap (ob (rhoI ids) z 4 M) ++ obI ids z M hw ids 0)) (hu : UpdK M ids z ids.length K nb N (N.map (qnK (kR ids.length ids nb K))) M2) (bl bl' : AMode) : CallS P f args false bl M (qnE (kR ids.length ids nb K) e) bl' M2 := by
  have hN0 : (gcB ids z M hw).length = ids.length := gcB_len (M := M) (z := z) (hw := hw) (ids := ids)
  obtain ⟨h1, hat, hS⟩ := h bl bl'
  rw [allP_app] at hob
  refine ⟨h1, updK_at hu, fun G w vs c0s cs hs hwf hv hb => ?_⟩
  obtain ⟨sc, wc⟩ := gc_st (z := z) (hw := hw) hs (nodB_ok hnd) hz fun c id hi => by
    have := obI_ok ids 0 hob.2 c id hi
    rw [Nat.zero_add] at this
    exact this
  have cg := gc_cn (ids := ids) (z := z) hs
  obtain ⟨G', w', cs', E, m', q1, q2, q3, q4, q5, q6, q7⟩ := hS (gcG ids z G w M) w vs c0s cs sc wc ⟨by rw [List.length_map]; exact hv.len, rvl_map hv.at' fun v a ha h => cn_ok hs 4 cg h (allP_flat hob.1 a ha)⟩ hb
  rw [hN0] at q5 q6
  obtain ⟨G2, r1, r2, r3, r4⟩ := gc_backK (N2 := N.map (qnK (kR ids.length ids nb K))) hs hwf (nodB_ok hnd) (Nat.le_refl _) hB hl (fun c x x2 h1 h2 G1 G2 w b base hr hc hb => by
    rw [List.getElem?_map, h1] at h2
    cases h2
    exact qnK_ok hr hc hb) (fun G1 G2 E hr h => qnE_ok hr h) hu q4 q5 q6 q7
  exact ⟨G2, w', cs', E, m', q1, q2, q3, r1, r2, r3, r4⟩
/-! A frame. -/
theorem finK_upd (hat : AT ((clM (gcB ids z M hw)).nx ≤ ·) (clM (gcB ids z M hw)) (finK (clM (gcB ids z M hw)) R N)) (hr : ∀ c, c < R → ids[c]? = some c) (hR : R ≤ ids.length) (hB : ids.length ≤ kB) (hM : M.nx ≤ kB) (hl : N.length = R + K) : UpdK M ids z R K kB N N (finK M R N) := by
  have hRB : R ≤ kB := Nat.le_trans hR hB
  have g := fun (M : Mem) => finK_get (M := M) (N := N) hRB (show R ≤ N.length by omega)
  refine ⟨?_, ⟨hM, ?_⟩, fun id ⟨k, h1, h2⟩ => ?_, List.range M.nx, rfl, fun id h1 h2 => absurd (List.mem_range.2 (Nat.lt_of_not_le h1)) h2⟩
  · show M.nx ≤ kB + (N.length - R)
    omega
  · show kB + K ≤ kB + (N.length - R)
    omega
  · have h1' := h1
    rw [g] at h1
    by_cases hc : id < R
    · rw [if_pos hc] at h1
      refine .inl ⟨id, k, k, hc, hr id hc, h1, h2, h1, h1', ?_⟩
      rcases hat.own id ⟨k, by rw [g, if_pos hc]; exact h1, h2⟩ with o | o
      · obtain ⟨id', e1, e2⟩ := gcB_own o
        rw [hr id hc] at e1
        cases e1
        exact e2
      · have o : (clM (gcB ids z M hw)).nx ≤ id := o
        rw [gcB_len] at o
        omega
    · rw [if_neg hc] at h1
      by_cases hk : kB ≤ id ∧ id < kB + (N.length - R)
      · rw [if_pos hk] at h1
        exact .inr (.inl ⟨id - kB, k, k, by omega, by omega, h1, h2, h1, h1'⟩)
      · rw [if_neg hk] at h1; cases h1
theorem kR_id {c id : Nat} (hr : ∀ c, c < R → ids[c]? = some c) (h : kR R ids kB K c = some id) : kR R (List.range R) kB K c = some id := by
  rcases kR_inv h with ⟨h1, h2⟩ | ⟨h0, h1, h2, hid⟩
  · unfold kR
    rw [blt_t h1, cond_true, nth_get, List.getElem?_range h1, ← h2, hr c h1]
  · unfold kR
    rw [blt_f (Nat.le_of_not_lt h0), cond_false, show Nat.ble kB c = true by simpa using h1, show Nat.blt c (Nat.add kB K) = true from blt_t h2]
    rw [hid]
    rfl
theorem kR_id' {c id : Nat} (hr : ∀ c, c < R → ids[c]? = some c) (h : kR R (List.range R) kB K c = some id) : kR R ids kB K c = some id := by
  rcases kR_inv h with ⟨h1, h2⟩ | ⟨h0, h1, h2, hid⟩
  · unfold kR
    rw [blt_t h1, cond_true, nth_get, hr c h1, ← h2, List.getElem?_range h1]
  · unfold kR
    rw [blt_f (Nat.le_of_not_lt h0), cond_false, show Nat.ble kB c = true by simpa using h1, show Nat.blt c (Nat.add kB K) = true from blt_t h2]
    rw [hid]
    rfl
theorem rtR_id (hr : ∀ c, c < R → ids[c]? = some c) (h : RtR (kR R ids kB K) G1 G2) : RtR (kR R (List.range R) kB K) G1 G2 :=
  ⟨fun c id x hc hx => h.phi c id x (kR_id' hr hc) hx, h.le, fun c id b base hc hx => h.tot c id b base (kR_id' hr hc) hx⟩
theorem gc_frK {f : Fr} {live : List Nat} {e : AEnd} (h : FrK P (gcF ids z live f M) (clM (gcB ids z M hw)) R e N) (hnd : nodB ids = true) (hrb : rootB 0 ids R = true) (hz : ∀ id, z id = true → id ∉ ids) (hB : ids.length ≤ kB) (hM : M.nx ≤ kB) (hl : N.length = R + K)
    (hdf : f.dfd = false) (hro : f.ro = none) (hds : f.ds.all isCl = true) (hob : allP (obF ids z hw live f M)) (he : qnE (kR R (List.range R) kB K) e = e) (hN : N.map (qnK (kR R (List.range R) kB K)) = N) : FrK P f M R e N := fun bl bl' => by
  obtain ⟨hk, hr⟩ := rootB_ok ids 0 R hrb
  simp only [Nat.zero_add] at hr
  obtain ⟨hat, hS⟩ := h bl bl'
  have hu := finK_upd (M := M) hat hr hk hB hM hl
  unfold obF at hob
  rw [allP_app, allP_app] at hob
  obtain ⟨ho1, ho2, ho3⟩ := hob
  refine ⟨updK_at hu, fun G w b a c0s cs hs hwf hfr hb hcs => ?_⟩
  obtain ⟨sc, wc⟩ := gc_st (z := z) (hw := hw) hs (nodB_ok hnd) hz fun c id hi => by
    have := obI_ok ids 0 ho3 c id hi
    rw [Nat.zero_add] at this
    exact this
  have cg := gc_cn (ids := ids) (z := z) hs
  have hfr' : FrR (gcG ids z G w M) (gcF ids z live f M) b a := by
    refine ⟨hfr.fn, by rw [hfr.kind, hdf]; rfl, hfr.sz, cn_tm hs cg hfr.sz hfr.rt ho1, map_ds hs cg hds ho2 hfr.ds, ?_, fun h => absurd rfl h⟩
    · show b.roundOf = none
      have := hfr.ro
      rw [hro] at this
      exact this
  rw [hdf] at hb ⊢
  rw [hro]
  obtain ⟨G', w', cs', E, m', q1, q2, q3, q4, q5, q6, q7⟩ := hS (gcG ids z G w M) w b a c0s cs sc wc hfr' hb (fun h => absurd rfl h)
  obtain ⟨G2, r1, r2, r3, r4⟩ := gc_backK (N2 := N) (e2 := e) hs hwf (nodB_ok hnd) hk hB hl (fun c x x2 h1 h2 G1 G2 w b base hr' hc hb => by
    rw [h1] at h2
    cases h2
    have e : x = qnK (kR R (List.range R) kB K) x := by
      have := congrArg (fun l => l[c]?) hN
      simp only [List.getElem?_map, h1, Option.map_some, Option.some.injEq] at this
      exact this.symm
    rw [e]
    obtain ⟨c', id', hc1, hc2⟩ := hc
    exact qnK_ok (rtR_id hr hr') ⟨c', id', kR_id hr hc1, hc2⟩ hb) (fun G1 G2 E hr' h => by rw [← he]; exact qnE_ok (rtR_id hr hr') h) hu q4 q5 q6 q7
  exact ⟨G2, w', cs', E, m', q1, q2, q3, r1, r2, r3, r4⟩
end
end Go.Proofs.YtpflobodmglmaaaGreat
set_option linter.unusedVariables false
set_option maxHeartbeats 4000000
namespace Go.Proofs.YtpflobodmglmaaaGreat
noncomputable section
def rhoC (R : Nat) (ids : List Nat) (id : Nat) : Option Nat := match idxF ids id 0 with | some c => some (bif Nat.blt c R then c else Nat.add kB (Nat.sub c R)) | none => none
def getE (e : AEnd) (i : Nat) : AV := match e with | .ret v => (match v with | .tup l => (nth l i).getD .undef | .agg l => (nth l i).getD .undef | v => v) | .pan _ => .undef
/-- A row of known length, its elements one by one. -/
def cnX (ρ : Nat → Option Nat) (z : Nat → Bool) (M : Mem) (b : Option Blk) : Blk := match b with
  | some (.row sz n g) => .row sz n (rowL ((List.range n).map fun i => (g i).map (cn ρ z 4 M)))
  | b => cnB ρ z M hw0 b
def obX (ρ : Nat → Option Nat) (z : Nat → Bool) (M : Mem) (b : Option Blk) : List Prop := match b with
  | some (.row sz n g) => (List.range n).flatMap fun i => (g i).flatMap (ob ρ z 4 M)
  | b => obB ρ z M hw0 b
def cnY (ρ : Nat → Option Nat) (z : Nat → Bool) (M : Mem) (dp : List Nat) (c : Nat) (b : Option Blk) : Blk := bif inN dp (Nat.add c 100) then cnX ρ z M b else cnB ρ z M (hwOf dp [] c) b
def obY (ρ : Nat → Option Nat) (z : Nat → Bool) (M : Mem) (dp : List Nat) (c : Nat) (b : Option Blk) : List Prop := bif inN dp (Nat.add c 100) then obX ρ z M b else obB ρ z M (hwOf dp [] c) b
def rtK (ρ : Nat → Option Nat) (z : Nat → Bool) (M : Mem) (dp : List Nat) : List Nat → List Blk → Nat → Prop
  | [], _, _ => True
  | id :: ids, bs, c => (match bs with | [] => True | b :: bs => (bif ngO (M.h.get id) then allP (obY ρ z M dp c (M.h.get id)) ∧ WkB (cnY ρ z M dp c (M.h.get id)) b else False) ∧ rtK ρ z M dp ids bs (Nat.succ c))
def endK2 (R : Nat) (e0 : AEnd) (N : List Blk) (dp : List Nat) (e : AEnd) (M : Mem) (ids : List Nat) : Prop :=
  bif nodB ids && (Nat.beq ids.length N.length && rootB 0 ids R) then allP (obE (rhoC R ids) (zN ids) M e) ∧ (WkE (cnE (rhoC R ids) (zN ids) M e) e0 ∧ rtK (rhoC R ids) (zN ids) M dp ids N 0) else False
def endK1 (R : Nat) (ks : List Src) (dp : List Nat) (e0 : AEnd) (N : List Blk) (e : AEnd) (M : Mem) : Prop := match rsl (getE e) M ks (List.range R) with
  | some ids => endK2 R e0 N dp e M ids
  | none => False
/-- How it is to end: R blocks are those that were there, the others are found by ks. -/
def kEK (R : Nat) (ks : List Src) (dp : List Nat) (e0 : AEnd) (N : List Blk) : K Prop := fun e bl M => match bl with
  | .ret => e = e0 ∧ M.h = bldI (kIx R (Nat.sub N.length R)) N .nil
  | _ => bif sameK e e0 then endK1 R ks dp e0 N e M else False
def updKM (M : Mem) (ids L : List Nat) (K : Nat) (N : List Blk) : Mem := ⟨bldI (ids ++ (List.range K).map (Nat.add M.nx)) N (goneL L M.h), Nat.add M.nx K, ids ++ (L ++ M.lg)⟩
def cNew2 (P : Program) (hw : Nat → Hw) (f : Nat) (args : List AV) (M : Mem) (k : AEnd → Mem → Prop) (ids L : List Nat) (r : AEnd × List Blk) : Prop :=
  bif nodB ids && (Nat.ble ids.length r.2.length && ((ids.all fun id => ngO (M.h.get id) && Nat.blt id M.nx) && (Nat.ble ids.length kB && r.2.all ngB))) then
    allP (args.flatMap (ob (rhoI ids) (zL ids L) 4 M) ++ obI ids (zL ids L) M hw ids 0) ∧ (CtK P f (args.map (cn (rhoI ids) (zL ids L) 4 M)) (gcB ids (zL ids L) M hw) r.1 r.2 ∧ k (qnE (kR ids.length ids M.nx (Nat.sub r.2.length ids.length)) r.1) (updKM M ids L (Nat.sub r.2.length ids.length) (r.2.map (qnK (kR ids.length ids M.nx (Nat.sub r.2.length ids.length)))))) else False
def cNew1 (P : Program) (hw : Nat → Hw) (f : Nat) (args : List AV) (M : Mem) (k : AEnd → Mem → Prop) (res : List AV → List Blk → AEnd × List Blk) (ids L : List Nat) : Prop :=
  cNew2 P hw f args M k ids L (res (args.map (cn (rhoI ids) (zL ids L) 4 M)) (gcB ids (zL ids L) M hw))
def cCallK (P : Program) (s : CSp) (f : Nat) (args : List AV) (M : Mem) (k : AEnd → Mem → Prop) : Prop := bif s.new then (match rsl (fun i => (nth args i).getD .undef) M s.ids [] with
  | some ids => cNew1 P (hwOf s.deep s.lvs) f args M k s.res ids (args.flatMap (rch M 4))
  | none => False) else cCall P s f args M k
def cAltK (P : Program) (s : CSp) (f : Nat) (args : List AV) (M : Mem) (k : AEnd → Mem → Prop) (l : List ((List AV → Mem → Bool) × (List AV → List Blk → AEnd × List Blk))) : Prop :=
  List.rec (motive := fun _ => Prop) (cCallK P s f args M k) (fun p _ ih => bif p.1 args M then cCallK P (withR s p.2) f args M k else ih) l
def cFrK (P : Program) (e0 : AEnd) (N : List Blk) (R : Nat) (s : LSp) (f : Fr) (M : Mem) (k : K Prop) : Prop := match rsl (fun t => (f.tm.get t).getD .undef) M s.ids (List.range R) with
  | some ids => bif nodB ids && (rootB 0 ids R && (Nat.ble ids.length kB && (Nat.ble M.nx kB && (!f.dfd && (isNo f.ro && f.ds.all isCl))))) then
      allP (obF ids (zN ids) (hwOf s.deep s.lvs) s.live f M) ∧ (FrK P (gcF ids (zN ids) s.live (frTodo f (bodyT f.todo)) M) (clM (gcB ids (zN ids) M (hwOf s.deep s.lvs))) R e0 N ∧ k e0 .ret (finK M R N)) else False
  | none => False
def baseVK (P : Program) (c : Cfg) (e0 : AEnd) (N : List Blk) (R : Nat) (j : Job Prop) : Prop := match j with
  | .fr f bl M k => (match lpOf c f with | some s => cFrK P e0 N R s f M k | none => False)
  | .call f args dfd bl M k => (match clOf c f dfd args with | some s => cAltK P s f args M (fun e M' => k e bl M') s.alts | none => False)
  | _ => False
def VCK (X : Cx) (c : Cfg) (e0 : AEnd) (N : List Blk) (R : Nat) (n : Nat) (j : Job Prop) : Prop := stepJ X (fun _ => False) (runV c X (fun _ => False) (baseVK X.P c e0 N R) n) j
def can (R c : Nat) : Nat := bif Nat.blt c R then c else Nat.add kB (Nat.sub c R)
end
section
variable {P : Program} {G G' : Gh} {w w' : World} {M M1 Mc : Mem} {N : List Blk} {e0 e1 : AEnd} {c : Cfg} {R : Nat}
theorem can_lt {c : Nat} (h : c < R) : can R c = c := by unfold can; rw [blt_t h]; rfl
theorem can_ge {c : Nat} (h : ¬ c < R) : can R c = kB + (c - R) := by unfold can; rw [blt_f (Nat.le_of_not_lt h)]; rfl
def EndQK (R : Nat) (e0 : AEnd) (N : List Blk) (e1 : AEnd) (M1 : Mem) : Prop := ∃ ids : List Nat, ids.Nodup ∧ ids.length = N.length ∧ (∀ c, c < R → ids[c]? = some c) ∧ (∀ (c id : Nat), ids[c]? = some id → Own M1 id) ∧
  ∀ G w, St G w M1 → ∃ (con : Nat → Nat → Option Value) (cob : Nat → Option (Array MapEntry)), (∀ b i v, G.con b i = some v → con b i = some v) ∧ (∀ b v, G.cob b = some v → cob b = some v) ∧ (∀ b i v, con b i = some v → w.cell? ⟨b, i, none⟩ = some v ∧ (G.con b i = some v ∨ OwnB G M1 b)) ∧ (∀ b v, cob b = some v → (∃ t, w.heap[b]? = some (.map v t)) ∧ (G.cob b = some v ∨ OwnB G M1 b)) ∧
  ∀ G4 : Gh, G4.con = con → G4.cob = cob → G4.tot = G.tot → (∀ c id x, ids[c]? = some id → G.phi id = some x → G4.phi (can R c) = some x) → (∀ E, RE G E e1 → RE G4 E e0) ∧ ∀ (c id : Nat) (k : Blk), ids[c]? = some id → N[c]? = some k → ∀ b base, G.phi id = some (b, base) → BlkR G4 w b base k ∧ (∀ i, con b i = none) ∧ cob b = none
theorem own_can (hRB : R ≤ kB) (hl : R ≤ N.length) {id : Nat} (o : Own (finK Mc R N) id) : ∃ c k, c < N.length ∧ id = can R c ∧ N[c]? = some k ∧ (finK Mc R N).h.get id = some k := by
  obtain ⟨k, h1, h2⟩ := o
  have h1' := h1
  rw [finK_get hRB hl] at h1
  by_cases hc : id < R
  · rw [if_pos hc] at h1
    exact ⟨id, k, (List.getElem?_eq_some_iff.1 h1).1, (can_lt hc).symm, h1, h1'⟩
  · rw [if_neg hc] at h1
    by_cases hk : kB ≤ id ∧ id < kB + (N.length - R)
    · rw [if_pos hk] at h1
      exact ⟨R + (id - kB), k, (List.getElem?_eq_some_iff.1 h1).1, by rw [can_ge (by omega)]; omega, h1, h1'⟩
    · rw [if_neg hk] at h1; cases h1
theorem goal_endK {m : Machine} {fn : Nat} {c0s : List Frame} {bl1 bl2 : AMode} (hs : St G w Mc) (hq : EndQK R e0 N e1 M1) (hR : R ≤ Mc.nx) (hB : Mc.nx ≤ kB) (hl : R ≤ N.length)
    (h : Goal P G w Mc m none false fn c0s e1 bl1 M1) : Goal P G w Mc m none false fn c0s e0 bl2 (finK Mc R N) := by
  obtain ⟨ids, hnd, hil, hir, hio, hq⟩ := hq
  obtain ⟨G', w', cs', E, m', q1, q2, q3, q4, q5, q6, q7⟩ := h
  obtain ⟨con, cob, a1, a2, a3, a4, a5⟩ := hq G' w' q5
  have hRB : R ≤ kB := Nat.le_trans hR hB
  let G4 : Gh := ⟨fun id => if id < Mc.nx then G'.phi id else if kB ≤ id ∧ id < kB + (N.length - R) then (match ids[R + (id - kB)]? with | some j => G'.phi j | none => none) else none, con, cob, G'.tot⟩
  have p1 : ∀ id, id < Mc.nx → G4.phi id = G'.phi id := fun id h => if_pos h
  have pc : ∀ c j, ids[c]? = some j → G4.phi (can R c) = G'.phi j := fun c j hj => by
    by_cases hc : c < R
    · have := hir c hc
      rw [hj] at this
      have e : j = c := Option.some.inj this
      rw [e, can_lt hc, p1 c (by omega)]
    · have hcl := (List.getElem?_eq_some_iff.1 hj).1
      rw [can_ge hc]
      show (if kB + (c - R) < Mc.nx then _ else if kB ≤ kB + (c - R) ∧ kB + (c - R) < kB + (N.length - R) then (match ids[R + (kB + (c - R) - kB)]? with | some j => G'.phi j | none => none) else none) = _
      rw [if_neg (by omega), if_pos (by omega), show R + (kB + (c - R) - kB) = c by omega, hj]
  have p3 : ∀ id x, G4.phi id = some x → (id < Mc.nx ∧ G'.phi id = some x) ∨ ∃ c j, ¬ c < R ∧ c < N.length ∧ id = can R c ∧ ids[c]? = some j ∧ G'.phi j = some x := fun id x h => by
    by_cases h1 : id < Mc.nx
    · rw [p1 id h1] at h; exact .inl ⟨h1, h⟩
    · have h : (if id < Mc.nx then G'.phi id else if kB ≤ id ∧ id < kB + (N.length - R) then (match ids[R + (id - kB)]? with | some j => G'.phi j | none => none) else none) = some x := h
      rw [if_neg h1] at h
      by_cases h2 : kB ≤ id ∧ id < kB + (N.length - R)
      · rw [if_pos h2] at h
        cases hj : ids[R + (id - kB)]? with
        | none => rw [hj] at h; cases h
        | some j =>
          rw [hj] at h
          exact .inr ⟨R + (id - kB), j, by omega, by omega, by rw [can_ge (by omega)]; omega, hj, h⟩
      · rw [if_neg h2] at h; cases h
  obtain ⟨b1, b2⟩ := a5 G4 rfl rfl rfl fun c id x hi hx => by rw [pc c id hi]; exact hx
  have own1 : ∀ id b base, Own (finK Mc R N) id → G4.phi id = some (b, base) → ∃ c j k, id = can R c ∧ ids[c]? = some j ∧ N[c]? = some k ∧ (finK Mc R N).h.get id = some k ∧ G'.phi j = some (b, base) := fun id b base o hp => by
    obtain ⟨c, k, h1, h2, h3, h4⟩ := own_can hRB hl o
    obtain ⟨j, hj⟩ : ∃ j, ids[c]? = some j := ⟨_, List.getElem?_eq_getElem (by omega)⟩
    subst h2
    rw [pc c j hj] at hp
    exact ⟨c, j, k, rfl, hj, h3, h4, hp⟩
  refine ⟨G4, w', cs', E, m', q1, q2, q3, b1 E q4, ⟨fun id k b base h1 h2 => ?_, fun id id' b x1 x2 o1 o2 e1 e2 => ?_, fun id b base e => ?_, fun id b base e => ?_, fun b i v h => (a3 b i v h).1, fun b v h => (a4 b v h).1, fun id b base i o e => ?_, fun id b base o e => ?_⟩,
    ⟨⟨fun id x h => ?_, fun b i v h => a1 b i v (q6.le.con b i v h), fun b v h => a2 b v (q6.le.cob b v h), fun id b base h => q6.le.tot id b base h⟩, fun id b base h => ?_, fun b i v h => ?_, fun b v h => ?_, q6.tot, q6.keep, q6.size, q6.os, ?_, fun id o => ?_⟩, fun id hi h => by rw [p1 id hi]; exact q7 id hi h⟩
  · by_cases hg : k = .gone
    · subst hg; trivial
    · obtain ⟨c, j, k', e1, e2, e3, e4, e5⟩ := own1 id b base ⟨k, h1, hg⟩ h2
      rw [h1] at e4
      cases e4
      exact (b2 c j k e2 e3 b base e5).1
  · obtain ⟨c, j, k, r1, r2, r3, r4, r5⟩ := own1 id b x1 o1 e1
    obtain ⟨c', j', k', s1, s2, s3, s4, s5⟩ := own1 id' b x2 o2 e2
    have := q5.inj j j' b x1 x2 (hio c j r2) (hio c' j' s2) r5 s5
    subst this
    have hcl := (List.getElem?_eq_some_iff.1 r2).1
    have := (List.getElem?_inj hcl hnd).1 (r2.trans s2.symm)
    subst this
    rw [r1, s1]
  · rcases p3 id _ e with ⟨_, h⟩ | ⟨c, j, _, _, _, _, h⟩
    · exact q5.lt id b base h
    · exact q5.lt j b base h
  · rcases p3 id _ e with ⟨h, _⟩ | ⟨c, j, h1, h2, hid, _, h⟩
    · show id < kB + (N.length - R)
      omega
    · rw [hid, can_ge h1]
      show kB + (c - R) < kB + (N.length - R)
      omega
  · obtain ⟨c, j, k, r1, r2, r3, r4, r5⟩ := own1 id b base o e
    exact (b2 c j k r2 r3 b base r5).2.1 i
  · obtain ⟨c, j, k, r1, r2, r3, r4, r5⟩ := own1 id b base o e
    exact (b2 c j k r2 r3 b base r5).2.2
  · rw [p1 id (hs.fresh id x.1 x.2 h)]
    exact q6.le.phi id x h
  · rcases p3 id _ h with ⟨_, h⟩ | ⟨c, j, h1, h2, h3, h4, h⟩
    · exact q6.phin id b base h
    · rcases q6.phin j b base h with hp | hp | hp
      · refine .inr (.inr ⟨j, base, ?_, hp⟩)
        rcases q6.dom j (hio c j h4) with o | o
        · exact o
        · rw [hp] at o; cases o
      · exact .inr (.inl hp)
      · exact .inr (.inr hp)
  · rcases (a3 b i v h).2 with h | h
    · exact q6.conn b i v h
    · by_cases hb : b < w.heap.size
      · exact .inr (.inr (q6.ownB hb h))
      · exact .inr (.inl (Nat.le_of_not_lt hb))
  · rcases (a4 b v h).2 with h | h
    · exact q6.cobn b v h
    · by_cases hb : b < w.heap.size
      · exact .inr (.inr (q6.ownB hb h))
      · exact .inr (.inl (Nat.le_of_not_lt hb))
  · show Mc.nx ≤ kB + (N.length - R)
    omega
  · obtain ⟨c, k, h1, h2, h3, h4⟩ := own_can hRB hl o
    by_cases hc : c < R
    · rw [can_lt hc] at h2
      subst h2
      exact q6.dom id (hio id id (hir id hc))
    · refine .inr ?_
      rw [can_ge hc] at h2
      cases hx : G.phi id with
      | none => rfl
      | some x => have := hs.fresh id x.1 x.2 hx; omega
theorem fin_atK (hq : EndQK R e0 N e1 M1) (hR : R ≤ Mc.nx) (hB : Mc.nx ≤ kB) (hl : R ≤ N.length) (h : AT (Mc.nx ≤ ·) Mc M1) : AT (Mc.nx ≤ ·) Mc (finK Mc R N) := by
  obtain ⟨ids, hnd, hil, hir, hio, hq⟩ := hq
  have hRB : R ≤ kB := Nat.le_trans hR hB
  refine ⟨?_, ⟨List.range Mc.nx, rfl, fun id h1 h2 => absurd (List.mem_range.2 (Nat.lt_of_not_le h1)) h2⟩, fun id o => ?_, fun _ id o => ?_⟩
  · show Mc.nx ≤ kB + (N.length - R)
    omega
  · obtain ⟨c, k, h1, h2, h3, h4⟩ := own_can hRB hl o
    by_cases hc : c < R
    · rw [can_lt hc] at h2
      subst h2
      exact h.own id (hio id id (hir id hc))
    · rw [can_ge hc] at h2
      exact .inr (by omega)
  · obtain ⟨c, k, h1, h2, h3, h4⟩ := own_can hRB hl o
    show id < kB + (N.length - R)
    by_cases hc : c < R
    · rw [can_lt hc] at h2; omega
    · rw [can_ge hc] at h2; omega
theorem rtK_ok {ρ : Nat → Option Nat} {z : Nat → Bool} {dp : List Nat} : ∀ (ids : List Nat) (bs : List Blk) (i : Nat), rtK ρ z M dp ids bs i → ∀ (c id : Nat) (b : Blk), ids[c]? = some id → bs[c]? = some b → ngO (M.h.get id) = true ∧ allP (obY ρ z M dp (i + c) (M.h.get id)) ∧ WkB (cnY ρ z M dp (i + c) (M.h.get id)) b
  | [], _, _, _, c, id, b, e, _ => by simp at e
  | _ :: _, [], _, _, c, id, b, _, e => by simp at e
  | x :: ids, y :: bs, i, h, c, id, b, e1, e2 => by
    have h : (bif ngO (M.h.get x) then allP (obY ρ z M dp i (M.h.get x)) ∧ WkB (cnY ρ z M dp i (M.h.get x)) y else False) ∧ rtK ρ z M dp ids bs (i + 1) := h
    cases c with
    | zero =>
      cases e1
      cases e2
      cases hg : ngO (M.h.get x) with
      | false => rw [hg] at h; exact h.1.elim
      | true => rw [hg] at h; exact ⟨rfl, h.1⟩
    | succ c =>
      have := rtK_ok ids bs (i + 1) h.2 c id b (by simpa using e1) (by simpa using e2)
      rw [show i + 1 + c = i + (c + 1) by omega] at this
      exact this
theorem cnY_ok {ρ : Nat → Option Nat} {z : Nat → Bool} {dp : List Nat} (hs : St G w M) (hg : CnG ρ z G w M G') {id b base c : Nat} (hb : G.phi id = some (b, base)) (ho : allP (obY ρ z M dp c (M.h.get id))) : BlkR G' w b base (cnY ρ z M dp c (M.h.get id)) := by
  unfold obY at ho
  unfold cnY
  cases hd : inN dp (Nat.add c 100) with
  | false => rw [hd] at ho; exact cnB_ok hs hg (c := c) hb ho
  | true =>
    rw [hd] at ho
    show BlkR G' w b base (cnX ρ z M (M.h.get id))
    have ho : allP (obX ρ z M (M.h.get id)) := ho
    unfold obX at ho
    unfold cnX
    split at ho
    · rename_i sz n g hk
      have h2 := cnB_ok (hw := ⟨true, fun _ => []⟩) hs hg (c := c) hb (show allP (obB ρ z M ⟨true, fun _ => []⟩ (M.h.get id)) by
        rw [hk]
        exact ⟨fun i hi => allP_flat ho i (List.mem_range.2 hi), trivial⟩)
      rw [hk] at h2
      refine wkB_row (g := fun i => (g i).map (cn ρ z 4 M)) (fun i hi => .of ?_) _ _ _ _ h2
      show _ = (nth ((List.range n).map fun i => (g i).map (cn ρ z 4 M)) i).getD []
      rw [nth_eq, List.getElem?_map, List.getElem?_range hi]
      rfl
    · rename_i hk
      have h2 := cnB_ok (hw := hw0) hs hg (c := c) hb ho
      exact h2
theorem ngO_own {id : Nat} (h : ngO (M.h.get id) = true) : Own M id := by
  unfold ngO at h
  split at h
  · cases h
  · rename_i b hg hb; exact ⟨b, hb, fun e => by subst e; exact hg rfl⟩
  · cases h
open Classical in
theorem endK2_q {dp : List Nat} {ids : List Nat} (h : endK2 R e0 N dp e1 M1 ids) : EndQK R e0 N e1 M1 := by
  unfold endK2 at h
  cases hc : nodB ids && (Nat.beq ids.length N.length && rootB 0 ids R) with
  | false => rw [hc] at h; exact h.elim
  | true =>
    rw [hc] at h
    simp only [Bool.and_eq_true, Nat.beq_eq] at hc
    obtain ⟨c1, c2, c3⟩ := hc
    obtain ⟨h1, h2, h3⟩ := h
    obtain ⟨hRl, hir⟩ := rootB_ok ids 0 R c3
    simp only [Nat.zero_add] at hir
    have hrt := fun c id b e1 e2 => rtK_ok ids N 0 h3 c id b e1 e2
    have hnd := nodB_ok c1
    have hio : ∀ (c id : Nat), ids[c]? = some id → Own M1 id := fun c id e => by
      have hcl := (List.getElem?_eq_some_iff.1 e).1
      exact ngO_own (hrt c id _ e (List.getElem?_eq_getElem (by omega))).1
    refine ⟨ids, hnd, c2, hir, hio, fun G w hs => ?_⟩
    let z := zN ids
    have le := gcG_le (ids := []) (z := z) hs
    have c0 := gc_cn (ids := []) (z := z) hs
    refine ⟨(gcG [] z G w M1).con, (gcG [] z G w M1).cob, le.con, le.cob, fun b i v h => ?_, fun b v h => ?_, fun G4 g1 g2 g3 g4 => ?_⟩
    · have h : (if FzB z G M1 b then w.cell? ⟨b, i, none⟩ else G.con b i) = some v := h
      by_cases e : FzB z G M1 b
      · rw [if_pos e] at h
        obtain ⟨id, base, o, _, hp⟩ := e
        exact ⟨h, .inr ⟨id, base, o, hp⟩⟩
      · rw [if_neg e] at h; exact ⟨hs.con b i v h, .inl h⟩
    · have h : (if FzB z G M1 b then (match w.heap[b]? with | some (.map e _) => some e | _ => none) else G.cob b) = some v := h
      by_cases e : FzB z G M1 b
      · rw [if_pos e] at h
        obtain ⟨id, base, o, _, hp⟩ := e
        split at h
        · rename_i en t hc
          cases h
          exact ⟨⟨t, hc⟩, .inr ⟨id, base, o, hp⟩⟩
        · cases h
      · rw [if_neg e] at h; exact ⟨hs.cob b v h, .inl h⟩
    · have cg : CnG (rhoC R ids) z G w M1 G4 := by
        refine ⟨fun id c x hr hp => ?_, fun b => by rw [g3], ⟨fun _ _ h => (by cases h), fun b i v h => by show G4.con b i = _; rw [g1]; exact le.con b i v h, fun b v h => by show G4.cob b = _; rw [g2]; exact le.cob b v h, fun _ _ _ h => (by cases h)⟩, fun id b base i v o hz hp hc => by rw [g1]; exact c0.con id b base i v o hz hp hc, fun id b base e t o hz hp hc => by rw [g2]; exact c0.cob id b base e t o hz hp hc⟩
        unfold rhoC at hr
        cases hi : idxF ids id 0 with
        | none => rw [hi] at hr; cases hr
        | some j =>
          rw [hi] at hr
          obtain ⟨_, hj⟩ := idxF_ok ids id 0 j hi
          rw [Nat.sub_zero] at hj
          have hr : some (can R j) = some c := hr
          cases hr
          exact g4 j id x hj hp
      have cnE_ok : ∀ E, RE G E e1 → RE G4 E (cnE (rhoC R ids) z M1 e1) := fun E h => by
        cases e1 with
        | ret v =>
          cases E with
          | returned x => exact cn_ok hs 4 cg h h1
          | panicked ch => exact h
          | outgrown => exact h
        | pan l =>
          cases E with
          | returned x => exact h
          | outgrown => exact h
          | panicked ch =>
            have h1 : allP (l.flatMap fun p => ob (rhoC R ids) z 4 M1 p.v) := h1
            have go : ∀ (ch : List PanicEntry) (l : List AE), allP (l.flatMap fun p => ob (rhoC R ids) z 4 M1 p.v) → RCh G ch l → RCh G4 ch (l.map fun p => ⟨cn (rhoC R ids) z 4 M1 p.v, p.rcv⟩) := fun ch => by
              induction ch with
              | nil => intro l _ h; cases l with | nil => exact h | cons => exact h
              | cons p ch ih =>
                intro l ho h
                cases l with
                | nil => exact h
                | cons a l =>
                  rw [List.flatMap_cons, allP_app] at ho
                  exact ⟨h.1, h.2.1, cn_ok hs 4 cg h.2.2.1 ho.1, ih l ho.2 h.2.2.2⟩
            exact go ch l h1 h
      refine ⟨fun E h => h2 _ _ (cnE_ok E h), fun c id k e1 e2 b base hp => ?_⟩
      obtain ⟨r1, r2, r3⟩ := hrt c id k e1 e2
      have own := hio c id e1
      have nfz : ¬ FzB z G M1 b := fun ⟨id', base', o', hz', hp'⟩ => by
        have := hs.inj id id' b base base' own o' hp hp'
        subst this
        have hz' : (!inN ids id) = true := hz'
        rw [inN_mem.2 (List.mem_of_getElem? e1)] at hz'
        cases hz'
      refine ⟨r3 _ _ _ _ (cnY_ok hs cg hp r2), fun i => ?_, ?_⟩
      · show (if FzB z G M1 b then _ else _) = _
        rw [if_neg nfz]
        exact hs.sep id b base i own hp
      · show (if FzB z G M1 b then _ else _) = _
        rw [if_neg nfz]
        exact hs.sep2 id b base own hp
theorem endKM_q (hRB : R ≤ kB) (hl : R ≤ N.length) (hng : N.all ngB = true) (he : qnE (kR R (List.range R) kB (Nat.sub N.length R)) e0 = e0) (hN : N.map (qnK (kR R (List.range R) kB (Nat.sub N.length R))) = N) (h1 : e1 = e0) (h2 : M1.h = bldI (kIx R (Nat.sub N.length R)) N .nil) : EndQK R e0 N e1 M1 := by
  subst h1
  have get : ∀ c, M1.h.get c = (finK (clM []) R N).h.get c := fun c => by rw [h2]; rfl
  have ng : ∀ (c : Nat) (k : Blk), N[c]? = some k → k ≠ Blk.gone := fun c k h e => by
    have := List.all_eq_true.1 hng k (List.mem_of_getElem? h)
    subst e
    cases this
  have cg : ∀ c k, N[c]? = some k → M1.h.get (can R c) = some k := fun c k h => by
    have hcl := (List.getElem?_eq_some_iff.1 h).1
    rw [get, finK_get hRB hl]
    by_cases hc : c < R
    · rw [can_lt hc, if_pos hc, h]
    · rw [can_ge hc, if_neg (by omega), if_pos (by omega), show R + (kB + (c - R) - kB) = c by omega, h]
  have ki : ∀ c id, (kIx R (N.length - R))[c]? = some id → id = can R c ∧ c < N.length := fun c id h => by
    rw [kIx_get] at h
    by_cases hc : c < R
    · rw [if_pos hc] at h; cases h; exact ⟨(can_lt hc).symm, by omega⟩
    · rw [if_neg hc] at h
      by_cases h2 : c < R + (N.length - R)
      · rw [if_pos h2] at h; cases h; exact ⟨(can_ge hc).symm, by omega⟩
      · rw [if_neg h2] at h; cases h
  have own : ∀ (c id : Nat), (kIx R (N.length - R))[c]? = some id → Own M1 id := fun c id h => by
    obtain ⟨rfl, hc⟩ := ki c id h
    exact ⟨_, cg c _ (List.getElem?_eq_getElem hc), ng c _ (List.getElem?_eq_getElem hc)⟩
  refine ⟨kIx R (N.length - R), kIx_nodup hRB, by rw [kIx_len]; omega, fun c hc => by rw [kIx_get, if_pos hc], own, fun G w hs => ⟨G.con, G.cob, fun _ _ _ h => h, fun _ _ h => h, fun b i v h => ⟨hs.con b i v h, .inl h⟩, fun b v h => ⟨hs.cob b v h, .inl h⟩, fun G4 g1 g2 g3 g4 => ?_⟩⟩
  have rt : RtR (kR R (List.range R) kB (Nat.sub N.length R)) G G4 := by
    refine ⟨fun c id x hc hx => ?_, ⟨fun _ _ h => (by cases h), fun b i v h => by show G4.con b i = _; rw [g1]; exact h, fun b v h => by show G4.cob b = _; rw [g2]; exact h, fun _ _ _ h => (by cases h)⟩, fun c id b base hc hx => by rw [g3]⟩
    rcases kR_inv hc with ⟨h1, h2⟩ | ⟨h0, h1, h2, hid⟩
    · rw [List.getElem?_range h1] at h2
      cases h2
      have := g4 c c x (by rw [kIx_get, if_pos h1]) hx
      rwa [can_lt h1] at this
    · have h2 : c < kB + (N.length - R) := h2
      rw [hid, show kB + (c - kB) = c by omega]
      have := g4 (R + (c - kB)) c x (by rw [kIx_get, if_neg (by omega), if_pos (by omega)]; congr 1; omega) hx
      rw [can_ge (by omega), show R + (c - kB) - R = c - kB by omega, show kB + (c - kB) = c by omega] at this
      exact this
  refine ⟨fun E h => by rw [← he]; exact qnE_ok rt h, fun c id k h1 h2 b base hp => ?_⟩
  have o := own c id h1
  obtain ⟨hid, hcl⟩ := ki c id h1
  rw [hid] at o hp
  have e : k = qnK (kR R (List.range R) kB (Nat.sub N.length R)) k := by
    have := congrArg (fun l => l[c]?) hN
    simp only [List.getElem?_map, h2, Option.map_some, Option.some.injEq] at this
    exact this.symm
  refine ⟨?_, fun i => hs.sep _ b base i o hp, hs.sep2 _ b base o hp⟩
  rw [e]
  refine qnK_ok rt ⟨can R c, can R c, ?_, hp⟩ (hs.blk _ k b base (cg c k h2) hp)
  by_cases hc : c < R
  · rw [can_lt hc]
    unfold kR
    rw [blt_t hc, cond_true, nth_get, List.getElem?_range hc]
  · rw [can_ge hc]
    unfold kR
    rw [blt_f (show R ≤ kB + (c - R) by omega), cond_false, show Nat.ble kB (kB + (c - R)) = true by simp, show Nat.blt (kB + (c - R)) (Nat.add kB (Nat.sub N.length R)) = true from blt_t (show kB + (c - R) < kB + (N.length - R) by omega)]
    show some (kB + (kB + (c - R) - kB)) = _
    rw [show kB + (c - R) - kB = c - R by omega]
theorem kEK_q {ks : List Src} {dp : List Nat} {bl : AMode} (hRB : R ≤ kB) (hl : R ≤ N.length) (hng : N.all ngB = true) (he : qnE (kR R (List.range R) kB (Nat.sub N.length R)) e0 = e0) (hN : N.map (qnK (kR R (List.range R) kB (Nat.sub N.length R))) = N) (h : kEK R ks dp e0 N e1 bl M1) : EndQK R e0 N e1 M1 := by
  unfold kEK at h
  split at h
  · exact endKM_q hRB hl hng he hN h.1 h.2
  · cases hs : sameK e1 e0 with
    | false => rw [hs] at h; exact h.elim
    | true =>
      rw [hs] at h
      have h : endK1 R ks dp e0 N e1 M1 := h
      unfold endK1 at h
      split at h
      · exact endK2_q h
      · exact h.elim
/-! Calls. -/
theorem updKM_ok {ids L : List Nat} {K : Nat} (hnd : ids.Nodup) (hl : N.length = ids.length + K) (hng : ∀ id ∈ ids, ngO (M.h.get id) = true ∧ id < M.nx) (hgn : N.all ngB = true) : UpdK M ids (zL ids L) ids.length K M.nx N (N.map (qnK (kR ids.length ids M.nx K))) (updKM M ids L K (N.map (qnK (kR ids.length ids M.nx K)))) := by
  have ng : ∀ (c : Nat) (k : Blk), N[c]? = some k → k ≠ .gone := fun c k h e => by
    have := List.all_eq_true.1 hgn k (List.mem_of_getElem? h)
    subst e
    cases this
  have get : ∀ id, (updKM M ids L K (N.map (qnK (kR ids.length ids M.nx K)))).h.get id = (bldI (ids ++ (List.range K).map (Nat.add M.nx)) (N.map (qnK (kR ids.length ids M.nx K))) (goneL L M.h)).get id := fun _ => rfl
  have nd : (ids ++ (List.range K).map (Nat.add M.nx)).Nodup := by
    rw [List.nodup_append]
    refine ⟨hnd, ?_, fun a ha b hb e => ?_⟩
    · unfold List.Nodup
      rw [List.pairwise_map]
      exact List.Pairwise.imp (fun {a b} hab e => hab (Nat.add_left_cancel e)) List.nodup_range
    · obtain ⟨i, _, rfl⟩ := List.mem_map.1 hb
      have := (hng a ha).2
      have e : a = M.nx + i := e
      omega
  have len : (ids ++ (List.range K).map (Nat.add M.nx)).length = (N.map (qnK (kR ids.length ids M.nx K))).length := by simp; omega
  refine ⟨Nat.le_add_right _ _, ⟨Nat.le_refl _, Nat.le_refl _⟩, fun id ⟨k, h1, h2⟩ => ?_, ids ++ L, (List.append_assoc ..).symm ▸ rfl, fun id h1 h2 => ?_⟩
  · have h1' := h1
    rw [get] at h1
    rcases bldI_get _ _ (goneL L M.h) id nd len with ⟨c, k2, q1, q2, q3⟩ | ⟨q1, q2⟩
    · rw [q3] at h1
      cases h1
      by_cases hc : c < ids.length
      · rw [List.getElem?_append_left hc] at q1
        obtain ⟨k1, hk1⟩ : ∃ k1, N[c]? = some k1 := ⟨_, List.getElem?_eq_getElem (by omega)⟩
        exact .inl ⟨c, k1, k, hc, q1, hk1, ng c k1 hk1, q2, h1', ngO_own (hng id (List.mem_of_getElem? q1)).1⟩
      · rw [List.getElem?_append_right (Nat.le_of_not_lt hc), List.getElem?_map] at q1
        by_cases hk : c - ids.length < K
        · rw [List.getElem?_range hk] at q1
          have q1 : M.nx + (c - ids.length) = id := by simpa using q1
          obtain ⟨k1, hk1⟩ : ∃ k1, N[c]? = some k1 := ⟨_, List.getElem?_eq_getElem (by omega)⟩
          have ec : ids.length + (c - ids.length) = c := by omega
          exact .inr (.inl ⟨c - ids.length, k1, k, hk, q1.symm, by rw [ec]; exact hk1, ng c k1 hk1, by rw [ec]; exact q2, h1'⟩)
        · rw [List.getElem?_eq_none (by simpa using Nat.le_of_not_lt hk)] at q1
          cases q1
    · rw [q2, goneL_get] at h1
      have hni : id ∉ ids := fun h => q1 (List.mem_append.2 (.inl h))
      by_cases hL : id ∈ L
      · rw [if_pos hL] at h1; cases h1; exact absurd rfl h2
      · rw [if_neg hL] at h1
        refine .inr (.inr ⟨⟨k, h1, h2⟩, ?_, hni, by rw [get, q2, goneL_get, if_neg hL]⟩)
        unfold zL
        have : inN L id = false := by
          cases h : inN L id with
          | false => rfl
          | true => exact absurd (inN_mem.1 h) hL
        rw [this]
        rfl
  · rw [get]
    rcases bldI_get _ _ (goneL L M.h) id nd len with ⟨c, k2, q1, q2, q3⟩ | ⟨q1, q2⟩
    · rcases List.mem_append.1 (List.mem_of_getElem? q1) with h | h
      · exact absurd (List.mem_append.2 (.inl h)) h2
      · obtain ⟨i, _, e⟩ := List.mem_map.1 h
        have e : M.nx + i = id := e
        omega
    · rw [q2, goneL_get, if_neg (fun h => h2 (List.mem_append.2 (.inr h)))]
theorem new_ok {hw : Nat → Hw} {f : Nat} {args : List AV} {k : AEnd → Mem → Prop} {ids L : List Nat} {r : AEnd × List Blk} (h : cNew2 P hw f args M k ids L r) (bl bl' : AMode) : ∃ e M', CallS P f args false bl M e bl' M' ∧ k e M' := by
  unfold cNew2 at h
  cases hc : nodB ids && (Nat.ble ids.length r.2.length && ((ids.all fun id => ngO (M.h.get id) && Nat.blt id M.nx) && (Nat.ble ids.length kB && r.2.all ngB))) with
  | false => rw [hc] at h; exact h.elim
  | true =>
    rw [hc] at h
    simp only [Bool.and_eq_true, Nat.ble_eq] at hc
    obtain ⟨c1, c2, c3, c4, c5⟩ := hc
    obtain ⟨h1, h2, h3⟩ := h
    have hl : r.2.length = ids.length + Nat.sub r.2.length ids.length := by
      show _ = ids.length + (r.2.length - ids.length)
      omega
    exact ⟨_, _, gc_callK h2 c1 c4 hl zL_not h1 (updKM_ok (nodB_ok c1) hl (fun id hi => by
      have := List.all_eq_true.1 c3 id hi
      simp only [Bool.and_eq_true, Nat.blt_eq] at this
      exact this) c5) bl bl', h3⟩
theorem callK_ok {s : CSp} {f : Nat} {args : List AV} {k : AEnd → Mem → Prop} (h : cCallK P s f args M k) (bl bl' : AMode) : ∃ e M', CallS P f args false bl M e bl' M' ∧ k e M' := by
  unfold cCallK at h
  cases hn : s.new with
  | false => rw [hn] at h; exact call_ok h bl bl'
  | true =>
    rw [hn] at h
    replace h : (match rsl (fun i => (nth args i).getD .undef) M s.ids [] with
      | some ids => cNew1 P (hwOf s.deep s.lvs) f args M k s.res ids (args.flatMap (rch M 4))
      | none => False) := h
    split at h
    · exact new_ok h bl bl'
    · exact h.elim
theorem altK_ok {s : CSp} {f : Nat} {args : List AV} {k : AEnd → Mem → Prop} : ∀ (l : List ((List AV → Mem → Bool) × (List AV → List Blk → AEnd × List Blk))), cAltK P s f args M k l → ∀ (bl bl' : AMode), ∃ e M', CallS P f args false bl M e bl' M' ∧ k e M'
  | [], h, bl, bl' => callK_ok h bl bl'
  | p :: l, h, bl, bl' => by
    have h : (bif p.1 args M then cCallK P (withR s p.2) f args M k else cAltK P s f args M k l) := h
    cases hp : p.1 args M with
    | true => rw [hp] at h; exact callK_ok h bl bl'
    | false => rw [hp] at h; exact altK_ok l h bl bl'
theorem cFrK_ok {s : LSp} {f : Fr} {k : K Prop} (hl : R ≤ N.length) (he : qnE (kR R (List.range R) kB (Nat.sub N.length R)) e0 = e0) (hN : N.map (qnK (kR R (List.range R) kB (Nat.sub N.length R))) = N) (h : cFrK P e0 N R s f M k) (bl : AMode) : FrS P f bl M e0 .ret (finK M R N) ∧ k e0 .ret (finK M R N) := by
  unfold cFrK at h
  split at h
  · rename_i ids hi
    cases hc : nodB ids && (rootB 0 ids R && (Nat.ble ids.length kB && (Nat.ble M.nx kB && (!f.dfd && (isNo f.ro && f.ds.all isCl))))) with
    | false => rw [hc] at h; exact h.elim
    | true =>
      rw [hc] at h
      simp only [Bool.and_eq_true, Bool.not_eq_true', Nat.ble_eq] at hc
      obtain ⟨c1, c2, c6, c7, c3, c4, c5⟩ := hc
      obtain ⟨h1, h2, h3⟩ := h
      obtain ⟨fn, dfd, sz, tm, todo, ds, ro⟩ := f
      refine ⟨fr_body (gc_frK h2 c1 c2 (fun id hz hm => ?_) c6 c7 (show N.length = R + (N.length - R) by omega) c3 (by cases hr : ro with | none => rfl | some l => rw [hr] at c4; cases c4) c5 h1 he hN bl .ret), h3⟩
      have hz : (!inN ids id) = true := hz
      rw [inN_mem.2 hm] at hz
      cases hz
  · exact h.elim
theorem baseK_ok (hl : R ≤ N.length) (he : qnE (kR R (List.range R) kB (Nat.sub N.length R)) e0 = e0) (hN : N.map (qnK (kR R (List.range R) kB (Nat.sub N.length R))) = N) (j : Job Prop) (h : baseVK P c e0 N R j) : ∃ e bl' M', JobS P j e bl' M' ∧ j.k e bl' M' := by
  unfold baseVK at h
  split at h
  · rename_i f bl M k
    split at h
    · obtain ⟨h1, h2⟩ := cFrK_ok hl he hN h bl
      exact ⟨e0, .ret, _, h1, h2⟩
    · exact h.elim
  · rename_i f args dfd bl M k
    split at h
    · rename_i s hs
      have hd : dfd = false := by
        unfold clOf at hs
        cases dfd with
        | false => rfl
        | true => cases hs
      subst hd
      obtain ⟨e, M', h1, h2⟩ := altK_ok _ h bl bl
      exact ⟨e, bl, M', h1, h2⟩
    · exact h.elim
  · exact h.elim
theorem baseK_out (hl : R ≤ N.length) (he : qnE (kR R (List.range R) kB (Nat.sub N.length R)) e0 = e0) (hN : N.map (qnK (kR R (List.range R) kB (Nat.sub N.length R))) = N) (j : Job Prop) : Out (fun _ => False) j.k (baseVK P c e0 N R j) (JobS P j) := by
  by_cases h : baseVK P c e0 N R j
  · obtain ⟨e, bl, M, h1, h2⟩ := baseK_ok hl he hN j h
    exact .inr ⟨e, bl, M, by rw [eq_true h, eq_true h2], h1⟩
  · exact .inl ⟨0, by rw [eq_false h]⟩
theorem vck_job {X : Cx} (hP : POk X.P) (hC : CtOK X) {n : Nat} {j : Job Prop} (hl : R ≤ N.length) (he : qnE (kR R (List.range R) kB (Nat.sub N.length R)) e0 = e0) (hN : N.map (qnK (kR R (List.range R) kB (Nat.sub N.length R))) = N) (h : VCK X c e0 N R n j) : ∃ e bl M, JobS X.P j e bl M ∧ j.k e bl M := by
  have h : stepJ X (fun _ => False) (runV c X (fun _ => False) (baseVK X.P c e0 N R) n) j := h
  rcases step_ok hP hC (runV_ok (c := c) hP hC (baseK_out (P := X.P) (c := c) hl he hN) n) j with ⟨x, hx⟩ | ⟨e, bl, M, h1, h2⟩
  · rw [hx] at h
    exact h.elim
  · rw [h1] at h
    exact ⟨e, bl, M, h2, h⟩
/-- A function's contract. -/
theorem vck_call {X : Cx} (hP : POk X.P) (hC : CtOK X) {n f : Nat} {args : List AV} {N0 : List Blk} {ks : List Src} {dp : List Nat} (hl : N0.length ≤ N.length) (hB : N0.length ≤ kB) (hng : N.all ngB = true) (he : qnE (kR N0.length (List.range N0.length) kB (Nat.sub N.length N0.length)) e0 = e0) (hN : N.map (qnK (kR N0.length (List.range N0.length) kB (Nat.sub N.length N0.length))) = N) {E : Prop} (p : E) (h : E = VCK X c e0 N N0.length n (.call f args false .run (clM N0) (kEK N0.length ks dp e0 N))) : CtK X.P f args N0 e0 N := fun bl bl' => by
  obtain ⟨e, bl1, M1, h1, h2⟩ := vck_job hP hC hl he hN (show VCK X c e0 N N0.length n _ by rw [← h]; exact p)
  obtain ⟨s1, s2, s3⟩ := (show CallS X.P f args false .run (clM N0) e bl1 M1 from h1)
  have q := kEK_q hB hl hng he hN (show kEK N0.length ks dp e0 N e bl1 M1 from h2)
  exact ⟨s1, fin_atK (Mc := clM N0) q (Nat.le_refl _) hB hl s2, fun G w vs c0s cs hs hw hv hb => goal_endK hs q (Nat.le_refl _) hB hl (s3 G w vs c0s cs hs hw hv hb)⟩
/-- A frame's. -/
theorem vck_fr {X : Cx} (hP : POk X.P) (hC : CtOK X) {n : Nat} {f : Fr} {N0 : List Blk} {ks : List Src} {dp : List Nat} (hR : R ≤ N0.length) (hl : R ≤ N.length) (hB : N0.length ≤ kB) (hng : N.all ngB = true) (he : qnE (kR R (List.range R) kB (Nat.sub N.length R)) e0 = e0) (hN : N.map (qnK (kR R (List.range R) kB (Nat.sub N.length R))) = N) (hd : f.dfd = false) (hro : f.ro = none) {E : Prop} (p : E) (h : E = VCK X c e0 N R n (.fr f .run (clM N0) (kEK R ks dp e0 N))) : FrK X.P f (clM N0) R e0 N := fun bl bl' => by
  obtain ⟨e, bl1, M1, h1, h2⟩ := vck_job hP hC hl he hN (show VCK X c e0 N R n _ by rw [← h]; exact p)
  obtain ⟨s2, s3⟩ := (show FrS X.P f .run (clM N0) e bl1 M1 from h1)
  have q := kEK_q (Nat.le_trans hR hB) hl hng he hN (show kEK R ks dp e0 N e bl1 M1 from h2)
  refine ⟨fin_atK (Mc := clM N0) q hR hB hl s2, fun G w b a c0s cs hs hw hfr hb hcs => ?_⟩
  have := s3 G w b a c0s cs hs hw hfr (by rw [hd] at hb ⊢; exact hb) hcs
  rw [hd, hro] at this ⊢
  exact goal_endK hs q hR hB hl this
end
end Go.Proofs.YtpflobodmglmaaaGreat
