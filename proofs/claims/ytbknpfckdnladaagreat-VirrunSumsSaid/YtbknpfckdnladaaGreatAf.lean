/- Operations that look: indexes, slices, lengths, maps. No condition. -/
import Derived.Test.YtbknpfckdnladaaGreatAe
set_option linter.unusedVariables false
set_option maxHeartbeats 4000000
namespace Go.Proofs.YtbknpfckdnladaaGreat
section
variable {P : Program} {G : Gh} {ρ : Operand → Value} {ev : Operand → AV} {o : Oper} {w : World} {M M' : Mem} {r : AV}
theorem ixA_inv {i : AV} {k : Int → AR} (h : ixA i k = .val r M') : ∃ kk n, i = .int kk n ∧ k n = .val r M' := by
  unfold ixA at h
  split at h
  · exact ⟨_, _, rfl, h⟩
  · cases h
theorem q_indexAddr {t : TypeId} {x i : Operand} (ho : o.op = .indexAddr t x i) (hx : RV G (ρ x) (ev x)) (hi : RV G (ρ i) (ev i)) (h : oIndexAddr P (undB P t) (ev x) (ev i) M = .val r M') : Qu P G ρ o w r ∧ M' = M := by
  unfold oIndexAddr at h
  split at h
  · rename_i id off len full sz he
    obtain ⟨kk, n, hin, h⟩ := ixA_inv h
    rw [hin] at hi
    rw [he] at hx
    unfold ixSl at h
    split at h
    · rename_i e hd
      obtain ⟨h1, rfl, rfl⟩ := bif_val h
      simp only [Bool.and_eq_true, Nat.beq_eq, Nat.blt_eq] at h1
      obtain ⟨h1, h2, h3⟩ := h1
      have hn := inI_ok h1
      obtain ⟨inf, hinf⟩ := info_of_szB (P := P) (t := e) (by omega)
      generalize hv : ρ x = xv at hx
      cases hx with
      | sl hp hc hf ht hoo =>
      rename_i b base cap oo
      have hoo : oo = base + off * sz := by
        rcases hoo with e1 | e1
        · omega
        · exact e1
      subst hoo
      refine ⟨⟨.pointer (some ⟨b, base + off * sz + n.toNat * szB P e, none⟩), ?_, ?_⟩, rfl⟩
      · unfold execOp
        rw [ho]
        simp only [Instr.indexAt, Sem.run_bind, hi.int_inv, asIntOf, run_und hd, Result.andThen_ok, hv, Sem.run_pure]
        rw [Sem.run_ite, if_pos hn]
        simp only [Sem.run_bind, szB_ok hinf, Result.andThen_ok, Sem.run_pure, add_none]
      · rw [← h2, show base + off * sz + n.toNat * sz = base + ((off + n.toNat) * sz + 0) by rw [Nat.add_mul]; omega]
        exact .ptr hp
    · cases h
  · rename_i nl full len g he
    obtain ⟨kk, n, hin, h⟩ := ixA_inv h
    rw [hin] at hi
    rw [he] at hx
    unfold ixLst at h
    split at h
    · rename_i e hd
      obtain ⟨h1, rfl, rfl⟩ := bif_val h
      simp only [Bool.and_eq_true, Nat.beq_eq, Nat.blt_eq] at h1
      obtain ⟨h1, h2, h3⟩ := h1
      have hn := inI_ok h1
      obtain ⟨inf, hinf⟩ := info_of_szB (P := P) (t := e) (by omega)
      generalize hv : ρ x = xv at hx
      cases hx with
      | lstn => omega
      | lst vs hc hf hsz hcon hr =>
      rename_i b oo cap sz
      have hlt : n.toNat < len := by omega
      have hsz1 := hsz _ hlt
      rw [h3] at hsz1
      refine ⟨⟨.pointer (some ⟨b, oo + n.toNat * szB P e, none⟩), ?_, ?_⟩, rfl⟩
      · unfold execOp
        rw [ho]
        simp only [Instr.indexAt, Sem.run_bind, hi.int_inv, asIntOf, run_und hd, Result.andThen_ok, hv, Sem.run_pure]
        rw [Sem.run_ite, if_pos hn]
        simp only [Sem.run_bind, szB_ok hinf, Result.andThen_ok, Sem.run_pure, add_none]
      · refine .cp (vs n.toNat) (fun j a e1 => ?_) (fun j a e1 => hr _ j a hlt e1)
        have := hcon _ j a hlt e1
        rw [hsz1, Nat.add_assoc]
        exact this
    · cases h
  · rename_i id ix sz o' he
    obtain ⟨kk, n, hin, h⟩ := ixA_inv h
    rw [hin] at hi
    rw [he] at hx
    unfold ixPtr at h
    split at h
    · rename_i len e hd
      obtain ⟨h1, rfl, rfl⟩ := bif_val h
      simp only [Bool.and_eq_true, Nat.blt_eq] at h1
      have hn := inI_ok h1.1
      generalize hv : ρ x = xv at hx
      cases hx with
      | ptr hp =>
      rename_i b base
      obtain ⟨inf, hinf⟩ := info_of_szB (P := P) (t := e) (by omega)
      refine ⟨⟨.pointer (some ⟨b, base + (ix * sz + o') + n.toNat * szB P e, none⟩), ?_, ?_⟩, rfl⟩
      · unfold execOp
        rw [ho]
        simp only [Instr.indexAt, Instr.sureAddr, Sem.run_bind, hi.int_inv, asIntOf, run_und hd, Result.andThen_ok, hv, Sem.run_pure]
        rw [Sem.run_ite, if_pos hn]
        simp only [Sem.run_bind, szB_ok hinf, Result.andThen_ok, Sem.run_pure, add_none]
      · rw [show base + (ix * sz + o') + n.toNat * szB P e = base + (ix * sz + (o' + n.toNat * szB P e)) by omega]
        exact .ptr hp
    · cases h
  · cases h
theorem q_index {t : TypeId} {x i : Operand} (ho : o.op = .index t x i) (hx : RV G (ρ x) (ev x)) (hi : RV G (ρ i) (ev i)) (h : oIndex P (undB P t) (ev x) (ev i) M = .val r M') : Qu P G ρ o w r ∧ M' = M := by
  unfold oIndex at h
  split at h
  · rename_i s he
    split at h
    · rename_i hd
      obtain ⟨kk, n, hin, h⟩ := ixA_inv h
      rw [hin] at hi
      rw [he] at hx
      unfold ixStr at h
      obtain ⟨h1, rfl, rfl⟩ := bif_val h
      have hn := inI_ok h1
      have hlt : n.toNat < s.data.toList.length := by omega
      have hlt' : n.toNat < s.size := hlt
      have hb : s[n.toNat]? = some (s.data.toList.getD n.toNat 0) := by
        rw [getElem?_pos s n.toNat hlt', List.getD_eq_getElem?_getD, List.getElem?_eq_getElem hlt]
        rfl
      refine ⟨⟨_, ?_, .int _ _⟩, rfl⟩
      unfold execOp
      rw [ho]
      simp only [Instr.index, Sem.run_bind, hi.int_inv, asIntOf, run_und hd, Result.andThen_ok, hx.str_inv, Sem.run_pure, if_pos hn.1, hb]
      rfl
    · cases h
  · rename_i cs he
    obtain ⟨kk, n, hin, h⟩ := ixA_inv h
    rw [hin] at hi
    rw [he] at hx
    unfold ixAgg at h
    split at h
    · rename_i len e hd
      obtain ⟨h1, h2, rfl⟩ := vPack_inv h
      simp only [Bool.and_eq_true, Nat.ble_eq, Nat.blt_eq] at h1
      obtain ⟨h1, h3, h4⟩ := h1
      have hn := inI_ok h1
      generalize hv : ρ x = xv at hx
      cases hx with
      | agg hl hr =>
      obtain ⟨y, h5, h6⟩ := part_ok (w := w) ⟨hl, hr⟩ h3 h4 h2
      obtain ⟨inf, hinf⟩ := info_of_szB (P := P) (t := e) (by omega)
      refine ⟨⟨y, ?_, h6⟩, rfl⟩
      unfold execOp
      rw [ho]
      simp only [Instr.index, Sem.run_bind, hi.int_inv, asIntOf, run_und hd, Result.andThen_ok, hv, Sem.run_pure]
      rw [Sem.run_ite, if_pos hn]
      simp only [Sem.run_bind, szB_ok hinf, Result.andThen_ok, h5]
    · cases h
  · cases h
theorem q_nil {x : Operand} (ho : o.op = .nilCheck x) (hx : RV G (ρ x) (ev x)) (h : oNil (ev x) M = .val r M') : Qu P G ρ o w r ∧ M' = M := by
  unfold oNil at h
  split at h
  case h_5 => cases h
  all_goals
    rename_i he
    cases h
    rw [he] at hx
    refine ⟨⟨ρ x, ?_, hx⟩, rfl⟩
    unfold execOp
    rw [ho]
    simp only
    generalize ρ x = xv at hx ⊢
    cases hx <;> rfl
theorem q_un {op : UnOp} {t : TypeId} {x : Operand} (ho : o.op = .unOp op t x) (hx : RV G (ρ x) (ev x)) (h : oUn op (ev x) M = .val r M') : Qu P G ρ o w r ∧ M' = M := by
  unfold oUn at h
  split at h
  case h_4 => cases h
  all_goals
    rename_i he
    cases h
    rw [he] at hx
    generalize hv : ρ x = xv at hx
    cases hx
    refine ⟨⟨_, by unfold execOp; rw [ho]; simp only [hv]; rfl, ?_⟩, rfl⟩
    first | exact .bool _ | (rw [wr_eq]; exact .int _ _)
theorem q_conv {s d : TypeId} {x : Operand} (ho : o.op = .convert s d x) (hx : RV G (ρ x) (ev x)) (h : hConv s d x P ev M 0 = .val r M') : Qu P G ρ o w r ∧ M' = M := by
  unfold hConv at h
  split at h
  · rename_i d0 hd0
    unfold oConv at h
    split at h
    · rename_i k kk n hd he
      cases h
      rw [he] at hx
      refine ⟨⟨_, ?_, by rw [wr_eq]; exact .int _ _⟩, rfl⟩
      unfold execOp
      rw [ho]
      simp only [convert, Sem.run_bind, run_und hd0, run_und hd, Result.andThen_ok, hx.int_inv]
      rfl
    · rename_i s2 hd he
      cases h
      rw [he] at hx
      refine ⟨⟨_, ?_, .str _⟩, rfl⟩
      unfold execOp
      rw [ho]
      simp only [convert, Sem.run_bind, run_und hd0, run_und hd, Result.andThen_ok, hx.str_inv]
      cases d0 <;> rfl
    · cases h
  · cases h
/-- Operands that need not be there. -/
def OptR (G : Gh) : Option Value → Option AV → Prop
  | none, none => True
  | some v, some a => RV G v a
  | _, _ => False
theorem OptR.of {x : Option Operand} (h : ∀ y, x = some y → RV G (ρ y) (ev y)) : OptR G (x.map ρ) (x.map ev) := by
  cases x with
  | none => trivial
  | some y => exact h y rfl
theorem slA_ok {isS : Bool} {len cap : Nat} {lo hi mx : Option AV} {lo' hi' mx' : Option Value} {l m : Nat} {f : Bool} (h1 : OptR G lo' lo) (h2 : OptR G hi' hi) (h3 : OptR G mx' mx) (hc : len ≤ cap) (h : slA len lo hi mx = some (true, l, m, f)) :
    ∃ hh mm, (Instr.sliceBounds isS len cap lo' hi' mx').run P w = .ok (l, hh, mm) w ∧ hh - l = m ∧ l ≤ hh ∧ hh ≤ len ∧ (f = true → mm = hh) ∧ (f = false → mm = cap) := by
  have opt : ∀ {v : Option AV} {v' : Option Value} {d n : Int}, OptR G v' v → optI d v = some n → (v' = none ∧ v = none ∧ n = d) ∨ ∃ k, v' = some (.int k n) := fun {v v' d n} hr e => by
    cases v with
    | none => cases v' with
      | none => cases e; exact .inl ⟨rfl, rfl, rfl⟩
      | some _ => exact hr.elim
    | some a => cases v' with
      | none => exact hr.elim
      | some x =>
        cases a with
        | int k n' => cases e; exact .inr ⟨k, by rw [RV.int_inv hr]⟩
        | _ => cases e
  unfold slA at h
  split at h
  · rename_i il ih e1 e2
    rcases mx with _ | mxa
    · have hmx : mx' = none := by cases mx' with | none => rfl | some _ => exact h3.elim
      subst hmx
      simp only [Option.some.injEq, Prod.mk.injEq, Bool.and_eq_true, leI_eq, decide_eq_true_eq] at h
      obtain ⟨⟨g1, g2, g3⟩, rfl, rfl, rfl⟩ := h
      have g3 : ih ≤ (len : Int) := g3
      refine ⟨ih.toNat, cap, ?_, by omega, by omega, by omega, fun e => (by cases e), fun _ => rfl⟩
      have B : ∀ (k : IntKind) (n : Int) (y : Nat) (code : BoundsCode), 0 ≤ n → n ≤ (y : Int) → (Instr.sliceBound (.int k n) y code).run P w = .ok n.toNat w := fun k n y code a b => run_sliceBound w k n y code a b
      rcases opt h1 e1 with ⟨rfl, _, rfl⟩ | ⟨k1, rfl⟩ <;> rcases opt h2 e2 with ⟨rfl, _, rfl⟩ | ⟨k2, rfl⟩
      · simp only [Instr.sliceBounds, Sem.run_bind, Sem.run_pure, Result.andThen_ok]; rfl
      · simp only [Instr.sliceBounds, Sem.run_bind, Sem.run_pure, Result.andThen_ok, B k2 ih cap _ g2 (by omega)]; rfl
      · have b1 := fun code => B k1 il len code g1 g2
        simp only [Instr.sliceBounds, Sem.run_bind, Sem.run_pure, Result.andThen_ok, b1]; rfl
      · have b1 := fun code => B k1 il ih.toNat code g1 (by omega)
        have b2 := fun code => B k2 ih cap code (by omega) (by omega)
        simp only [Instr.sliceBounds, Sem.run_bind, Sem.run_pure, Result.andThen_ok, b1, b2]
    · have hmx : ∃ mv, mx' = some mv ∧ RV G mv mxa := by cases mx' with | none => exact h3.elim | some mv => exact ⟨mv, rfl, h3⟩
      obtain ⟨mv, rfl, hmv⟩ := hmx
      change slA3 il ih len hi (asI mxa) = _ at h
      unfold slA3 at h
      split at h
      · rename_i hia im e3 e4
        simp only [Option.some.injEq, Prod.mk.injEq, Bool.and_eq_true, leI_eq, decide_eq_true_eq, eqI_eq, beq_iff_eq] at h
        obtain ⟨⟨g1, g2, g4, g3⟩, rfl, rfl, rfl⟩ := h
        subst g4
        have g3 : ih ≤ (len : Int) := g3
        have hm : ∃ k3, mv = .int k3 ih := by
          cases mxa with
          | int k n => cases e4; exact ⟨k, hmv.int_inv⟩
          | _ => cases e4
        obtain ⟨k3, rfl⟩ := hm
        refine ⟨ih.toNat, ih.toNat, ?_, by omega, by omega, by omega, fun _ => rfl, fun e => by cases e⟩
        have q1 : il ≤ ((ih.toNat : Nat) : Int) := by omega
        have q2 : ih ≤ ((ih.toNat : Nat) : Int) := by omega
        have q0 : (0 : Int) ≤ ih := by omega
        have q3 : ih ≤ (cap : Int) := by omega
        have B : ∀ (k : IntKind) (n : Int) (y : Nat) (code : BoundsCode), 0 ≤ n → n ≤ (y : Int) → (Instr.sliceBound (.int k n) y code).run P w = .ok n.toNat w := fun k n y code a b => run_sliceBound w k n y code a b
        have b3 := fun code => B k3 ih cap code q0 q3
        rcases opt h2 e2 with ⟨_, e5, _⟩ | ⟨k2, rfl⟩
        · cases e5
        · have b2 := fun code => B k2 ih ih.toNat code q0 q2
          rcases opt h1 e1 with ⟨rfl, _, rfl⟩ | ⟨k1, rfl⟩
          · simp only [Instr.sliceBounds, Sem.run_bind, Sem.run_pure, Result.andThen_ok, b3, b2]; rfl
          · have b1 := fun code => B k1 il ih.toNat code g1 q1
            simp only [Instr.sliceBounds, Sem.run_bind, Sem.run_pure, Result.andThen_ok, b3, b2, b1]
      · cases h
  · cases h
theorem dStr_inv {d : Option TypeDesc} (h : dStr d = true) : d = some .string := by
  unfold dStr at h
  split at h
  · rfl
  · cases h
theorem dSli_inv {d : Option TypeDesc} (h : dSli d = true) : ∃ e, d = some (.slice e) := by
  unfold dSli at h
  split at h
  · exact ⟨_, rfl⟩
  · cases h
theorem dMap_inv {d : Option TypeDesc} (h : dMap d = true) : ∃ k e, d = some (.map k e) := by
  unfold dMap at h
  split at h
  · exact ⟨_, _, rfl⟩
  · cases h
theorem bif_no {c : Bool} {x : AR} {n : Nat} (h : (bif c then x else AR.no n) = AR.val r M') : c = true ∧ x = AR.val r M' := by
  cases c with
  | true => exact ⟨rfl, h⟩
  | false => cases h
theorem q_slice {t : TypeId} {x : Operand} {lo hi mx : Option Operand} (ho : o.op = .slice t x lo hi mx) (hx : RV G (ρ x) (ev x)) (hlo : ∀ y, lo = some y → RV G (ρ y) (ev y)) (hhi : ∀ y, hi = some y → RV G (ρ y) (ev y)) (hmx : ∀ y, mx = some y → RV G (ρ y) (ev y))
    (h : oSlice P (undB P t) (ev x) (lo.map ev) (hi.map ev) (mx.map ev) M = .val r M') : Qu P G ρ o w r ∧ M' = M := by
  have r1 := OptR.of hlo
  have r2 := OptR.of hhi
  have r3 := OptR.of hmx
  unfold oSlice at h
  split at h
  · rename_i s he
    obtain ⟨hd, h⟩ := bif_no h
    have hd := dStr_inv hd
    unfold oSliceStr at h
    split at h
    · rename_i b l n f hsl hm0
      obtain ⟨rfl, rfl, rfl⟩ := bif_val h
      rw [he] at hx
      have hmn : mx = none := by cases mx with | none => rfl | some y => cases hm0
      subst hmn
      obtain ⟨hh, mm, hb, rfl, hlh, hhn, _, _⟩ := slA_ok (P := P) (w := w) (isS := false) (cap := s.data.toList.length) r1 r2 r3 (Nat.le_refl _) hsl
      refine ⟨⟨.string (s.extract l hh), ?_, ?_⟩, rfl⟩
      · unfold execOp
        rw [ho]
        have hb' : (Instr.sliceBounds false s.size s.size (lo.map ρ) (hi.map ρ) none).run P w = .ok (l, hh, mm) w := hb
        simp only [Instr.sliceAt, Instr.slice, Sem.run_bind, run_und hd, Result.andThen_ok, hx.str_inv, Option.map_none, Option.isSome_none, Bool.false_eq_true, if_false, Sem.run_pure, hb']
      · have : s.extract l hh = ⟨((s.data.toList.drop l).take (hh - l)).toArray⟩ := by
          apply ByteArray.ext
          rw [ByteArray.data_extract]
          apply Array.ext'
          rw [Array.toList_extract]
        rw [this]
        exact .str _
    · cases h
  · rename_i nl full n g he
    obtain ⟨hd, h⟩ := bif_no h
    obtain ⟨e, hd⟩ := dSli_inv hd
    unfold oSliceLst at h
    split at h
    · rename_i b l m f hsl
      obtain ⟨h1, rfl, rfl⟩ := bif_val h
      simp only [Bool.and_eq_true, Bool.or_eq_true, Nat.beq_eq, Nat.blt_eq] at h1
      obtain ⟨rfl, h0, h1⟩ := h1
      have hsz0 : sliceSz P (undB P t) = szB P e := by rw [hd]; rfl
      rw [hsz0] at h0 h1
      rw [he] at hx
      obtain ⟨inf, hinf⟩ := info_of_szB (P := P) (t := e) (by omega)
      have run : ∀ (a : Option Addr) (len cap l hh mm : Nat), ρ x = .slice a len cap → (Instr.sliceBounds true len cap (lo.map ρ) (hi.map ρ) (mx.map ρ)).run P w = .ok (l, hh, mm) w → (execOp ρ o).run P w = .ok (.value (.slice (if mm = l then a else a.map (·.add (l * szB P e))) (hh - l) (mm - l))) w := fun a len cap l hh mm hv hb => by
        unfold execOp
        rw [ho]
        simp only [Instr.sliceAt, Instr.slice, Sem.run_bind, run_und hd, Result.andThen_ok, hv, hb, szB_ok hinf, Sem.run_pure]
      generalize hv : ρ x = xv at hx
      cases hx with
      | lstn =>
        obtain ⟨hh, mm, hb, rfl, hlh, hhn, q1, q2⟩ := slA_ok (P := P) (w := w) (isS := true) (cap := 0) r1 r2 r3 (Nat.le_refl _) hsl
        obtain rfl : hh = 0 := by omega
        obtain rfl : l = 0 := by omega
        have hmm : mm = 0 := by cases f with | true => exact q1 rfl | false => exact q2 rfl
        subst hmm
        exact ⟨⟨_, run _ _ _ _ _ _ hv hb, .lstn⟩, rfl⟩
      | lst vs hc hf hsz hcon hr =>
        rename_i b oo cap sz _
        obtain ⟨hh, mm, hb, rfl, hlh, hhn, q1, q2⟩ := slA_ok (P := P) (w := w) (isS := true) r1 r2 r3 hc hsl
        have hmm : hh ≤ mm ∧ mm ≤ cap := by
          cases f with
          | true => have := q1 rfl; omega
          | false => have := q2 rfl; omega
        refine ⟨⟨_, run _ _ _ _ _ _ hv hb, ?_⟩, rfl⟩
        by_cases h00 : hh - l = 0
        · rw [show (if mm = l then some (⟨b, oo, none⟩ : Addr) else (some (⟨b, oo, none⟩ : Addr)).map (·.add (l * szB P e))) = some ⟨b, if mm = l then oo else oo + l * szB P e, none⟩ by split <;> simp [add_none]]
          exact .lst (sz := 0) (fun _ _ => .nilIface) (by omega) (fun e1 => by
            have : f = true := by simpa using e1
            have := q1 this
            omega) (fun i hi => by omega) (fun i j a hi => by omega) (fun i j a hi => by omega)
        · have hgl : (g l).length = szB P e := by
            rcases h1 with h1 | h1
            · exact absurd h1 h00
            · exact h1
          have hszl := hsz l (by omega)
          rw [hgl] at hszl
          rw [if_neg (by omega)]
          simp only [Option.map_some, add_none]
          refine .lst (sz := sz) (fun i j => vs (l + i) j) (by omega) (fun e1 => by
            have : f = true := by simpa using e1
            have := q1 this
            omega) (fun i hi => hsz _ (by omega)) (fun i j a hi e1 => ?_) (fun i j a hi e1 => hr _ j a (by omega) e1)
          have := hcon (l + i) j a (by omega) e1
          rw [hszl, show oo + l * sz + (i * sz + j) = oo + ((l + i) * sz + j) by rw [Nat.add_mul]; omega]
          exact this
    · cases h
  · rename_i id off len full sz he
    obtain ⟨hd, h⟩ := bif_no h
    obtain ⟨e, hd⟩ := dSli_inv hd
    unfold oSliceSl at h
    split at h
    · rename_i b l m f hsl
      obtain ⟨h1, rfl, rfl⟩ := bif_val h
      simp only [Bool.and_eq_true, Nat.beq_eq, Nat.blt_eq] at h1
      obtain ⟨rfl, h0, h1⟩ := h1
      have hsz0 : sliceSz P (undB P t) = szB P e := by rw [hd]; rfl
      rw [hsz0] at h0 h1
      subst h1
      rw [he] at hx
      obtain ⟨inf, hinf⟩ := info_of_szB (P := P) (t := e) (by omega)
      generalize hv : ρ x = xv at hx
      cases hx with
      | sl hp hc hf ht hoo =>
      rename_i b base cap oo
      obtain ⟨hh, mm, hb, rfl, hlh, hhn, q1, q2⟩ := slA_ok (P := P) (w := w) (isS := true) r1 r2 r3 hc hsl
      have hmm : hh ≤ mm ∧ mm ≤ cap := by
        cases f with
        | true => have := q1 rfl; omega
        | false => have := q2 rfl; omega
      refine ⟨⟨.slice (some ⟨b, if mm = l then oo else oo + l * szB P e, none⟩) (hh - l) (mm - l), ?_, ?_⟩, rfl⟩
      · unfold execOp
        rw [ho]
        simp only [Instr.sliceAt, Instr.slice, Sem.run_bind, run_und hd, Result.andThen_ok, hv, hb, szB_ok hinf, Sem.run_pure]
        congr 3
        split <;> simp [add_none]
      · have hle : (off + l + (mm - l)) * szB P e ≤ (off + cap) * szB P e := Nat.mul_le_mul_right _ (by omega)
        refine .sl hp (by omega) (fun e1 => ?_) (by omega) ?_
        · simp only [Bool.or_eq_true, Bool.and_eq_true, Nat.beq_eq] at e1
          rcases e1 with e1 | ⟨e1, e2⟩
          · have := q1 e1; omega
          · have := hf e1
            cases f with
            | true => have := q1 rfl; omega
            | false => have := q2 rfl; omega
        · by_cases hml : mm = l
          · exact .inl (by omega)
          · rw [if_neg hml]
            rcases hoo with e1 | e1
            · omega
            · exact .inr (by rw [e1, Nat.add_mul]; omega)
    · cases h
  · cases h
end
end Go.Proofs.YtbknpfckdnladaaGreat
