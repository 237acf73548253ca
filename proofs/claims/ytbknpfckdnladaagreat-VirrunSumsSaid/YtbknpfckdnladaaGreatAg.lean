/- Operations that look: lengths, maps, literals. No condition. -/
import Derived.Test.YtbknpfckdnladaaGreatAf
set_option linter.unusedVariables false
set_option maxHeartbeats 4000000
namespace Go.Proofs.YtbknpfckdnladaaGreat
section
variable {P : Program} {G : Gh} {ρ : Operand → Value} {ev : Operand → AV} {o : Oper} {w : World} {M M' : Mem} {r : AV}
theorem run_getObj' {b : Nat} {ob : Obj} (h : w.heap[b]? = some ob) (hn : ∀ c t f, ob ≠ .cells c t f) : (getObj b).run P w = .ok ob w := by
  cases ob <;> first | exact absurd rfl (hn _ _ _) | simp [getObj, Sem.run, h]
theorem run_getMap {b : Nat} {e : Array MapEntry} {c : Nat} (h : w.heap[b]? = some (.map e c)) : (getObj b).run P w = .ok (.map e c) w := run_getObj' h (fun _ _ _ e => by cases e)
theorem vInt_inv {b : Bool} {n : Nat} (h : vInt b n M = .val r M') : b = true ∧ r = .int .i64 (.ofNat n) ∧ M' = M := bif_val h
def lenSem (d : TypeDesc) (x : Value) : Sem Value := match d, x with
  | .string, .string s => pure (goInt s.size)
  | .array n _, _ => pure (goInt n)
  | .pointer arr, _ => do
    let .array n _ ← underlying arr | stuck "len: pointer to array expected"
    pure (goInt n)
  | .slice _, .slice _ n _ => pure (goInt n)
  | .map _ _, .map none | .chan _ _, .chan none => pure (goInt 0)
  | .map _ _, .map (some r) => do
    let .map entries _ ← getObj r | stuck "len: map expected"
    pure (goInt entries.size)
  | .chan _ _, .chan (some r) => do
    let .chan _ buf _ _ _ timer ← getObj r | stuck "len: channel expected"
    pure (goInt (if timer then 0 else buf.size))
  | _, _ => stuck "len: string, array, pointer to array, slice, map or channel expected"
theorem len_ok {t : TypeId} {ts : List TypeId} {ty : TypeId} {x : Value} {a : AV} (hs : St G w M) (hx : RV G x a) (h : oLen (undB P t) a M = .val r M') :
    ∃ n : Nat, (Builtin.len_ ⟨t :: ts⟩ ty #[x]).run P w = .ok (goInt n) w ∧ r = .int .i64 (.ofNat n) ∧ M' = M := by
  unfold oLen at h
  have run : ∀ {d : TypeDesc} {n : Nat}, undB P t = some d → (lenSem d x).run P w = .ok (goInt n) w → (Builtin.len_ ⟨t :: ts⟩ ty #[x]).run P w = .ok (goInt n) w := fun {d n} hd e => by
    unfold Builtin.len_
    simp only [List.getElem?_toArray, List.getElem?_cons_zero, Sem.run_bind, run_und hd, Result.andThen_ok]
    exact e
  split at h
  · rename_i s
    obtain ⟨hd, rfl, rfl⟩ := vInt_inv h
    have hd := dStr_inv hd
    refine ⟨s.size, run hd ?_, rfl, rfl⟩
    rw [hx.str_inv]; rfl
  · rename_i nl fu n g
    obtain ⟨hd, rfl, rfl⟩ := vInt_inv h
    obtain ⟨e, hd⟩ := dSli_inv hd
    refine ⟨n, run hd ?_, rfl, rfl⟩
    cases hx <;> rfl
  · rename_i id off n fu sz
    obtain ⟨hd, rfl, rfl⟩ := vInt_inv h
    obtain ⟨e, hd⟩ := dSli_inv hd
    refine ⟨n, run hd ?_, rfl, rfl⟩
    cases hx; rfl
  · obtain ⟨hd, rfl, rfl⟩ := vInt_inv h
    obtain ⟨k, e, hd⟩ := dMap_inv hd
    refine ⟨0, run hd ?_, rfl, rfl⟩
    cases hx; rfl
  · rename_i id
    split at h
    · rename_i es hb
      obtain ⟨hd, rfl, rfl⟩ := vInt_inv h
      obtain ⟨k, e, hd⟩ := dMap_inv hd
      cases hx with
      | map hp =>
      obtain ⟨_, ents, clock, hc, hl, _⟩ := hs.blk _ _ _ _ hb hp
      refine ⟨es.length, run hd ?_, rfl, rfl⟩
      simp only [lenSem, Sem.run_bind, run_getMap hc, Result.andThen_ok, Sem.run_pure, hl]
    · cases h
  · cases h
/-- Keys. -/
theorem keyEq_ok {d : Option TypeDesc} {k a : AV} {x y : Value} {b : Bool} (hx : RV G x k) (hy : RV G y a) (h : keyEq k d a = some b) : ∃ d0, d = some d0 ∧ Instr.sameNow d0 x y = some b := by
  have gdi : ∀ {c : Bool} {z : Option Bool}, gd c z = some b → c = true ∧ z = some b := fun {c z} e => by
    cases c with
    | true => exact ⟨rfl, e⟩
    | false => cases e
  unfold keyEq at h
  split at h
  · unfold kyBool at h
    split at h
    · obtain ⟨h1, h2⟩ := gdi h
      cases h2
      rw [hx.bool_inv, hy.bool_inv]
      unfold dBool at h1
      split at h1
      · exact ⟨_, rfl, rfl⟩
      · cases h1
    · cases h
  · unfold kyInt at h
    split at h
    · obtain ⟨h1, h2⟩ := gdi h
      cases h2
      simp only [Bool.and_eq_true] at h1
      have hk := kEq_ok h1.2
      subst hk
      rw [hx.int_inv, hy.int_inv, eqI_eq]
      have h1 := h1.1
      unfold dInt at h1
      split at h1
      · exact ⟨_, rfl, by simp [Instr.sameNow]⟩
      · cases h1
    · cases h
  · unfold kyStr at h
    split at h
    · rename_i s1 _ s2
      obtain ⟨h1, h2⟩ := gdi h
      cases h2
      rw [hx.str_inv, hy.str_inv, beqU_eq]
      unfold dStr at h1
      split at h1
      · refine ⟨_, rfl, ?_⟩
        simp only [Instr.sameNow, Option.some.injEq]
        have e : ((ByteArray.mk s1.data == ByteArray.mk s2.data) = true) ↔ s1.data = s2.data := by
          show (s1.data == s2.data) = true ↔ _
          simp
        rw [Bool.eq_iff_iff]
        simp only [beq_iff_eq, Array.toList_inj]
        exact e
      · cases h1
    · cases h
  · cases h
theorem keyOk_ok {d : Option TypeDesc} {k : AV} {x : Value} (hx : RV G x k) (h : keyOk d k = true) : ∃ d0, d = some d0 ∧ ((∃ kk, d0 = .int kk) ∨ d0 = .string ∨ d0 = .bool) := by
  unfold keyOk at h
  split at h
  · unfold dBool at h
    split at h
    · exact ⟨_, rfl, .inr (.inr rfl)⟩
    · cases h
  · unfold dInt at h
    split at h
    · exact ⟨_, rfl, .inl ⟨_, rfl⟩⟩
    · cases h
  · unfold dStr at h
    split at h
    · exact ⟨_, rfl, .inr (.inl rfl)⟩
    · cases h
  · cases h
/-- Entries that go together. -/
def EntR (G : Gh) (ents : List MapEntry) (es : List (AV × AV)) : Prop := ents.length = es.length ∧ ∀ (j : Nat) (e : MapEntry) (p : AV × AV), ents[j]? = some e → es[j]? = some p → RV G e.key p.1 ∧ RV G e.val p.2
theorem EntR.tail {G : Gh} {e : MapEntry} {l : List MapEntry} {p : AV × AV} {es : List (AV × AV)} (h : EntR G (e :: l) (p :: es)) : (RV G e.key p.1 ∧ RV G e.val p.2) ∧ EntR G l es :=
  ⟨h.2 0 e p rfl rfl, by have := h.1; simpa using this, fun j e' p' a b => h.2 (j + 1) e' p' a b⟩
theorem findE_ok {d : Option TypeDesc} {k : AV} {x : Value} (hx : RV G x k) : ∀ (es : List (AV × AV)) (ents : List MapEntry) (i : Nat) (q : Option AV), EntR G ents es → findE d k es = some q →
    ∃ d0, d = some d0 ∧ ((∃ kk, d0 = .int kk) ∨ d0 = .string ∨ d0 = .bool) ∧ ∃ z, Instr.findNow d0 x ents i = some z ∧ (match q, z with | some a, some (_, v) => RV G v a | none, none => True | _, _ => False)
  | [], ents, i, q, hr, h => by
    have : ents = [] := List.length_eq_zero_iff.1 hr.1
    subst this
    unfold findE at h
    cases hk : keyOk d k with
    | false => rw [hk] at h; cases h
    | true =>
      rw [hk] at h
      cases h
      obtain ⟨d0, h1, h2⟩ := keyOk_ok hx hk
      exact ⟨d0, h1, h2, none, rfl, trivial⟩
  | (a, u) :: es, ents, i, q, hr, h => by
    match ents, hr with
    | e :: ents, hr =>
    obtain ⟨⟨hk, hv⟩, ht⟩ := hr.tail
    unfold findE at h
    split at h
    · rename_i he
      cases h
      obtain ⟨d0, h1, h2⟩ := keyEq_ok hx hk he
      refine ⟨d0, h1, ?_, some (i, e.val), by simp [Instr.findNow, h2], hv⟩
      unfold Instr.sameNow at h2
      split at h2 <;> first | exact .inl ⟨_, rfl⟩ | exact .inr (.inl rfl) | exact .inr (.inr rfl) | cases h2
    · rename_i he
      obtain ⟨d0, h1, h2⟩ := keyEq_ok hx hk he
      obtain ⟨d1, h3, h4, z, h5, h6⟩ := findE_ok hx es ents (i + 1) q ht h
      rw [h1] at h3
      cases h3
      exact ⟨d0, h1, h4, z, by simp [Instr.findNow, h2, h5], h6⟩
    · cases h
theorem checkKey_ok {d0 : TypeDesc} {kt : TypeId} {x : Value} {b : Bool} (hd : undB P kt = some d0) (h : (∃ kk, d0 = .int kk) ∨ d0 = .string ∨ d0 = .bool) : (Instr.checkKey b 10000 kt x).run P w = .ok () w := by
  have : ∀ n, (Instr.checkKey b (n + 1) kt x).run P w = .ok () w := fun n => by
    unfold Instr.checkKey
    simp only [Sem.run_bind, run_und hd, Result.andThen_ok]
    rcases h with ⟨kk, rfl⟩ | rfl | rfl <;> cases x <;> rfl
  exact this 9999
theorem mapK_inv {t : TypeId} {d0 : TypeDesc} (h : mapK P t = some d0) : ∃ k e, undB P t = some (.map k e) ∧ undB P k = some d0 ∧ mapZ P t = zeroB P e := by
  unfold mapK at h
  unfold mapZ
  split at h
  · rename_i k e hd
    rw [hd]
    exact ⟨k, e, rfl, h, rfl⟩
  · cases h
theorem lkB_cons (n v : Int) (l : List (Int × Int)) (m : Int) : lkB ((n, v) :: l) m = if m = n then true else lkB l m := by
  show (bif eqI m n then true else lkB l m) = _
  rw [eqI_eq]
  by_cases h : m = n
  · subst h; simp
  · rw [show (m == n) = false by simpa using h, if_neg h]; rfl
theorem lkV_cons (n v : Int) (l : List (Int × Int)) (m : Int) : lkV ((n, v) :: l) m = if m = n then v else lkV l m := by
  show (bif eqI m n then v else lkV l m) = _
  rw [eqI_eq]
  by_cases h : m = n
  · subst h; simp
  · rw [show (m == n) = false by simpa using h, if_neg h]; rfl
theorem lkV_none : ∀ (l : List (Int × Int)) (m : Int), lkB l m = false → lkV l m = 0
  | [], m, h => rfl
  | (n, v) :: l, m, h => by
    rw [lkB_cons] at h
    rw [lkV_cons]
    by_cases e : m = n
    · rw [if_pos e] at h; cases h
    · rw [if_neg e] at h ⊢
      exact lkV_none l m h
theorem fI_cons {e : MapEntry} {es : List MapEntry} {kk kv : IntKind} {m v : Int} (h1 : e.key = .int kk m) (h2 : e.val = .int kv v) (n : Int) : fI (e :: es) n = if m = n then some v else fI es n := by
  simp only [fI, h1, h2]
/-- A number's place in a map of numbers. -/
theorem findI_ok (k0 kk kv : IntKind) (n : Int) : ∀ (ents : List MapEntry) (i : Nat), IntE kk kv ents → ∃ z, Instr.findNow (.int k0) (.int kk n) ents i = some z ∧ (match z with
    | some (j, v) => i ≤ j ∧ (∃ e, ents[j - i]? = some e ∧ e.key = .int kk n) ∧ (∃ x, v = .int kv x ∧ fI ents n = some x) ∧ ∀ y, IntE kk kv (ents.modify (j - i) fun e => { e with key := .int kk n, val := .int kv y }) ∧ ∀ m, fI (ents.modify (j - i) fun e => { e with key := .int kk n, val := .int kv y }) m = if m = n then some y else fI ents m
    | none => fI ents n = none ∧ ∀ c y, IntE kk kv (ents ++ [{ key := .int kk n, val := .int kv y, born := c }]) ∧ ∀ m, fI (ents ++ [{ key := .int kk n, val := .int kv y, born := c }]) m = if m = n then some y else fI ents m)
  | [], i, h => by
    refine ⟨none, rfl, rfl, fun c y => ⟨fun e he => ?_, fun m => ?_⟩⟩
    · have : e = { key := .int kk n, val := .int kv y, born := c } := by simpa using he
      subst this
      exact ⟨n, y, rfl, rfl⟩
    · rw [List.nil_append, fI_cons (kk := kk) (kv := kv) (m := n) (v := y) rfl rfl]
      by_cases e : m = n
      · rw [if_pos e, if_pos e.symm]
      · rw [if_neg e, if_neg (Ne.symm e)]
  | e :: es, i, h => by
    obtain ⟨a, b, ha, hb⟩ := h e (List.mem_cons_self ..)
    have ht : IntE kk kv es := fun x hx => h x (List.mem_cons_of_mem _ hx)
    have hs : Instr.sameNow (.int k0) (.int kk n) e.key = some (decide (n = a)) := by rw [ha]; simp [Instr.sameNow]; try rfl
    by_cases hn : n = a
    · subst hn
      rw [decide_eq_true rfl] at hs
      refine ⟨some (i, e.val), by simp [Instr.findNow, hs], Nat.le_refl _, ⟨e, by simp, ha⟩, ⟨b, hb, by rw [fI_cons ha hb, if_pos rfl]⟩, fun y => ?_⟩
      rw [Nat.sub_self, List.modify_zero_cons]
      refine ⟨fun x hx => ?_, fun m => ?_⟩
      · rcases List.mem_cons.1 hx with rfl | hx
        · exact ⟨n, y, rfl, rfl⟩
        · exact ht x hx
      · rw [fI_cons (kk := kk) (kv := kv) (m := n) (v := y) rfl rfl, fI_cons ha hb]
        by_cases e : m = n
        · rw [if_pos e, if_pos e.symm]
        · rw [if_neg e, if_neg (Ne.symm e), if_neg (Ne.symm e)]
    · rw [decide_eq_false hn] at hs
      obtain ⟨z, h1, h2⟩ := findI_ok k0 kk kv n es (i + 1) ht
      refine ⟨z, by simp [Instr.findNow, hs, h1], ?_⟩
      match z, h2 with
      | some (j, v), ⟨g1, ⟨e0, g2, g3⟩, ⟨x, g4, g5⟩, g6⟩ =>
        have hj : j - i = (j - (i + 1)) + 1 := by omega
        refine ⟨by omega, ⟨e0, by rw [hj, List.getElem?_cons_succ]; exact g2, g3⟩, ⟨x, g4, by rw [fI_cons ha hb, if_neg (Ne.symm hn)]; exact g5⟩, fun y => ?_⟩
        rw [hj, List.modify_succ_cons]
        refine ⟨fun x hx => ?_, fun m => ?_⟩
        · rcases List.mem_cons.1 hx with rfl | hx
          · exact ⟨a, b, ha, hb⟩
          · exact (g6 y).1 x hx
        · rw [fI_cons ha hb, fI_cons ha hb, (g6 y).2 m]
          by_cases e : m = n
          · subst e
            rw [if_neg (Ne.symm hn), if_pos rfl, if_pos rfl]
          · rw [if_neg e, if_neg e]
      | none, ⟨g1, g2⟩ =>
        refine ⟨by rw [fI_cons ha hb, if_neg (Ne.symm hn)]; exact g1, fun c y => ⟨fun x hx => ?_, fun m => ?_⟩⟩
        · rcases List.mem_cons.1 hx with rfl | hx
          · exact ⟨a, b, ha, hb⟩
          · exact (g2 c y).1 x hx
        · rw [List.cons_append, fI_cons ha hb, fI_cons ha hb, (g2 c y).2 m]
          by_cases e : m = n
          · subst e
            rw [if_neg (Ne.symm hn), if_pos rfl, if_pos rfl]
          · rw [if_neg e, if_neg e]
theorem dInt_some {d : Option TypeDesc} (h : dInt d = true) : ∃ k0, d = some (.int k0) := by
  unfold dInt at h
  split at h
  · exact ⟨_, rfl⟩
  · cases h
theorem q_lookup {t : TypeId} {m k : Operand} {ok : Bool} (ho : o.op = .lookup t m k ok) (hs : St G w M) (hm : RV G (ρ m) (ev m)) (hk : RV G (ρ k) (ev k)) (h : oLookup (mapK P t) (mapZ P t) (ev m) (ev k) ok M = .val r M') : Qu P G ρ o w r ∧ M' = M := by
  have key : ∀ (ents : List MapEntry) (es : List (AV × AV)), EntR G ents es → (∀ kt et, undB P t = some (.map kt et) → (execOp ρ o).run P w = ((do
      Instr.checkKey ents.toArray.isEmpty 10000 kt (ρ k)
      let (v, ok') ← match ← Instr.findKey kt (ρ k) ents with
        | some (_, v) => pure (v, true)
        | none => pure (← zeroValue et, false)
      pure (if ok then .tuple #[v, .bool ok'] else v) : Sem Value).run P w).andThen fun x w => .ok (.value x) w) → oLook1 (mapZ P t) ok M (findE (mapK P t) (ev k) es) = .val r M' → Qu P G ρ o w r ∧ M' = M := fun ents es hr hrun h => by
    unfold oLook1 at h
    split at h
    · rename_i a hf
      obtain ⟨d0, h1, h2, z, h3, h4⟩ := findE_ok hk es ents 0 (some a) hr hf
      obtain ⟨kt, et, h5, h6, h7⟩ := mapK_inv h1
      match z, h3, h4 with
      | some (j, v), h3, h4 =>
      cases h
      refine ⟨⟨_, ?_, h4.ok ok true⟩, rfl⟩
      rw [hrun kt et h5]
      simp only [Sem.run_bind, checkKey_ok h6 h2, Result.andThen_ok, Instr.findKey, run_und h6, h3, Sem.run_pure]
    · rename_i z0 hf hz
      obtain ⟨d0, h1, h2, z, h3, h4⟩ := findE_ok hk es ents 0 none hr hf
      obtain ⟨kt, et, h5, h6, h7⟩ := mapK_inv h1
      match z, h3, h4 with
      | none, h3, h4 =>
      cases h
      rw [h7] at hz
      obtain ⟨zv, h8, h9⟩ := zeroB_ok (G := G) hz w
      refine ⟨⟨_, ?_, h9.ok ok false⟩, rfl⟩
      rw [hrun kt et h5]
      simp only [Sem.run_bind, checkKey_ok h6 h2, Result.andThen_ok, Instr.findKey, run_und h6, h3, Sem.run_pure, h8]
    · cases h
  unfold oLookup at h
  split at h
  · rename_i id he
    split at h
    · rename_i es hb
      rw [he] at hm
      generalize hv : ρ m = mv at hm
      cases hm with
      | map hp =>
      obtain ⟨_, ents, clock, hc, hl, hr⟩ := hs.blk _ _ _ _ hb hp
      refine key ents.toList es ⟨by simpa using hl, fun j e p h1 h2 => hr j e p (by simpa using h1) h2⟩ (fun kt et hd => ?_) h
      unfold execOp
      rw [ho]
      simp only [Instr.lookup, Sem.run_bind, run_und hd, Result.andThen_ok, hv, run_getMap hc, Sem.run_pure]
      rfl
    · rename_i kk kv l hb
      rw [he] at hm
      generalize hv : ρ m = mv at hm
      cases hm with
      | map hp =>
      obtain ⟨_, ents, clock, hc, hI1, hI2⟩ := hs.blk _ _ _ _ hb hp
      unfold oLookI at h
      split at h
      · rename_i k' n kz n0 hke hz
        obtain ⟨h0, rfl, rfl⟩ := bif_val h
        simp only [Bool.and_eq_true] at h0
        obtain ⟨a1, a2, a3, a4⟩ := h0
        have a2 := kEq_ok a2
        have a3 := kEq_ok a3
        subst a2
        subst a3
        have a4 : n0 = 0 := by rw [eqI_eq] at a4; simpa using a4
        subst a4
        rw [hke] at hk
        have hkv := hk.int_inv
        obtain ⟨k0, a1⟩ := dInt_some a1
        obtain ⟨kt, et, h5, h6, h7⟩ := mapK_inv a1
        rw [h7] at hz
        obtain ⟨zv, h8, h9⟩ := zeroB_ok (G := G) hz w
        obtain ⟨z, h3, h4⟩ := findI_ok k0 k' kz n ents.toList 0 hI1
        have hr := hI2 n
        have hrun : ∀ (v : Value) (q : Bool), RV G v (.int kz (lkV l n)) → lkB l n = q → (execOp ρ o).run P w = .ok (.value (if ok then .tuple #[v, .bool q] else v)) w → Qu P G ρ o w (bif ok then .tup [.int kz (lkV l n), .bool (lkB l n)] else .int kz (lkV l n)) := fun v q r1 r2 r3 => ⟨_, r3, by rw [r2]; exact r1.ok ok q⟩
        refine ⟨?_, rfl⟩
        match z, h3, h4 with
        | some (j, v), h3, ⟨_, _, ⟨x, hv2, hx⟩, _⟩ =>
          subst hv2
          rw [hx] at hr
          cases hq : lkB l n with
          | false => rw [hq] at hr; simp at hr
          | true =>
            rw [hq] at hr
            simp only [if_true, Option.some.injEq] at hr
            rw [← hq]
            refine hrun (.int kz x) true (by rw [← hr]; exact .int _ _) hq ?_
            unfold execOp
            rw [ho]
            simp only [Instr.lookup, Sem.run_bind, run_und h5, Result.andThen_ok, hv, run_getMap hc, Sem.run_pure, checkKey_ok h6 (.inl ⟨_, rfl⟩), Instr.findKey, run_und h6, hkv, h3]
        | none, h3, ⟨hx, _⟩ =>
          rw [hx] at hr
          cases hq : lkB l n with
          | true => rw [hq] at hr; simp at hr
          | false =>
            rw [← hq]
            refine hrun zv false (by rw [lkV_none l n hq]; exact h9) hq ?_
            unfold execOp
            rw [ho]
            simp only [Instr.lookup, Sem.run_bind, run_und h5, Result.andThen_ok, hv, run_getMap hc, Sem.run_pure, checkKey_ok h6 (.inl ⟨_, rfl⟩), Instr.findKey, run_und h6, hkv, h3, h8]
      · cases h
    · cases h
  · rename_i es he
    rw [he] at hm
    generalize hv : ρ m = mv at hm
    cases hm with
    | cmap hcb hl hk1 hv1 =>
    rename_i b ents
    obtain ⟨clock, hc⟩ := hs.cob _ _ hcb
    refine key ents.toList es ⟨by simpa using hl, fun j e p h1 h2 => ⟨hk1 j e p (by simpa using h1) h2, hv1 j e p (by simpa using h1) h2⟩⟩ (fun kt et hd => ?_) h
    unfold execOp
    rw [ho]
    simp only [Instr.lookup, Sem.run_bind, run_und hd, Result.andThen_ok, hv, run_getMap hc, Sem.run_pure]
    rfl
  · rename_i he
    rw [he] at hm
    generalize hv : ρ m = mv at hm
    cases hm
    refine key [] [] ⟨rfl, fun j e p h1 => by simp at h1⟩ (fun kt et hd => ?_) h
    unfold execOp
    rw [ho]
    simp only [Instr.lookup, Sem.run_bind, run_und hd, Result.andThen_ok, hv, Sem.run_pure]
    rfl
  · cases h
end
end Go.Proofs.YtbknpfckdnladaaGreat
