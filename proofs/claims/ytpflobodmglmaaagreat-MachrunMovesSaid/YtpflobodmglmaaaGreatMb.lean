/- Several texts joined. No condition. -/
import Derived.Test.YtpflobodmglmaaaGreatMa
import Derived.Laws.Tables
import Derived.Laws.CopyRow
import Derived.Room.Entries
import Derived.Deep.DeepAppendWide
set_option linter.unusedVariables false
set_option maxHeartbeats 4000000
namespace Go.Proofs.YtpflobodmglmaaaGreat
section
variable {P : Program} {G : Gh} {ρ : Operand → Value} {ev : Operand → AV} {o : Oper} {w : World} {M M' : Mem} {r : AV}
theorem run_getObj' {b : Nat} {ob : Obj} (h : w.heap[b]? = some ob) (hn : ∀ c t f, ob ≠ .cells c t f) : (getObj b).run P w = .ok ob w := by
  cases ob <;> first | exact absurd rfl (hn _ _ _) | simp [getObj, Sem.run, h]
theorem run_getMap {b : Nat} {e : Array MapEntry} {c : Nat} (h : w.heap[b]? = some (.map e c)) : (getObj b).run P w = .ok (.map e c) w := run_getObj' h (fun _ _ _ e => by cases e)
theorem vInt_inv {b : Bool} {n : Nat} (h : vInt b n M = .val r M') : b = true ∧ r = .int .i64 (.ofNat n) ∧ M' = M := bif_val h
def lenSem (d : TypeDesc) (x : Value) : Sem Value := match d, x with
  | .string, .string s => pure (goInt s.size)
  | .array n _, _ => pure (goInt n)
  | .pointer arr, _ => do
    let .array n _ ← underlying arr | stuck "len: pointer to array expected"
    pure (goInt n)
  | .slice _, .slice _ n _ => pure (goInt n)
  | .map _ _, .map none | .chan _ _, .chan none => pure (goInt 0)
  | .map _ _, .map (some r) => do
    let .map entries _ ← getObj r | stuck "len: map expected"
    pure (goInt entries.size)
  | .chan _ _, .chan (some r) => do
    let .chan _ buf _ _ _ timer ← getObj r | stuck "len: channel expected"
    pure (goInt (if timer then 0 else buf.size))
  | _, _ => stuck "len: string, array, pointer to array, slice, map or channel expected"
theorem len_ok {t : TypeId} {ts : List TypeId} {ty : TypeId} {x : Value} {a : AV} (hs : St G w M) (hx : RV G x a) (h : oLen (undB P t) a M = .val r M') :
    ∃ n : Nat, (Builtin.len_ ⟨t :: ts⟩ ty #[x]).run P w = .ok (goInt n) w ∧ r = .int .i64 (.ofNat n) ∧ M' = M := by
  unfold oLen at h
  have run : ∀ {d : TypeDesc} {n : Nat}, undB P t = some d → (lenSem d x).run P w = .ok (goInt n) w → (Builtin.len_ ⟨t :: ts⟩ ty #[x]).run P w = .ok (goInt n) w := fun {d n} hd e => by
    unfold Builtin.len_
    simp only [List.getElem?_toArray, List.getElem?_cons_zero, Sem.run_bind, run_und hd, Result.andThen_ok]
    exact e
  split at h
  · rename_i s
    obtain ⟨hd, rfl, rfl⟩ := vInt_inv h
    have hd := dStr_inv hd
    refine ⟨s.size, run hd ?_, rfl, rfl⟩
    rw [hx.str_inv]; rfl
  · rename_i nl fu n g
    obtain ⟨hd, rfl, rfl⟩ := vInt_inv h
    obtain ⟨e, hd⟩ := dSli_inv hd
    refine ⟨n, run hd ?_, rfl, rfl⟩
    cases hx <;> rfl
  · rename_i id off n fu sz
    obtain ⟨hd, rfl, rfl⟩ := vInt_inv h
    obtain ⟨e, hd⟩ := dSli_inv hd
    refine ⟨n, run hd ?_, rfl, rfl⟩
    cases hx; rfl
  · obtain ⟨hd, rfl, rfl⟩ := vInt_inv h
    obtain ⟨k, e, hd⟩ := dMap_inv hd
    refine ⟨0, run hd ?_, rfl, rfl⟩
    cases hx; rfl
  · rename_i id
    split at h
    · rename_i es hb
      obtain ⟨hd, rfl, rfl⟩ := vInt_inv h
      obtain ⟨k, e, hd⟩ := dMap_inv hd
      cases hx with
      | map hp =>
      obtain ⟨_, ents, clock, hc, hl, _⟩ := hs.blk _ _ _ _ hb hp
      refine ⟨es.length, run hd ?_, rfl, rfl⟩
      simp only [lenSem, Sem.run_bind, run_getMap hc, Result.andThen_ok, Sem.run_pure, hl]
    · cases h
  · cases h
/-- Keys. -/
theorem keyEq_ok {d : Option TypeDesc} {k a : AV} {x y : Value} {b : Bool} (hx : RV G x k) (hy : RV G y a) (h : keyEq k d a = some b) : ∃ d0, d = some d0 ∧ Instr.sameNow d0 x y = some b := by
  have gdi : ∀ {c : Bool} {z : Option Bool}, gd c z = some b → c = true ∧ z = some b := fun {c z} e => by
    cases c with
    | true => exact ⟨rfl, e⟩
    | false => cases e
  unfold keyEq at h
  split at h
  · unfold kyBool at h
    split at h
    · obtain ⟨h1, h2⟩ := gdi h
      cases h2
      rw [hx.bool_inv, hy.bool_inv]
      unfold dBool at h1
      split at h1
      · exact ⟨_, rfl, rfl⟩
      · cases h1
    · cases h
  · unfold kyInt at h
    split at h
    · obtain ⟨h1, h2⟩ := gdi h
      cases h2
      simp only [Bool.and_eq_true] at h1
      have hk := kEq_ok h1.2
      subst hk
      rw [hx.int_inv, hy.int_inv, eqI_eq]
      have h1 := h1.1
      unfold dInt at h1
      split at h1
      · exact ⟨_, rfl, by simp [Instr.sameNow]⟩
      · cases h1
    · cases h
  · unfold kyStr at h
    split at h
    · rename_i s1 _ s2
      obtain ⟨h1, h2⟩ := gdi h
      cases h2
      rw [hx.str_inv, hy.str_inv, beqU_eq]
      unfold dStr at h1
      split at h1
      · refine ⟨_, rfl, ?_⟩
        simp only [Instr.sameNow, Option.some.injEq]
        have e : ((ByteArray.mk s1.data == ByteArray.mk s2.data) = true) ↔ s1.data = s2.data := by
          show (s1.data == s2.data) = true ↔ _
          simp
        rw [Bool.eq_iff_iff]
        simp only [beq_iff_eq, Array.toList_inj]
        exact e
      · cases h1
    · cases h
  · cases h
theorem keyOk_ok {d : Option TypeDesc} {k : AV} {x : Value} (hx : RV G x k) (h : keyOk d k = true) : ∃ d0, d = some d0 ∧ ((∃ kk, d0 = .int kk) ∨ d0 = .string ∨ d0 = .bool) := by
  unfold keyOk at h
  split at h
  · unfold dBool at h
    split at h
    · exact ⟨_, rfl, .inr (.inr rfl)⟩
    · cases h
  · unfold dInt at h
    split at h
    · exact ⟨_, rfl, .inl ⟨_, rfl⟩⟩
    · cases h
  · unfold dStr at h
    split at h
    · exact ⟨_, rfl, .inr (.inl rfl)⟩
    · cases h
  · cases h
/-- Entries that go together. -/
def EntR (G : Gh) (ents : List MapEntry) (es : List (AV × AV)) : Prop := ents.length = es.length ∧ ∀ (j : Nat) (e : MapEntry) (p : AV × AV), ents[j]? = some e → es[j]? = some p → RV G e.key p.1 ∧ RV G e.val p.2
theorem EntR.tail {G : Gh} {e : MapEntry} {l : List MapEntry} {p : AV × AV} {es : List (AV × AV)} (h : EntR G (e :: l) (p :: es)) : (RV G e.key p.1 ∧ RV G e.val p.2) ∧ EntR G l es :=
  ⟨h.2 0 e p rfl rfl, by have := h.1; simpa using this, fun j e' p' a b => h.2 (j + 1) e' p' a b⟩
theorem findE_ok {d : Option TypeDesc} {k : AV} {x : Value} (hx : RV G x k) : ∀ (es : List (AV × AV)) (ents : List MapEntry) (i : Nat) (q : Option AV), EntR G ents es → findE d k es = some q →
    ∃ d0, d = some d0 ∧ ((∃ kk, d0 = .int kk) ∨ d0 = .string ∨ d0 = .bool) ∧ ∃ z, Instr.findNow d0 x ents i = some z ∧ (match q, z with | some a, some (_, v) => RV G v a | none, none => True | _, _ => False)
  | [], ents, i, q, hr, h => by
    have : ents = [] := List.length_eq_zero_iff.1 hr.1
    subst this
    unfold findE at h
    cases hk : keyOk d k with
    | false => rw [hk] at h; cases h
    | true =>
      rw [hk] at h
      cases h
      obtain ⟨d0, h1, h2⟩ := keyOk_ok hx hk
      exact ⟨d0, h1, h2, none, rfl, trivial⟩
  | (a, u) :: es, ents, i, q, hr, h => by
    match ents, hr with
    | e :: ents, hr =>
    obtain ⟨⟨hk, hv⟩, ht⟩ := hr.tail
    unfold findE at h
    split at h
    · rename_i he
      cases h
      obtain ⟨d0, h1, h2⟩ := keyEq_ok hx hk he
      refine ⟨d0, h1, ?_, some (i, e.val), by simp [Instr.findNow, h2], hv⟩
      unfold Instr.sameNow at h2
      split at h2 <;> first | exact .inl ⟨_, rfl⟩ | exact .inr (.inl rfl) | exact .inr (.inr rfl) | cases h2
    · rename_i he
      obtain ⟨d0, h1, h2⟩ := keyEq_ok hx hk he
      obtain ⟨d1, h3, h4, z, h5, h6⟩ := findE_ok hx es ents (i + 1) q ht h
      rw [h1] at h3
      cases h3
      exact ⟨d0, h1, h4, z, by simp [Instr.findNow, h2, h5], h6⟩
    · cases h
theorem checkKey_ok {d0 : TypeDesc} {kt : TypeId} {x : Value} {b : Bool} (hd : undB P kt = some d0) (h : (∃ kk, d0 = .int kk) ∨ d0 = .string ∨ d0 = .bool) : (Instr.checkKey b 10000 kt x).run P w = .ok () w := by
  have : ∀ n, (Instr.checkKey b (n + 1) kt x).run P w = .ok () w := fun n => by
    unfold Instr.checkKey
    simp only [Sem.run_bind, run_und hd, Result.andThen_ok]
    rcases h with ⟨kk, rfl⟩ | rfl | rfl <;> cases x <;> rfl
  exact this 9999
theorem mapK_inv {t : TypeId} {d0 : TypeDesc} (h : mapK P t = some d0) : ∃ k e, undB P t = some (.map k e) ∧ undB P k = some d0 ∧ mapZ P t = zeroB P e := by
  unfold mapK at h
  unfold mapZ
  split at h
  · rename_i k e hd
    rw [hd]
    exact ⟨k, e, rfl, h, rfl⟩
  · cases h
theorem lkB_cons (n v : Int) (l : List (Int × Int)) (m : Int) : lkB ((n, v) :: l) m = if m = n then true else lkB l m := by
  show (bif eqI m n then true else lkB l m) = _
  rw [eqI_eq]
  by_cases h : m = n
  · subst h; simp
  · rw [show (m == n) = false by simpa using h, if_neg h]; rfl
theorem lkV_cons (n v : Int) (l : List (Int × Int)) (m : Int) : lkV ((n, v) :: l) m = if m = n then v else lkV l m := by
  show (bif eqI m n then v else lkV l m) = _
  rw [eqI_eq]
  by_cases h : m = n
  · subst h; simp
  · rw [show (m == n) = false by simpa using h, if_neg h]; rfl
theorem lkV_none : ∀ (l : List (Int × Int)) (m : Int), lkB l m = false → lkV l m = 0
  | [], m, h => rfl
  | (n, v) :: l, m, h => by
    rw [lkB_cons] at h
    rw [lkV_cons]
    by_cases e : m = n
    · rw [if_pos e] at h; cases h
    · rw [if_neg e] at h ⊢
      exact lkV_none l m h
theorem fI_cons {e : MapEntry} {es : List MapEntry} {kk kv : IntKind} {m v : Int} (h1 : e.key = .int kk m) (h2 : e.val = .int kv v) (n : Int) : fI (e :: es) n = if m = n then some v else fI es n := by
  simp only [fI, h1, h2]
/-- A number's place in a map of numbers. -/
theorem findI_ok (k0 kk kv : IntKind) (n : Int) : ∀ (ents : List MapEntry) (i : Nat), IntE kk kv ents → ∃ z, Instr.findNow (.int k0) (.int kk n) ents i = some z ∧ (match z with
    | some (j, v) => i ≤ j ∧ (∃ e, ents[j - i]? = some e ∧ e.key = .int kk n) ∧ (∃ x, v = .int kv x ∧ fI ents n = some x) ∧ ∀ y, IntE kk kv (ents.modify (j - i) fun e => { e with key := .int kk n, val := .int kv y }) ∧ ∀ m, fI (ents.modify (j - i) fun e => { e with key := .int kk n, val := .int kv y }) m = if m = n then some y else fI ents m
    | none => fI ents n = none ∧ ∀ c y, IntE kk kv (ents ++ [{ key := .int kk n, val := .int kv y, born := c }]) ∧ ∀ m, fI (ents ++ [{ key := .int kk n, val := .int kv y, born := c }]) m = if m = n then some y else fI ents m)
  | [], i, h => by
    refine ⟨none, rfl, rfl, fun c y => ⟨fun e he => ?_, fun m => ?_⟩⟩
    · have : e = { key := .int kk n, val := .int kv y, born := c } := by simpa using he
      subst this
      exact ⟨n, y, rfl, rfl⟩
    · rw [List.nil_append, fI_cons (kk := kk) (kv := kv) (m := n) (v := y) rfl rfl]
      by_cases e : m = n
      · rw [if_pos e, if_pos e.symm]
      · rw [if_neg e, if_neg (Ne.symm e)]
  | e :: es, i, h => by
    obtain ⟨a, b, ha, hb⟩ := h e (List.mem_cons_self ..)
    have ht : IntE kk kv es := fun x hx => h x (List.mem_cons_of_mem _ hx)
    have hs : Instr.sameNow (.int k0) (.int kk n) e.key = some (decide (n = a)) := by rw [ha]; simp [Instr.sameNow]; try rfl
    by_cases hn : n = a
    · subst hn
      rw [decide_eq_true rfl] at hs
      refine ⟨some (i, e.val), by simp [Instr.findNow, hs], Nat.le_refl _, ⟨e, by simp, ha⟩, ⟨b, hb, by rw [fI_cons ha hb, if_pos rfl]⟩, fun y => ?_⟩
      rw [Nat.sub_self, List.modify_zero_cons]
      refine ⟨fun x hx => ?_, fun m => ?_⟩
      · rcases List.mem_cons.1 hx with rfl | hx
        · exact ⟨n, y, rfl, rfl⟩
        · exact ht x hx
      · rw [fI_cons (kk := kk) (kv := kv) (m := n) (v := y) rfl rfl, fI_cons ha hb]
        by_cases e : m = n
        · rw [if_pos e, if_pos e.symm]
        · rw [if_neg e, if_neg (Ne.symm e), if_neg (Ne.symm e)]
    · rw [decide_eq_false hn] at hs
      obtain ⟨z, h1, h2⟩ := findI_ok k0 kk kv n es (i + 1) ht
      refine ⟨z, by simp [Instr.findNow, hs, h1], ?_⟩
      match z, h2 with
      | some (j, v), ⟨g1, ⟨e0, g2, g3⟩, ⟨x, g4, g5⟩, g6⟩ =>
        have hj : j - i = (j - (i + 1)) + 1 := by omega
        refine ⟨by omega, ⟨e0, by rw [hj, List.getElem?_cons_succ]; exact g2, g3⟩, ⟨x, g4, by rw [fI_cons ha hb, if_neg (Ne.symm hn)]; exact g5⟩, fun y => ?_⟩
        rw [hj, List.modify_succ_cons]
        refine ⟨fun x hx => ?_, fun m => ?_⟩
        · rcases List.mem_cons.1 hx with rfl | hx
          · exact ⟨a, b, ha, hb⟩
          · exact (g6 y).1 x hx
        · rw [fI_cons ha hb, fI_cons ha hb, (g6 y).2 m]
          by_cases e : m = n
          · subst e
            rw [if_neg (Ne.symm hn), if_pos rfl, if_pos rfl]
          · rw [if_neg e, if_neg e]
      | none, ⟨g1, g2⟩ =>
        refine ⟨by rw [fI_cons ha hb, if_neg (Ne.symm hn)]; exact g1, fun c y => ⟨fun x hx => ?_, fun m => ?_⟩⟩
        · rcases List.mem_cons.1 hx with rfl | hx
          · exact ⟨a, b, ha, hb⟩
          · exact (g2 c y).1 x hx
        · rw [List.cons_append, fI_cons ha hb, fI_cons ha hb, (g2 c y).2 m]
          by_cases e : m = n
          · subst e
            rw [if_neg (Ne.symm hn), if_pos rfl, if_pos rfl]
          · rw [if_neg e, if_neg e]
theorem bya_eq (n a : ByteArray) : (n == a) = decide (n = a) := by
  have e : ((n == a) = true) ↔ n.data = a.data := by
    show (n.data == a.data) = true ↔ _
    simp
  rw [Bool.eq_iff_iff]
  rw [e, decide_eq_true_iff]
  constructor
  · intro h
    cases n
    cases a
    exact congrArg _ h
  · intro h
    rw [h]
theorem putF_eq (s : ByteArray) (v : Int) (f : ByteArray → Option Int) (t : ByteArray) : putF s v f t = if t = s then some v else f t := by
  show (bif beqU t.data.toList s.data.toList then some v else f t) = _
  rw [beqU_eq]
  by_cases h : t = s
  · subst h; simp
  · rw [if_neg h]
    have : (t.data.toList == s.data.toList) = false := by
      cases hh : t.data.toList == s.data.toList with
      | false => rfl
      | true =>
        refine absurd ?_ h
        have h3 := Array.toList_inj.1 (eq_of_beq hh)
        cases t
        cases s
        exact congrArg _ h3
    rw [this]
    rfl
theorem fS_cons {e : MapEntry} {es : List MapEntry} {kv : IntKind} {m : ByteArray} {v : Int} (h1 : e.key = .string m) (h2 : e.val = .int kv v) (n : ByteArray) : fS (e :: es) n = if m = n then some v else fS es n := by
  simp only [fS, h1, h2]
/-- A number's place in a map of numbers. -/
theorem findS_ok (kv : IntKind) (n : ByteArray) : ∀ (ents : List MapEntry) (i : Nat), StrE kv ents → ∃ z, Instr.findNow .string (.string n) ents i = some z ∧ (match z with
    | some (j, v) => i ≤ j ∧ (∃ e, ents[j - i]? = some e ∧ e.key = .string n) ∧ (∃ x, v = .int kv x ∧ fS ents n = some x) ∧ ∀ y, StrE kv (ents.modify (j - i) fun e => { e with key := .string n, val := .int kv y }) ∧ ∀ m, fS (ents.modify (j - i) fun e => { e with key := .string n, val := .int kv y }) m = if m = n then some y else fS ents m
    | none => fS ents n = none ∧ ∀ c y, StrE kv (ents ++ [{ key := .string n, val := .int kv y, born := c }]) ∧ ∀ m, fS (ents ++ [{ key := .string n, val := .int kv y, born := c }]) m = if m = n then some y else fS ents m)
  | [], i, h => by
    refine ⟨none, rfl, rfl, fun c y => ⟨fun e he => ?_, fun m => ?_⟩⟩
    · have : e = { key := .string n, val := .int kv y, born := c } := by simpa using he
      subst this
      exact ⟨n, y, rfl, rfl⟩
    · rw [List.nil_append, fS_cons (kv := kv) (m := n) (v := y) rfl rfl]
      by_cases e : m = n
      · rw [if_pos e, if_pos e.symm]
      · rw [if_neg e, if_neg (Ne.symm e)]
  | e :: es, i, h => by
    obtain ⟨a, b, ha, hb⟩ := h e (List.mem_cons_self ..)
    have ht : StrE kv es := fun x hx => h x (List.mem_cons_of_mem _ hx)
    have hs : Instr.sameNow .string (.string n) e.key = some (decide (n = a)) := by
      rw [ha]
      simp only [Instr.sameNow, Option.some.injEq]
      exact bya_eq n a
    by_cases hn : n = a
    · subst hn
      rw [decide_eq_true rfl] at hs
      refine ⟨some (i, e.val), by simp [Instr.findNow, hs], Nat.le_refl _, ⟨e, by simp, ha⟩, ⟨b, hb, by rw [fS_cons ha hb, if_pos rfl]⟩, fun y => ?_⟩
      rw [Nat.sub_self, List.modify_zero_cons]
      refine ⟨fun x hx => ?_, fun m => ?_⟩
      · rcases List.mem_cons.1 hx with rfl | hx
        · exact ⟨n, y, rfl, rfl⟩
        · exact ht x hx
      · rw [fS_cons (kv := kv) (m := n) (v := y) rfl rfl, fS_cons ha hb]
        by_cases e : m = n
        · rw [if_pos e, if_pos e.symm]
        · rw [if_neg e, if_neg (Ne.symm e), if_neg (Ne.symm e)]
    · rw [decide_eq_false hn] at hs
      obtain ⟨z, h1, h2⟩ := findS_ok kv n es (i + 1) ht
      refine ⟨z, by simp [Instr.findNow, hs, h1], ?_⟩
      match z, h2 with
      | some (j, v), ⟨g1, ⟨e0, g2, g3⟩, ⟨x, g4, g5⟩, g6⟩ =>
        have hj : j - i = (j - (i + 1)) + 1 := by omega
        refine ⟨by omega, ⟨e0, by rw [hj, List.getElem?_cons_succ]; exact g2, g3⟩, ⟨x, g4, by rw [fS_cons ha hb, if_neg (Ne.symm hn)]; exact g5⟩, fun y => ?_⟩
        rw [hj, List.modify_succ_cons]
        refine ⟨fun x hx => ?_, fun m => ?_⟩
        · rcases List.mem_cons.1 hx with rfl | hx
          · exact ⟨a, b, ha, hb⟩
          · exact (g6 y).1 x hx
        · rw [fS_cons ha hb, fS_cons ha hb, (g6 y).2 m]
          by_cases e : m = n
          · subst e
            rw [if_neg (Ne.symm hn), if_pos rfl, if_pos rfl]
          · rw [if_neg e, if_neg e]
      | none, ⟨g1, g2⟩ =>
        refine ⟨by rw [fS_cons ha hb, if_neg (Ne.symm hn)]; exact g1, fun c y => ⟨fun x hx => ?_, fun m => ?_⟩⟩
        · rcases List.mem_cons.1 hx with rfl | hx
          · exact ⟨a, b, ha, hb⟩
          · exact (g2 c y).1 x hx
        · rw [List.cons_append, fS_cons ha hb, fS_cons ha hb, (g2 c y).2 m]
          by_cases e : m = n
          · subst e
            rw [if_neg (Ne.symm hn), if_pos rfl, if_pos rfl]
          · rw [if_neg e, if_neg e]
theorem dInt_some {d : Option TypeDesc} (h : dInt d = true) : ∃ k0, d = some (.int k0) := by
  unfold dInt at h
  split at h
  · exact ⟨_, rfl⟩
  · cases h
theorem q_lookup {t : TypeId} {m k : Operand} {ok : Bool} (ho : o.op = .lookup t m k ok) (hs : St G w M) (hm : RV G (ρ m) (ev m)) (hk : RV G (ρ k) (ev k)) (h : oLookup (mapK P t) (mapZ P t) (ev m) (ev k) ok M = .val r M') : Qu P G ρ o w r ∧ M' = M := by
  have key : ∀ (ents : List MapEntry) (es : List (AV × AV)), EntR G ents es → (∀ kt et, undB P t = some (.map kt et) → (execOp ρ o).run P w = ((do
      Instr.checkKey ents.toArray.isEmpty 10000 kt (ρ k)
      let (v, ok') ← match ← Instr.findKey kt (ρ k) ents with
        | some (_, v) => pure (v, true)
        | none => pure (← zeroValue et, false)
      pure (if ok then .tuple #[v, .bool ok'] else v) : Sem Value).run P w).andThen fun x w => .ok (.value x) w) → oLook1 (mapZ P t) ok M (findE (mapK P t) (ev k) es) = .val r M' → Qu P G ρ o w r ∧ M' = M := fun ents es hr hrun h => by
    unfold oLook1 at h
    split at h
    · rename_i a hf
      obtain ⟨d0, h1, h2, z, h3, h4⟩ := findE_ok hk es ents 0 (some a) hr hf
      obtain ⟨kt, et, h5, h6, h7⟩ := mapK_inv h1
      match z, h3, h4 with
      | some (j, v), h3, h4 =>
      cases h
      refine ⟨⟨_, ?_, h4.ok ok true⟩, rfl⟩
      rw [hrun kt et h5]
      simp only [Sem.run_bind, checkKey_ok h6 h2, Result.andThen_ok, Instr.findKey, run_und h6, h3, Sem.run_pure]
    · rename_i z0 hf hz
      obtain ⟨d0, h1, h2, z, h3, h4⟩ := findE_ok hk es ents 0 none hr hf
      obtain ⟨kt, et, h5, h6, h7⟩ := mapK_inv h1
      match z, h3, h4 with
      | none, h3, h4 =>
      cases h
      rw [h7] at hz
      obtain ⟨zv, h8, h9⟩ := zeroB_ok (G := G) hz w
      refine ⟨⟨_, ?_, h9.ok ok false⟩, rfl⟩
      rw [hrun kt et h5]
      simp only [Sem.run_bind, checkKey_ok h6 h2, Result.andThen_ok, Instr.findKey, run_und h6, h3, Sem.run_pure, h8]
    · cases h
  have keyS : ∀ (ents : Array MapEntry) (bb : Nat) (clock : Nat) (kv : IntKind) (f : ByteArray → Option Int), ρ m = .map (some bb) → w.heap[bb]? = some (.map ents clock) → EntS kv ents.toList f → oLookS (mapK P t) (mapZ P t) (ev k) ok M kv f = .val r M' → Qu P G ρ o w r ∧ M' = M := fun ents bb clock kv f hv hc hE h => by
    obtain ⟨hI1, hI2⟩ := hE
    unfold oLookS at h
    split at h
    · rename_i n kz n0 hke hz
      obtain ⟨h0, rfl, rfl⟩ := bif_val h
      simp only [Bool.and_eq_true] at h0
      obtain ⟨a1, a3, a4⟩ := h0
      have a3 := kEq_ok a3
      subst a3
      have a4 : n0 = 0 := by rw [eqI_eq] at a4; simpa using a4
      subst a4
      rw [hke] at hk
      have hkv := hk.str_inv
      have a1 := dStr_inv a1
      obtain ⟨kt, et, h5, h6, h7⟩ := mapK_inv a1
      rw [h7] at hz
      obtain ⟨zv, h8, h9⟩ := zeroB_ok (G := G) hz w
      obtain ⟨z, h3, h4⟩ := findS_ok kz n ents.toList 0 hI1
      have hr := hI2 n
      have hrun : ∀ (v : Value) (q : Bool), RV G v (.int kz (giV (f n))) → giB (f n) = q → (execOp ρ o).run P w = .ok (.value (if ok then .tuple #[v, .bool q] else v)) w → Qu P G ρ o w (bif ok then .tup [.int kz (giV (f n)), .bool (giB (f n))] else .int kz (giV (f n))) := fun v q r1 r2 r3 => ⟨_, r3, by rw [r2]; exact r1.ok ok q⟩
      refine ⟨?_, rfl⟩
      match z, h3, h4 with
      | some (j, v), h3, ⟨_, _, ⟨x, hv2, hx⟩, _⟩ =>
        subst hv2
        rw [hx] at hr
        refine hrun (.int kz x) true (by rw [← hr]; exact .int _ _) (by rw [← hr]; rfl) ?_
        unfold execOp
        rw [ho]
        simp only [Instr.lookup, Sem.run_bind, run_und h5, Result.andThen_ok, hv, run_getMap hc, Sem.run_pure, checkKey_ok h6 (.inr (.inl rfl)), Instr.findKey, run_und h6, hkv, h3]
      | none, h3, ⟨hx, _⟩ =>
        rw [hx] at hr
        refine hrun zv false (by rw [← hr]; exact h9) (by rw [← hr]; rfl) ?_
        unfold execOp
        rw [ho]
        simp only [Instr.lookup, Sem.run_bind, run_und h5, Result.andThen_ok, hv, run_getMap hc, Sem.run_pure, checkKey_ok h6 (.inr (.inl rfl)), Instr.findKey, run_und h6, hkv, h3, h8]
    · cases h
  unfold oLookup at h
  split at h
  · rename_i id he
    split at h
    · rename_i es hb
      rw [he] at hm
      generalize hv : ρ m = mv at hm
      cases hm with
      | map hp =>
      obtain ⟨_, ents, clock, hc, hl, hr⟩ := hs.blk _ _ _ _ hb hp
      refine key ents.toList es ⟨by simpa using hl, fun j e p h1 h2 => hr j e p (by simpa using h1) h2⟩ (fun kt et hd => ?_) h
      unfold execOp
      rw [ho]
      simp only [Instr.lookup, Sem.run_bind, run_und hd, Result.andThen_ok, hv, run_getMap hc, Sem.run_pure]
      rfl
    · rename_i kk kv l hb
      rw [he] at hm
      generalize hv : ρ m = mv at hm
      cases hm with
      | map hp =>
      obtain ⟨_, ents, clock, hc, hI1, hI2⟩ := hs.blk _ _ _ _ hb hp
      unfold oLookI at h
      split at h
      · rename_i k' n kz n0 hke hz
        obtain ⟨h0, rfl, rfl⟩ := bif_val h
        simp only [Bool.and_eq_true] at h0
        obtain ⟨a1, a2, a3, a4⟩ := h0
        have a2 := kEq_ok a2
        have a3 := kEq_ok a3
        subst a2
        subst a3
        have a4 : n0 = 0 := by rw [eqI_eq] at a4; simpa using a4
        subst a4
        rw [hke] at hk
        have hkv := hk.int_inv
        obtain ⟨k0, a1⟩ := dInt_some a1
        obtain ⟨kt, et, h5, h6, h7⟩ := mapK_inv a1
        rw [h7] at hz
        obtain ⟨zv, h8, h9⟩ := zeroB_ok (G := G) hz w
        obtain ⟨z, h3, h4⟩ := findI_ok k0 k' kz n ents.toList 0 hI1
        have hr := hI2 n
        have hrun : ∀ (v : Value) (q : Bool), RV G v (.int kz (lkV l n)) → lkB l n = q → (execOp ρ o).run P w = .ok (.value (if ok then .tuple #[v, .bool q] else v)) w → Qu P G ρ o w (bif ok then .tup [.int kz (lkV l n), .bool (lkB l n)] else .int kz (lkV l n)) := fun v q r1 r2 r3 => ⟨_, r3, by rw [r2]; exact r1.ok ok q⟩
        refine ⟨?_, rfl⟩
        match z, h3, h4 with
        | some (j, v), h3, ⟨_, _, ⟨x, hv2, hx⟩, _⟩ =>
          subst hv2
          rw [hx] at hr
          cases hq : lkB l n with
          | false => rw [hq] at hr; simp at hr
          | true =>
            rw [hq] at hr
            simp only [if_true, Option.some.injEq] at hr
            rw [← hq]
            refine hrun (.int kz x) true (by rw [← hr]; exact .int _ _) hq ?_
            unfold execOp
            rw [ho]
            simp only [Instr.lookup, Sem.run_bind, run_und h5, Result.andThen_ok, hv, run_getMap hc, Sem.run_pure, checkKey_ok h6 (.inl ⟨_, rfl⟩), Instr.findKey, run_und h6, hkv, h3]
        | none, h3, ⟨hx, _⟩ =>
          rw [hx] at hr
          cases hq : lkB l n with
          | true => rw [hq] at hr; simp at hr
          | false =>
            rw [← hq]
            refine hrun zv false (by rw [lkV_none l n hq]; exact h9) hq ?_
            unfold execOp
            rw [ho]
            simp only [Instr.lookup, Sem.run_bind, run_und h5, Result.andThen_ok, hv, run_getMap hc, Sem.run_pure, checkKey_ok h6 (.inl ⟨_, rfl⟩), Instr.findKey, run_und h6, hkv, h3, h8]
      · cases h
    · rename_i kv f hb
      rw [he] at hm
      generalize hv : ρ m = mv at hm
      cases hm with
      | map hp =>
      obtain ⟨_, ents, clock, hc, hE⟩ := hs.blk _ _ _ _ hb hp
      exact keyS ents _ clock kv f hv hc hE h
    · cases h
  · rename_i es he
    rw [he] at hm
    generalize hv : ρ m = mv at hm
    cases hm with
    | cmap hcb hl hk1 hv1 =>
    rename_i b ents
    obtain ⟨clock, hc⟩ := hs.cob _ _ hcb
    refine key ents.toList es ⟨by simpa using hl, fun j e p h1 h2 => ⟨(hk1 j e p (by simpa using h1) h2).mono (nph_le G), (hv1 j e p (by simpa using h1) h2).mono (nph_le G)⟩⟩ (fun kt et hd => ?_) h
    unfold execOp
    rw [ho]
    simp only [Instr.lookup, Sem.run_bind, run_und hd, Result.andThen_ok, hv, run_getMap hc, Sem.run_pure]
    rfl
  · rename_i kv f he
    rw [he] at hm
    generalize hv : ρ m = mv at hm
    cases hm with
    | cms hcb hE =>
    obtain ⟨clock, hc⟩ := hs.cob _ _ hcb
    exact keyS _ _ clock kv f hv hc hE h
  · rename_i he
    rw [he] at hm
    generalize hv : ρ m = mv at hm
    cases hm
    refine key [] [] ⟨rfl, fun j e p h1 => by simp at h1⟩ (fun kt et hd => ?_) h
    unfold execOp
    rw [ho]
    simp only [Instr.lookup, Sem.run_bind, run_und hd, Result.andThen_ok, hv, Sem.run_pure]
    rfl
  · cases h
end
end Go.Proofs.YtpflobodmglmaaaGreat
set_option linter.unusedVariables false
set_option maxHeartbeats 4000000
namespace Go.Proofs.YtpflobodmglmaaaGreat
def setV (arr : Array Value) (off : Nat) : List Value → Array Value
  | [] => arr
  | v :: vs => setV (arr.setIfInBounds off v) (off + 1) vs
theorem setV_fold (off : Nat) : ∀ (vs : List Value) (k : Nat) (arr : Array Value), (vs.zipIdx k).foldl (fun cs (p : Value × Nat) => cs.setIfInBounds (off + p.2) p.1) arr = setV arr (off + k) vs
  | [], k, arr => rfl
  | v :: vs, k, arr => by
    rw [List.zipIdx_cons, List.foldl_cons, setV_fold off vs (k + 1)]
    rfl
theorem setV_size : ∀ (vs : List Value) (arr : Array Value) (off : Nat), (setV arr off vs).size = arr.size
  | [], _, _ => rfl
  | v :: vs, arr, off => by unfold setV; rw [setV_size vs]; simp
theorem setL_length : ∀ (vs : List AV) (l : List AV) (off : Nat), (setL l off vs).length = l.length
  | [], _, _ => rfl
  | v :: vs, l, off => by unfold setL; rw [setL_length vs]; simp
theorem setV_get : ∀ (vs : List Value) (arr : Array Value) (off j : Nat), off + vs.length ≤ arr.size → (setV arr off vs)[j]? = if off ≤ j ∧ j < off + vs.length then vs[j - off]? else arr[j]?
  | [], arr, off, j, _ => by rw [if_neg (by simp)]; rfl
  | v :: vs, arr, off, j, h => by
    simp only [List.length_cons] at h
    unfold setV
    rw [setV_get vs _ _ _ (by simp; omega)]
    by_cases h1 : off + 1 ≤ j ∧ j < off + 1 + vs.length
    · rw [if_pos h1, if_pos (by simp only [List.length_cons]; omega), show j - off = (j - (off + 1)) + 1 by omega, List.getElem?_cons_succ]
    · rw [if_neg h1]
      by_cases h2 : j = off
      · subst h2
        rw [if_pos (by simp), Nat.sub_self, List.getElem?_cons_zero, Array.getElem?_setIfInBounds_self_of_lt (by omega)]
      · rw [if_neg (by simp only [List.length_cons]; omega), Array.getElem?_setIfInBounds_ne (Ne.symm h2)]
theorem setL_get : ∀ (vs : List AV) (l : List AV) (off j : Nat), off + vs.length ≤ l.length → (setL l off vs)[j]? = if off ≤ j ∧ j < off + vs.length then vs[j - off]? else l[j]?
  | [], l, off, j, _ => by rw [if_neg (by simp)]; rfl
  | v :: vs, l, off, j, h => by
    simp only [List.length_cons] at h
    unfold setL
    rw [setL_get vs _ _ _ (by simp; omega)]
    by_cases h1 : off + 1 ≤ j ∧ j < off + 1 + vs.length
    · rw [if_pos h1, if_pos (by simp only [List.length_cons]; omega), show j - off = (j - (off + 1)) + 1 by omega, List.getElem?_cons_succ]
    · rw [if_neg h1]
      by_cases h2 : j = off
      · subst h2
        rw [if_pos (by simp), Nat.sub_self, List.getElem?_cons_zero, List.getElem?_set_self (by omega)]
      · rw [if_neg (by simp only [List.length_cons]; omega), List.getElem?_set_ne (Ne.symm h2)]
section
variable {P : Program} {G : Gh} {ρ : Operand → Value} {ev : Operand → AV} {o : Oper} {w : World} {M M' : Mem} {r : AV}
theorem RVs.set {arr : Array Value} {cs : List AV} {vs : Array Value} {as : List AV} {off : Nat} (h : RVs G arr cs) (k : RVs G vs as) (hle : off + as.length ≤ cs.length) : RVs G (setV arr off vs.toList) (setL cs off as) := by
  have hl := h.len
  have kl := k.len
  refine ⟨by rw [setV_size, setL_length, hl], fun j v a e f => ?_⟩
  rw [setV_get _ _ _ _ (by rw [Array.length_toList]; omega), Array.length_toList] at e
  rw [setL_get _ _ _ _ hle] at f
  by_cases hj : off ≤ j ∧ j < off + as.length
  · rw [if_pos hj] at f
    rw [if_pos (by omega)] at e
    exact k.at' _ v a (by simpa using e) f
  · rw [if_neg hj] at f
    rw [if_neg (by omega)] at e
    exact h.at' _ v a e f
/-- Parts of a literal. -/
def PartR (G : Gh) : List (Nat × Value) → List (Nat × AV) → Prop
  | [], [] => True
  | (i, v) :: l, (j, a) :: m => i = j ∧ RV G v a ∧ PartR G l m
  | _, _ => False
theorem fill_ok {place : Nat → Option (Nat × Nat)} : ∀ (vs : List (Nat × Value)) (as : List (Nat × AV)) (arr : Array Value) (cs cs' : List AV), PartR G vs as → RVs G arr cs → fillA place cs as = some cs' → ∃ arr', Instr.fill place arr vs = some arr' ∧ RVs G arr' cs'
  | [], [], arr, cs, cs', _, h, e => by cases e; exact ⟨arr, rfl, h⟩
  | (i, v) :: vs, (j, a) :: as, arr, cs, cs', ⟨hij, hv, hr⟩, h, e => by
    subst hij
    unfold fillA at e
    cases hp : place i with
    | none => rw [hp] at e; cases e
    | some q =>
      obtain ⟨off, size⟩ := q
      rw [hp] at e
      cases hc : a.cells with
      | none => rw [hc] at e; cases e
      | some c =>
        rw [hc] at e
        simp only at e
        cases hb : (Nat.beq c.length size && Nat.ble (off + size) cs.length) with
        | false => rw [hb] at e; cases e
        | true =>
          rw [hb] at e
          simp only [Bool.and_eq_true, Nat.beq_eq, Nat.ble_eq] at hb
          have hcs := (hv.cells hc).1
          obtain ⟨arr', h1, h2⟩ := fill_ok vs as _ _ cs' hr (h.set hcs (off := off) (by omega)) e
          refine ⟨arr', ?_, h2⟩
          unfold Instr.fill
          rw [hp]
          have hl := hcs.len
          have hl2 := h.len
          simp only
          rw [if_neg (by simp only [ne_eq, decide_not, gt_iff_lt, Bool.or_eq_true, Bool.not_eq_eq_eq_not, Bool.not_true, decide_eq_false_iff_not, decide_eq_true_eq]; omega)]
          rw [← h1]
          congr 1
          rw [← Array.foldl_toList, Array.toList_zipIdx, setV_fold off v.cells.toList 0]
          rfl
theorem PartR.of : ∀ (l : List (Nat × Operand)), (∀ p ∈ l, RV G (ρ p.2) (ev p.2)) → PartR G (l.map fun p => (p.1, ρ p.2)) (evP ev l)
  | [], _ => trivial
  | p :: l, h => ⟨rfl, h p (List.mem_cons_self ..), PartR.of l (fun q hq => h q (List.mem_cons_of_mem _ hq))⟩
theorem zeroC_ok {t : TypeId} {z : List AV} (h : zeroC P t = some z) (w : World) : ∃ v, (zeroValue t).run P w = .ok v w ∧ RVs G v.cells z ∧ (∀ (j : Nat) (u : Value), v.cells[j]? = some u → u.oneCell' = true) ∧ ∃ a, zeroB P t = some a := by
  unfold zeroC at h
  cases hz : zeroB P t with
  | none => rw [hz] at h; cases h
  | some a =>
    rw [hz] at h
    obtain ⟨v, h1, h2⟩ := zeroB_ok (G := G) hz w
    exact ⟨v, h1, (h2.cells h).1, (h2.cells h).2, a, rfl⟩
theorem zeroB_info {t : TypeId} {a : AV} (h : zeroB P t = some a) : ∃ i, infoB P t = some i ∧ ∃ z, i.zero = some z := by
  unfold zeroB at h
  cases hi : infoB P t with
  | none => rw [hi] at h; cases h
  | some i =>
    rw [hi] at h
    cases hz : i.zero with
    | none => simp only [hz] at h; cases h
    | some z => exact ⟨i, rfl, z, hz⟩
theorem placesB_ok : ∀ (fs : List Field) (ps : List (Nat × Nat)), placesB P fs = some ps → fs.mapM (fun f => (P.info? f.type).map fun i => (f.offset, i.size)) = some ps
  | [], ps, h => by cases h; rfl
  | f :: fs, ps, h => by
    unfold placesB at h
    split at h
    · rename_i i l hi hl
      cases h
      simp [List.mapM_cons, infoB_ok hi, placesB_ok fs l hl]
    · cases h
theorem q_build {t : TypeId} {parts : Array (Nat × Operand)} (ho : o.op = .build t parts) (hx : ∀ p ∈ parts.toList, RV G (ρ p.2) (ev p.2)) (h : oBuild P (undB P t) (zeroC P t) (evP ev parts.toList) M = .val r M') : Qu P G ρ o w r ∧ M' = M := by
  have parr : (parts.map fun (i, x) => (i, ρ x)).toList = parts.toList.map fun p => (p.1, ρ p.2) := by rw [Array.toList_map]
  have inv : ∀ {q : Option (List AV)}, oBuild1 M q = .val r M' → ∃ cs, q = some cs ∧ r = .agg cs ∧ M' = M := fun {q} e => by
    cases q with
    | none => cases e
    | some cs => cases e; exact ⟨cs, rfl, rfl, rfl⟩
  have fin : ∀ (arr : Array Value), Program.built P t (parts.toList.map fun p => (p.1, ρ p.2)) = some arr → (execOp ρ o).run P w = .ok (.value (.agg arr)) w := fun arr e => by
    unfold execOp
    rw [ho]
    simp only [Sem.run_bind, run_build w t _ arr (by rw [parr]; exact e), Result.andThen_ok, Sem.run_pure]
  unfold oBuild at h
  split at h
  · rename_i z fs hz hd
    unfold oBuildP at h
    split at h
    · rename_i ps hps
      obtain ⟨cs, hf, rfl, rfl⟩ := inv h
      obtain ⟨zv, h1, h2, _, a, hza⟩ := zeroC_ok (G := G) hz w
      obtain ⟨arr, h3, h4⟩ := fill_ok _ _ _ _ _ (PartR.of (ρ := ρ) (ev := ev) parts.toList hx) h2 hf
      refine ⟨⟨.agg arr, fin arr ?_, .agg h4.len h4.at'⟩, rfl⟩
      obtain ⟨it, hit, hit2⟩ := zeroB_info hza
      unfold Program.built
      rw [infoB_ok hit, undB_ok hd]
      have hz2 : it.zero = some zv := by
        have : (zeroValue t).run P w = .ok zv w := h1
        unfold zeroValue typeInfo at this
        simp only [Sem.run_bind, run_program, Result.andThen_ok, infoB_ok hit, Sem.run_pure] at this
        obtain ⟨z0, hz0⟩ := hit2
        rw [hz0] at this ⊢
        simp only [Sem.run_pure, Result.ok.injEq, and_true] at this
        rw [this]
      simp only [hz2, placesB_ok _ _ hps]
      rw [← h3]
      congr 1
      funext i
      rw [nth_eq]
      simp
    · cases h
  · rename_i z n e hz hd
    unfold oBuildA at h
    split at h
    · rename_i ie hie
      obtain ⟨cs, hf, rfl, rfl⟩ := inv h
      obtain ⟨zv, h1, h2, _, a, hza⟩ := zeroC_ok (G := G) hz w
      obtain ⟨arr, h3, h4⟩ := fill_ok _ _ _ _ _ (PartR.of (ρ := ρ) (ev := ev) parts.toList hx) h2 hf
      refine ⟨⟨.agg arr, fin arr ?_, .agg h4.len h4.at'⟩, rfl⟩
      obtain ⟨it, hit, hit2⟩ := zeroB_info hza
      unfold Program.built
      rw [infoB_ok hit, undB_ok hd]
      have hz2 : it.zero = some zv := by
        have : (zeroValue t).run P w = .ok zv w := h1
        unfold zeroValue typeInfo at this
        simp only [Sem.run_bind, run_program, Result.andThen_ok, infoB_ok hit, Sem.run_pure] at this
        obtain ⟨z0, hz0⟩ := hit2
        rw [hz0] at this ⊢
        simp only [Sem.run_pure, Result.ok.injEq, and_true] at this
        rw [this]
      simp only [hz2, infoB_ok hie]
      exact h3
    · cases h
  · cases h
/-! New blocks. -/
theorem BlkR.mono {G G' : Gh} {w w' : World} {b base : Nat} {k : Blk} (h : BlkR G w b base k) (hg : GLe G G') (hh : w'.heap[b]? = w.heap[b]?) {id : Nat} (hp : G.phi id = some (b, base)) : BlkR G' w' b base k := by
  cases k with
  | gone => trivial
  | var cs =>
    obtain ⟨h0, arr, t, h1, h2⟩ := h
    exact ⟨h0, arr, t, by rw [hh]; exact h1, h2.mono hg⟩
  | row sz n g =>
    obtain ⟨arr, t, h1, h2, h3, h4⟩ := h
    exact ⟨arr, t, by rw [hh]; exact h1, h2, by rw [hg.tot _ _ _ hp]; exact h3, fun i hi => ⟨(h4 i hi).1, fun j v a e f => ((h4 i hi).2 j v a e f).mono hg⟩⟩
  | map es =>
    obtain ⟨h0, ents, c, h1, h2, h3⟩ := h
    exact ⟨h0, ents, c, by rw [hh]; exact h1, h2, fun j e p a b => ⟨(h3 j e p a b).1.mono hg, (h3 j e p a b).2.mono hg⟩⟩
  | mpi kk kv l =>
    obtain ⟨h0, ents, c, h1, h2⟩ := h
    exact ⟨h0, ents, c, by rw [hh]; exact h1, h2⟩
  | mps kv f =>
    obtain ⟨h0, ents, c, h1, h2⟩ := h
    exact ⟨h0, ents, c, by rw [hh]; exact h1, h2⟩
  | loop fn sz tm ps as body d st pend =>
    obtain ⟨h0, ts, db, h1, h2, h3, h4⟩ := h
    exact ⟨h0, ts, db, by rw [hh]; exact h1, h2, h3.mono hg, hg.phi _ _ h4⟩
  | dfr =>
    obtain ⟨h0, h1⟩ := h
    exact ⟨h0, by rw [hh]; exact h1⟩
/-- The ghost behind a new block. -/
def Gh.new (G : Gh) (fid b n : Nat) : Gh := ⟨fun id => if id = fid then some (b, 0) else G.phi id, G.con, G.cob, fun b' => if b' = b then n else G.tot b'⟩
theorem heap_push_lt {w : World} {ob : Obj} {b : Nat} (h : b < w.heap.size) : ({ w with heap := w.heap.push ob } : World).heap[b]? = w.heap[b]? := by
  show (w.heap.push ob)[b]? = _
  rw [Array.getElem?_push]
  rw [if_neg (by omega)]
theorem heap_push_eq {w : World} {ob : Obj} : ({ w with heap := w.heap.push ob } : World).heap[w.heap.size]? = some ob := by
  show (w.heap.push ob)[w.heap.size]? = _
  simp
theorem Gh.new_le {fid n : Nat} (hs : St G w M) (hf : G.phi fid = none) : GLe G (G.new fid w.heap.size n) := by
  refine ⟨fun id x h => ?_, fun _ _ _ h => h, fun _ _ h => h, fun id b base h => ?_⟩
  · show (if id = fid then _ else _) = _
    rw [if_neg (fun e => by rw [e, hf] at h; cases h)]
    exact h
  · show (if b = w.heap.size then n else G.tot b) = _
    rw [if_neg (by have := hs.lt _ _ _ h; omega)]
theorem St.alloc {fid n : Nat} {ob : Obj} {k : Blk} (hs : St G w M) (hf : G.phi fid = none) (hfx : fid < M.nx) (hk : BlkR (G.new fid w.heap.size n) { w with heap := w.heap.push ob } w.heap.size 0 k) (hkg : k ≠ .gone) :
    St (G.new fid w.heap.size n) { w with heap := w.heap.push ob } (newB M fid k) ∧ Ev G w M (G.new fid w.heap.size n) { w with heap := w.heap.push ob } (newB M fid k) := by
  have le := Gh.new_le (n := n) hs hf
  have gp : ∀ id, (G.new fid w.heap.size n).phi id = if id = fid then some (w.heap.size, 0) else G.phi id := fun _ => rfl
  have gm : ∀ id, (newB M fid k).h.get id = if fid = id then some k else M.h.get id := fun id => get_set _ _ _ _
  have own : ∀ id, id ≠ fid → (Own (newB M fid k) id ↔ Own M id) := fun id hne => by
    unfold Own
    rw [gm, if_neg (Ne.symm hne)]
  have hsz : ({ w with heap := w.heap.push ob } : World).heap.size = w.heap.size + 1 := by show (w.heap.push ob).size = _; simp
  constructor
  · refine ⟨fun id q b base h1 h2 => ?_, fun id id' b base base' o1 o2 h1 h2 => ?_, fun id b base h => ?_, fun id b base h => ?_, fun b i v h => ?_, fun b v h => ?_, fun id b base i o h => ?_, fun id b base o h => ?_⟩
    · rw [gm] at h1
      rw [gp] at h2
      by_cases e : id = fid
      · rw [if_pos e.symm] at h1
        rw [if_pos e] at h2
        cases h1; cases h2
        exact hk
      · rw [if_neg (Ne.symm e)] at h1
        rw [if_neg e] at h2
        exact (hs.blk id q b base h1 h2).mono le (heap_push_lt (hs.lt _ _ _ h2)) h2
    · rw [gp] at h1 h2
      by_cases e : id = fid <;> by_cases e' : id' = fid
      · rw [e, e']
      · rw [if_pos e] at h1
        rw [if_neg e'] at h2
        cases h1
        exact absurd (hs.lt _ _ _ h2) (by omega)
      · rw [if_neg e] at h1
        rw [if_pos e'] at h2
        cases h2
        exact absurd (hs.lt _ _ _ h1) (by omega)
      · rw [if_neg e] at h1
        rw [if_neg e'] at h2
        exact hs.inj id id' b base base' ((own id e).1 o1) ((own id' e').1 o2) h1 h2
    · rw [gp] at h
      rw [hsz]
      by_cases e : id = fid
      · rw [if_pos e] at h; cases h; omega
      · rw [if_neg e] at h
        have := hs.lt _ _ _ h; omega
    · rw [gp] at h
      by_cases e : id = fid
      · rw [e]; exact hfx
      · rw [if_neg e] at h; exact hs.fresh _ _ _ h
    · have h' := hs.con b i v h
      have hlt : b < w.heap.size := World.block_lt_of_cell? _ _ h'
      unfold World.cell? at h' ⊢
      rw [heap_push_lt hlt]
      exact h'
    · obtain ⟨c, h'⟩ := hs.cob b v h
      have hlt := (Array.getElem?_eq_some_iff.1 h').1
      exact ⟨c, by rw [heap_push_lt hlt]; exact h'⟩
    · rw [gp] at h
      by_cases e : id = fid
      · rw [if_pos e] at h
        cases h
        show G.con w.heap.size i = none
        cases hc : G.con w.heap.size i with
        | none => rfl
        | some v =>
          exact absurd (World.block_lt_of_cell? _ _ (hs.con _ _ _ hc)) (Nat.lt_irrefl _)
      · rw [if_neg e] at h
        exact hs.sep id b base i ((own id e).1 o) h
    · rw [gp] at h
      by_cases e : id = fid
      · rw [if_pos e] at h
        cases h
        show G.cob w.heap.size = none
        cases hc : G.cob w.heap.size with
        | none => rfl
        | some v =>
          obtain ⟨c, h'⟩ := hs.cob _ _ hc
          rw [Array.getElem?_eq_none (by simp)] at h'
          cases h'
      · rw [if_neg e] at h
        exact hs.sep2 id b base ((own id e).1 o) h
  · refine ⟨le, fun id b base h => ?_, fun _ _ _ h => .inl h, fun _ _ h => .inl h, fun b hb => if_neg (by omega), fun b hb _ => heap_push_lt hb, by rw [hsz]; omega, ⟨rfl, rfl, rfl⟩, Nat.le_refl _, fun id o => ?_⟩
    · rw [gp] at h
      by_cases e : id = fid
      · rw [if_pos e] at h; cases h; exact .inr (.inl (Nat.le_refl _))
      · rw [if_neg e] at h; exact .inl h
    · by_cases e : id = fid
      · rw [e]; exact .inr hf
      · exact .inl ((own id e).1 o)
/-- An operation that makes a block: in whatever order it comes. -/
def Mk (P : Program) (G : Gh) (ρ : Operand → Value) (o : Oper) (w : World) (fid : Nat) (a : AV) (k : Blk) : Prop :=
  k ≠ .gone ∧ ∃ v ob n, (execOp ρ o).run P w = .ok (.value v) { w with heap := w.heap.push ob } ∧ RV (G.new fid w.heap.size n) v a ∧ BlkR (G.new fid w.heap.size n) { w with heap := w.heap.push ob } w.heap.size 0 k
theorem mk_var {v : Value} {cs : List AV} {fid t : Nat} (hs : St G w M) (hf : G.phi fid = none) (hv : RVs G v.cells cs) (hrun : (execOp ρ o).run P w = .ok (.value (.pointer (some ⟨w.heap.size, 0, none⟩))) { w with heap := w.heap.push (.cells v.cells t) }) : Mk P G ρ o w fid (.ptr fid 0 0 0) (.var cs) := by
  refine ⟨by simp, _, _, 0, hrun, ?_, rfl, v.cells, t, heap_push_eq, hv.mono (Gh.new_le hs hf)⟩
  have : (G.new fid w.heap.size 0).phi fid = some (w.heap.size, 0) := if_pos rfl
  exact RV.ptr (ix := 0) (sz := 0) (off := 0) this
theorem n_alloc {t fid : Nat} {k : Blk} {a : AV} (ho : o.op = .alloc t) (hs : St G w M) (hf : G.phi fid = none) (h : oNewVar (zeroC P t) fid M = .val a M') : ∃ k, Mk P G ρ o w fid a k ∧ M' = newB M fid k := by
  unfold oNewVar at h
  split at h
  · rename_i cs hz
    cases h
    obtain ⟨v, h1, h2, _, _⟩ := zeroC_ok (G := G) hz w
    refine ⟨_, mk_var hs hf h2 (t := t) ?_, rfl⟩
    unfold execOp
    rw [ho]
    simp only [Instr.alloc, Sem.run_bind, h1, Result.andThen_ok, newVar, newRow, run_newObj, Sem.run_pure]
  · cases h
theorem n_box {t fid : Nat} {x : Operand} {a : AV} (ho : o.op = .box t x) (hs : St G w M) (hf : G.phi fid = none) (hx : RV G (ρ x) (ev x)) (h : oNewVar (ev x).cells fid M = .val a M') : ∃ k, Mk P G ρ o w fid a k ∧ M' = newB M fid k := by
  unfold oNewVar at h
  split at h
  · rename_i cs hz
    cases h
    refine ⟨_, mk_var hs hf (hx.cells hz).1 (t := t) ?_, rfl⟩
    unfold execOp
    rw [ho]
    simp only [Instr.box, Sem.run_bind, Result.andThen_ok, newVar, newRow, run_newObj, Sem.run_pure]
  · cases h
theorem n_map {t fid : Nat} {a : AV} (ho : o.op = .makeMap t none) (hs : St G w M) (hf : G.phi fid = none) (h : hMkM t none P ev M fid = .val a M') : ∃ k, Mk P G ρ o w fid a k ∧ M' = newB M fid k := by
  cases h
  have hne : mkMB P t ≠ .gone := by
    unfold mkMB mkMB2
    repeat' split
    all_goals simp
  have hB : BlkR (G.new fid w.heap.size 0) { w with heap := w.heap.push (.map #[] 0) } w.heap.size 0 (mkMB P t) := by
    have h1 : BlkR (G.new fid w.heap.size 0) { w with heap := w.heap.push (.map #[] 0) } w.heap.size 0 (.map []) := ⟨rfl, #[], 0, heap_push_eq, rfl, fun j e p h => by simp at h⟩
    unfold mkMB mkMB2
    repeat' split
    all_goals first | exact h1 | exact ⟨rfl, #[], 0, heap_push_eq, fun e he => by simp at he, fun n => rfl⟩
  refine ⟨mkMB P t, ⟨hne, .map (some w.heap.size), .map #[] 0, 0, ?_, ?_, hB⟩, rfl⟩
  · unfold execOp
    rw [ho]
    rfl
  · have : (G.new fid w.heap.size 0).phi fid = some (w.heap.size, 0) := if_pos rfl
    exact .map this
end
end Go.Proofs.YtpflobodmglmaaaGreat
set_option linter.unusedVariables false
set_option maxHeartbeats 4000000
namespace Go.Proofs.YtpflobodmglmaaaGreat
/-- A row of elements in an array. -/
def RowR (G : Gh) (arr : Array Value) (base sz n : Nat) (g : Nat → List AV) : Prop := ∀ i, i < n → (g i).length = sz ∧ ∀ (j : Nat) (v : Value) (a : AV), arr[base + (i * sz + j)]? = some v → (g i)[j]? = some a → RV G v a
def rowG (g : Nat → List AV) : List (Nat × AV) → Nat → List AV
  | [], j => g j
  | (i, v) :: rest, j => bif Nat.beq j i then (match v.cells with | some c => c | none => []) else rowG g rest j
theorem rowOf_eq (z : List AV) : ∀ (ps : List (Nat × AV)) (j : Nat), rowOf z ps j = rowG (fun _ => z) ps j
  | [], j => rfl
  | (i, v) :: rest, j => by
    show (bif Nat.beq j i then _ else rowOf z rest j) = _
    rw [rowOf_eq z rest j]
    rfl
theorem beq_ff {a b : Nat} (h : a ≠ b) : Nat.beq a b = false := by
  cases hh : Nat.beq a b with
  | false => rfl
  | true => exact absurd (Nat.eq_of_beq_eq_true hh) h
theorem appRow_eq (n k : Nat) (g gx : Nat → List AV) : appRow n k g gx = fun j => bif Nat.blt j n then g j else gx (j - n) := by
  funext j
  exact mixL_eq _ _ _
theorem rowL2_eq (len : Nat) (z : Nat → List AV) : ∀ (ps : List (Nat × AV)) (i j : Nat), covP len ps i = true → i ≤ j → j < len → rowL2 ps j = rowG z ps j
  | [], i, j, h, h1, h2 => by
    have : i = len := by simpa [covP] using h
    omega
  | (k, v) :: rest, i, j, h, h1, h2 => by
    have h : (Nat.beq k i && covP len rest (i + 1)) = true := h
    simp only [Bool.and_eq_true, Nat.beq_eq] at h
    obtain ⟨rfl, h⟩ := h
    show _ = (bif Nat.beq j k then cellsOf v else rowG z rest j)
    cases rest with
    | nil =>
      have h3 : k + 1 = len := by simpa [covP] using h
      have : j = k := by omega
      subst this
      simp [rowL2]
    | cons p rest =>
      show mixL (Nat.beq j k) (cellsOf v) (rowL2 (p :: rest) j) = _
      rw [mixL_eq]
      by_cases e : j = k
      · subst e; simp
      · rw [beq_ff e]
        exact rowL2_eq len z (p :: rest) (k + 1) j h (by omega) h2
theorem rowC_eq (z : List AV) (len : Nat) (ps : List (Nat × AV)) (j : Nat) (h : j < len) : rowC z len ps j = rowG (fun _ => z) ps j := by
  unfold rowC
  cases hc : covP len ps 0 with
  | false => exact rowOf_eq z ps j
  | true => exact rowL2_eq len _ ps 0 j hc (Nat.zero_le _) h
theorem rowG_other (g g' : Nat → List AV) (i : Nat) : ∀ (ps : List (Nat × AV)), (∀ p ∈ ps, p.1 ≠ i) → (∀ j, j ≠ i → g j = g' j) → rowG g ps i = g i ∧ ∀ j, j ≠ i → rowG g ps j = rowG g' ps j
  | [], _, h => ⟨rfl, fun j hj => h j hj⟩
  | (k, v) :: ps, hp, h => by
    have ih := rowG_other g g' i ps (fun p hm => hp p (List.mem_cons_of_mem _ hm)) h
    have hk : k ≠ i := hp (k, v) (List.mem_cons_self ..)
    refine ⟨?_, fun j hj => ?_⟩
    · show (bif Nat.beq i k then _ else rowG g ps i) = _
      rw [beq_ff (Ne.symm hk)]
      exact ih.1
    · show (bif Nat.beq j k then _ else rowG g ps j) = (bif Nat.beq j k then _ else rowG g' ps j)
      rw [ih.2 j hj]
theorem row_apart {i k sz j q : Nat} (h : i ≠ k) (hj : j < sz) (hq : q < sz) : i * sz + j ≠ k * sz + q := by
  rcases Nat.lt_or_gt_of_ne h with h | h
  · have : (i + 1) * sz ≤ k * sz := Nat.mul_le_mul_right sz h
    rw [Nat.succ_mul] at this
    omega
  · have : (k + 1) * sz ≤ i * sz := Nat.mul_le_mul_right sz h
    rw [Nat.succ_mul] at this
    omega
section
variable {P : Program} {G : Gh} {ρ : Operand → Value} {ev : Operand → AV} {o : Oper} {w : World} {M M' : Mem} {r : AV}
/-- One element is put. -/
theorem RowR.put {arr : Array Value} {base sz n i : Nat} {g : Nat → List AV} {vs : List Value} {c : List AV} (h : RowR G arr base sz n g) (hi : i < n) (hsz : base + n * sz ≤ arr.size) (hl : vs.length = sz) (hc : c.length = sz) (hv : ∀ (j : Nat) (v : Value) (a : AV), vs[j]? = some v → c[j]? = some a → RV G v a) :
    RowR G (setV arr (base + i * sz) vs) base sz n (fun j => bif Nat.beq j i then c else g j) := by
  have hle : (i + 1) * sz ≤ n * sz := Nat.mul_le_mul_right sz hi
  rw [Nat.succ_mul] at hle
  intro k hk
  by_cases e : k = i
  · subst e
    have e1 : Nat.beq k k = true := Nat.beq_refl k
    dsimp only
    rw [e1]
    refine ⟨hc, fun j v a h1 h2 => ?_⟩
    have hj : j < sz := by rw [← hc]; exact (List.getElem?_eq_some_iff.1 h2).1
    rw [setV_get _ _ _ _ (by omega), if_pos (by omega)] at h1
    exact hv j v a (by rw [← h1]; congr 1; omega) h2
  · dsimp only
    rw [beq_ff e]
    obtain ⟨h1, h2⟩ := h k hk
    refine ⟨h1, fun j v a h3 h4 => ?_⟩
    have hj : j < sz := by rw [← h1]; exact (List.getElem?_eq_some_iff.1 h4).1
    rw [setV_get _ _ _ _ (by omega), if_neg ?_] at h3
    · exact h2 j v a h3 h4
    · intro ⟨a1, a2⟩
      exact row_apart e hj (q := k * sz + j - i * sz) (by omega) (by omega)
theorem RowR.congr {arr : Array Value} {base sz n : Nat} {g g' : Nat → List AV} (h : RowR G arr base sz n g) (e : ∀ i, i < n → g' i = g i) : RowR G arr base sz n g' := fun i hi => by rw [e i hi]; exact h i hi
theorem RowR.fill {sz n : Nat} : ∀ (as : List (Nat × AV)) (vs : List (Nat × Value)) (arr : Array Value) (g : Nat → List AV), PartR G vs as → partsOk sz n as = true → n * sz ≤ arr.size → RowR G arr 0 sz n g →
    ∃ arr', Instr.fill (fun i => some (i * sz, sz)) arr vs = some arr' ∧ arr'.size = arr.size ∧ RowR G arr' 0 sz n (rowG g as)
  | [], [], arr, g, _, _, _, h => ⟨arr, rfl, rfl, h⟩
  | (j, a) :: as, (i, v) :: vs, arr, g, ⟨hij, hv, hr⟩, hp, hsz, h => by
    subst hij
    unfold partsOk at hp
    simp only [Bool.and_eq_true, Nat.blt_eq, List.all_eq_true] at hp
    obtain ⟨h1, h2, h3, h4⟩ := hp
    cases hc : a.cells with
    | none => rw [hc] at h1; cases h1
    | some c =>
      rw [hc] at h1
      have h1 : c.length = sz := Nat.eq_of_beq_eq_true h1
      have hcs := (hv.cells hc).1
      have hl := hcs.len
      have hle : (i + 1) * sz ≤ n * sz := Nat.mul_le_mul_right sz h2
      rw [Nat.succ_mul] at hle
      have hput := RowR.put (i := i) (vs := v.cells.toList) (c := c) h h2 (by omega) (by rw [Array.length_toList]; omega) h1 (fun j x b e f => hcs.at' j x b (by simpa using e) f)
      obtain ⟨arr', h5, h6, h7⟩ := RowR.fill as vs _ _ hr h4 (by rw [setV_size]; omega) hput
      refine ⟨arr', ?_, by rw [h6, setV_size], h7.congr (fun k hk => ?_)⟩
      · unfold Instr.fill
        simp only
        rw [if_neg (by simp only [ne_eq, decide_not, gt_iff_lt, Bool.or_eq_true, Bool.not_eq_eq_eq_not, Bool.not_true, decide_eq_false_iff_not, decide_eq_true_eq]; omega)]
        rw [← h5]
        congr 1
        rw [← Array.foldl_toList, Array.toList_zipIdx, setV_fold (i * sz) v.cells.toList 0]
        rw [Nat.zero_add]
        rfl
      · have hne : ∀ p ∈ as, p.1 ≠ i := fun p hp2 e => by
          have := h3 p hp2
          rw [e] at this
          have e2 : Nat.beq i i = true := Nat.beq_refl i
          rw [e2] at this
          cases this
        have ot := rowG_other (fun j => bif Nat.beq j i then c else g j) g i as hne (fun j hj => by simp only [beq_ff hj]; rfl)
        show (bif Nat.beq k i then (match a.cells with | some c => c | none => []) else rowG g as k) = _
        rw [hc]
        by_cases e : k = i
        · subst e
          have e2 : Nat.beq k k = true := Nat.beq_refl k
          rw [ot.1, e2]
          rfl
        · rw [beq_ff e, ot.2 k e]
          rfl
theorem zero_row {zero : Array Value} {z : List AV} {sz n : Nat} (h : RVs G zero z) (hz : z.length = sz) (h0 : 0 < sz) : RowR G ((Array.range (n * sz)).map (zero[· % zero.size]!)) 0 sz n (fun _ => z) := by
  intro i hi
  refine ⟨hz, fun j v a h1 h2 => ?_⟩
  have hj : j < sz := by rw [← hz]; exact (List.getElem?_eq_some_iff.1 h2).1
  have hzs : zero.size = sz := by rw [h.len, hz]
  have hle : (i + 1) * sz ≤ n * sz := Nat.mul_le_mul_right sz hi
  rw [Nat.succ_mul] at hle
  rw [Array.getElem?_map, Array.getElem?_range, if_pos (by omega)] at h1
  simp only [Option.map_some, Option.some.injEq] at h1
  rw [hzs, Nat.zero_add, Nat.mul_comm i sz, Nat.mul_add_mod, Nat.mod_eq_of_lt hj] at h1
  refine h.at' j v a ?_ h2
  rw [getElem!_pos zero j (by omega)] at h1
  rw [Array.getElem?_eq_getElem (by omega), h1]
theorem mk_row {arr : Array Value} {sz n fid t cap : Nat} {full : Bool} {g : Nat → List AV} (hs : St G w M) (hf : G.phi fid = none) (hr : RowR G arr 0 sz n g) (hsz : n * sz ≤ arr.size) (hc : n ≤ cap) (hfu : full = true → cap = n) (hcs : cap * sz ≤ arr.size) (hrun : (execOp ρ o).run P w = .ok (.value (.slice (some ⟨w.heap.size, 0, none⟩) n cap)) { w with heap := w.heap.push (.cells arr t) }) : Mk P G ρ o w fid (.sl fid 0 n full sz) (.row sz n g) := by
  have hp : (G.new fid w.heap.size arr.size).phi fid = some (w.heap.size, 0) := if_pos rfl
  have ht : (G.new fid w.heap.size arr.size).tot w.heap.size = arr.size := if_pos rfl
  refine ⟨by simp, _, _, arr.size, hrun, ?_, arr, t, heap_push_eq, by omega, ht.symm, fun i hi => ⟨(hr i hi).1, fun j v a e f => ((hr i hi).2 j v a e f).mono (Gh.new_le hs hf)⟩⟩
  have := RV.sl (o := 0) (off := 0) (len := n) (sz := sz) (cap := cap) (full := full) hp hc hfu (by rw [ht, Nat.zero_add, Nat.zero_add]; exact hcs) (.inr (by omega))
  exact this
theorem n_buildSlice {t len fid : Nat} {parts : Array (Nat × Operand)} {a : AV} (ho : o.op = .buildSlice t len parts) (hs : St G w M) (hf : G.phi fid = none) (hx : ∀ p ∈ parts.toList, RV G (ρ p.2) (ev p.2)) (h : oBuildSlice P (undB P t) len (evP ev parts.toList) M fid = .val a M') : ∃ k, Mk P G ρ o w fid a k ∧ M' = newB M fid k := by
  unfold oBuildSlice at h
  split at h
  · rename_i e hd
    split at h
    · rename_i z hz
      obtain ⟨h1, rfl, rfl⟩ := bif_val h
      simp only [Bool.and_eq_true, Nat.beq_eq, Nat.ble_eq, Nat.blt_eq] at h1
      obtain ⟨h1, h2, h3, h4⟩ := h1
      obtain ⟨zv, hz1, hz2, _, _⟩ := zeroC_ok (G := G) hz w
      obtain ⟨inf, hinf⟩ := info_of_szB (P := P) (t := e) (by omega)
      obtain ⟨arr, h5, h6, h7⟩ := RowR.fill _ _ _ _ (PartR.of (ρ := ρ) (ev := ev) parts.toList hx) h1 (by simp) (zero_row (n := len) hz2 h2 h4)
      have hsz : arr.size = len * szB P e := by rw [h6]; simp
      have h7' : RowR G arr 0 (szB P e) len (rowC z len (evP ev parts.toList)) := h7.congr (fun i hi => rowC_eq z _ _ i hi)
      refine ⟨_, mk_row hs hf h7' (by omega) (Nat.le_refl _) (fun _ => rfl) (by omega) (t := e) ?_, rfl⟩
      have hp : (parts.map fun (i, x) => (i, ρ x)).toList = parts.toList.map fun p => (p.1, ρ p.2) := by rw [Array.toList_map]
      unfold execOp
      rw [ho]
      by_cases h00 : len * szB P e = 0
      · have harr : Instr.fill (fun i => some (i * szB P e, szB P e)) ((Array.range (len * szB P e)).map ((#[] : Array Value)[· % (#[] : Array Value).size]!)) (parts.map fun (i, x) => (i, ρ x)).toList = some arr := by
          rw [hp, ← h5]
          congr 1
          rw [h00]
          simp
        simp only [Instr.buildSlice, Sem.run_bind, run_und hd, Result.andThen_ok, szB_ok hinf, if_neg (show ¬ (len * szB P e > 2 ^ 24) by omega), Sem.run_pure, if_pos h00, harr, newRow, run_newObj]
      · have harr : Instr.fill (fun i => some (i * szB P e, szB P e)) ((Array.range (len * szB P e)).map (zv.cells[· % zv.cells.size]!)) (parts.map fun (i, x) => (i, ρ x)).toList = some arr := by
          rw [hp]; exact h5
        simp only [Instr.buildSlice, Sem.run_bind, run_und hd, Result.andThen_ok, szB_ok hinf, if_neg (show ¬ (len * szB P e > 2 ^ 24) by omega), Sem.run_pure, if_neg h00, hz1, harr, newRow, run_newObj]
    · cases h
  · cases h
theorem n_makeSlice {t fid : Nat} {l c : Operand} {a : AV} (ho : o.op = .makeSlice t l c) (hs : St G w M) (hf : G.phi fid = none) (hl : RV G (ρ l) (ev l)) (hc : RV G (ρ c) (ev c)) (h : oMakeSlice P (undB P t) (ev l) (ev c) M fid = .val a M') : ∃ k, Mk P G ρ o w fid a k ∧ M' = newB M fid k := by
  unfold oMakeSlice at h
  split at h
  · rename_i e n m hd he1 he2
    split at h
    · rename_i z hz
      obtain ⟨h1, rfl, rfl⟩ := bif_val h
      simp only [Bool.and_eq_true, Nat.beq_eq, Nat.ble_eq, Nat.blt_eq, leI_eq, eqI_eq, decide_eq_true_eq, beq_iff_eq] at h1
      obtain ⟨h1, rfl, h2, h3, h4, h5⟩ := h1
      rw [he1] at hl
      rw [he2] at hc
      obtain ⟨zv, hz1, hz2, _, _⟩ := zeroC_ok (G := G) hz w
      obtain ⟨inf, hinf⟩ := info_of_szB (P := P) (t := e) (by omega)
      have hby : bytB P e = inf.bytes := by unfold bytB; rw [hinf]
      rw [hby] at h5
      refine ⟨_, mk_row hs hf (zero_row (n := n.toNat) hz2 h3 h4) (by simp) (Nat.le_refl _) (fun h => by cases h) (by simp) (t := e) ?_, rfl⟩
      have hw : IntKind.i64.wrap n = n := IntWalk.i64_in n ⟨by omega, by omega⟩
      have hb : ¬ ((inf.bytes : Int) * n > 2 ^ 48) := by
        have : (inf.bytes : Int) * n ≤ 65536 * 16777216 := Int.mul_le_mul (by omega) h2 h1 (by omega)
        omega
      have hti : (typeInfo e).run P w = .ok inf w := by unfold typeInfo; simp [Sem.run_bind, infoB_ok hinf]
      have hcond : ((decide (n < 0) || decide ((inf.bytes : Int) * n > 2 ^ 48)) || decide (n < 0) || decide (n > n)) = false := by
        simp only [Bool.or_eq_false_iff, decide_eq_false_iff_not]
        omega
      unfold execOp
      rw [ho]
      by_cases h00 : n.toNat * szB P e = 0
      · have harr : (Array.range (n.toNat * szB P e)).map ((#[] : Array Value)[· % (#[] : Array Value).size]!) = (Array.range (n.toNat * szB P e)).map (zv.cells[· % zv.cells.size]!) := by
          rw [h00]; simp
        simp only [Instr.makeSlice, Sem.run_bind, run_und hd, Result.andThen_ok, hl.int_inv, hc.int_inv, asInt, asIntOf, Sem.run_pure, hti, hw, hcond, Bool.false_eq_true, if_false, run_askRoom, szB_ok hinf, if_pos h00, harr, newRow, run_newObj]
      · simp only [Instr.makeSlice, Sem.run_bind, run_und hd, Result.andThen_ok, hl.int_inv, hc.int_inv, asInt, asIntOf, Sem.run_pure, hti, hw, hcond, Bool.false_eq_true, if_false, run_askRoom, szB_ok hinf, if_neg h00, hz1, newRow, run_newObj]
    · cases h
  · cases h
end
end Go.Proofs.YtpflobodmglmaaaGreat
set_option linter.unusedVariables false
set_option maxHeartbeats 4000000
namespace Go.Proofs.YtpflobodmglmaaaGreat
section
variable {P : Program} {G : Gh} {ρ : Operand → Value} {ev : Operand → AV} {o : Oper} {w : World} {M M' : Mem} {r : AV}
/-- A block is written. -/
theorem St.put {id b base : Nat} {k : Blk} {w' : World} (hs : St G w M) (ho : Own M id) (hp : G.phi id = some (b, base)) (hw : ∀ x, x ≠ b → w'.heap[x]? = w.heap[x]?) (hsz : w'.heap.size = w.heap.size) (hos : w'.os = w.os ∧ w'.tape = w.tape ∧ w'.output = w.output) (hk : BlkR G w' b base k) (hkg : k ≠ .gone) (lg : List Nat) :
    St G w' ⟨M.h.set id k, M.nx, lg⟩ ∧ Ev G w M G w' ⟨M.h.set id k, M.nx, lg⟩ := by
  have gm : ∀ i, (M.h.set id k).get i = if id = i then some k else M.h.get i := fun i => get_set _ _ _ _
  have own : ∀ i, Own ⟨M.h.set id k, M.nx, lg⟩ i → Own M i := fun i ⟨q, h1, h2⟩ => by
    by_cases e : id = i
    · rw [← e]; exact ho
    · change (M.h.set id k).get i = _ at h1
      rw [gm, if_neg e] at h1
      exact ⟨q, h1, h2⟩
  constructor
  · refine ⟨fun i q b' base' h1 h2 => ?_, fun i i' b' base1 base2 o1 o2 h1 h2 => hs.inj i i' b' base1 base2 (own i o1) (own i' o2) h1 h2, fun i b' base' h => by rw [hsz]; exact hs.lt _ _ _ h, hs.fresh, fun b' i v h => ?_, fun b' v h => ?_, fun i b' base' j o1 h => hs.sep i b' base' j (own i o1) h, fun i b' base' o1 h => hs.sep2 i b' base' (own i o1) h⟩
    · change (M.h.set id k).get i = _ at h1
      rw [gm] at h1
      by_cases e : id = i
      · rw [if_pos e] at h1
        cases h1
        rw [← e, hp] at h2
        cases h2
        exact hk
      · rw [if_neg e] at h1
        by_cases hb : b' = b
        · subst hb
          by_cases hq : q = .gone
          · subst hq; trivial
          · exact absurd (hs.inj id i b' base base' ho ⟨q, h1, hq⟩ hp h2) e
        · exact (hs.blk i q b' base' h1 h2).mono (GLe.refl G) (hw b' hb) h2
    · have hb : b' ≠ b := fun e => by rw [e, hs.sep id b base i ho hp] at h; cases h
      have := hs.con b' i v h
      unfold World.cell? at this ⊢
      rw [hw b' hb]
      exact this
    · have hb : b' ≠ b := fun e => by rw [e, hs.sep2 id b base ho hp] at h; cases h
      obtain ⟨c, h1⟩ := hs.cob b' v h
      exact ⟨c, by rw [hw b' hb]; exact h1⟩
  · exact ⟨GLe.refl G, fun _ _ _ h => .inl h, fun _ _ _ h => .inl h, fun _ _ h => .inl h, fun _ _ => rfl, fun b' _ hn => hw b' (fun e => hn ⟨id, base, ho, by rw [e]; exact hp⟩), by omega, hos, Nat.le_refl _, fun i o1 => .inl (own i o1)⟩
theorem splice_eq (cur : Array Value) (k : Nat) (vs : List Value) (h : k + vs.length ≤ cur.size) : (cur.toList.take k ++ vs ++ cur.toList.drop (k + vs.length)).toArray = setV cur k vs := by
  apply Array.ext_getElem?
  intro j
  rw [setV_get _ _ _ _ h, List.getElem?_toArray, List.append_assoc]
  have hl : (cur.toList.take k).length = k := by rw [List.length_take, Array.length_toList]; omega
  by_cases h1 : j < k
  · rw [List.getElem?_append_left (by omega), List.getElem?_take_of_lt h1, if_neg (by omega), Array.getElem?_toList]
  · rw [List.getElem?_append_right (by omega), hl]
    by_cases h2 : j < k + vs.length
    · rw [List.getElem?_append_left (by omega), if_pos (by omega)]
    · rw [List.getElem?_append_right (by omega), if_neg (by omega), List.getElem?_drop, Array.getElem?_toList]
      congr 1
      omega
/-- A writing operation's answer. -/
def Wr (P : Program) (G : Gh) (ρ : Operand → Value) (o : Oper) (w : World) (M : Mem) (fid : Nat) (a : AV) (M' : Mem) : Prop :=
  ∃ G' w' v, OpRes ((execOp ρ o).run P w) v w' ∧ RV G' v a ∧ St G' w' M' ∧ Ev G w M G' w' M' ∧ Ub (· ≠ fid) G G'
theorem storeVar_ok {t : TypeId} {i : TypeInfo} {v : Value} {b k : Nat} {cur : Array Value} {tt : TypeId} (hi : infoB P t = some i) (hv : v.cells.size = szB P t) (h1 : ∀ (j : Nat) (u : Value), v.cells[j]? = some u → u.oneCell' = true) (hc : w.heap[b]? = some (.cells cur tt (0, 0))) (hle : k + v.cells.size ≤ cur.size) :
    (storeVar t ⟨b, k, none⟩ v).run P w = .ok () (w.setRow b (setV cur k v.cells.toList)) := by
  have := run_storeCells_at (P := P) b k tt v.cells.toList 0 cur w hc (by rw [Array.length_toList]; omega) (fun u hu => by
    obtain ⟨j, hj⟩ := List.getElem?_of_mem hu
    exact h1 j u (by simpa using hj))
  rw [Nat.add_zero, splice_eq _ _ _ (by rw [Array.length_toList]; omega)] at this
  unfold storeVar
  simp only [Sem.run_bind, szB_ok hi, Result.andThen_ok, hv, ne_eq, not_true_eq_false, if_false, this]
theorem w_store {t : TypeId} {fid : Nat} {a x : Operand} (ho : o.op = .store t a x) (hs : St G w M) (ha : RV G (ρ a) (ev a)) (hx : RV G (ρ x) (ev x)) (h : oStore (szB P t) (ev a) (ev x).cells M = .val r M') : Wr P G ρ o w M fid r M' := by
  unfold oStore at h
  split at h
  · rename_i vs hvs
    obtain ⟨h0, h⟩ := bif_no h
    simp only [Bool.and_eq_true, Nat.beq_eq, Nat.blt_eq] at h0
    obtain ⟨h0, h00⟩ := h0
    obtain ⟨hcs, hone⟩ := hx.cells hvs
    have hl := hcs.len
    unfold oStore1 at h
    split at h
    · rename_i c M2 hpk
      obtain ⟨rfl, rfl, rfl⟩ := bif_val h
      unfold poke at hpk
      split at hpk
      · rename_i id ix sz off hae
        rw [hae] at ha
        generalize hav : ρ a = av at ha
        cases ha with
        | ptr hp =>
        rename_i b base
        unfold pokeB at hpk
        split at hpk
        · rename_i cs hb
          simp only [Option.some.injEq, Prod.mk.injEq, Bool.and_eq_true, Nat.beq_eq, Nat.ble_eq] at hpk
          obtain ⟨⟨h1, h2⟩, rfl⟩ := hpk
          subst h1
          obtain ⟨rfl, arr, tt, hc, hr⟩ := hs.blk _ _ _ _ hb hp
          have hrl := hr.len
          · obtain ⟨i, hi⟩ := info_of_szB (P := P) (t := t) (by omega)
            have hst := storeVar_ok (P := P) (w := w) (k := off) hi (by omega) hone hc (by omega)
            obtain ⟨s1, s2⟩ := St.put (k := .var (setL cs off vs)) (w' := w.setRow b (setV arr off (ρ x).cells.toList)) hs ⟨_, hb, by simp⟩ hp (fun y hy => setRow_other w b y _ hy) (by simp) ⟨rfl, rfl, rfl⟩ ⟨rfl, _, tt, setRow_heap w b arr _ tt _ hc, hr.set hcs (by omega)⟩ (by simp) (id :: M.lg)
            refine ⟨G, _, undef, .inr ⟨?_, rfl⟩, .undef, s1, s2, Ub.refl _ _⟩
            unfold execOp
            rw [ho]
            simp only [Instr.storeAt, Instr.sureAddr, hav, Sem.run_bind, Sem.run_pure, Result.andThen_ok, show 0 + (ix * 0 + off) = off by omega, hst]
        · rename_i sz' n g hb
          simp only [Option.some.injEq, Prod.mk.injEq, Bool.and_eq_true, Nat.beq_eq, Nat.ble_eq, Nat.blt_eq] at hpk
          obtain ⟨⟨⟨h1, h2⟩, h3⟩, rfl⟩ := hpk
          subst h1
          obtain ⟨arr, tt, hc, hsz, htot, hr⟩ := hs.blk _ _ _ _ hb hp
          have hle : (ix + 1) * sz ≤ n * sz := Nat.mul_le_mul_right sz h2
          rw [Nat.succ_mul] at hle
          · obtain ⟨i, hi⟩ := info_of_szB (P := P) (t := t) (by omega)
            have hst := storeVar_ok (P := P) (w := w) (k := base + (ix * sz + off)) hi (by omega) hone hc (by omega)
            have hrow : ∀ k, k < n → ((fun j => bif Nat.beq j ix then setL (g ix) off vs else g j) k).length = sz ∧ ∀ (j : Nat) (v : Value) (a : AV), (setV arr (base + (ix * sz + off)) (ρ x).cells.toList)[base + (k * sz + j)]? = some v → ((fun j => bif Nat.beq j ix then setL (g ix) off vs else g j) k)[j]? = some a → RV G v a := fun k hk => by
              obtain ⟨q1, q2⟩ := hr k hk
              by_cases e : k = ix
              · subst e
                have e2 : Nat.beq k k = true := Nat.beq_refl k
                dsimp only
                rw [e2]
                show (setL (g k) off vs).length = sz ∧ ∀ (j : Nat) (v : Value) (a : AV), _ → (setL (g k) off vs)[j]? = some a → _
                refine ⟨by rw [setL_length]; exact q1, fun j v a e1 e2 => ?_⟩
                have hj : j < sz := by rw [← q1, ← setL_length vs (g k) off]; exact (List.getElem?_eq_some_iff.1 e2).1
                rw [setV_get _ _ _ _ (by rw [Array.length_toList]; omega), Array.length_toList] at e1
                rw [setL_get _ _ _ _ (by omega)] at e2
                by_cases hj2 : off ≤ j ∧ j < off + vs.length
                · rw [if_pos hj2] at e2
                  rw [if_pos (by omega)] at e1
                  refine hcs.at' _ v a ?_ e2
                  rw [← e1, Array.getElem?_toList]
                  congr 1
                  omega
                · rw [if_neg hj2] at e2
                  rw [if_neg (by omega)] at e1
                  exact q2 j v a e1 e2
              · dsimp only
                rw [beq_ff e]
                show (g k).length = sz ∧ ∀ (j : Nat) (v : Value) (a : AV), _ → (g k)[j]? = some a → _
                refine ⟨q1, fun j v a e1 e2 => ?_⟩
                have hj : j < sz := by rw [← q1]; exact (List.getElem?_eq_some_iff.1 e2).1
                rw [setV_get _ _ _ _ (by rw [Array.length_toList]; omega), Array.length_toList, if_neg ?_] at e1
                · exact q2 j v a e1 e2
                · intro ⟨a1, a2⟩
                  exact row_apart e hj (q := k * sz + j - ix * sz) (by omega) (by omega)
            obtain ⟨s1, s2⟩ := St.put (k := .row sz n (fun j => bif Nat.beq j ix then setL (g ix) off vs else g j)) (w' := w.setRow b (setV arr (base + (ix * sz + off)) (ρ x).cells.toList)) hs ⟨_, hb, by simp⟩ hp (fun y hy => setRow_other w b y _ hy) (by simp) ⟨rfl, rfl, rfl⟩ ⟨_, tt, setRow_heap w b arr _ tt _ hc, by rw [setV_size]; exact hsz, by rw [setV_size]; exact htot, hrow⟩ (by simp) (id :: M.lg)
            refine ⟨G, _, undef, .inr ⟨?_, rfl⟩, .undef, s1, s2, Ub.refl _ _⟩
            unfold execOp
            rw [ho]
            simp only [Instr.storeAt, Instr.sureAddr, hav, Sem.run_bind, Sem.run_pure, Result.andThen_ok, hst]
        · cases hpk
      · cases hpk
    · cases h
  · cases h
/-! Maps. -/
theorem sameBits_of {d0 : TypeDesc} {x y : Value} (h : Instr.sameNow d0 x y = some true) : Instr.sameBits 10000 y x = true := by
  unfold Instr.sameNow at h
  split at h
  · rename_i k a k' b
    by_cases e : k = k'
    · rw [if_pos e] at h
      simp only [Option.some.injEq, beq_iff_eq] at h
      subst e; subst h
      simp [Instr.sameBits]
    · rw [if_neg e] at h; cases h
  · rename_i a b
    simp only [Option.some.injEq] at h
    have e : ((ByteArray.mk b.data == ByteArray.mk a.data) = true) ↔ b.data = a.data := by
      show (b.data == a.data) = true ↔ _
      simp
    have e' : ((ByteArray.mk a.data == ByteArray.mk b.data) = true) ↔ a.data = b.data := by
      show (a.data == b.data) = true ↔ _
      simp
    exact e.2 (e'.1 h).symm
  · simp only [Option.some.injEq, beq_iff_eq] at h
    subst h
    simp [Instr.sameBits]
  · cases h
theorem putE_ok {d : Option TypeDesc} {k u : AV} {x y : Value} (hx : RV G x k) (hy : RV G y u) : ∀ (es es' : List (AV × AV)) (ents : List MapEntry) (i : Nat), EntR G ents es → putE d k u es = some es' →
    ∃ d0, d = some d0 ∧ ((∃ kk, d0 = .int kk) ∨ d0 = .string ∨ d0 = .bool) ∧ ∃ z, Instr.findNow d0 x ents i = some z ∧ (match z with
      | some (j, _) => i ≤ j ∧ (∃ e, ents[j - i]? = some e ∧ Instr.sameBits 10000 e.key x = true) ∧ EntR G (ents.modify (j - i) fun e => { e with key := x, val := y }) es'
      | none => ∀ c, EntR G (ents ++ [{ key := x, val := y, born := c }]) es')
  | [], es', ents, i, hr, h => by
    have : ents = [] := List.length_eq_zero_iff.1 hr.1
    subst this
    unfold putE at h
    cases hk : keyOk d k with
    | false => rw [hk] at h; cases h
    | true =>
      rw [hk] at h
      cases h
      obtain ⟨d0, h1, h2⟩ := keyOk_ok hx hk
      refine ⟨d0, h1, h2, none, rfl, fun c => ⟨rfl, fun j e p a b => ?_⟩⟩
      match j, a, b with
      | 0, a, b => cases a; cases b; exact ⟨hx, hy⟩
      | j + 1, a, _ => simp at a
  | (a, v) :: es, es', ents, i, hr, h => by
    match ents, hr with
    | e :: ents, hr =>
    obtain ⟨⟨hk, hv⟩, ht⟩ := hr.tail
    unfold putE at h
    split at h
    · rename_i he
      cases h
      obtain ⟨d0, h1, h2⟩ := keyEq_ok hx hk he
      refine ⟨d0, h1, ?_, some (i, e.val), by simp [Instr.findNow, h2], Nat.le_refl _, ⟨e, by simp, sameBits_of h2⟩, by simp [ht.1], fun j e' p a b => ?_⟩
      · unfold Instr.sameNow at h2
        split at h2 <;> first | exact .inl ⟨_, rfl⟩ | exact .inr (.inl rfl) | exact .inr (.inr rfl) | cases h2
      · rw [Nat.sub_self] at a
        match j, a, b with
        | 0, a, b => cases a; cases b; exact ⟨hx, hy⟩
        | j + 1, a, b => exact ht.2 j e' p (by simpa using a) b
    · rename_i he
      split at h
      · rename_i l hl
        cases h
        obtain ⟨d0, h1, h2⟩ := keyEq_ok hx hk he
        obtain ⟨d1, h3, h4, z, h5, h6⟩ := putE_ok hx hy es l ents (i + 1) ht hl
        rw [h1] at h3
        cases h3
        refine ⟨d0, h1, h4, z, by simp [Instr.findNow, h2, h5], ?_⟩
        match z, h6 with
        | some (j, q), ⟨g1, ⟨e0, g2, g3⟩, g4⟩ =>
          have hj : j - i = (j - (i + 1)) + 1 := by omega
          refine ⟨by omega, ⟨e0, by rw [hj, List.getElem?_cons_succ]; exact g2, g3⟩, ?_⟩
          rw [hj, List.modify_succ_cons]
          refine ⟨by simpa using g4.1, fun m e' p a b => ?_⟩
          match m, a, b with
          | 0, a, b => cases a; cases b; exact ⟨hk, hv⟩
          | m + 1, a, b => exact g4.2 m e' p a b
        | none, g =>
          intro c
          refine ⟨by simpa using (g c).1, fun m e' p a b => ?_⟩
          match m, a, b with
          | 0, a, b => cases a; cases b; exact ⟨hk, hv⟩
          | m + 1, a, b => exact (g c).2 m e' p a b
      · cases h
    · cases h
theorem run_setObj' {b : Nat} {ob ob' : Obj} (h : w.heap[b]? = some ob) (hn : ∀ c t f, ob ≠ .cells c t f) : (setObj b ob').run P w = .ok () { w with heap := w.heap.setIfInBounds b ob' } := by
  cases ob <;> first | exact absurd rfl (hn _ _ _) | simp [setObj, Sem.run, h]
theorem set_same {b : Nat} {ob ob' : Obj} (h : w.heap[b]? = some ob) : ({ w with heap := w.heap.setIfInBounds b ob' } : World).heap[b]? = some ob' := by
  have := (Array.getElem?_eq_some_iff.1 h).1
  show (w.heap.setIfInBounds b ob')[b]? = _
  rw [Array.getElem?_setIfInBounds_self_of_lt this]
theorem set_other {b x : Nat} {ob' : Obj} (h : x ≠ b) : ({ w with heap := w.heap.setIfInBounds b ob' } : World).heap[x]? = w.heap[x]? := by
  show (w.heap.setIfInBounds b ob')[x]? = _
  rw [Array.getElem?_setIfInBounds_ne (Ne.symm h)]
theorem w_mapUp {t : TypeId} {fid : Nat} {m k x : Operand} (ho : o.op = .mapUpdate t m k x ∨ o.op = .insert t m k x) (hs : St G w M) (hm : RV G (ρ m) (ev m)) (hk : RV G (ρ k) (ev k)) (hx : RV G (ρ x) (ev x)) (h : oMapUp (mapK P t) (ev m) (ev k) (ev x) M = .val r M') : Wr P G ρ o w M fid r M' := by
  unfold oMapUp at h
  split at h
  · rename_i id he
    split at h
    · rename_i es hb
      unfold oMapUp1 at h
      split at h
      · rename_i es' hpe
        cases h
        rw [he] at hm
        generalize hv : ρ m = mv at hm
        cases hm with
        | map hp =>
        rename_i b
        obtain ⟨_, ents, clock, hc, hl, hr⟩ := hs.blk _ _ _ _ hb hp
        have hE : EntR G ents.toList es := ⟨by simpa using hl, fun j e p h1 h2 => hr j e p (by simpa using h1) h2⟩
        obtain ⟨d0, h1, h2, z, h3, h4⟩ := putE_ok hk hx es es' ents.toList 0 hE hpe
        obtain ⟨kt, et, h5, h6, h7⟩ := mapK_inv h1
        have key : ∀ (nents : Array MapEntry) (nc : Nat), EntR G nents.toList es' → (Instr.mapUpdate t (.map (some b)) (ρ k) (ρ x)).run P w = .ok () { w with heap := w.heap.setIfInBounds b (.map nents nc) } → Wr P G ρ o w M fid .undef ⟨M.h.set id (.map es'), M.nx, id :: M.lg⟩ := fun nents nc hn hrun => by
          obtain ⟨s1, s2⟩ := St.put (k := .map es') (w' := { w with heap := w.heap.setIfInBounds b (.map nents nc) }) hs ⟨_, hb, by simp⟩ hp (fun y hy => set_other hy) (by show (w.heap.setIfInBounds b _).size = _; simp) ⟨rfl, rfl, rfl⟩ ⟨rfl, nents, nc, set_same hc, by simpa using hn.1, fun j e p a b => hn.2 j e p (by simpa using a) b⟩ (by simp) (id :: M.lg)
          refine ⟨G, _, undef, .inr ⟨?_, rfl⟩, .undef, s1, s2, Ub.refl _ _⟩
          unfold execOp
          rcases ho with ho | ho <;> rw [ho] <;> simp only [hv, Sem.run_bind, hrun, Result.andThen_ok, Sem.run_pure]
        match z, h3, h4 with
        | some (j, q), h3, ⟨_, ⟨e, g1, g2⟩, g3⟩ =>
          refine key (ents.modify j fun e => { e with key := ρ k, val := ρ x }) clock (by rw [Array.toList_modify]; exact g3) ?_
          have ge : ents[j]? = some e := by simpa using g1
          simp only [Instr.mapUpdate, Sem.run_bind, run_und h5, Result.andThen_ok, run_getMap hc, checkKey_ok h6 h2, Instr.findKey, run_und h6, h3, Sem.run_pure, ge, Option.map_some, Option.getD_some, Instr.keyThatStays, g2, if_true]
          rw [run_setObj' hc (fun _ _ _ e => by cases e)]
        | none, h3, g =>
          refine key (ents.push { key := ρ k, val := ρ x, born := clock }) (clock + 1) (by rw [Array.toList_push]; exact g clock) ?_
          simp only [Instr.mapUpdate, Sem.run_bind, run_und h5, Result.andThen_ok, run_getMap hc, checkKey_ok h6 h2, Instr.findKey, run_und h6, h3, Sem.run_pure]
          rw [run_setObj' hc (fun _ _ _ e => by cases e)]
      · cases h
    · rename_i kk kv l hb
      rw [he] at hm
      generalize hv : ρ m = mv at hm
      cases hm with
      | map hp =>
      rename_i b
      obtain ⟨_, ents, clock, hc, hI1, hI2⟩ := hs.blk _ _ _ _ hb hp
      unfold oMapUpI at h
      split at h
      · rename_i k' n kz y hke hxe
        obtain ⟨h0, rfl, rfl⟩ := bif_val h
        simp only [Bool.and_eq_true] at h0
        obtain ⟨a1, a2, a3⟩ := h0
        have a2 := kEq_ok a2
        have a3 := kEq_ok a3
        subst a2
        subst a3
        rw [hke] at hk
        rw [hxe] at hx
        have hkv := hk.int_inv
        have hxv := hx.int_inv
        obtain ⟨k0, a1⟩ := dInt_some a1
        obtain ⟨kt, et, h5, h6, h7⟩ := mapK_inv a1
        obtain ⟨z, h3, h4⟩ := findI_ok k0 k' kz n ents.toList 0 hI1
        have key : ∀ (nents : Array MapEntry) (nc : Nat), IntE k' kz nents.toList → (∀ m, fI nents.toList m = if m = n then some y else fI ents.toList m) → (Instr.mapUpdate t (.map (some b)) (ρ k) (ρ x)).run P w = .ok () { w with heap := w.heap.setIfInBounds b (.map nents nc) } → Wr P G ρ o w M fid .undef ⟨M.h.set id (.mpi k' kz ((n, y) :: l)), M.nx, id :: M.lg⟩ := fun nents nc hn1 hn2 hrun => by
          obtain ⟨s1, s2⟩ := St.put (k := .mpi k' kz ((n, y) :: l)) (w' := { w with heap := w.heap.setIfInBounds b (.map nents nc) }) hs ⟨_, hb, by simp⟩ hp (fun y hy => set_other hy) (by show (w.heap.setIfInBounds b _).size = _; simp) ⟨rfl, rfl, rfl⟩ ⟨rfl, nents, nc, set_same hc, hn1, fun m => by
            rw [hn2 m, hI2 m, lkB_cons, lkV_cons]
            by_cases e : m = n
            · simp [e]
            · simp [e]⟩ (by simp) (id :: M.lg)
          refine ⟨G, _, undef, .inr ⟨?_, rfl⟩, .undef, s1, s2, Ub.refl _ _⟩
          unfold execOp
          rcases ho with ho | ho <;> rw [ho] <;> simp only [hv, Sem.run_bind, hrun, Result.andThen_ok, Sem.run_pure]
        match z, h3, h4 with
        | some (j, q), h3, ⟨_, ⟨e, g1, g2⟩, _, g3⟩ =>
          have g2' : Instr.sameBits 10000 e.key (.int k' n) = true := by rw [g2]; simp [Instr.sameBits]
          refine key (ents.modify j fun e => { e with key := ρ k, val := ρ x }) clock (by rw [Array.toList_modify, hkv, hxv]; exact (g3 y).1) (by rw [Array.toList_modify, hkv, hxv]; exact (g3 y).2) ?_
          have ge : ents[j]? = some e := by simpa using g1
          simp only [Instr.mapUpdate, Sem.run_bind, run_und h5, Result.andThen_ok, run_getMap hc, checkKey_ok h6 (.inl ⟨_, rfl⟩), Instr.findKey, run_und h6, hkv, h3, Sem.run_pure, ge, Option.map_some, Option.getD_some, Instr.keyThatStays, g2', if_true]
          rw [run_setObj' hc (fun _ _ _ e => by cases e)]
        | none, h3, ⟨_, g⟩ =>
          refine key (ents.push { key := ρ k, val := ρ x, born := clock }) (clock + 1) (by rw [Array.toList_push, hkv, hxv]; exact (g clock y).1) (by rw [Array.toList_push, hkv, hxv]; exact (g clock y).2) ?_
          simp only [Instr.mapUpdate, Sem.run_bind, run_und h5, Result.andThen_ok, run_getMap hc, checkKey_ok h6 (.inl ⟨_, rfl⟩), Instr.findKey, run_und h6, hkv, h3, Sem.run_pure]
          rw [run_setObj' hc (fun _ _ _ e => by cases e)]
      · cases h
    · rename_i kv f hb
      rw [he] at hm
      generalize hv : ρ m = mv at hm
      cases hm with
      | map hp =>
      rename_i b
      obtain ⟨_, ents, clock, hc, hI1, hI2⟩ := hs.blk _ _ _ _ hb hp
      unfold oMapUpS at h
      split at h
      · rename_i n kz y hke hxe
        obtain ⟨h0, rfl, rfl⟩ := bif_val h
        simp only [Bool.and_eq_true] at h0
        obtain ⟨a1, a3⟩ := h0
        have a3 := kEq_ok a3
        subst a3
        rw [hke] at hk
        rw [hxe] at hx
        have hkv := hk.str_inv
        have hxv := hx.int_inv
        have a1 := dStr_inv a1
        obtain ⟨kt, et, h5, h6, h7⟩ := mapK_inv a1
        obtain ⟨z, h3, h4⟩ := findS_ok kz n ents.toList 0 hI1
        have key : ∀ (nents : Array MapEntry) (nc : Nat), StrE kz nents.toList → (∀ m, fS nents.toList m = if m = n then some y else fS ents.toList m) → (Instr.mapUpdate t (.map (some b)) (ρ k) (ρ x)).run P w = .ok () { w with heap := w.heap.setIfInBounds b (.map nents nc) } → Wr P G ρ o w M fid .undef ⟨M.h.set id (.mps kz (putF n y f)), M.nx, id :: M.lg⟩ := fun nents nc hn1 hn2 hrun => by
          obtain ⟨s1, s2⟩ := St.put (k := .mps kz (putF n y f)) (w' := { w with heap := w.heap.setIfInBounds b (.map nents nc) }) hs ⟨_, hb, by simp⟩ hp (fun y hy => set_other hy) (by show (w.heap.setIfInBounds b _).size = _; simp) ⟨rfl, rfl, rfl⟩ ⟨rfl, nents, nc, set_same hc, hn1, fun m => by
            rw [hn2 m, hI2 m, putF_eq]⟩ (by simp) (id :: M.lg)
          refine ⟨G, _, undef, .inr ⟨?_, rfl⟩, .undef, s1, s2, Ub.refl _ _⟩
          unfold execOp
          rcases ho with ho | ho <;> rw [ho] <;> simp only [hv, Sem.run_bind, hrun, Result.andThen_ok, Sem.run_pure]
        match z, h3, h4 with
        | some (j, q), h3, ⟨_, ⟨e, g1, g2⟩, _, g3⟩ =>
          have g2' : Instr.sameBits 10000 e.key (.string n) = true := by
            rw [g2]
            show (n == n) = true
            rw [bya_eq]
            simp
          refine key (ents.modify j fun e => { e with key := ρ k, val := ρ x }) clock (by rw [Array.toList_modify, hkv, hxv]; exact (g3 y).1) (by rw [Array.toList_modify, hkv, hxv]; exact (g3 y).2) ?_
          have ge : ents[j]? = some e := by simpa using g1
          simp only [Instr.mapUpdate, Sem.run_bind, run_und h5, Result.andThen_ok, run_getMap hc, checkKey_ok h6 (.inr (.inl rfl)), Instr.findKey, run_und h6, hkv, h3, Sem.run_pure, ge, Option.map_some, Option.getD_some, Instr.keyThatStays, g2', if_true]
          rw [run_setObj' hc (fun _ _ _ e => by cases e)]
        | none, h3, ⟨_, g⟩ =>
          refine key (ents.push { key := ρ k, val := ρ x, born := clock }) (clock + 1) (by rw [Array.toList_push, hkv, hxv]; exact (g clock y).1) (by rw [Array.toList_push, hkv, hxv]; exact (g clock y).2) ?_
          simp only [Instr.mapUpdate, Sem.run_bind, run_und h5, Result.andThen_ok, run_getMap hc, checkKey_ok h6 (.inr (.inl rfl)), Instr.findKey, run_und h6, hkv, h3, Sem.run_pure]
          rw [run_setObj' hc (fun _ _ _ e => by cases e)]
      · cases h
    · cases h
  · cases h
end
end Go.Proofs.YtpflobodmglmaaaGreat
set_option linter.unusedVariables false
set_option maxHeartbeats 4000000
namespace Go.Proofs.YtpflobodmglmaaaGreat
section
variable {P : Program} {G : Gh} {ρ : Operand → Value} {ev : Operand → AV} {o : Oper} {w : World} {M M' : Mem} {r : AV}
theorem rows_of_con {b oo sz n : Nat} {g : Nat → List AV} {vs : Nat → Nat → Value} (hs : St G w M) (h0 : 0 < sz) (hsz : ∀ i, i < n → (g i).length = sz) (hcon : ∀ (i j : Nat) (a : AV), i < n → (g i)[j]? = some a → G.con b (oo + (i * sz + j)) = some (vs i j)) (hr : ∀ (i j : Nat) (a : AV), i < n → (g i)[j]? = some a → RV G.nph (vs i j) a) :
    ∃ arr : Array Value, (loadCells ⟨b, oo, none⟩ (n * sz)).run P w = .ok arr w ∧ arr.size = n * sz ∧ RowR G arr 0 sz n g := by
  have idx : ∀ q, q < n * sz → q / sz < n ∧ q % sz < sz ∧ q / sz * sz + q % sz = q := fun q hq => ⟨Nat.div_lt_of_lt_mul (by rw [Nat.mul_comm]; exact hq), Nat.mod_lt _ h0, by rw [Nat.mul_comm]; exact Nat.div_add_mod q sz⟩
  refine ⟨((List.range (n * sz)).map fun q => vs (q / sz) (q % sz)).toArray, ?_, by simp, fun i hi => ⟨hsz i hi, fun j v a e f => ?_⟩⟩
  · have := run_loadCells_list (P := P) (w := w) ⟨b, oo, none⟩ ((List.range (n * sz)).map fun q => vs (q / sz) (q % sz)) (fun q v hq => by
      have hlt : q < n * sz := by have := (List.getElem?_eq_some_iff.1 hq).1; simpa using this
      rw [List.getElem?_map, List.getElem?_range hlt] at hq
      cases hq
      obtain ⟨h1, h2, h3⟩ := idx q hlt
      obtain ⟨a, ha⟩ : ∃ a, (g (q / sz))[q % sz]? = some a := ⟨_, List.getElem?_eq_getElem (by rw [hsz _ h1]; exact h2)⟩
      have := hcon _ _ a h1 ha
      rw [h3] at this
      rw [add_none]
      exact hs.con _ _ _ this)
    simpa using this
  · have hj : j < sz := by rw [← hsz i hi]; exact (List.getElem?_eq_some_iff.1 f).1
    have hle : (i + 1) * sz ≤ n * sz := Nat.mul_le_mul_right sz hi
    rw [Nat.succ_mul] at hle
    rw [List.getElem?_toArray, List.getElem?_map, List.getElem?_range (by omega)] at e
    cases e
    dsimp only
    rw [Nat.zero_add, Nat.mul_comm i sz, Nat.mul_add_div h0, Nat.div_eq_of_lt hj, Nat.mul_add_mod, Nat.mod_eq_of_lt hj]
    exact (hr i j a hi f).mono (nph_le G)
theorem rows_of_row {b base off sz n len : Nat} {g : Nat → List AV} {arr : Array Value} {t : TypeId} (hc : w.heap[b]? = some (.cells arr t (0, 0))) (hr : RowR G arr base sz n g) (hsz : base + n * sz ≤ arr.size) (hle : off + len ≤ n) :
    ∃ ar : Array Value, (loadCells ⟨b, base + off * sz, none⟩ (len * sz)).run P w = .ok ar w ∧ ar.size = len * sz ∧ RowR G ar 0 sz len (fun i => g (off + i)) := by
  have h1 : (off + len) * sz ≤ n * sz := Nat.mul_le_mul_right sz hle
  rw [Nat.add_mul] at h1
  have hl : ((arr.toList.drop (base + off * sz)).take (len * sz)).length = len * sz := by rw [List.length_take, List.length_drop, Array.length_toList]; omega
  refine ⟨((arr.toList.drop (base + off * sz)).take (len * sz)).toArray, ?_, by rw [List.size_toArray, hl], fun i hi => ⟨(hr _ (by omega)).1, fun j v a e f => ?_⟩⟩
  · have := run_loadCells_list (P := P) (w := w) ⟨b, base + off * sz, none⟩ ((arr.toList.drop (base + off * sz)).take (len * sz)) (fun q v hq => by
      have hlt : q < len * sz := by have := (List.getElem?_eq_some_iff.1 hq).1; omega
      rw [List.getElem?_take_of_lt hlt, List.getElem?_drop] at hq
      rw [add_none, cell_of hc]
      simpa using hq)
    rw [hl] at this
    exact this
  · have hj : j < sz := by rw [← (hr (off + i) (by omega)).1]; exact (List.getElem?_eq_some_iff.1 f).1
    have hle2 : (i + 1) * sz ≤ len * sz := Nat.mul_le_mul_right sz hi
    rw [Nat.succ_mul] at hle2
    rw [List.getElem?_toArray, Nat.zero_add, List.getElem?_take_of_lt (by omega), List.getElem?_drop] at e
    refine (hr (off + i) (by omega)).2 j v a ?_ f
    rw [Nat.add_mul, show base + (off * sz + i * sz + j) = base + off * sz + (i * sz + j) by omega]
    simpa using e
/-- What is appended: its length, its cells. -/
theorem src_ok {x : Value} {a : AV} {k sz : Nat} {gx : Nat → List AV} (hs : St G w M) (hx : RV G x a) (h : getSl M a = some (k, gx)) (h0 : 0 < sz) (hk : k = 0 ∨ (gx 0).length = sz) :
    (Builtin.lenOf x).run P w = .ok k w ∧ ∃ ar : Array Value, (Builtin.firstCells sz k x).run P w = .ok ar w ∧ ar.size = k * sz ∧ RowR G ar 0 sz k gx := by
  unfold getSl at h
  split at h
  · rename_i nl fu n g
    cases h
    cases hx with
    | lstn => exact ⟨rfl, #[], rfl, by simp, fun i hi => by omega⟩
    | lst vs hc hf hsz hcon hr =>
      rename_i b oo cap sz'
      refine ⟨rfl, ?_⟩
      by_cases hk0 : k = 0
      · subst hk0
        exact ⟨#[], by simp only [Builtin.firstCells, Nat.zero_mul]; rfl, by simp, fun i hi => by omega⟩
      · have hszz : sz' = sz := by
          rcases hk with hk | hk
          · exact absurd hk hk0
          · rw [← hk, hsz 0 (by omega)]
        subst hszz
        exact rows_of_con hs h0 hsz hcon hr
  · rename_i id off len fu sz2
    split at h
    · rename_i sz3 n g hb
      cases hcd : (Nat.beq sz2 sz3 && Nat.ble (off + len) n) with
      | false => rw [hcd] at h; cases h
      | true =>
        rw [hcd] at h
        simp only [Bool.and_eq_true, Nat.beq_eq, Nat.ble_eq] at hcd
        cases h
        cases hx with
        | sl hp hc hf ht hoo =>
        rename_i b base cap oo
        obtain ⟨rfl, hle⟩ := hcd
        refine ⟨rfl, ?_⟩
        obtain ⟨arr, t, hcc, hsz, htot, hr⟩ := hs.blk _ _ _ _ hb hp
        by_cases hk0 : k = 0
        · subst hk0
          exact ⟨#[], by simp only [Builtin.firstCells, Nat.zero_mul]; rfl, by simp, fun i hi => by omega⟩
        · have hszz : sz2 = sz := by
            rcases hk with hk | hk
            · exact absurd hk hk0
            · rw [← hk]; exact (hr _ (by omega)).1.symm
          subst hszz
          have hoo : oo = base + off * sz2 := by
            rcases hoo with e | e
            · omega
            · exact e
          subst hoo
          exact rows_of_row hcc hr hsz hle
    · cases h
  · rename_i s
    cases h
    cases hx
    refine ⟨rfl, ?_⟩
    by_cases hk0 : s.data.toList.length = 0
    · refine ⟨#[], ?_, by rw [hk0]; simp, fun i hi => by omega⟩
      simp only [Builtin.firstCells, hk0, Sem.run_pure]
      congr 1
      apply Array.eq_empty_of_size_eq_zero
      simp
    · have hsz1 : sz = 1 := by
        rcases hk with hk | hk
        · exact absurd hk hk0
        · exact hk.symm
      subst hsz1
      refine ⟨s.data.map fun b => .int .u8 b.toNat, ?_, by simp, fun i hi => ⟨rfl, fun j v a e f => ?_⟩⟩
      · simp only [Builtin.firstCells, Sem.run_pure]
        congr 2
        rw [ByteArray.data_extract]
        simp
      · match j, e, f with
        | 0, e, f =>
          cases f
          rw [Nat.zero_add, Nat.mul_one, Nat.add_zero, Array.getElem?_map] at e
          have hlt : i < s.data.size := by simpa using hi
          rw [Array.getElem?_eq_getElem hlt] at e
          cases e
          have : s.data.toList.getD i 0 = s.data[i] := by rw [List.getD_eq_getElem?_getD, List.getElem?_eq_getElem (by simpa using hlt)]; simp
          rw [this]
          exact .int _ _
        | j + 1, e, f => simp at f
  · cases h
theorem append_room {t0 t1 e ty : TypeId} {i : TypeInfo} {d2 : TypeDesc} {ao : Option Addr} {x : Value} {sLen sCap k : Nat} {new : Array Value} (h0 : undB P t0 = some (.slice e)) (hi : infoB P e = some i) (h1 : undB P t1 = some d2) (hd : notInt (some d2) = true)
    (hl : (Builtin.lenOf x).run P w = .ok k w) (hn : (Builtin.firstCells i.size k x).run P w = .ok new w) (hc : sLen + k ≤ sCap) :
    (Builtin.append_ #[t0, t1] ty #[.slice ao sLen sCap, x]).run P w = match ao with
      | some a => ((storeCells (a.add (sLen * i.size)) new.toList).run P w).andThen fun _ w' => .ok (.slice (some a) (sLen + k) sCap) w'
      | none => .ok (.slice none (sLen + k) sCap) w := by
  cases d2 <;> first | (cases hd; done) | skip
  all_goals
    cases ao <;> simp [Builtin.append_, undB_ok h0, undB_ok h1, underlying, sizeOf, typeInfo, infoB_ok hi, hl, hc, hn, Sem.run_bind]
set_option maxHeartbeats 40000000 in
theorem append_grow {t0 t1 e ty : TypeId} {i : TypeInfo} {d2 : TypeDesc} {z : Value} {ao : Option Addr} {x : Value} {sLen sCap k : Nat} {old new : Array Value} (h0 : undB P t0 = some (.slice e)) (hi : infoB P e = some i) (hz : i.zero = some z) (h1 : undB P t1 = some d2) (hd : notInt (some d2) = true)
    (hl : (Builtin.lenOf x).run P w = .ok k w) (hn : (Builtin.firstCells i.size k x).run P w.drew = .ok new w.drew) (hol : (Builtin.firstCells i.size sLen (.slice ao sLen sCap)).run P w.drew = .ok old w.drew) (hc : sCap < sLen + k) (hb : sLen + k ≤ 16777216) (hby : i.bytes ≤ 65536) :
    ∃ nc, sLen + k ≤ nc ∧ (Builtin.append_ #[t0, t1] ty #[.slice ao sLen sCap, x]).run P w = .ok (.slice (some ⟨w.heap.size, 0, none⟩) (sLen + k) nc) { w.drew with heap := w.heap.push (.cells (old ++ new ++ Builtin.zeroCells z.cells (nc - (sLen + k))) e) } := by
  have hnc : ¬ (sLen + k ≤ sCap) := by omega
  have h63 : ¬ (9223372036854775807 < ((sLen : Int) + (k : Int))) := by omega
  have h48 : ¬ (281474976710656 < Builtin.nextslicecap (sLen + k) sCap * i.bytes) := by
    have h1 := nextslicecap_le_wide hc
    have h2 : Builtin.nextslicecap (sLen + k) sCap * i.bytes ≤ 33554432 * 65536 := Nat.mul_le_mul (by omega) hby
    omega
  have hq : (Question.appendCap (sLen + k) sCap e).forced = false := rfl
  refine ⟨grownCap w (sLen + k) sCap e, ?_, ?_⟩
  · unfold grownCap; simp [Question.cut]
  · cases d2 <;> first | (cases hd; done) | skip
    all_goals
      simp [Builtin.append_, undB_ok h0, undB_ok h1, underlying, sizeOf, typeInfo, infoB_ok hi, hl, hnc, h63, h48, hq, Sem.run_bind]
      rw [hol]
      simp only [Result.andThen_ok]
      rw [hn]
      simp only [Result.andThen_ok, zeroValue, typeInfo, Sem.run_bind, run_program, infoB_ok hi, hz, Sem.run_pure, newRow, run_newObj]
      rfl
end
end Go.Proofs.YtpflobodmglmaaaGreat
set_option linter.unusedVariables false
set_option maxHeartbeats 4000000
namespace Go.Proofs.YtpflobodmglmaaaGreat
section
variable {P : Program} {G : Gh} {ρ : Operand → Value} {ev : Operand → AV} {o : Oper} {w : World} {M M' : Mem} {r : AV}
theorem BlkR.heap {w' : World} {b base : Nat} {k : Blk} (h : BlkR G w b base k) (hh : w'.heap[b]? = w.heap[b]?) : BlkR G w' b base k := by
  cases k with
  | gone => trivial
  | var cs =>
    obtain ⟨h0, arr, t, h1, h2⟩ := h
    exact ⟨h0, arr, t, by rw [hh]; exact h1, h2⟩
  | row sz n g =>
    obtain ⟨arr, t, h1, h2⟩ := h
    exact ⟨arr, t, by rw [hh]; exact h1, h2⟩
  | map es =>
    obtain ⟨h0, ents, c, h1, h2⟩ := h
    exact ⟨h0, ents, c, by rw [hh]; exact h1, h2⟩
  | mpi kk kv l =>
    obtain ⟨h0, ents, c, h1, h2⟩ := h
    exact ⟨h0, ents, c, by rw [hh]; exact h1, h2⟩
  | mps kv f =>
    obtain ⟨h0, ents, c, h1, h2⟩ := h
    exact ⟨h0, ents, c, by rw [hh]; exact h1, h2⟩
  | loop fn sz tm ps as body d st pend =>
    obtain ⟨h0, ts, db, h1, h2⟩ := h
    exact ⟨h0, ts, db, by rw [hh]; exact h1, h2⟩
  | dfr =>
    obtain ⟨h0, h1⟩ := h
    exact ⟨h0, by rw [hh]; exact h1⟩
theorem cell_heap {w' : World} (h : w'.heap = w.heap) (a : Addr) : w'.cell? a = w.cell? a := by
  unfold World.cell?
  rw [h]
theorem St.congr {w' : World} (hs : St G w M) (h : w'.heap = w.heap) (hm : ∀ id, M'.h.get id = M.h.get id) (hn : M.nx ≤ M'.nx) : St G w' M' := by
  have own : ∀ id, Own M' id → Own M id := fun id ⟨k, h1, h2⟩ => ⟨k, by rw [← hm]; exact h1, h2⟩
  exact ⟨fun id k b base h1 h2 => (hs.blk id k b base (by rw [← hm]; exact h1) h2).heap (by rw [h]), fun id id' b b1 b2 o1 o2 => hs.inj id id' b b1 b2 (own id o1) (own id' o2), fun id b base e => by rw [h]; exact hs.lt id b base e, fun id b base e => Nat.lt_of_lt_of_le (hs.fresh id b base e) hn, fun b i v e => by rw [cell_heap h]; exact hs.con b i v e, fun b v e => by rw [h]; exact hs.cob b v e, fun id b base i o1 => hs.sep id b base i (own id o1), fun id b base o1 => hs.sep2 id b base (own id o1)⟩
theorem Ev.congr {w' : World} (h : w'.heap = w.heap) (ho : w'.os = w.os ∧ w'.tape = w.tape ∧ w'.output = w.output) (hm : ∀ id, M'.h.get id = M.h.get id) (hn : M.nx ≤ M'.nx) : Ev G w M G w' M' :=
  ⟨GLe.refl G, fun _ _ _ h => .inl h, fun _ _ _ h => .inl h, fun _ _ h => .inl h, fun _ _ => rfl, fun _ _ _ => by rw [h], by rw [h]; exact Nat.le_refl _, ho, hn, fun id ⟨k, h1, h2⟩ => .inl ⟨k, by rw [← hm]; exact h1, h2⟩⟩
/-- A block is given up. -/
theorem St.drop {id : Nat} {lg : List Nat} (hs : St G w M) : St G w ⟨M.h.set id .gone, M.nx, lg⟩ ∧ Ev G w M G w ⟨M.h.set id .gone, M.nx, lg⟩ := by
  have gm : ∀ i, (M.h.set id .gone).get i = if id = i then some .gone else M.h.get i := fun i => get_set _ _ _ _
  have own : ∀ i, Own ⟨M.h.set id .gone, M.nx, lg⟩ i → Own M i := fun i ⟨q, h1, h2⟩ => by
    change (M.h.set id .gone).get i = _ at h1
    rw [gm] at h1
    by_cases e : id = i
    · rw [if_pos e] at h1; cases h1; exact absurd rfl h2
    · rw [if_neg e] at h1; exact ⟨q, h1, h2⟩
  constructor
  · refine ⟨fun i k b base h1 h2 => ?_, fun i i' b b1 b2 o1 o2 => hs.inj i i' b b1 b2 (own i o1) (own i' o2), hs.lt, hs.fresh, hs.con, hs.cob, fun i b base j o1 => hs.sep i b base j (own i o1), fun i b base o1 => hs.sep2 i b base (own i o1)⟩
    change (M.h.set id .gone).get i = _ at h1
    rw [gm] at h1
    by_cases e : id = i
    · rw [if_pos e] at h1; cases h1; trivial
    · rw [if_neg e] at h1; exact hs.blk i k b base h1 h2
  · exact ⟨GLe.refl G, fun _ _ _ h => .inl h, fun _ _ _ h => .inl h, fun _ _ h => .inl h, fun _ _ => rfl, fun _ _ _ => rfl, Nat.le_refl _, ⟨rfl, rfl, rfl⟩, Nat.le_refl _, fun i o1 => .inl (own i o1)⟩
def Gh.mv (G : Gh) (fid b base : Nat) : Gh := ⟨fun id => if id = fid then some (b, base) else G.phi id, G.con, G.cob, G.tot⟩
theorem Gh.mv_le {fid b base : Nat} (hf : G.phi fid = none) : GLe G (G.mv fid b base) :=
  ⟨fun id x h => by
    show (if id = fid then _ else _) = _
    rw [if_neg (fun e => by rw [e, hf] at h; cases h)]
    exact h, fun _ _ _ h => h, fun _ _ h => h, fun _ _ _ _ => rfl⟩
/-- A block is written, and goes by another number. -/
theorem St.move {id fid b base base' : Nat} {k : Blk} {w' : World} {lg : List Nat} (hs : St G w M) (ho : Own M id) (hp : G.phi id = some (b, base)) (hf : G.phi fid = none) (hfx : fid < M.nx) (hw : ∀ x, x ≠ b → w'.heap[x]? = w.heap[x]?) (hsz : w'.heap.size = w.heap.size) (hos : w'.os = w.os ∧ w'.tape = w.tape ∧ w'.output = w.output) (hk : BlkR (G.mv fid b base') w' b base' k) :
    St (G.mv fid b base') w' ⟨(M.h.set id .gone).set fid k, M.nx, lg⟩ ∧ Ev G w M (G.mv fid b base') w' ⟨(M.h.set id .gone).set fid k, M.nx, lg⟩ := by
  have hne : id ≠ fid := fun e => by rw [e, hf] at hp; cases hp
  have gp : ∀ i, (G.mv fid b base').phi i = if i = fid then some (b, base') else G.phi i := fun _ => rfl
  have gm : ∀ i, ((M.h.set id .gone).set fid k).get i = if fid = i then some k else if id = i then some .gone else M.h.get i := fun i => by rw [get_set, get_set]
  have own : ∀ i, i ≠ fid → Own ⟨(M.h.set id .gone).set fid k, M.nx, lg⟩ i → Own M i ∧ i ≠ id := fun i hi ⟨q, h1, h2⟩ => by
    change ((M.h.set id .gone).set fid k).get i = _ at h1
    rw [gm, if_neg (Ne.symm hi)] at h1
    by_cases e : id = i
    · rw [if_pos e] at h1; cases h1; exact absurd rfl h2
    · rw [if_neg e] at h1; exact ⟨⟨q, h1, h2⟩, Ne.symm e⟩
  have bn : ∀ i b1 base1, i ≠ id → Own M i → G.phi i = some (b1, base1) → b1 ≠ b := fun i b1 base1 h1 h2 h3 e => by
    subst e
    exact h1 (hs.inj i id b1 base1 base h2 ho h3 hp)
  constructor
  · refine ⟨fun i q b1 base1 h1 h2 => ?_, fun i i' b1 base1 base2 o1 o2 h1 h2 => ?_, fun i b1 base1 h => ?_, fun i b1 base1 h => ?_, fun b1 i v h => ?_, fun b1 v h => ?_, fun i b1 base1 j o1 h => ?_, fun i b1 base1 o1 h => ?_⟩
    · change ((M.h.set id .gone).set fid k).get i = _ at h1
      rw [gm] at h1
      rw [gp] at h2
      by_cases e : i = fid
      · rw [if_pos e.symm] at h1
        rw [if_pos e] at h2
        cases h1; cases h2
        exact hk
      · rw [if_neg (Ne.symm e)] at h1
        rw [if_neg e] at h2
        by_cases e2 : id = i
        · rw [if_pos e2] at h1; cases h1; trivial
        · rw [if_neg e2] at h1
          by_cases hq : q = .gone
          · subst hq; trivial
          · exact (hs.blk i q b1 base1 h1 h2).mono (Gh.mv_le hf) (hw b1 (bn i b1 base1 (Ne.symm e2) ⟨q, h1, hq⟩ h2)) h2
    · rw [gp] at h1 h2
      by_cases e : i = fid <;> by_cases e' : i' = fid
      · rw [e, e']
      · rw [if_pos e] at h1
        rw [if_neg e'] at h2
        cases h1
        obtain ⟨p1, p2⟩ := own i' e' o2
        exact absurd rfl (bn i' b base2 p2 p1 h2)
      · rw [if_neg e] at h1
        rw [if_pos e'] at h2
        cases h2
        obtain ⟨p1, p2⟩ := own i e o1
        exact absurd rfl (bn i b base1 p2 p1 h1)
      · rw [if_neg e] at h1
        rw [if_neg e'] at h2
        exact hs.inj i i' b1 base1 base2 (own i e o1).1 (own i' e' o2).1 h1 h2
    · rw [gp] at h
      rw [hsz]
      by_cases e : i = fid
      · rw [if_pos e] at h; cases h; exact hs.lt _ _ _ hp
      · rw [if_neg e] at h; exact hs.lt _ _ _ h
    · rw [gp] at h
      by_cases e : i = fid
      · rw [e]; exact hfx
      · rw [if_neg e] at h; exact hs.fresh _ _ _ h
    · have hb : b1 ≠ b := fun e => by
        have h' : G.con b1 i = some v := h
        rw [e, hs.sep id b base i ho hp] at h'; cases h'
      have := hs.con b1 i v h
      unfold World.cell? at this ⊢
      rw [hw b1 hb]
      exact this
    · have hb : b1 ≠ b := fun e => by
        have h' : G.cob b1 = some v := h
        rw [e, hs.sep2 id b base ho hp] at h'; cases h'
      obtain ⟨c, h1⟩ := hs.cob b1 v h
      exact ⟨c, by rw [hw b1 hb]; exact h1⟩
    · rw [gp] at h
      by_cases e : i = fid
      · rw [if_pos e] at h; cases h; exact hs.sep id b base j ho hp
      · rw [if_neg e] at h; exact hs.sep i b1 base1 j (own i e o1).1 h
    · rw [gp] at h
      by_cases e : i = fid
      · rw [if_pos e] at h; cases h; exact hs.sep2 id b base ho hp
      · rw [if_neg e] at h; exact hs.sep2 i b1 base1 (own i e o1).1 h
  · refine ⟨Gh.mv_le hf, fun i b1 base1 h => ?_, fun _ _ _ h => .inl h, fun _ _ h => .inl h, fun _ _ => rfl, fun b1 _ hn => hw b1 (fun e => hn ⟨id, base, ho, by rw [e]; exact hp⟩), by omega, hos, Nat.le_refl _, fun i o1 => ?_⟩
    · rw [gp] at h
      by_cases e : i = fid
      · rw [if_pos e] at h; cases h; exact .inr (.inr ⟨id, base, ho, hp⟩)
      · rw [if_neg e] at h; exact .inl h
    · by_cases e : i = fid
      · rw [e]; exact .inr hf
      · exact .inl (own i e o1).1
/-- Rows one behind the other. -/
theorem RowR.app {old new rest : Array Value} {sz n k : Nat} {g gx : Nat → List AV} (h1 : RowR G old 0 sz n g) (h2 : RowR G new 0 sz k gx) (s1 : old.size = n * sz) (s2 : new.size = k * sz) : RowR G (old ++ new ++ rest) 0 sz (n + k) (appRow n k g gx) := by
  rw [appRow_eq]
  intro i hi
  dsimp only
  by_cases hin : i < n
  · have e : Nat.blt i n = true := by simpa using hin
    rw [e]
    obtain ⟨q1, q2⟩ := h1 i hin
    refine ⟨q1, fun j v a e1 e2 => ?_⟩
    have e2 : (g i)[j]? = some a := e2
    have hj : j < sz := by rw [← q1]; exact (List.getElem?_eq_some_iff.1 e2).1
    have hle : (i + 1) * sz ≤ n * sz := Nat.mul_le_mul_right sz hin
    rw [Nat.succ_mul] at hle
    rw [Array.append_assoc, Array.getElem?_append_left (by omega)] at e1
    exact q2 j v a e1 e2
  · have e : Nat.blt i n = false := by
      cases hh : Nat.blt i n with
      | false => rfl
      | true => exact absurd (by simpa using hh) hin
    rw [e]
    obtain ⟨q1, q2⟩ := h2 (i - n) (by omega)
    refine ⟨q1, fun j v a e1 e2 => ?_⟩
    have e2 : (gx (i - n))[j]? = some a := e2
    have hj : j < sz := by rw [← q1]; exact (List.getElem?_eq_some_iff.1 e2).1
    have hle : (i - n + 1) * sz ≤ k * sz := Nat.mul_le_mul_right sz (by omega)
    rw [Nat.succ_mul] at hle
    have hi2 : i * sz = n * sz + (i - n) * sz := by rw [← Nat.add_mul]; congr 1; omega
    rw [Array.append_assoc, Array.getElem?_append_right (by omega), Array.getElem?_append_left (by omega)] at e1
    refine q2 j v a ?_ e2
    rw [← e1]
    congr 1
    omega
end
end Go.Proofs.YtpflobodmglmaaaGreat
