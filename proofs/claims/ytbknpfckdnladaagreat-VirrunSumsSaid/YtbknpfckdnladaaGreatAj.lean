/- Operations that write. No condition. -/
import Derived.Test.YtbknpfckdnladaaGreatAi
import Derived.Laws.CopyRow
set_option linter.unusedVariables false
set_option maxHeartbeats 4000000
namespace Go.Proofs.YtbknpfckdnladaaGreat
section
variable {P : Program} {G : Gh} {ρ : Operand → Value} {ev : Operand → AV} {o : Oper} {w : World} {M M' : Mem} {r : AV}
/-- A block is written. -/
theorem St.put {id b base : Nat} {k : Blk} {w' : World} (hs : St G w M) (ho : Own M id) (hp : G.phi id = some (b, base)) (hw : ∀ x, x ≠ b → w'.heap[x]? = w.heap[x]?) (hsz : w'.heap.size = w.heap.size) (hos : w'.os = w.os ∧ w'.tape = w.tape ∧ w'.output = w.output) (hk : BlkR G w' b base k) (hkg : k ≠ .gone) (lg : List Nat) :
    St G w' ⟨M.h.set id k, M.nx, lg⟩ ∧ Ev G w M G w' ⟨M.h.set id k, M.nx, lg⟩ := by
  have gm : ∀ i, (M.h.set id k).get i = if id = i then some k else M.h.get i := fun i => get_set _ _ _ _
  have own : ∀ i, Own ⟨M.h.set id k, M.nx, lg⟩ i → Own M i := fun i ⟨q, h1, h2⟩ => by
    by_cases e : id = i
    · rw [← e]; exact ho
    · change (M.h.set id k).get i = _ at h1
      rw [gm, if_neg e] at h1
      exact ⟨q, h1, h2⟩
  constructor
  · refine ⟨fun i q b' base' h1 h2 => ?_, fun i i' b' base1 base2 o1 o2 h1 h2 => hs.inj i i' b' base1 base2 (own i o1) (own i' o2) h1 h2, fun i b' base' h => by rw [hsz]; exact hs.lt _ _ _ h, hs.fresh, fun b' i v h => ?_, fun b' v h => ?_, fun i b' base' j o1 h => hs.sep i b' base' j (own i o1) h, fun i b' base' o1 h => hs.sep2 i b' base' (own i o1) h⟩
    · change (M.h.set id k).get i = _ at h1
      rw [gm] at h1
      by_cases e : id = i
      · rw [if_pos e] at h1
        cases h1
        rw [← e, hp] at h2
        cases h2
        exact hk
      · rw [if_neg e] at h1
        by_cases hb : b' = b
        · subst hb
          by_cases hq : q = .gone
          · subst hq; trivial
          · exact absurd (hs.inj id i b' base base' ho ⟨q, h1, hq⟩ hp h2) e
        · exact (hs.blk i q b' base' h1 h2).mono (GLe.refl G) (hw b' hb) h2
    · have hb : b' ≠ b := fun e => by rw [e, hs.sep id b base i ho hp] at h; cases h
      have := hs.con b' i v h
      unfold World.cell? at this ⊢
      rw [hw b' hb]
      exact this
    · have hb : b' ≠ b := fun e => by rw [e, hs.sep2 id b base ho hp] at h; cases h
      obtain ⟨c, h1⟩ := hs.cob b' v h
      exact ⟨c, by rw [hw b' hb]; exact h1⟩
  · exact ⟨GLe.refl G, fun _ _ _ h => .inl h, fun _ _ _ h => .inl h, fun _ _ h => .inl h, fun _ _ => rfl, fun b' _ hn => hw b' (fun e => hn ⟨id, base, ho, by rw [e]; exact hp⟩), by omega, hos, Nat.le_refl _, fun i o1 => .inl (own i o1)⟩
theorem splice_eq (cur : Array Value) (k : Nat) (vs : List Value) (h : k + vs.length ≤ cur.size) : (cur.toList.take k ++ vs ++ cur.toList.drop (k + vs.length)).toArray = setV cur k vs := by
  apply Array.ext_getElem?
  intro j
  rw [setV_get _ _ _ _ h, List.getElem?_toArray, List.append_assoc]
  have hl : (cur.toList.take k).length = k := by rw [List.length_take, Array.length_toList]; omega
  by_cases h1 : j < k
  · rw [List.getElem?_append_left (by omega), List.getElem?_take_of_lt h1, if_neg (by omega), Array.getElem?_toList]
  · rw [List.getElem?_append_right (by omega), hl]
    by_cases h2 : j < k + vs.length
    · rw [List.getElem?_append_left (by omega), if_pos (by omega)]
    · rw [List.getElem?_append_right (by omega), if_neg (by omega), List.getElem?_drop, Array.getElem?_toList]
      congr 1
      omega
/-- A writing operation's answer. -/
def Wr (P : Program) (G : Gh) (ρ : Operand → Value) (o : Oper) (w : World) (M : Mem) (fid : Nat) (a : AV) (M' : Mem) : Prop :=
  ∃ G' w' v, OpRes ((execOp ρ o).run P w) v w' ∧ RV G' v a ∧ St G' w' M' ∧ Ev G w M G' w' M' ∧ Ub (· ≠ fid) G G'
theorem storeVar_ok {t : TypeId} {i : TypeInfo} {v : Value} {b k : Nat} {cur : Array Value} {tt : TypeId} (hi : infoB P t = some i) (hv : v.cells.size = szB P t) (h1 : ∀ (j : Nat) (u : Value), v.cells[j]? = some u → u.oneCell' = true) (hc : w.heap[b]? = some (.cells cur tt (0, 0))) (hle : k + v.cells.size ≤ cur.size) :
    (storeVar t ⟨b, k, none⟩ v).run P w = .ok () (w.setRow b (setV cur k v.cells.toList)) := by
  have := run_storeCells_at (P := P) b k tt v.cells.toList 0 cur w hc (by rw [Array.length_toList]; omega) (fun u hu => by
    obtain ⟨j, hj⟩ := List.getElem?_of_mem hu
    exact h1 j u (by simpa using hj))
  rw [Nat.add_zero, splice_eq _ _ _ (by rw [Array.length_toList]; omega)] at this
  unfold storeVar
  simp only [Sem.run_bind, szB_ok hi, Result.andThen_ok, hv, ne_eq, not_true_eq_false, if_false, this]
theorem w_store {t : TypeId} {fid : Nat} {a x : Operand} (ho : o.op = .store t a x) (hs : St G w M) (ha : RV G (ρ a) (ev a)) (hx : RV G (ρ x) (ev x)) (h : oStore (szB P t) (ev a) (ev x).cells M = .val r M') : Wr P G ρ o w M fid r M' := by
  unfold oStore at h
  split at h
  · rename_i vs hvs
    obtain ⟨h0, h⟩ := bif_no h
    simp only [Bool.and_eq_true, Nat.beq_eq, Nat.blt_eq] at h0
    obtain ⟨h0, h00⟩ := h0
    obtain ⟨hcs, hone⟩ := hx.cells hvs
    have hl := hcs.len
    unfold oStore1 at h
    split at h
    · rename_i c M2 hpk
      obtain ⟨rfl, rfl, rfl⟩ := bif_val h
      unfold poke at hpk
      split at hpk
      · rename_i id ix sz off hae
        rw [hae] at ha
        generalize hav : ρ a = av at ha
        cases ha with
        | ptr hp =>
        rename_i b base
        unfold pokeB at hpk
        split at hpk
        · rename_i cs hb
          simp only [Option.some.injEq, Prod.mk.injEq, Bool.and_eq_true, Nat.beq_eq, Nat.ble_eq] at hpk
          obtain ⟨⟨h1, h2⟩, rfl⟩ := hpk
          subst h1
          obtain ⟨rfl, arr, tt, hc, hr⟩ := hs.blk _ _ _ _ hb hp
          have hrl := hr.len
          · obtain ⟨i, hi⟩ := info_of_szB (P := P) (t := t) (by omega)
            have hst := storeVar_ok (P := P) (w := w) (k := off) hi (by omega) hone hc (by omega)
            obtain ⟨s1, s2⟩ := St.put (k := .var (setL cs off vs)) (w' := w.setRow b (setV arr off (ρ x).cells.toList)) hs ⟨_, hb, by simp⟩ hp (fun y hy => setRow_other w b y _ hy) (by simp) ⟨rfl, rfl, rfl⟩ ⟨rfl, _, tt, setRow_heap w b arr _ tt _ hc, hr.set hcs (by omega)⟩ (by simp) (id :: M.lg)
            refine ⟨G, _, undef, .inr ⟨?_, rfl⟩, .undef, s1, s2, Ub.refl _ _⟩
            unfold execOp
            rw [ho]
            simp only [Instr.storeAt, Instr.sureAddr, hav, Sem.run_bind, Sem.run_pure, Result.andThen_ok, show 0 + (ix * 0 + off) = off by omega, hst]
        · rename_i sz' n g hb
          simp only [Option.some.injEq, Prod.mk.injEq, Bool.and_eq_true, Nat.beq_eq, Nat.ble_eq, Nat.blt_eq] at hpk
          obtain ⟨⟨⟨h1, h2⟩, h3⟩, rfl⟩ := hpk
          subst h1
          obtain ⟨arr, tt, hc, hsz, htot, hr⟩ := hs.blk _ _ _ _ hb hp
          have hle : (ix + 1) * sz ≤ n * sz := Nat.mul_le_mul_right sz h2
          rw [Nat.succ_mul] at hle
          · obtain ⟨i, hi⟩ := info_of_szB (P := P) (t := t) (by omega)
            have hst := storeVar_ok (P := P) (w := w) (k := base + (ix * sz + off)) hi (by omega) hone hc (by omega)
            have hrow : ∀ k, k < n → ((fun j => bif Nat.beq j ix then setL (g ix) off vs else g j) k).length = sz ∧ ∀ (j : Nat) (v : Value) (a : AV), (setV arr (base + (ix * sz + off)) (ρ x).cells.toList)[base + (k * sz + j)]? = some v → ((fun j => bif Nat.beq j ix then setL (g ix) off vs else g j) k)[j]? = some a → RV G v a := fun k hk => by
              obtain ⟨q1, q2⟩ := hr k hk
              by_cases e : k = ix
              · subst e
                have e2 : Nat.beq k k = true := Nat.beq_refl k
                dsimp only
                rw [e2]
                show (setL (g k) off vs).length = sz ∧ ∀ (j : Nat) (v : Value) (a : AV), _ → (setL (g k) off vs)[j]? = some a → _
                refine ⟨by rw [setL_length]; exact q1, fun j v a e1 e2 => ?_⟩
                have hj : j < sz := by rw [← q1, ← setL_length vs (g k) off]; exact (List.getElem?_eq_some_iff.1 e2).1
                rw [setV_get _ _ _ _ (by rw [Array.length_toList]; omega), Array.length_toList] at e1
                rw [setL_get _ _ _ _ (by omega)] at e2
                by_cases hj2 : off ≤ j ∧ j < off + vs.length
                · rw [if_pos hj2] at e2
                  rw [if_pos (by omega)] at e1
                  refine hcs.at' _ v a ?_ e2
                  rw [← e1, Array.getElem?_toList]
                  congr 1
                  omega
                · rw [if_neg hj2] at e2
                  rw [if_neg (by omega)] at e1
                  exact q2 j v a e1 e2
              · dsimp only
                rw [beq_ff e]
                show (g k).length = sz ∧ ∀ (j : Nat) (v : Value) (a : AV), _ → (g k)[j]? = some a → _
                refine ⟨q1, fun j v a e1 e2 => ?_⟩
                have hj : j < sz := by rw [← q1]; exact (List.getElem?_eq_some_iff.1 e2).1
                rw [setV_get _ _ _ _ (by rw [Array.length_toList]; omega), Array.length_toList, if_neg ?_] at e1
                · exact q2 j v a e1 e2
                · intro ⟨a1, a2⟩
                  exact row_apart e hj (q := k * sz + j - ix * sz) (by omega) (by omega)
            obtain ⟨s1, s2⟩ := St.put (k := .row sz n (fun j => bif Nat.beq j ix then setL (g ix) off vs else g j)) (w' := w.setRow b (setV arr (base + (ix * sz + off)) (ρ x).cells.toList)) hs ⟨_, hb, by simp⟩ hp (fun y hy => setRow_other w b y _ hy) (by simp) ⟨rfl, rfl, rfl⟩ ⟨_, tt, setRow_heap w b arr _ tt _ hc, by rw [setV_size]; exact hsz, by rw [setV_size]; exact htot, hrow⟩ (by simp) (id :: M.lg)
            refine ⟨G, _, undef, .inr ⟨?_, rfl⟩, .undef, s1, s2, Ub.refl _ _⟩
            unfold execOp
            rw [ho]
            simp only [Instr.storeAt, Instr.sureAddr, hav, Sem.run_bind, Sem.run_pure, Result.andThen_ok, hst]
        · cases hpk
      · cases hpk
    · cases h
  · cases h
/-! Maps. -/
theorem sameBits_of {d0 : TypeDesc} {x y : Value} (h : Instr.sameNow d0 x y = some true) : Instr.sameBits 10000 y x = true := by
  unfold Instr.sameNow at h
  split at h
  · rename_i k a k' b
    by_cases e : k = k'
    · rw [if_pos e] at h
      simp only [Option.some.injEq, beq_iff_eq] at h
      subst e; subst h
      simp [Instr.sameBits]
    · rw [if_neg e] at h; cases h
  · rename_i a b
    simp only [Option.some.injEq] at h
    have e : ((ByteArray.mk b.data == ByteArray.mk a.data) = true) ↔ b.data = a.data := by
      show (b.data == a.data) = true ↔ _
      simp
    have e' : ((ByteArray.mk a.data == ByteArray.mk b.data) = true) ↔ a.data = b.data := by
      show (a.data == b.data) = true ↔ _
      simp
    exact e.2 (e'.1 h).symm
  · simp only [Option.some.injEq, beq_iff_eq] at h
    subst h
    simp [Instr.sameBits]
  · cases h
theorem putE_ok {d : Option TypeDesc} {k u : AV} {x y : Value} (hx : RV G x k) (hy : RV G y u) : ∀ (es es' : List (AV × AV)) (ents : List MapEntry) (i : Nat), EntR G ents es → putE d k u es = some es' →
    ∃ d0, d = some d0 ∧ ((∃ kk, d0 = .int kk) ∨ d0 = .string ∨ d0 = .bool) ∧ ∃ z, Instr.findNow d0 x ents i = some z ∧ (match z with
      | some (j, _) => i ≤ j ∧ (∃ e, ents[j - i]? = some e ∧ Instr.sameBits 10000 e.key x = true) ∧ EntR G (ents.modify (j - i) fun e => { e with key := x, val := y }) es'
      | none => ∀ c, EntR G (ents ++ [{ key := x, val := y, born := c }]) es')
  | [], es', ents, i, hr, h => by
    have : ents = [] := List.length_eq_zero_iff.1 hr.1
    subst this
    unfold putE at h
    cases hk : keyOk d k with
    | false => rw [hk] at h; cases h
    | true =>
      rw [hk] at h
      cases h
      obtain ⟨d0, h1, h2⟩ := keyOk_ok hx hk
      refine ⟨d0, h1, h2, none, rfl, fun c => ⟨rfl, fun j e p a b => ?_⟩⟩
      match j, a, b with
      | 0, a, b => cases a; cases b; exact ⟨hx, hy⟩
      | j + 1, a, _ => simp at a
  | (a, v) :: es, es', ents, i, hr, h => by
    match ents, hr with
    | e :: ents, hr =>
    obtain ⟨⟨hk, hv⟩, ht⟩ := hr.tail
    unfold putE at h
    split at h
    · rename_i he
      cases h
      obtain ⟨d0, h1, h2⟩ := keyEq_ok hx hk he
      refine ⟨d0, h1, ?_, some (i, e.val), by simp [Instr.findNow, h2], Nat.le_refl _, ⟨e, by simp, sameBits_of h2⟩, by simp [ht.1], fun j e' p a b => ?_⟩
      · unfold Instr.sameNow at h2
        split at h2 <;> first | exact .inl ⟨_, rfl⟩ | exact .inr (.inl rfl) | exact .inr (.inr rfl) | cases h2
      · rw [Nat.sub_self] at a
        match j, a, b with
        | 0, a, b => cases a; cases b; exact ⟨hx, hy⟩
        | j + 1, a, b => exact ht.2 j e' p (by simpa using a) b
    · rename_i he
      split at h
      · rename_i l hl
        cases h
        obtain ⟨d0, h1, h2⟩ := keyEq_ok hx hk he
        obtain ⟨d1, h3, h4, z, h5, h6⟩ := putE_ok hx hy es l ents (i + 1) ht hl
        rw [h1] at h3
        cases h3
        refine ⟨d0, h1, h4, z, by simp [Instr.findNow, h2, h5], ?_⟩
        match z, h6 with
        | some (j, q), ⟨g1, ⟨e0, g2, g3⟩, g4⟩ =>
          have hj : j - i = (j - (i + 1)) + 1 := by omega
          refine ⟨by omega, ⟨e0, by rw [hj, List.getElem?_cons_succ]; exact g2, g3⟩, ?_⟩
          rw [hj, List.modify_succ_cons]
          refine ⟨by simpa using g4.1, fun m e' p a b => ?_⟩
          match m, a, b with
          | 0, a, b => cases a; cases b; exact ⟨hk, hv⟩
          | m + 1, a, b => exact g4.2 m e' p a b
        | none, g =>
          intro c
          refine ⟨by simpa using (g c).1, fun m e' p a b => ?_⟩
          match m, a, b with
          | 0, a, b => cases a; cases b; exact ⟨hk, hv⟩
          | m + 1, a, b => exact (g c).2 m e' p a b
      · cases h
    · cases h
theorem run_setObj' {b : Nat} {ob ob' : Obj} (h : w.heap[b]? = some ob) (hn : ∀ c t f, ob ≠ .cells c t f) : (setObj b ob').run P w = .ok () { w with heap := w.heap.setIfInBounds b ob' } := by
  cases ob <;> first | exact absurd rfl (hn _ _ _) | simp [setObj, Sem.run, h]
theorem set_same {b : Nat} {ob ob' : Obj} (h : w.heap[b]? = some ob) : ({ w with heap := w.heap.setIfInBounds b ob' } : World).heap[b]? = some ob' := by
  have := (Array.getElem?_eq_some_iff.1 h).1
  show (w.heap.setIfInBounds b ob')[b]? = _
  rw [Array.getElem?_setIfInBounds_self_of_lt this]
theorem set_other {b x : Nat} {ob' : Obj} (h : x ≠ b) : ({ w with heap := w.heap.setIfInBounds b ob' } : World).heap[x]? = w.heap[x]? := by
  show (w.heap.setIfInBounds b ob')[x]? = _
  rw [Array.getElem?_setIfInBounds_ne (Ne.symm h)]
theorem w_mapUp {t : TypeId} {fid : Nat} {m k x : Operand} (ho : o.op = .mapUpdate t m k x ∨ o.op = .insert t m k x) (hs : St G w M) (hm : RV G (ρ m) (ev m)) (hk : RV G (ρ k) (ev k)) (hx : RV G (ρ x) (ev x)) (h : oMapUp (mapK P t) (ev m) (ev k) (ev x) M = .val r M') : Wr P G ρ o w M fid r M' := by
  unfold oMapUp at h
  split at h
  · rename_i id he
    split at h
    · rename_i es hb
      unfold oMapUp1 at h
      split at h
      · rename_i es' hpe
        cases h
        rw [he] at hm
        generalize hv : ρ m = mv at hm
        cases hm with
        | map hp =>
        rename_i b
        obtain ⟨_, ents, clock, hc, hl, hr⟩ := hs.blk _ _ _ _ hb hp
        have hE : EntR G ents.toList es := ⟨by simpa using hl, fun j e p h1 h2 => hr j e p (by simpa using h1) h2⟩
        obtain ⟨d0, h1, h2, z, h3, h4⟩ := putE_ok hk hx es es' ents.toList 0 hE hpe
        obtain ⟨kt, et, h5, h6, h7⟩ := mapK_inv h1
        have key : ∀ (nents : Array MapEntry) (nc : Nat), EntR G nents.toList es' → (Instr.mapUpdate t (.map (some b)) (ρ k) (ρ x)).run P w = .ok () { w with heap := w.heap.setIfInBounds b (.map nents nc) } → Wr P G ρ o w M fid .undef ⟨M.h.set id (.map es'), M.nx, id :: M.lg⟩ := fun nents nc hn hrun => by
          obtain ⟨s1, s2⟩ := St.put (k := .map es') (w' := { w with heap := w.heap.setIfInBounds b (.map nents nc) }) hs ⟨_, hb, by simp⟩ hp (fun y hy => set_other hy) (by show (w.heap.setIfInBounds b _).size = _; simp) ⟨rfl, rfl, rfl⟩ ⟨rfl, nents, nc, set_same hc, by simpa using hn.1, fun j e p a b => hn.2 j e p (by simpa using a) b⟩ (by simp) (id :: M.lg)
          refine ⟨G, _, undef, .inr ⟨?_, rfl⟩, .undef, s1, s2, Ub.refl _ _⟩
          unfold execOp
          rcases ho with ho | ho <;> rw [ho] <;> simp only [hv, Sem.run_bind, hrun, Result.andThen_ok, Sem.run_pure]
        match z, h3, h4 with
        | some (j, q), h3, ⟨_, ⟨e, g1, g2⟩, g3⟩ =>
          refine key (ents.modify j fun e => { e with key := ρ k, val := ρ x }) clock (by rw [Array.toList_modify]; exact g3) ?_
          have ge : ents[j]? = some e := by simpa using g1
          simp only [Instr.mapUpdate, Sem.run_bind, run_und h5, Result.andThen_ok, run_getMap hc, checkKey_ok h6 h2, Instr.findKey, run_und h6, h3, Sem.run_pure, ge, Option.map_some, Option.getD_some, Instr.keyThatStays, g2, if_true]
          rw [run_setObj' hc (fun _ _ _ e => by cases e)]
        | none, h3, g =>
          refine key (ents.push { key := ρ k, val := ρ x, born := clock }) (clock + 1) (by rw [Array.toList_push]; exact g clock) ?_
          simp only [Instr.mapUpdate, Sem.run_bind, run_und h5, Result.andThen_ok, run_getMap hc, checkKey_ok h6 h2, Instr.findKey, run_und h6, h3, Sem.run_pure]
          rw [run_setObj' hc (fun _ _ _ e => by cases e)]
      · cases h
    · rename_i kk kv l hb
      rw [he] at hm
      generalize hv : ρ m = mv at hm
      cases hm with
      | map hp =>
      rename_i b
      obtain ⟨_, ents, clock, hc, hI1, hI2⟩ := hs.blk _ _ _ _ hb hp
      unfold oMapUpI at h
      split at h
      · rename_i k' n kz y hke hxe
        obtain ⟨h0, rfl, rfl⟩ := bif_val h
        simp only [Bool.and_eq_true] at h0
        obtain ⟨a1, a2, a3⟩ := h0
        have a2 := kEq_ok a2
        have a3 := kEq_ok a3
        subst a2
        subst a3
        rw [hke] at hk
        rw [hxe] at hx
        have hkv := hk.int_inv
        have hxv := hx.int_inv
        obtain ⟨k0, a1⟩ := dInt_some a1
        obtain ⟨kt, et, h5, h6, h7⟩ := mapK_inv a1
        obtain ⟨z, h3, h4⟩ := findI_ok k0 k' kz n ents.toList 0 hI1
        have key : ∀ (nents : Array MapEntry) (nc : Nat), IntE k' kz nents.toList → (∀ m, fI nents.toList m = if m = n then some y else fI ents.toList m) → (Instr.mapUpdate t (.map (some b)) (ρ k) (ρ x)).run P w = .ok () { w with heap := w.heap.setIfInBounds b (.map nents nc) } → Wr P G ρ o w M fid .undef ⟨M.h.set id (.mpi k' kz ((n, y) :: l)), M.nx, id :: M.lg⟩ := fun nents nc hn1 hn2 hrun => by
          obtain ⟨s1, s2⟩ := St.put (k := .mpi k' kz ((n, y) :: l)) (w' := { w with heap := w.heap.setIfInBounds b (.map nents nc) }) hs ⟨_, hb, by simp⟩ hp (fun y hy => set_other hy) (by show (w.heap.setIfInBounds b _).size = _; simp) ⟨rfl, rfl, rfl⟩ ⟨rfl, nents, nc, set_same hc, hn1, fun m => by
            rw [hn2 m, hI2 m, lkB_cons, lkV_cons]
            by_cases e : m = n
            · simp [e]
            · simp [e]⟩ (by simp) (id :: M.lg)
          refine ⟨G, _, undef, .inr ⟨?_, rfl⟩, .undef, s1, s2, Ub.refl _ _⟩
          unfold execOp
          rcases ho with ho | ho <;> rw [ho] <;> simp only [hv, Sem.run_bind, hrun, Result.andThen_ok, Sem.run_pure]
        match z, h3, h4 with
        | some (j, q), h3, ⟨_, ⟨e, g1, g2⟩, _, g3⟩ =>
          have g2' : Instr.sameBits 10000 e.key (.int k' n) = true := by rw [g2]; simp [Instr.sameBits]
          refine key (ents.modify j fun e => { e with key := ρ k, val := ρ x }) clock (by rw [Array.toList_modify, hkv, hxv]; exact (g3 y).1) (by rw [Array.toList_modify, hkv, hxv]; exact (g3 y).2) ?_
          have ge : ents[j]? = some e := by simpa using g1
          simp only [Instr.mapUpdate, Sem.run_bind, run_und h5, Result.andThen_ok, run_getMap hc, checkKey_ok h6 (.inl ⟨_, rfl⟩), Instr.findKey, run_und h6, hkv, h3, Sem.run_pure, ge, Option.map_some, Option.getD_some, Instr.keyThatStays, g2', if_true]
          rw [run_setObj' hc (fun _ _ _ e => by cases e)]
        | none, h3, ⟨_, g⟩ =>
          refine key (ents.push { key := ρ k, val := ρ x, born := clock }) (clock + 1) (by rw [Array.toList_push, hkv, hxv]; exact (g clock y).1) (by rw [Array.toList_push, hkv, hxv]; exact (g clock y).2) ?_
          simp only [Instr.mapUpdate, Sem.run_bind, run_und h5, Result.andThen_ok, run_getMap hc, checkKey_ok h6 (.inl ⟨_, rfl⟩), Instr.findKey, run_und h6, hkv, h3, Sem.run_pure]
          rw [run_setObj' hc (fun _ _ _ e => by cases e)]
      · cases h
    · cases h
  · cases h
end
end Go.Proofs.YtbknpfckdnladaaGreat
