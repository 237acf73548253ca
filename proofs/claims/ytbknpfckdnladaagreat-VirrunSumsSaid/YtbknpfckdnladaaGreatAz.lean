/- Memories that go together. No condition. -/
import Derived.Test.YtbknpfckdnladaaGreatAy
set_option linter.unusedVariables false
set_option maxHeartbeats 4000000
namespace Go.Proofs.YtbknpfckdnladaaGreat
section
variable {P : Program} {G G' : Gh} {w w' : World} {M M' N N' : Mem}
/-- What is owned. -/
noncomputable def og (M : Mem) (id : Nat) : Option Blk := match M.h.get id with | some .gone => none | x => x
theorem og_some {id : Nat} {k : Blk} (h : og M id = some k) : M.h.get id = some k ∧ k ≠ .gone := by
  unfold og at h
  split at h
  · cases h
  · rename_i hn
    exact ⟨h, fun e => hn (by rw [h, e])⟩
theorem og_of {id : Nat} {k : Blk} (h : M.h.get id = some k) (hk : k ≠ .gone) : og M id = some k := by
  unfold og
  rw [h]
  split
  · rename_i e; cases e; exact absurd rfl hk
  · rfl
theorem own_og {id : Nat} : Own M id ↔ og M id ≠ none := by
  constructor
  · rintro ⟨k, h1, h2⟩ e
    rw [og_of h1 h2] at e; cases e
  · intro h
    cases e : og M id with
    | none => exact absurd e h
    | some k => exact ⟨k, og_some e⟩
theorem og_get {id : Nat} (h : M.h.get id = N.h.get id) : og M id = og N id := by unfold og; rw [h]
theorem own_eq {id : Nat} (h : og M id = og N id) (o : Own M id) : M.h.get id = N.h.get id := by
  obtain ⟨k, h1, h2⟩ := o
  have := og_of h1 h2
  rw [h] at this
  rw [h1, (og_some this).1]
theorem own_cong {id : Nat} (h : og M id = og N id) : Own M id ↔ Own N id := by rw [own_og, own_og, h]
theorem BlkR.same {G : Gh} {b base : Nat} {k : Blk} (h : BlkR G w b base k) (hh : w'.heap[b]? = w.heap[b]?) : BlkR G w' b base k := h.heap hh
/-- The same for the ids that are known, or less. -/
theorem St.ofOg (hs : St G w M) (h : ∀ id, G.phi id ≠ none → og N id = og M id ∨ og N id = none) (hn : ∀ id b base, G.phi id = some (b, base) → id < N.nx) : St G w N := by
  have get : ∀ id b base k, G.phi id = some (b, base) → N.h.get id = some k → k ≠ .gone → M.h.get id = some k := fun id b base k hp hk hg => by
    have e := og_of hk hg
    rcases h id (by rw [hp]; simp) with e1 | e1
    · rw [e] at e1; exact (og_some e1.symm).1
    · rw [e] at e1; cases e1
  have own : ∀ id b base, G.phi id = some (b, base) → Own N id → Own M id := fun id b base hp ⟨k, h1, h2⟩ => ⟨k, get id b base k hp h1 h2, h2⟩
  refine ⟨fun id k b base h1 h2 => ?_, fun id id' b b1 b2 o1 o2 h1 h2 => hs.inj id id' b b1 b2 (own _ _ _ h1 o1) (own _ _ _ h2 o2) h1 h2, hs.lt, hn, hs.con, hs.cob, fun id b base i o h => hs.sep id b base i (own _ _ _ h o) h, fun id b base o h => hs.sep2 id b base (own _ _ _ h o) h⟩
  by_cases hk : k = .gone
  · subst hk; trivial
  · exact hs.blk id k b base (get id b base k h2 h1 hk) h2
theorem OwnB.up {b : Nat} (h : ∀ id, G.phi id ≠ none → Own M id → Own N id) (o : OwnB G M b) : OwnB G N b := by
  obtain ⟨id, base, o, e⟩ := o
  exact ⟨id, base, h id (by rw [e]; simp) o, e⟩
theorem Ev.ofOg (h : Ev G w M G' w' M') (h1 : ∀ id, G.phi id ≠ none → Own M id → Own N id) (h2 : ∀ id, G.phi id ≠ none → Own N' id → Own N id) (hn : N.nx ≤ N'.nx) : Ev G w N G' w' N' :=
  ⟨h.le, fun id b base e => (h.phin id b base e).imp (fun e => e) (fun e => e.imp (fun e => e) (OwnB.up h1)), fun b i v e => (h.conn b i v e).imp (fun e => e) (fun e => e.imp (fun e => e) (OwnB.up h1)), fun b v e => (h.cobn b v e).imp (fun e => e) (fun e => e.imp (fun e => e) (OwnB.up h1)), h.tot, fun b hb hn => h.keep b hb (fun o => hn (o.up h1)), h.size, h.os, hn, fun id o => by
    cases e : G.phi id with
    | none => exact .inr rfl
    | some x => exact .inl (h2 id (by rw [e]; simp) o)⟩
/-- What a part of memory does, with more beside it. -/
theorem St.frame {Ms M1 M2 C : Mem} {E : Nat → Prop} (hs : St G w Ms) (s1 : St G w M1) (ev : Ev G w M1 G' w' M2) (s2 : St G' w' M2) (hE : ∀ id, E id → G.phi id ≠ none ∧ ¬ Own M1 id) (hM : ∀ id, G.phi id ≠ none → Own M1 id → Own Ms id)
    (hC1 : ∀ id, E id → og C id = og Ms id) (hC2 : ∀ id, ¬ E id → og C id = og M2 id) (hn : M2.nx ≤ C.nx) (hn2 : Ms.nx ≤ C.nx) : St G' w' C ∧ Ev G w Ms G' w' C := by
  have nb : ∀ id b base, E id → Own Ms id → G.phi id = some (b, base) → ¬ OwnB G M1 b := fun id b base he ho hp ⟨id2, base2, o2, e2⟩ => by
    have := hs.inj id id2 b base base2 ho (hM id2 (by rw [e2]; simp) o2) hp e2
    subst this
    exact (hE id he).2 o2
  have cE : ∀ id, E id → Own C id → Own Ms id := fun id he o => (own_cong (hC1 id he)).1 o
  have cN : ∀ id, ¬ E id → Own C id → Own M2 id := fun id he o => (own_cong (hC2 id he)).1 o
  have ph : ∀ id x, E id → G'.phi id = some x → G.phi id = some x := fun id x he hx => by
    cases e : G.phi id with
    | none => exact absurd e (hE id he).1
    | some y => rw [ev.le.phi id y e] at hx; exact hx
  have nb2 : ∀ id b base, E id → Own Ms id → G.phi id = some (b, base) → ¬ OwnB G' M2 b := fun id b base he ho hp o => nb id b base he ho hp (ev.ownB (hs.lt _ _ _ hp) o)
  constructor
  · refine ⟨fun id k b base h1 h2 => ?_, fun id id' b base base' o1 o2 h1 h2 => ?_, s2.lt, fun id b base h => Nat.lt_of_lt_of_le (s2.fresh id b base h) hn, s2.con, s2.cob, fun id b base i o h => ?_, fun id b base o h => ?_⟩
    · by_cases hk : k = .gone
      · subst hk; trivial
      · by_cases he : E id
        · have hp := ph id _ he h2
          have e1 : og Ms id = some k := by rw [← hC1 id he]; exact og_of h1 hk
          have own : Own Ms id := own_og.2 (by rw [e1]; simp)
          exact (hs.blk id k b base (og_some e1).1 hp).mono ev.le (ev.keep b (hs.lt _ _ _ hp) (nb id b base he own hp)) hp
        · have e1 : og M2 id = some k := by rw [← hC2 id he]; exact og_of h1 hk
          exact s2.blk id k b base (og_some e1).1 h2
    · by_cases he : E id <;> by_cases he' : E id'
      · exact hs.inj id id' b base base' (cE _ he o1) (cE _ he' o2) (ph _ _ he h1) (ph _ _ he' h2)
      · exact absurd ⟨id', base', cN _ he' o2, h2⟩ (nb2 id b base he (cE _ he o1) (ph _ _ he h1))
      · exact absurd ⟨id, base, cN _ he o1, h1⟩ (nb2 id' b base' he' (cE _ he' o2) (ph _ _ he' h2))
      · exact s2.inj id id' b base base' (cN _ he o1) (cN _ he' o2) h1 h2
    · by_cases he : E id
      · have hp := ph id _ he h
        cases hc : G'.con b i with
        | none => rfl
        | some v =>
          exfalso
          rcases ev.conn b i v hc with e | e | e
          · rw [hs.sep id b base i (cE _ he o) hp] at e; cases e
          · have := hs.lt _ _ _ hp; omega
          · exact nb id b base he (cE _ he o) hp e
      · exact s2.sep id b base i (cN _ he o) h
    · by_cases he : E id
      · have hp := ph id _ he h
        cases hc : G'.cob b with
        | none => rfl
        | some v =>
          exfalso
          rcases ev.cobn b v hc with e | e | e
          · rw [hs.sep2 id b base (cE _ he o) hp] at e; cases e
          · have := hs.lt _ _ _ hp; omega
          · exact nb id b base he (cE _ he o) hp e
      · exact s2.sep2 id b base (cN _ he o) h
  · refine ev.ofOg hM (fun id hp o => ?_) hn2
    by_cases he : E id
    · exact cE _ he o
    · rcases ev.dom id (cN _ he o) with e | e
      · exact hM id hp e
      · exact absurd e hp
/-- Two memories in one. -/
theorem merge (E : Nat → Prop) (n : Nat) (A B : Mem) : ∀ l : List Nat, ∃ C : Mem, C.nx = n ∧ (∀ id, id ∈ l → E id → og C id = og B id) ∧ ∀ id, ¬ (id ∈ l ∧ E id) → og C id = og A id
  | [] => ⟨⟨A.h, n, A.lg⟩, rfl, fun id h _ => by (cases h), fun id _ => rfl⟩
  | x :: l => by
    obtain ⟨C, h1, h2, h3⟩ := merge E n A B l
    by_cases hx : E x
    · have gm : ∀ id, og (⟨C.h.set x ((B.h.get x).getD .gone), n, C.lg⟩ : Mem) id = if x = id then og B x else og C id := fun id => by
        unfold og
        show (match (C.h.set x ((B.h.get x).getD .gone)).get id with | some .gone => none | x => x) = _
        rw [get_set]
        by_cases e : x = id
        · rw [if_pos e, if_pos e]
          cases hb : B.h.get x with
          | none => rfl
          | some k => cases k <;> rfl
        · rw [if_neg e, if_neg e]
      refine ⟨⟨C.h.set x ((B.h.get x).getD .gone), n, C.lg⟩, rfl, fun id hi he => ?_, fun id hn => ?_⟩
      · rw [gm]
        by_cases e : x = id
        · rw [if_pos e, e]
        · rw [if_neg e]
          exact h2 id ((List.mem_cons.1 hi).resolve_left (fun h => e h.symm)) he
      · have ne : x ≠ id := fun e => hn ⟨by rw [← e]; exact List.mem_cons_self .., by rw [← e]; exact hx⟩
        rw [gm, if_neg ne]
        exact h3 id (fun h => hn ⟨List.mem_cons_of_mem _ h.1, h.2⟩)
    · refine ⟨C, h1, fun id hi he => ?_, fun id hn => ?_⟩
      · rcases List.mem_cons.1 hi with rfl | hi
        · exact absurd he hx
        · exact h2 id hi he
      · exact h3 id (fun h => hn ⟨List.mem_cons_of_mem _ h.1, h.2⟩)
/-! A thing's history. -/
def Hist {β : Type} (c : Nat → β) (st : Nat) (D : List Nat) (x : β) : Prop := ∃ s, s ≤ st ∧ x = c s ∧ (∀ j, j < s → c (j + 1) ≠ c j → j ∈ D) ∧ ∀ j, s ≤ j → j < st → c (j + 1) ≠ c j → j ∉ D
theorem const_of {β : Type} {c : Nat → β} {a : Nat} : ∀ b, a ≤ b → (∀ j, a ≤ j → j < b → c (j + 1) = c j) → c b = c a
  | 0, h, _ => by rw [show a = 0 by omega]
  | b + 1, h, k => by
    by_cases e : a = b + 1
    · rw [e]
    · rw [k b (by omega) (by omega)]
      exact const_of b (by omega) (fun j h1 h2 => k j h1 (by omega))
theorem Hist.at' {β : Type} {c : Nat → β} {st i : Nat} {D : List Nat} {x : β} (h : Hist c st D x) (hi : i ≤ st) (lo : ∀ j, j < i → c (j + 1) ≠ c j → j ∈ D) (hi2 : ∀ j, i ≤ j → j < st → c (j + 1) ≠ c j → j ∉ D) : x = c i := by
  obtain ⟨s, hs, rfl, h1, h2⟩ := h
  by_cases e : s ≤ i
  · refine (const_of i e fun j a b => Classical.byContradiction fun hn => h2 j a (by omega) hn (lo j b hn)).symm
  · exact const_of s (by omega) fun j a b => Classical.byContradiction fun hn => hi2 j a (by omega) hn (h1 j b hn)
theorem Hist.same {β : Type} {c : Nat → β} {st i : Nat} {D : List Nat} {x : β} (h : Hist c st D x) (e : c (i + 1) = c i) : Hist c st (i :: D) x := by
  obtain ⟨s, hs, hx, h1, h2⟩ := h
  refine ⟨s, hs, hx, fun j a b => List.mem_cons_of_mem _ (h1 j a b), fun j a b hn hm => ?_⟩
  rcases List.mem_cons.1 hm with rfl | hm
  · exact hn e
  · exact h2 j a b hn hm
theorem Hist.new {β : Type} {c : Nat → β} {st i : Nat} {D : List Nat} (hi : i < st) (lo : ∀ j, j < i → c (j + 1) ≠ c j → j ∈ D) (h2 : ∀ j, i < j → j < st → c (j + 1) ≠ c j → j ∉ D) : Hist c st (i :: D) (c (i + 1)) := by
  refine ⟨i + 1, hi, rfl, fun j a b => ?_, fun j a b hn hm => ?_⟩
  · by_cases e : j = i
    · rw [e]; exact List.mem_cons_self ..
    · exact List.mem_cons_of_mem _ (lo j (by omega) b)
  · rcases List.mem_cons.1 hm with rfl | hm
    · omega
    · exact h2 j (by omega) b hn hm
theorem Hist.last {β : Type} {c : Nat → β} {st : Nat} {D : List Nat} {x : β} (h : Hist c st D x) (hD : ∀ i, i < st → i ∈ D) : x = c st :=
  h.at' (Nat.le_refl _) (fun j a _ => hD j a) (fun j a b => by omega)
theorem Hist.first {β : Type} {c : Nat → β} {st : Nat} : Hist c st [] (c 0) := ⟨0, Nat.zero_le _, rfl, fun j h => by omega, fun j _ _ _ h => by cases h⟩
/-- An operation's step, whatever it is. -/
theorem does_wr {ρ : Operand → Value} {o : Oper} {fid : Nat} {r : AV} (hs : St G w M) (hf : G.phi fid = none) (hfx : fid < M.nx) (d : Does P G ρ o w M fid r M') : Wr P G ρ o w M fid r M' := by
  cases hw : isW o.op with
  | true => exact d.2 hw
  | false =>
    rcases d.1 hw with ⟨_, ⟨v, h1, h2⟩, rfl⟩ | ⟨_, k, ⟨hk, v, ob, n, h1, h2, h3⟩, rfl⟩
    · exact ⟨G, w, v, .inl h1, h2, hs, Ev.refl _ _ _, Ub.refl _ _⟩
    · obtain ⟨a1, a2⟩ := hs.alloc hf hfx h3 hk
      exact ⟨_, _, v, .inl h1, h2, a1, a2, fun id hne e => by show (if id = fid then _ else _) = _; rw [if_neg hne]; exact e⟩
end
end Go.Proofs.YtbknpfckdnladaaGreat
