/- Operations that write nothing. No condition. -/
import Derived.Test.YtbknpfckdnladaaGreatAb
import Derived.WalkKit
set_option linter.unusedVariables false
namespace Go.Proofs.YtbknpfckdnladaaGreat
section
variable {P : Program}
theorem nth_eq {α : Type} : ∀ (l : List α) (n : Nat), nth l n = l[n]?
  | [], n => by simp [nth]
  | a :: l, 0 => rfl
  | a :: l, n + 1 => by
    show nth l n = _
    rw [nth_eq l n]; rfl
theorem infoB_ok {t : TypeId} {i : TypeInfo} (h : infoB P t = some i) : P.info? t = some i := by
  unfold infoB at h
  rw [nth_eq] at h
  have hlt := (List.getElem?_eq_some_iff.1 h).1
  unfold Tables.info?
  rw [if_pos (by simpa using hlt)]
  simpa using h
theorem undB_ok {t : TypeId} {d : TypeDesc} (h : undB P t = some d) : P.underlying t = some d := by
  unfold undB at h
  cases hi : infoB P t with
  | none => rw [hi] at h; cases h
  | some i =>
    rw [hi] at h
    have hi' := infoB_ok hi
    unfold Program.underlying
    rw [hi']
    obtain ⟨desc, str, size, bytes, hp, al, fal, zero, cmp, ms⟩ := i
    unfold undB1 at h
    cases desc <;> first | exact h | skip
    rename_i n u
    simp only at h ⊢
    cases hu : infoB P u with
    | none => rw [hu] at h; cases h
    | some j => rw [hu] at h; rw [infoB_ok hu]; exact h
theorem isAggB_ok {t : TypeId} {b : Bool} (h : isAggB P t = some b) (w : World) : (isAgg t).run P w = .ok b w := by
  unfold isAggB at h
  cases hd : undB P t with
  | none => rw [hd] at h; cases h
  | some d =>
    rw [hd] at h
    cases h
    unfold isAgg underlying
    simp only [Sem.run_bind, run_program, Result.andThen_ok, undB_ok hd, Sem.run_pure]
    cases d <;> rfl
theorem szB_ok {t : TypeId} {i : TypeInfo} (h : infoB P t = some i) (w : World) : (sizeOf t).run P w = .ok (szB P t) w := by
  unfold sizeOf typeInfo szB
  rw [h]
  simp [Sem.run_bind, infoB_ok h]
theorem info_of_szB {t : TypeId} (h : szB P t ≠ 0) : ∃ i, infoB P t = some i := by
  unfold szB at h
  cases hi : infoB P t with
  | none => rw [hi] at h; exact absurd rfl h
  | some i => exact ⟨i, rfl⟩
theorem info_of_und {t : TypeId} {d : TypeDesc} (h : undB P t = some d) : ∃ i, infoB P t = some i := by
  unfold undB at h
  cases hi : infoB P t with
  | none => rw [hi] at h; cases h
  | some i => exact ⟨i, rfl⟩
theorem run_und {t : TypeId} {d : TypeDesc} (h : undB P t = some d) (w : World) : (underlying t).run P w = .ok d w := by
  unfold underlying
  simp [Sem.run_bind, undB_ok h]
theorem add_none (b o n : Nat) : (⟨b, o, none⟩ : Addr).add n = ⟨b, o + n, none⟩ := by
  unfold Addr.add
  split
  · subst_vars; rfl
  · rfl
end
/-! Constants. -/
theorem RV.ofVal1 (G : Gh) (v : Value) : RV G v (ofVal1 v) := by
  unfold Go.Proofs.YtbknpfckdnladaaGreat.ofVal1
  split <;> first | exact .bool _ | exact .int _ _ | exact .str _ | exact .nilp | exact .lstn | exact .nilm | exact .nilf | exact .nili | exact .undef | exact .fn rfl (fun j v a h => by simp at h) rfl (fun j v a h => by simp at h) | exact .top _
theorem RV.ofVal (G : Gh) (v : Value) : RV G v (ofVal v) := by
  unfold Go.Proofs.YtbknpfckdnladaaGreat.ofVal
  split
  · rename_i cs
    refine .agg (by simp) (fun j v a h h2 => ?_)
    rw [List.getElem?_map] at h2
    have h' : cs[j]? = some v := by simpa using h
    rw [h'] at h2
    cases h2
    exact RV.ofVal1 G v
  · exact RV.ofVal1 G _
theorem RT.eval {G : Gh} {a : Act} {tm : Tr AV} (h : RT G a.tmps tm) (x : Operand) : RV G (a.eval x) (evA tm x) := by
  cases x with
  | tmp t => exact h t
  | const v => exact RV.ofVal G v
  | global g => exact .top _
  | func f => exact .fn rfl (fun j v a h => by simp at h) rfl (fun j v a h => by simp at h)
theorem RV.mem {G : Gh} {ρ : Operand → Value} {ev : Operand → AV} {l : List Operand} (h : ∀ x ∈ l, RV G (ρ x) (ev x)) : RVs G ((l.map ρ).toArray) (l.map ev) := by
  refine ⟨by simp, fun j v a h1 h2 => ?_⟩
  simp only [List.getElem?_toArray, List.getElem?_map] at h1 h2
  cases hx : l[j]? with
  | none => rw [hx] at h1; cases h1
  | some x =>
    rw [hx] at h1 h2
    cases h1; cases h2
    exact h x (List.mem_of_getElem? hx)
/-! What abstract values tell of concrete ones. -/
section
variable {G : Gh} {v : Value} {P : Program}
theorem RV.bool_inv {b : Bool} (h : RV G v (.bool b)) : v = .bool b := by cases h; rfl
theorem RV.int_inv {k : IntKind} {n : Int} (h : RV G v (.int k n)) : v = .int k n := by cases h; rfl
theorem RV.str_inv {s : ByteArray} (h : RV G v (.str s)) : v = .string s := by cases h; rfl
theorem RV.one {a : AV} (h : RV G v a) (hc : cell1 a = true) : v.oneCell' = true := by
  cases h <;> first | rfl | cases hc
/-- Cells. -/
theorem RV.cells {a : AV} {cs : List AV} (h : RV G v a) (hc : a.cells = some cs) : RVs G v.cells cs ∧ ∀ (j : Nat) (u : Value), v.cells[j]? = some u → u.oneCell' = true := by
  have one : cell1 a = true → v.cells = #[v] → cs = [a] → RVs G v.cells cs ∧ ∀ (j : Nat) (u : Value), v.cells[j]? = some u → u.oneCell' = true := fun h1 h2 h3 => by
    subst h3
    rw [h2]
    refine ⟨⟨rfl, fun j u b e f => ?_⟩, fun j u e => ?_⟩
    · cases j with
      | zero => cases e; cases f; exact h
      | succ j => simp at e
    · cases j with
      | zero => cases e; exact h.one h1
      | succ j => simp at e
  cases h with
  | agg hl hr =>
    rename_i arr cs0
    change (bif cs0.all cell1 then some cs0 else none) = some cs at hc
    cases hall : cs0.all cell1 with
    | false => rw [hall] at hc; cases hc
    | true =>
      rw [hall] at hc
      have e : cs0 = cs := Option.some.inj hc
      subst e
      refine ⟨⟨hl, hr⟩, fun j u e => ?_⟩
      have hlt := (Array.getElem?_eq_some_iff.1 e).1
      obtain ⟨b, hb⟩ : ∃ b, cs0[j]? = some b := ⟨_, List.getElem?_eq_getElem (by rw [← hl]; exact hlt)⟩
      exact (hr j u b e hb).one (List.all_eq_true.1 hall b (List.mem_of_getElem? hb))
  | undef => cases hc
  | top => cases hc
  | tup => cases hc
  | _ => exact one rfl rfl (Option.some.inj hc).symm
end
/-! What an operation answers. -/
def OpRes (r : Result Next) (v : Value) (w : World) : Prop := r = .ok (.value v) w ∨ (r = .ok .skip w ∧ v = undef)
/-- A quiet answer: the world stays. -/
def Qu (P : Program) (G : Gh) (ρ : Operand → Value) (o : Oper) (w : World) (a : AV) : Prop := ∃ v, (execOp ρ o).run P w = .ok (.value v) w ∧ RV G v a
section
variable {P : Program} {G : Gh} {ρ : Operand → Value} {ev : Operand → AV} {o : Oper} {w : World}
theorem q_move {x : Operand} (ho : o.op = .move x ∨ o.op = .assign x) (hx : RV G (ρ x) (ev x)) : Qu P G ρ o w (ev x) := by
  refine ⟨ρ x, ?_, hx⟩
  unfold execOp
  rcases ho with h | h <;> rw [h] <;> rfl
theorem kEq_eq {a b : IntKind} (h : kEq a b = true) : a = b := by cases a <;> cases b <;> first | rfl | cases h
theorem pickV_eq (t : Bool) (a b : AV) : pickV t a b = bif t then a else b := by
  unfold pickV
  split
  · rename_i k x k' y
    cases hk : kEq k k' with
    | false => rfl
    | true =>
      have := kEq_eq hk
      subst this
      cases t <;> rfl
  · cases t <;> rfl
  · rfl
theorem updG_eq (g : Nat → List AV) (ix off : Nat) (vs : List AV) : updG g ix off vs = fun j => bif Nat.beq j ix then setL (g ix) off vs else g j := by
  have hb : ∀ j, Nat.beq j ix = true → j = ix := fun j h => by simpa using h
  unfold updG
  split
  · rename_i k x
    funext j
    unfold updI
    cases hj : Nat.beq j ix with
    | false =>
      split
      · rename_i k' v hg
        cases hk : kEq k k' with
        | false => exact hg.symm
        | true =>
          have := kEq_eq hk
          subst this
          exact hg.symm
      · rfl
    | true =>
      have := hb j hj
      subst this
      split
      · rename_i k' v hg
        rw [hg]
        cases kEq k k' <;> rfl
      · rfl
  · rfl
theorem q_pick {c a b : Operand} (ho : o.op = .pick c a b) {t : Bool} (hc : RV G (ρ c) (.bool t)) (ha : RV G (ρ a) (ev a)) (hb : RV G (ρ b) (ev b)) : Qu P G ρ o w (bif t then ev a else ev b) := by
  refine ⟨if t then ρ a else ρ b, ?_, by cases t <;> assumption⟩
  unfold execOp
  rw [ho]
  simp only [hc.bool_inv, asBool, Sem.run_bind, Sem.run_pure, Result.andThen_ok]
theorem q_makeFunc {f : Nat} {first captured : Array Operand} (ho : o.op = .makeFunc (.func f) first captured) (h1 : ∀ x ∈ first, RV G (ρ x) (ev x)) (h2 : ∀ x ∈ captured, RV G (ρ x) (ev x)) : Qu P G ρ o w (.fn f (first.toList.map ev) (captured.toList.map ev)) := by
  refine ⟨.func (.func f) (first.map ρ) (captured.map ρ), ?_, ?_⟩
  · unfold execOp
    rw [ho]
    rfl
  · have m1 := RV.mem (l := first.toList) (fun x hx => h1 x (Array.mem_toList_iff.1 hx))
    have m2 := RV.mem (l := captured.toList) (fun x hx => h2 x (Array.mem_toList_iff.1 hx))
    have e1 : (first.toList.map ρ).toArray = first.map ρ := Array.ext' (by rw [Array.toList_map])
    have e2 : (captured.toList.map ρ).toArray = captured.map ρ := Array.ext' (by rw [Array.toList_map])
    rw [e1] at m1
    rw [e2] at m2
    exact .fn m1.len m1.at' m2.len m2.at'
theorem q_makeIfc {t : Nat} {x : Operand} (ho : o.op = .makeInterface t x) (hx : RV G (ρ x) (ev x)) (h : isIfcD (undB P t) = false) : Qu P G ρ o w (.ifc t (ev x)) := by
  refine ⟨.iface t (ρ x), ?_, .ifc hx⟩
  unfold execOp
  rw [ho]
  cases hd : undB P t with
  | none => rw [hd] at h; cases h
  | some d =>
    rw [hd] at h
    simp only [Instr.makeInterface, Sem.run_bind, run_und hd, Result.andThen_ok]
    cases d <;> first | rfl | cases h
theorem q_extract {x : Operand} {i : Nat} {vs : List AV} {a : AV} (ho : o.op = .extract x i) (hx : RV G (ρ x) (.tup vs)) (hi : nth vs i = some a) : Qu P G ρ o w a := by
  rw [nth_eq] at hi
  generalize hv : ρ x = u at hx
  cases hx with
  | tup hl hr =>
    rename_i arr
    have hlt := (List.getElem?_eq_some_iff.1 hi).1
    obtain ⟨v, hv2⟩ : ∃ v, arr[i]? = some v := ⟨_, Array.getElem?_eq_getElem (by omega)⟩
    refine ⟨v, ?_, hr i v a hv2 hi⟩
    unfold execOp
    rw [ho]
    simp [Instr.extract, hv, hv2]
theorem bif_val {c : Bool} {v r : AV} {M M' : Mem} {n : Nat} (h : (bif c then AR.val v M else AR.no n) = AR.val r M') : c = true ∧ r = v ∧ M' = M := by
  cases c with
  | true => cases h; exact ⟨rfl, rfl, rfl⟩
  | false => cases h
theorem RV.two {x : Value} {a : AV} (h : RV G x a) (b : Bool) : RV G (.tuple #[x, .bool b]) (.tup [a, .bool b]) := by
  refine .tup rfl (fun j y c h1 h2 => ?_)
  match j, h1, h2 with
  | 0, h1, h2 => cases h1; cases h2; exact h
  | 1, h1, h2 => cases h1; cases h2; exact .bool b
  | j + 2, h1, _ => simp at h1
theorem RV.ok {x : Value} {a : AV} (h : RV G x a) (ok b : Bool) : RV G (if ok then .tuple #[x, .bool b] else x) (bif ok then .tup [a, .bool b] else a) := by
  cases ok with
  | false => exact h
  | true => exact h.two b
theorem zeroB_ok {t : TypeId} {z : AV} (h : zeroB P t = some z) (w : World) : ∃ v, (zeroValue t).run P w = .ok v w ∧ RV G v z := by
  unfold zeroB at h
  cases hi : infoB P t with
  | none => rw [hi] at h; cases h
  | some i =>
    rw [hi] at h
    cases hz : i.zero with
    | none => simp only [hz] at h; cases h
    | some v =>
      simp only [hz] at h
      cases h
      refine ⟨v, ?_, RV.ofVal G v⟩
      unfold zeroValue typeInfo
      simp [Sem.run_bind, infoB_ok hi, hz]
theorem q_assert {x : Operand} {t0 t : Nat} {ok : Bool} {r : AV} (ho : o.op = .typeAssert x t0 t ok) (hx : RV G (ρ x) (ev x)) {M M' : Mem} (h : oAssert (zeroB P t) (isIfcD (undB P t)) t (ev x) ok M = .val r M') : Qu P G ρ o w r ∧ M' = M := by
  unfold oAssert at h
  split at h
  · rename_i u a he
    rw [he] at hx
    generalize hv : ρ x = xv at hx
    cases hx with
    | ifc hx =>
    rename_i v
    cases hd : undB P t with
    | none => rw [hd] at h; cases h
    | some d =>
      rw [hd] at h
      cases hb : isIfcD (some d) with
      | true => rw [hb] at h; cases h
      | false =>
        rw [hb] at h
        change oAssert1 _ _ _ _ _ _ = _ at h
        unfold oAssert1 at h
        have run : ∀ (s : Sem Value) (y : Value), (Instr.typeAssert (.iface u v) t0 t ok) = s → s.run P w = .ok y w → (execOp ρ o).run P w = .ok (.value y) w := fun s y e e2 => by
          unfold execOp
          rw [ho]
          simp only [hv, e, Sem.run_bind, e2, Result.andThen_ok, Sem.run_pure]
        by_cases hut : u = t
        · have e1 : Nat.beq u t = true := by rw [hut]; exact Nat.beq_refl t
          rw [e1] at h
          cases h
          refine ⟨⟨_, run _ _ rfl ?_, hx.ok ok true⟩, rfl⟩
          simp only [Instr.typeAssert, Sem.run_bind, run_und hd, Result.andThen_ok]
          cases d <;> first | (cases hb; done) | simp [hut]
        · have e1 : Nat.beq u t = false := by
            cases hh : Nat.beq u t with
            | false => rfl
            | true => exact absurd (Nat.eq_of_beq_eq_true hh) hut
          rw [e1] at h
          change oAssert2 _ _ _ = _ at h
          unfold oAssert2 at h
          cases hz : zeroB P t with
          | none => rw [hz] at h; cases h
          | some z =>
            rw [hz] at h
            cases ok with
            | false => cases h
            | true =>
              cases h
              obtain ⟨zv, hz1, hz2⟩ := zeroB_ok (G := G) hz w
              refine ⟨⟨_, run _ (.tuple #[zv, .bool false]) rfl ?_, hz2.two false⟩, rfl⟩
              simp only [Instr.typeAssert, Sem.run_bind, run_und hd, Result.andThen_ok]
              cases d <;> first | (cases hb; done) | simp [hz1, hut]
  · cases h
end
end Go.Proofs.YtbknpfckdnladaaGreat
