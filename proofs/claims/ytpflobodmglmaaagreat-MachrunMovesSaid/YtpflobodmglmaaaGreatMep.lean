/- Several texts joined. No condition. -/
import Derived.Test.YtpflobodmglmaaaGreatMe
import Derived.Test.YtpflobodmglmaaaGreatProg
import Derived.KernelRfl
set_option linter.unusedVariables false
set_option maxHeartbeats 4000000
namespace Go.Proofs.YtpflobodmglmaaaGreat
def X0 (P : Program) : Cx := { P := P, ct := fun _ _ _ _ => none }
theorem ct0 (P : Program) : CtOK (X0 P) := ⟨rfl, fun R f args M sp h => by cases h⟩
noncomputable def XV : Cx := { P := Tryz.prog, ct := fun _ _ _ _ => none, ty := true }
theorem ctV : CtOK XV := ⟨rfl, fun R f args M sp h => by cases h⟩
def pokB (P : Program) : Bool := P.funcs.toList.all fun fn => fn.body.isNone || !(fn.name == "runtime.NumGoroutine")
theorem pok_of {P : Program} (hm : P.follows .mixedOrders = true) (h : pokB P = true) : POk P := ⟨hm, fun f fn h1 h2 => by
  unfold pokB at h
  rw [List.all_eq_true] at h
  have := h fn (List.mem_of_getElem? (by simpa using h1))
  cases hb : fn.body with
  | none => rw [hb] at h2; cases h2
  | some c =>
    rw [hb] at this
    simpa using this⟩
theorem pok : POk Tryz.prog := pok_of (by kernel_rfl) (by kernel_rfl)
/-! Steps. -/
theorem ck {c : Bool} {p : Prop} (h : c = true) (x : p) : (bif c then p else False) := by rw [h]; exact x
theorem ckN {c : Bool} {p : Prop} (h : c = false) (x : p) : (bif c then False else p) := by rw [h]; exact x
theorem ifs {c : Bool} {p q : Prop} (x : c = true → p) (y : c = false → q) : (bif c then p else q) := by
  cases h : c with
  | true => exact x h
  | false => exact y h
theorem endI {x y : AEnd} (h : WkE x y) : True ∧ WkE x y ∧ True := ⟨trivial, h, trivial⟩
theorem endI1 {p : Prop} {x y : AEnd} (h0 : p) (h : WkE x y) : (p ∧ True) ∧ WkE x y ∧ True := ⟨⟨h0, trivial⟩, h, trivial⟩
theorem lp {P : Program} {f : Fr} {M : Mem} {e : AEnd} {N : List Blk} (h : FrE P f M e N) : True ∧ (FrE P f M e N ∧ (e = e ∧ bld N 0 .nil = bld N 0 .nil)) := ⟨trivial, h, rfl, rfl⟩
theorem cl {P : Program} {f : Nat} {args : List AV} {N0 : List Blk} {e : AEnd} {N : List Blk} {q : Prop} (h : CtE P f args N0 e N) (x : q) : True ∧ (CtE P f args N0 e N ∧ q) := ⟨trivial, h, x⟩
theorem cl1 {P : Program} {f : Nat} {args : List AV} {N0 : List Blk} {e : AEnd} {N : List Blk} {p q : Prop} (h0 : p) (h : CtE P f args N0 e N) (x : q) : (p ∧ True) ∧ (CtE P f args N0 e N ∧ q) := ⟨⟨h0, trivial⟩, h, x⟩
theorem wkE (x : AEnd) : WkE x x := fun _ _ h => h
/-- A constant row, by what it holds as far as it goes. -/
theorem rv_wk {G : Gh} {v : Value} {f f' : Bool} {n : Nat} {g g' : Nat → List AV} {nl nl' : Bool} (hn : nl = nl') (hf : f' = true → f = true) (hg : ∀ i, i < n → g i = g' i) (h : RV G v (.lst nl f n g)) : RV G v (.lst nl' f' n g') := by
  subst hn
  cases h with
  | lstn => exact .lstn
  | lst vs h1 h2 h3 h4 h5 => exact .lst vs h1 (fun e => h2 (hf e)) (fun i hi => by rw [← hg i hi]; exact h3 i hi) (fun i j a hi e => h4 i j a hi (by rw [hg i hi]; exact e)) (fun i j a hi e => h5 i j a hi (by rw [hg i hi]; exact e))
theorem wk_lst {f f' : Bool} {n : Nat} {g g' : Nat → List AV} {nl nl' : Bool} (hn : nl = nl') (hf : f' = true → f = true) (hg : ∀ i, i < n → g i = g' i) : WkE (.ret (.lst nl f n g)) (.ret (.lst nl' f' n g')) := fun G E h => by
  cases E with
  | returned v => exact rv_wk hn hf hg h
  | panicked _ => exact h
  | outgrown => exact h
/-! Loops' heads, where they go on. -/
noncomputable def heads : Code → List Item → List (List Item) := fun c => Code.rec (motive := fun _ => List Item → List (List Item)) (fun _ => []) (fun _ _ _ _ => []) (fun a b iha ihb rest => iha (.code b :: rest) ++ ihb rest) (fun _ _ _ iha ihb rest => iha rest ++ ihb rest) (fun id _ ih rest => ih (.inBlock id :: rest)) (fun b ih rest => (.code b :: .inLoop b :: rest) :: ih (.inLoop b :: rest)) (fun _ _ _ _ _ _ _ => []) (fun _ _ => []) (fun _ _ _ => []) (fun _ _ => []) (fun _ _ => []) (fun _ => []) (fun _ _ => []) c
/-- The j-th head of a function. -/
noncomputable def hd (P : Program) (f j : Nat) : List Item := match bodyOf P f with | some (c, _) => (nth (heads c []) j).getD [] | none => []
noncomputable def rgs : Code → List Item → List (Nat × List Item) := fun c => Code.rec (motive := fun _ => List Item → List (Nat × List Item)) (fun _ => []) (fun id ops d rest => [(id, .code (.region id ops d) :: rest)]) (fun a b iha ihb rest => iha (.code b :: rest) ++ ihb rest) (fun _ _ _ iha ihb rest => iha rest ++ ihb rest) (fun id _ ih rest => ih (.inBlock id :: rest)) (fun b ih rest => ih (.inLoop b :: rest)) (fun _ _ _ _ _ _ _ => []) (fun _ _ => []) (fun _ _ _ => []) (fun _ _ => []) (fun _ _ => []) (fun _ => []) (fun _ _ => []) c
def rgAt : List (Nat × List Item) → Nat → List Item
  | [], _ => []
  | (i, t) :: l, id => bif Nat.beq id i then t else rgAt l id
/-- What is still to be done at a function's region. -/
noncomputable def rg (P : Program) (f id : Nat) : List Item := match bodyOf P f with | some (c, _) => rgAt (rgs c []) id | none => []
noncomputable def szF (P : Program) (f : Nat) : Nat := match bodyOf P f with | some (_, n) => n | none => 0
/-- A function's frame at its j-th head. -/
noncomputable def frH (P : Program) (f j : Nat) (L : List (Nat × AV)) : Fr := ⟨f, false, szF P f, tmL (szF P f) L, hd P f j, [], none⟩
noncomputable def frR (P : Program) (f id : Nat) (L : List (Nat × AV)) : Fr := ⟨f, false, szF P f, tmL (szF P f) L, rg P f id, [], none⟩
end Go.Proofs.YtpflobodmglmaaaGreat
set_option linter.unusedVariables false
set_option maxHeartbeats 4000000
namespace Go.Proofs.YtpflobodmglmaaaGreat
@[simp] theorem ltI_t (a b : Int) : ltI a b = true ↔ a < b := by
  cases a <;> cases b <;> simp [ltI] <;> omega
@[simp] theorem ltI_f (a b : Int) : ltI a b = false ↔ b ≤ a := by
  rw [← Bool.not_eq_true, ltI_t]
  omega
@[simp] theorem leI_t (a b : Int) : leI a b = true ↔ a ≤ b := by
  unfold leI
  simp
@[simp] theorem leI_f (a b : Int) : leI a b = false ↔ b < a := by
  unfold leI
  simp
@[simp] theorem eqI_t (a b : Int) : eqI a b = true ↔ a = b := by
  rw [eqI_eq]; simp
@[simp] theorem eqI_f (a b : Int) : eqI a b = false ↔ a ≠ b := by
  rw [eqI_eq]; simp
@[simp] theorem inI_t (x : Int) (n : Nat) : inI x n = true ↔ 0 ≤ x ∧ x < n := by
  cases x with
  | ofNat a =>
    show Nat.blt a n = true ↔ _
    rw [Nat.blt_eq]
    constructor
    · intro h; exact ⟨Int.natCast_nonneg a, by have := Int.ofNat_lt.2 h; exact this⟩
    · intro ⟨_, h⟩; exact Int.ofNat_lt.1 h
  | negSucc a =>
    show false = true ↔ _
    constructor
    · intro h; cases h
    · intro ⟨h, _⟩; omega
@[simp] theorem inI_f (x : Int) (n : Nat) : inI x n = false ↔ x < 0 ∨ n ≤ x := by
  rw [← Bool.not_eq_true, inI_t]
  omega
@[simp] theorem kEq_self (k : IntKind) : kEq k k = true := Nat.beq_refl _
theorem wrap_i64 (n : Int) : IntKind.wrap .i64 n = if n % 18446744073709551616 ≥ 9223372036854775808 then n % 18446744073709551616 - 18446744073709551616 else n % 18446744073709551616 := by
  simp [IntKind.wrap, IntKind.bits, IntKind.signed]
theorem wr_id {x : Int} (h0 : -9223372036854775808 ≤ x) (h1 : x < 9223372036854775808) : wr .i64 x = x := by
  rw [wr_eq]
  rw [wrap_i64]
  split <;> omega
theorem wkEq {x y : AEnd} (h : x = y) : WkE x y := by rw [h]; exact wkE y
theorem he0 {v : AEnd} (h : rnE 0 [] v = v) : rnE ([] : List Blk).length (List.range ([] : List Blk).length) v = v := h
theorem hN0 : ([] : List Blk).map (rnK ([] : List Blk).length (List.range ([] : List Blk).length)) = [] := rfl
/-- A function without blocks of its own at its begin and its end. -/
theorem vc0 {c : Cfg} {n f : Nat} {args : List AV} {e : AEnd} (he : rnE 0 [] e = e) {E : Prop} (p : E) (h : E = VC XV c e [] n (.call f args false .run (clM []) (kE e []))) : CtE XV.P f args [] e [] := vc_call pok ctV (he0 he) hN0 (Nat.le_refl _) p h
theorem vl0 {c : Cfg} {n f j : Nat} {L : List (Nat × AV)} {N0 : List Blk} {e : AEnd} (he : rnE 0 [] e = e) {E : Prop} (p : E) (h : E = VC XV c e [] n (.fr (frH XV.P f j L) .run (clM N0) (kE e []))) : FrE XV.P (frH XV.P f j L) (clM N0) e [] := vc_fr pok ctV (he0 he) hN0 (Nat.zero_le _) rfl rfl p h
theorem endL {p : Prop} {x y : AEnd} (h0 : p) (h : WkE x y) : p ∧ WkE x y ∧ True := ⟨h0, h, trivial⟩
/-! Values that tell no more than others. -/
def WkV (a b : AV) : Prop := ∀ (G : Gh) (v : Value), RV G v a → RV G v b
inductive WkL : List AV → List AV → Prop
  | nil : WkL [] []
  | cons {a b : AV} {l r : List AV} (h : WkV a b) (t : WkL l r) : WkL (a :: l) (b :: r)
theorem WkV.refl (a : AV) : WkV a a := fun _ _ h => h
theorem WkL.refl : ∀ (l : List AV), WkL l l
  | [] => .nil
  | a :: l => .cons (WkV.refl a) (WkL.refl l)
theorem WkL.of {l r : List AV} (h : l = r) : WkL l r := h ▸ WkL.refl l
theorem WkL.len {l r : List AV} (h : WkL l r) : l.length = r.length := by
  induction h with
  | nil => rfl
  | cons _ _ ih => simp [ih]
theorem WkL.at' {l r : List AV} (h : WkL l r) : ∀ (j : Nat) (b : AV), r[j]? = some b → ∃ a, l[j]? = some a ∧ WkV a b := by
  induction h with
  | nil => intro j b e; simp at e
  | cons h t ih =>
    intro j b e
    cases j with
    | zero => cases e; exact ⟨_, rfl, h⟩
    | succ j => exact ih j b e
theorem wkv_lst {f f' : Bool} {n : Nat} {g g' : Nat → List AV} {nb nb' : Bool} (hn : nb = nb') (hf : f' = true → f = true) (hg : ∀ i, i < n → WkL (g i) (g' i)) : WkV (.lst nb f n g) (.lst nb' f' n g') := fun G v h => by
  subst hn
  cases h with
  | lstn => exact .lstn
  | lst vs h1 h2 h3 h4 h5 =>
    refine .lst vs h1 (fun e => h2 (hf e)) (fun i hi => by rw [← (hg i hi).len]; exact h3 i hi) (fun i j a hi e => ?_) (fun i j a hi e => ?_)
    · obtain ⟨a0, e0, _⟩ := (hg i hi).at' j a e
      exact h4 i j a0 hi e0
    · obtain ⟨a0, e0, hw⟩ := (hg i hi).at' j a e
      exact hw _ _ (h5 i j a0 hi e0)
theorem wkv_agg {l r : List AV} (h : WkL l r) : WkV (.agg l) (.agg r) := fun G v hv => by
  cases hv with
  | agg hl hr =>
    refine .agg (by rw [← h.len]; exact hl) fun j v a e f => ?_
    obtain ⟨a0, e0, hw⟩ := h.at' j a f
    exact hw _ _ (hr j v a0 e e0)
theorem wkv_tup {l r : List AV} (h : WkL l r) : WkV (.tup l) (.tup r) := fun G v hv => by
  cases hv with
  | tup hl hr =>
    refine .tup (by rw [← h.len]; exact hl) fun j v a e f => ?_
    obtain ⟨a0, e0, hw⟩ := h.at' j a f
    exact hw _ _ (hr j v a0 e e0)
theorem wk_ret {a b : AV} (h : WkV a b) : WkE (.ret a) (.ret b) := fun G E hE => by
  cases E with
  | returned v => exact h G v hE
  | panicked _ => exact hE
  | outgrown => exact hE
/-- A contract for arguments of which less is known. -/
theorem ct_wk {P : Program} {f : Nat} {args args' : List AV} {N0 N : List Blk} {e : AEnd} (h : WkL args args') (hc : CtE P f args' N0 e N) : CtE P f args N0 e N := fun bl bl' => by
  obtain ⟨h1, h2, h3⟩ := hc bl bl'
  exact ⟨h1, h2, fun G w vs c0s cs hs hw hv hb => h3 G w vs c0s cs hs hw ⟨by rw [← h.len]; exact hv.len, fun j v a e f => by
    obtain ⟨a0, e0, hk⟩ := h.at' j a f
    exact hk _ _ (hv.at' j v a0 e e0)⟩ hb⟩
theorem wkB_row {sz n : Nat} {g g' : Nat → List AV} (hg : ∀ i, i < n → WkL (g i) (g' i)) : WkB (.row sz n g) (.row sz n g') := fun G w b base h => by
  obtain ⟨arr, t, h1, h2, h3, h4⟩ := h
  refine ⟨arr, t, h1, h2, h3, fun i hi => ⟨by rw [← (hg i hi).len]; exact (h4 i hi).1, fun j v a e f => ?_⟩⟩
  obtain ⟨a0, e0, hw⟩ := (hg i hi).at' j a f
  exact hw _ _ ((h4 i hi).2 j v a0 e e0)
theorem wkB_var {l r : List AV} (h : WkL l r) : WkB (.var l) (.var r) := fun G w b base hb => by
  obtain ⟨h0, arr, t, h1, h2⟩ := hb
  refine ⟨h0, arr, t, h1, by rw [← h.len]; exact h2.len, fun j v a e f => ?_⟩
  obtain ⟨a0, e0, hw⟩ := h.at' j a f
  exact hw _ _ (h2.at' j v a0 e e0)
theorem blt_f {a b : Nat} (h : b ≤ a) : Nat.blt a b = false := by
  cases hh : Nat.blt a b with
  | false => rfl
  | true => exact absurd (Nat.blt_eq ▸ hh : a < b) (Nat.not_lt.2 h)
theorem blt_t {a b : Nat} (h : a < b) : Nat.blt a b = true := by simpa using h
/-- A row to which one element is appended. -/
noncomputable def app1 (n : Nat) (g : Nat → List AV) (cs : List AV) (i : Nat) : List AV := (mixL (Nat.blt i n) (g (0 + i)) cs).map frz0
theorem app1_eq {n : Nat} {g R : Nat → List AV} {cs : List AV} (h : ∀ j, j < n → g j = R j) (hc : cs = R n) (hf : ∀ j, (R j).map frz0 = R j) (j : Nat) (hj : j < n + 1) : app1 n g cs j = R j := by
  unfold app1
  rw [mixL_eq, Nat.zero_add]
  by_cases e : j < n
  · rw [show Nat.blt j n = true by simpa using e]
    show (g j).map frz0 = R j
    rw [h j e, hf]
  · rw [blt_f (Nat.le_of_not_lt e)]
    show cs.map frz0 = R j
    rw [hc, hf, show j = n by omega]
noncomputable def iV (x : Int) : AV := .int .i64 x
noncomputable def nl : AV := .lst true true 0 (fun _ => [])
/-- What holds of each number below a bound, looked at one by one. -/
theorem all_lt {n : Nat} {p : Nat → Bool} (h : (List.range n).all p = true) (k : Nat) (hk : k < n) : p k = true := List.all_eq_true.1 h k (List.mem_range.2 hk)
theorem vcN {c : Cfg} {n f : Nat} {args : List AV} {N0 N : List Blk} {e : AEnd} (he : rnE N.length (List.range N.length) e = e) (hN : N.map (rnK N.length (List.range N.length)) = N) (hk : N.length ≤ N0.length) {E : Prop} (p : E) (h : E = VC XV c e N n (.call f args false .run (clM N0) (kE e N))) : CtE XV.P f args N0 e N := vc_call pok ctV he hN hk p h
theorem vlN {c : Cfg} {n f j : Nat} {L : List (Nat × AV)} {N0 N : List Blk} {e : AEnd} (he : rnE N.length (List.range N.length) e = e) (hN : N.map (rnK N.length (List.range N.length)) = N) (hk : N.length ≤ N0.length) {E : Prop} (p : E) (h : E = VC XV c e N n (.fr (frH XV.P f j L) .run (clM N0) (kE e N))) : FrE XV.P (frH XV.P f j L) (clM N0) e N := vc_fr pok ctV he hN hk rfl rfl p h
theorem vlR {c : Cfg} {n f j : Nat} {L : List (Nat × AV)} {N0 N : List Blk} {e : AEnd} (he : rnE N.length (List.range N.length) e = e) (hN : N.map (rnK N.length (List.range N.length)) = N) (hk : N.length ≤ N0.length) {E : Prop} (p : E) (h : E = VC XV c e N n (.fr (frR XV.P f j L) .run (clM N0) (kE e N))) : FrE XV.P (frR XV.P f j L) (clM N0) e N := vc_fr pok ctV he hN hk rfl rfl p h
theorem endB1 {x y : AEnd} {b b' : Blk} (h : WkE x y) (hb : WkB b b') : True ∧ WkE x y ∧ ((True ∧ WkB b b') ∧ True) := ⟨trivial, h, ⟨trivial, hb⟩, trivial⟩
theorem endBp {p : Prop} {x y : AEnd} {b b' : Blk} (h0 : p) (h : WkE x y) (hb : WkB b b') : True ∧ WkE x y ∧ (((p ∧ True) ∧ WkB b b') ∧ True) := ⟨trivial, h, ⟨⟨h0, trivial⟩, hb⟩, trivial⟩
theorem wkB (b : Blk) : WkB b b := fun _ _ _ _ h => h
/-- An answer that is always true. -/
noncomputable def spT : CSp := { ids := [], res := fun _ _ => (.ret (.bool true), []) }
end Go.Proofs.YtpflobodmglmaaaGreat
set_option linter.unusedVariables false
set_option maxHeartbeats 1000000
namespace Go.Proofs.YtpflobodmglmaaaGreat
noncomputable section
/-- What is to hold of a value that becomes constant, looked at. -/
def obT (M : Mem) (d : Nat) : AV → Bool := Nat.rec (motive := fun _ => AV → Bool) (fun _ => true) (fun _ ih a => match a with
  | .ptr id ix sz off => (match M.h.get id with | some (.var cs) => (cs.drop (ix * sz + off)).all ih | _ => true)
  | .sl id off len full sz => (match M.h.get id with | some (.row _ n g) => Nat.ble (off + len) n && (bif full then (List.range len).all fun i => (g (off + i)).all ih else true) | _ => true)
  | .fn f l r => l.all ih && r.all ih
  | .ifc t v => ih v
  | .agg l => l.all ih
  | .tup l => l.all ih
  | _ => true) d
def eq0 (a b : AV) : Bool := match b, a with
  | .top, _ => true
  | .undef, .undef => true
  | .int k n, .int k' n' => kEq k' k && eqI n' n
  | .bool b, .bool b' => b' == b
  | .str s, .str s' => beqU s'.data.toList s.data.toList
  | .nilp, .nilp => true
  | .lst true _ n _, .lst true _ n' _ => Nat.beq n' 0 && Nat.beq n 0
  | _, _ => false
def eqL (F : AV → AV → Bool) : List AV → List AV → Bool
  | [], [] => true
  | a :: l, b :: r => F a b && eqL F l r
  | _, _ => false
def eqD1 (ih : AV → AV → Bool) (a b : AV) : Bool := match a, b with
  | .lst false f n g, .lst false f' n' g' => Nat.beq n n' && ((!f' || f) && (List.range n).all fun i => eqL ih (g i) (g' i))
  | .agg l, .agg r => eqL ih l r
  | .tup l, .tup r => eqL ih l r
  | a, b => eq0 a b
def eqD (d : Nat) : AV → AV → Bool := Nat.rec (motive := fun _ => AV → AV → Bool) eq0 (fun _ ih => eqD1 ih) d
def okC (e0 : AEnd) (e : AEnd) (M : Mem) : Bool := match e, e0 with
  | .ret a, .ret b => obT M 4 a && eqD 4 (cn (fun _ => none) (fun _ => true) 4 M a) b
  | _, _ => false
end
theorem obT_ok (M : Mem) : ∀ (d : Nat) (a : AV), obT M d a = true → allP (ob (fun _ => none) (fun _ => true) d M a)
  | 0, a, _ => trivial
  | d + 1, a, h => by
    have all : ∀ (l : List AV), (l.all (obT M d)) = true → allP (l.flatMap (ob (fun _ => none) (fun _ => true) d M)) := fun l => by
      induction l with
      | nil => intro _; trivial
      | cons a l ih =>
        intro h
        simp only [List.all_cons, Bool.and_eq_true] at h
        rw [List.flatMap_cons, allP_app]
        exact ⟨obT_ok M d a h.1, ih h.2⟩
    cases a with
    | ptr id ix sz off =>
      have h : (match M.h.get id with | some (.var cs) => (cs.drop (ix * sz + off)).all (obT M d) | _ => true) = true := h
      show allP (match M.h.get id with | some (.var cs) => (cs.drop (ix * sz + off)).flatMap (ob (fun _ => none) (fun _ => true) d M) | _ => [])
      split
      · rename_i cs hb; rw [hb] at h; exact all _ h
      · trivial
    | sl id off len full sz =>
      have h : (match M.h.get id with | some (.row _ n g) => Nat.ble (off + len) n && (bif full then (List.range len).all fun i => (g (off + i)).all (obT M d) else true) | _ => true) = true := h
      show allP (match M.h.get id with | some (.row _ n g) => (off + len ≤ n) :: (bif full then (List.range len).flatMap fun i => (g (off + i)).flatMap (ob (fun _ => none) (fun _ => true) d M) else []) | _ => [])
      split
      · rename_i s n g hb
        rw [hb] at h
        simp only [Bool.and_eq_true, Nat.ble_eq] at h
        refine ⟨h.1, ?_⟩
        have h2 := h.2
        cases full with
        | false => trivial
        | true =>
          have h2 : ((List.range len).all fun i => (g (off + i)).all (obT M d)) = true := h2
          show allP ((List.range len).flatMap fun i => (g (off + i)).flatMap (ob (fun _ => none) (fun _ => true) d M))
          generalize List.range len = L at h2 ⊢
          induction L with
          | nil => trivial
          | cons x L ih =>
            simp only [List.all_cons, Bool.and_eq_true] at h2
            rw [List.flatMap_cons, allP_app]
            exact ⟨all _ h2.1, ih h2.2⟩
      · trivial
    | fn f l r =>
      have h : (l.all (obT M d) && r.all (obT M d)) = true := h
      simp only [Bool.and_eq_true] at h
      show allP (_ ++ _)
      rw [allP_app]
      exact ⟨all l h.1, all r h.2⟩
    | ifc t v => exact obT_ok M d v h
    | agg l => exact all l h
    | tup l => exact all l h
    | map id =>
      show allP []
      trivial
    | _ => trivial
theorem eq0_ok {a b : AV} (h : eq0 a b = true) : WkV a b := fun G v hv => by
  unfold eq0 at h
  split at h
  · exact .top _
  · exact hv
  · simp only [Bool.and_eq_true, eqI_t] at h
    have h1 := kEq_ok h.1
    obtain rfl := h.2
    subst h1
    exact hv
  · have := eq_of_beq h
    subst this
    exact hv
  · rename_i s s'
    rw [beqU_eq] at h
    have h2 := eq_of_beq h
    have : s' = s := by
      have h3 := Array.toList_inj.1 h2
      cases s
      cases s'
      exact congrArg _ h3
    subst this
    exact hv
  · exact hv
  · simp only [Bool.and_eq_true, Nat.beq_eq] at h
    obtain ⟨rfl, rfl⟩ := h
    cases hv
    exact .lstn
  · cases h
theorem eqL_ok {F : AV → AV → Bool} (hF : ∀ a b, F a b = true → WkV a b) : ∀ (l r : List AV), eqL F l r = true → WkL l r
  | [], [], _ => .nil
  | a :: l, b :: r, h => by
    have h : (F a b && eqL F l r) = true := h
    simp only [Bool.and_eq_true] at h
    exact .cons (hF a b h.1) (eqL_ok hF l r h.2)
  | [], _ :: _, h => by cases h
  | _ :: _, [], h => by cases h
theorem eqD_ok : ∀ (d : Nat) (a b : AV), eqD d a b = true → WkV a b
  | 0, a, b, h => eq0_ok h
  | d + 1, a, b, h => by
    have h : eqD1 (eqD d) a b = true := h
    unfold eqD1 at h
    split at h
    · rename_i f n g f' n' g'
      simp only [Bool.and_eq_true, Nat.beq_eq, Bool.or_eq_true, Bool.not_eq_true'] at h
      obtain ⟨rfl, h2, h3⟩ := h
      exact wkv_lst rfl (fun e => by rcases h2 with h2 | h2; rw [e] at h2; cases h2; exact h2) fun i hi => eqL_ok (eqD_ok d) _ _ (List.all_eq_true.1 h3 i (List.mem_range.2 hi))
    · exact wkv_agg (eqL_ok (eqD_ok d) _ _ h)
    · exact wkv_tup (eqL_ok (eqD_ok d) _ _ h)
    · exact eq0_ok h
/-- A call with known arguments. -/
theorem run_ct {X : Cx} (hP : POk X.P) (hC : CtOK X) {n f : Nat} {args : List AV} {e0 : AEnd} (he : rnE 0 [] e0 = e0) (h : runJ X (fun _ => false) n (.call f args false .run (clM []) (fun e _ M => okC e0 e M)) = true) : CtE X.P f args [] e0 [] := fun bl bl' => by
  rcases all_ok hP hC (fun _ => false) n (.call f args false .run (clM []) (fun e _ M => okC e0 e M)) with ⟨c, hc⟩ | ⟨e, bl1, M1, hc, hS⟩
  · rw [hc] at h; cases h
  · rw [hc] at h
    have h : okC e0 e M1 = true := h
    cases e with
    | pan l => cases h
    | ret a =>
      cases e0 with
      | pan l => cases h
      | ret b =>
        have h : (obT M1 4 a && eqD 4 (cn (fun _ => none) (fun _ => true) 4 M1 a) b) = true := h
        simp only [Bool.and_eq_true] at h
        obtain ⟨s1, s2, s3⟩ := (show CallS X.P f args false .run (clM []) (.ret a) bl1 M1 from hS)
        have hq : endP (.ret b) [] (.ret a) M1 := ⟨obT_ok M1 4 a h.1, wk_ret (eqD_ok 4 _ _ h.2), trivial⟩
        obtain ⟨q1, q2⟩ := endP_q hq
        exact ⟨s1, fin_at (Mc := clM []) (Nat.le_refl _) q2 s2, fun G w vs c0s cs hs hw hv hb => goal_end hs q1 (Nat.le_refl _) (he0 he) hN0 (s3 G w vs c0s cs hs hw hv hb)⟩
end Go.Proofs.YtpflobodmglmaaaGreat
set_option linter.unusedVariables false
set_option maxHeartbeats 1000000
namespace Go.Proofs.YtpflobodmglmaaaGreat
/-- Blocks that tell no more than others, one by one. -/
inductive WkN : List Blk → List Blk → Prop
  | nil : WkN [] []
  | cons {a b : Blk} {l r : List Blk} (hg : a ≠ .gone) (hb : b ≠ .gone) (h : WkB a b) (t : WkN l r) : WkN (a :: l) (b :: r)
theorem WkN.refl : ∀ {l : List Blk}, (l.all ngB) = true → WkN l l
  | [], _ => .nil
  | a :: l, h => by
    simp only [List.all_cons, Bool.and_eq_true] at h
    have : a ≠ .gone := fun e => by subst e; exact absurd h.1 (by simp [ngB])
    exact .cons this this (wkB a) (WkN.refl h.2)
theorem WkN.len {l r : List Blk} (h : WkN l r) : l.length = r.length := by
  induction h with
  | nil => rfl
  | cons _ _ _ _ ih => simp [ih]
theorem WkN.at' {l r : List Blk} (h : WkN l r) : ∀ (j : Nat), (l[j]? = none ∧ r[j]? = none) ∨ ∃ a b, l[j]? = some a ∧ r[j]? = some b ∧ a ≠ .gone ∧ b ≠ .gone ∧ WkB a b := by
  induction h with
  | nil => intro j; exact .inl ⟨by simp, by simp⟩
  | cons hg hb h t ih =>
    intro j
    cases j with
    | zero => exact .inr ⟨_, _, rfl, rfl, hg, hb, h⟩
    | succ j => simpa using ih j
section
variable {P : Program} {N0 N1 N : List Blk}
theorem wkn_own (h : WkN N0 N1) (id : Nat) : Own (clM N1) id ↔ Own (clM N0) id := by
  have g : ∀ (L : List Blk), (clM L).h.get id = L[id]? := fun L => bld0_get _ _
  unfold Own
  rw [g, g]
  rcases h.at' id with ⟨h1, h2⟩ | ⟨a, b, h1, h2, h3, h4, _⟩
  · rw [h1, h2]
  · rw [h1, h2]
    exact ⟨fun _ => ⟨a, rfl, h3⟩, fun _ => ⟨b, rfl, h4⟩⟩
theorem wkn_ownB {G : Gh} (h : WkN N0 N1) (b : Nat) : OwnB G (clM N1) b ↔ OwnB G (clM N0) b :=
  ⟨fun ⟨id, base, o, e⟩ => ⟨id, base, (wkn_own h id).1 o, e⟩, fun ⟨id, base, o, e⟩ => ⟨id, base, (wkn_own h id).2 o, e⟩⟩
theorem wkn_st {G : Gh} {w : World} (h : WkN N0 N1) (hs : St G w (clM N0)) : St G w (clM N1) := by
  have g : ∀ (L : List Blk) (id : Nat), (clM L).h.get id = L[id]? := fun L id => bld0_get _ _
  refine ⟨fun id k b base h1 h2 => ?_, fun id id' b b1 b2 o1 o2 => hs.inj id id' b b1 b2 ((wkn_own h id).1 o1) ((wkn_own h id').1 o2), hs.lt, fun id b base e => by have := hs.fresh id b base e; show id < N1.length; rw [← h.len]; exact this, hs.con, hs.cob, fun id b base i o => hs.sep id b base i ((wkn_own h id).1 o), fun id b base o => hs.sep2 id b base ((wkn_own h id).1 o)⟩
  rw [g] at h1
  rcases h.at' id with ⟨_, e⟩ | ⟨a, b', e1, e2, _, _, hw⟩
  · rw [e] at h1; cases h1
  · rw [e2] at h1
    cases h1
    exact hw _ _ _ _ (hs.blk id a b base (by rw [g]; exact e1) h2)
theorem wkn_fin (h : WkN N0 N1) : finM (clM N1) N = finM (clM N0) N := by
  show (⟨_, N1.length, List.range N1.length ++ []⟩ : Mem) = ⟨_, N0.length, List.range N0.length ++ []⟩
  rw [h.len]
theorem wkn_at (h : WkN N0 N1) (ha : AT ((clM N1).nx ≤ ·) (clM N1) (finM (clM N1) N)) : AT ((clM N0).nx ≤ ·) (clM N0) (finM (clM N0) N) := by
  rw [← wkn_fin h]
  have e : (clM N0).nx = (clM N1).nx := h.len
  refine ⟨Nat.le_of_eq e, ⟨List.range (clM N1).nx, rfl, fun id h1 h2 => absurd (List.mem_range.2 (by rw [← e]; exact Nat.lt_of_not_le h1)) h2⟩, fun id o => ?_, fun hw id o => ha.wf (fun id o => ?_) id o⟩
  · rcases ha.own id o with o | o
    · exact .inl ((wkn_own h id).1 o)
    · exact .inr (by show (clM N0).nx ≤ id; rw [e]; exact o)
  · rw [← e]; exact hw id ((wkn_own h id).1 o)
theorem wkn_goal {G : Gh} {w : World} {m : Machine} {ro : Option Nat} {dfd : Bool} {fn : Nat} {c0s : List Frame} {e : AEnd} {bl' : AMode} (h : WkN N0 N1) (g : Goal P G w (clM N1) m ro dfd fn c0s e bl' (finM (clM N1) N)) : Goal P G w (clM N0) m ro dfd fn c0s e bl' (finM (clM N0) N) := by
  rw [← wkn_fin h]
  have en : (clM N0).nx = (clM N1).nx := h.len
  obtain ⟨G', w', cs', E, m', q1, q2, q3, q4, q5, q6, q7⟩ := g
  refine ⟨G', w', cs', E, m', q1, q2, q3, q4, q5, ⟨q6.le, fun id b base e => ?_, fun b i v e => ?_, fun b v e => ?_, q6.tot, fun b hb hn => q6.keep b hb fun o => hn ((wkn_ownB h b).1 o), q6.size, q6.os, by rw [en]; exact q6.nx, fun id o => ?_⟩, fun id hi h1 => q7 id (by rw [← en]; exact hi) h1⟩
  · exact (q6.phin id b base e).imp_right fun e => e.imp_right fun o => (wkn_ownB h b).1 o
  · exact (q6.conn b i v e).imp_right fun e => e.imp_right fun o => (wkn_ownB h b).1 o
  · exact (q6.cobn b v e).imp_right fun e => e.imp_right fun o => (wkn_ownB h b).1 o
  · exact (q6.dom id o).imp_left fun o => (wkn_own h id).1 o
theorem wkn_wf (h : WkN N0 N1) (hw : WfM (clM N0)) : WfM (clM N1) := fun id o => by
  have en : (clM N0).nx = (clM N1).nx := h.len
  rw [← en]
  exact hw id ((wkn_own h id).1 o)
/-- A frame's contract, of a memory of which more is known. -/
theorem fr_wkB {f : Fr} {e : AEnd} (h : WkN N0 N1) (hf : FrE P f (clM N1) e N) : FrE P f (clM N0) e N := fun bl bl' => by
  obtain ⟨h1, h2⟩ := hf bl bl'
  exact ⟨wkn_at h h1, fun G w b a c0s cs hs hw hfr hb hcs => wkn_goal h (h2 G w b a c0s cs (wkn_st h hs) (wkn_wf h hw) hfr hb hcs)⟩
/-- A call's. -/
theorem ct_wkB {f : Nat} {args : List AV} {e : AEnd} (h : WkN N0 N1) (hf : CtE P f args N1 e N) : CtE P f args N0 e N := fun bl bl' => by
  obtain ⟨h0, h1, h2⟩ := hf bl bl'
  exact ⟨h0, wkn_at h h1, fun G w vs c0s cs hs hw hv hb => wkn_goal h (h2 G w vs c0s cs (wkn_st h hs) (wkn_wf h hw) hv hb)⟩
end
/-- Temporaries of which less is known. -/
def WkT : List (Nat × AV) → List (Nat × AV) → Prop
  | [], [] => True
  | p :: l, q :: r => p.1 = q.1 ∧ WkV p.2 q.2 ∧ WkT l r
  | _, _ => False
theorem wkT_rt {G : Gh} {ts : Array Value} {sz : Nat} : ∀ {L L' : List (Nat × AV)}, WkT L L' → RT G ts (tmL sz L) → RT G ts (tmL sz L') := fun {L L'} h hr t => by
  have key : ∀ {L L' : List (Nat × AV)}, WkT L L' → (tmL sz L).get t = (tmL sz L').get t ∨ ∃ a b, (tmL sz L).get t = some a ∧ (tmL sz L').get t = some b ∧ WkV a b := fun {L} => by
    induction L with
    | nil =>
      intro L' h
      cases L' with
      | nil => exact .inl rfl
      | cons q r => exact h.elim
    | cons p L ih =>
      intro L' h
      cases L' with
      | nil => exact h.elim
      | cons q r =>
        obtain ⟨h1, h2, h3⟩ := h
        have e1 : (tmL sz (p :: L)).get t = if p.1 = t then some p.2 else (tmL sz L).get t := get_set _ _ _ _
        have e2 : (tmL sz (q :: r)).get t = if q.1 = t then some q.2 else (tmL sz r).get t := get_set _ _ _ _
        rw [e1, e2, ← h1]
        by_cases e : p.1 = t
        · rw [if_pos e, if_pos e]
          exact .inr ⟨_, _, rfl, rfl, h2⟩
        · rw [if_neg e, if_neg e]
          exact ih h3
  have := hr t
  rcases key h with e | ⟨a, b, e1, e2, hw⟩
  · rw [← e]; exact this
  · rw [e1] at this
    rw [e2]
    exact hw _ _ this
theorem fr_wkT {P : Program} {f sz : Nat} {todo : List Item} {ds : List AD} {ro : Option Nat} {L L' : List (Nat × AV)} {M : Mem} {e : AEnd} {N : List Blk} (h : WkT L L') (hf : FrE P ⟨f, false, sz, tmL sz L', todo, ds, ro⟩ M e N) : FrE P ⟨f, false, sz, tmL sz L, todo, ds, ro⟩ M e N := fun bl bl' => by
  obtain ⟨h1, h2⟩ := hf bl bl'
  exact ⟨h1, fun G w b a c0s cs hs hw hfr hb hcs => h2 G w b a c0s cs hs hw ⟨hfr.fn, hfr.kind, hfr.sz, wkT_rt h hfr.rt, hfr.ds, hfr.ro, hfr.rd⟩ hb hcs⟩
theorem wkv_cp {l r : List AV} (h : WkL l r) : WkV (.cp l) (.cp r) := fun G v hv => by
  cases hv with
  | cp vs h1 h2 =>
    refine .cp vs (fun j a e => ?_) (fun j a e => ?_)
    · obtain ⟨a0, e0, _⟩ := h.at' j a e
      exact h1 j a0 e0
    · obtain ⟨a0, e0, hw⟩ := h.at' j a e
      exact hw _ _ (h2 j a0 e0)
/-! A call that only looks. -/
theorem kp1 {P : Program} {f : Nat} {args : List AV} {N0 : List Blk} {e : AEnd} {N : List Blk} {b x : Blk} {q : Prop} (h : CtE P f args N0 e N) (w : WkB b x) (y : q) : True ∧ (CtE P f args N0 e N ∧ ((WkB b x ∧ True) ∧ q)) := ⟨trivial, h, ⟨w, trivial⟩, y⟩
theorem kp2 {P : Program} {f : Nat} {args : List AV} {N0 : List Blk} {e : AEnd} {N : List Blk} {b x b' x' : Blk} {q : Prop} (h : CtE P f args N0 e N) (w : WkB b x) (w' : WkB b' x') (y : q) : True ∧ (CtE P f args N0 e N ∧ ((WkB b x ∧ (WkB b' x' ∧ True)) ∧ q)) := ⟨trivial, h, ⟨w, w', trivial⟩, y⟩
theorem kp3 {P : Program} {f : Nat} {args : List AV} {N0 : List Blk} {e : AEnd} {N : List Blk} {b x b' x' b2 x2 : Blk} {q : Prop} (h : CtE P f args N0 e N) (w : WkB b x) (w' : WkB b' x') (w2 : WkB b2 x2) (y : q) : True ∧ (CtE P f args N0 e N ∧ ((WkB b x ∧ (WkB b' x' ∧ (WkB b2 x2 ∧ True))) ∧ q)) := ⟨trivial, h, ⟨w, w', w2, trivial⟩, y⟩
end Go.Proofs.YtpflobodmglmaaaGreat
