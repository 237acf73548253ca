/- The relation between abstract and concrete memory. No condition. -/
import Derived.Test.YtbknpfckdnladaaGreatAa
import Derived.AtR
import Derived.Recover
import Derived.Orders
import Derived.RowKit
set_option linter.unusedVariables false
namespace Go.Proofs.YtbknpfckdnladaaGreat
/-! Tries. -/
def paV : Pa → Nat
  | .e => 0
  | .o p => 2 * paV p + 1
  | .i p => 2 * paV p + 2
theorem paV_paF : ∀ (n k : Nat), k < n → paV (paF n k) = k
  | 0, k, h => by omega
  | n + 1, k, h => by
    unfold paF
    by_cases h0 : k = 0
    · subst h0; rfl
    · have e0 : Nat.beq k 0 = false := by cases k with | zero => exact absurd rfl h0 | succ k => rfl
      rw [e0]
      by_cases h1 : k % 2 = 1
      · have e1 : Nat.beq (Nat.mod k 2) 1 = true := by show Nat.beq (k % 2) 1 = true; rw [h1]; rfl
        rw [e1]
        show 2 * paV (paF n (k / 2)) + 1 = k
        rw [paV_paF n (k / 2) (by omega)]
        omega
      · have e1 : Nat.beq (Nat.mod k 2) 1 = false := by show Nat.beq (k % 2) 1 = false; rw [show k % 2 = 0 by omega]; rfl
        rw [e1]
        show 2 * paV (paF n (k / 2 - 1)) + 2 = k
        rw [paV_paF n (k / 2 - 1) (by omega)]
        omega
theorem pa_inj {a b : Nat} (h : pa a = pa b) : a = b := by
  have := congrArg paV h
  rwa [pa, pa, paV_paF _ _ (Nat.lt_succ_self _), paV_paF _ _ (Nat.lt_succ_self _)] at this
theorem getP_nil {α : Type} (p : Pa) : (Tr.nil : Tr α).getP p = none := by cases p <;> rfl
theorem getP_setP {α : Type} (x : α) : ∀ (p q : Pa) (t : Tr α), (t.setP p x).getP q = if p = q then some x else t.getP q := by
  intro p
  induction p with
  | e =>
    intro q t
    cases q with
    | e => cases t <;> rfl
    | o q => cases t with
      | nil => rw [getP_nil]; exact getP_nil q
      | node l v r => rfl
    | i q => cases t with
      | nil => rw [getP_nil]; exact getP_nil q
      | node l v r => rfl
  | o p ih =>
    intro q t
    cases q with
    | e => cases t <;> simp [Tr.setP, Tr.getP]
    | o q =>
      cases t with
      | nil => have := ih q .nil; simp only [Pa.o.injEq]; rw [show (Tr.nil.setP (.o p) x).getP (.o q) = (Tr.setP p x .nil).getP q from rfl, this]; cases q <;> rfl
      | node l v r => have := ih q l; simp only [Pa.o.injEq]; exact this
    | i q => cases t with
      | nil => simp; cases q <;> rfl
      | node l v r => simp; rfl
  | i p ih =>
    intro q t
    cases q with
    | e => cases t <;> simp [Tr.setP, Tr.getP]
    | i q =>
      cases t with
      | nil => have := ih q .nil; simp only [Pa.i.injEq]; rw [show (Tr.nil.setP (.i p) x).getP (.i q) = (Tr.setP p x .nil).getP q from rfl, this]; cases q <;> rfl
      | node l v r => have := ih q r; simp only [Pa.i.injEq]; exact this
    | o q => cases t with
      | nil => simp; cases q <;> rfl
      | node l v r => simp; rfl
theorem get_set {α : Type} (t : Tr α) (k j : Nat) (x : α) : (t.set k x).get j = if k = j then some x else t.get j := by
  unfold Tr.get Tr.set
  rw [getP_setP]
  by_cases h : k = j
  · rw [if_pos (h ▸ rfl), if_pos h]
  · rw [if_neg (fun e => h (pa_inj e)), if_neg h]
theorem get_set_self {α : Type} (t : Tr α) (k : Nat) (x : α) : (t.set k x).get k = some x := by rw [get_set, if_pos rfl]
theorem get_set_ne {α : Type} (t : Tr α) {k j : Nat} (x : α) (h : k ≠ j) : (t.set k x).get j = t.get j := by rw [get_set, if_neg h]
theorem get_nil {α : Type} (k : Nat) : (Tr.nil : Tr α).get k = none := by
  unfold Tr.get
  cases pa k <;> rfl

/-- What links the two memories: blocks by ids, cells and maps that stay as they are, blocks' sizes. -/
structure Gh where
  phi : Nat → Option (Nat × Nat)
  con : Nat → Nat → Option Value
  cob : Nat → Option (Array MapEntry)
  tot : Nat → Nat
inductive RV (G : Gh) : Value → AV → Prop
  | undef : RV G (.tuple #[]) .undef
  | top (v : Value) : RV G v .top
  | bool (b : Bool) : RV G (.bool b) (.bool b)
  | int (k : IntKind) (n : Int) : RV G (.int k n) (.int k n)
  | str (s : ByteArray) : RV G (.string s) (.str s)
  | nilp : RV G (.pointer none) .nilp
  | nilm : RV G (.map none) .nilm
  | nilf : RV G .nilFunc .nilf
  | nili : RV G .nilIface .nili
  | ptr {id ix sz off b base : Nat} (h : G.phi id = some (b, base)) : RV G (.pointer (some ⟨b, base + (ix * sz + off), none⟩)) (.ptr id ix sz off)
  | cp {b o : Nat} {cs : List AV} (vs : Nat → Value) (h : ∀ (j : Nat) (a : AV), cs[j]? = some a → G.con b (o + j) = some (vs j)) (hr : ∀ (j : Nat) (a : AV), cs[j]? = some a → RV G (vs j) a) : RV G (.pointer (some ⟨b, o, none⟩)) (.cp cs)
  | lstn {full : Bool} {g : Nat → List AV} : RV G (.slice none 0 0) (.lst true full 0 g)
  | lst {b o n cap sz : Nat} {full : Bool} {g : Nat → List AV} (vs : Nat → Nat → Value) (hc : n ≤ cap) (hf : full = true → cap = n) (hs : ∀ i, i < n → (g i).length = sz)
      (h : ∀ (i j : Nat) (a : AV), i < n → (g i)[j]? = some a → G.con b (o + (i * sz + j)) = some (vs i j)) (hr : ∀ (i j : Nat) (a : AV), i < n → (g i)[j]? = some a → RV G (vs i j) a) : RV G (.slice (some ⟨b, o, none⟩) n cap) (.lst false full n g)
  | sl {id off len sz b base cap o : Nat} {full : Bool} (h : G.phi id = some (b, base)) (hc : len ≤ cap) (hf : full = true → cap = len) (ht : base + (off + cap) * sz ≤ G.tot b) (ho : cap = 0 ∨ o = base + off * sz) : RV G (.slice (some ⟨b, o, none⟩) len cap) (.sl id off len full sz)
  | map {id b : Nat} (h : G.phi id = some (b, 0)) : RV G (.map (some b)) (.map id)
  | cmap {b : Nat} {es : List (AV × AV)} {ents : Array MapEntry} (h : G.cob b = some ents) (hl : ents.size = es.length) (hk : ∀ (j : Nat) (e : MapEntry) (p : AV × AV), ents[j]? = some e → es[j]? = some p → RV G e.key p.1) (hv : ∀ (j : Nat) (e : MapEntry) (p : AV × AV), ents[j]? = some e → es[j]? = some p → RV G e.val p.2) : RV G (.map (some b)) (.cmap es)
  | agg {arr : Array Value} {cs : List AV} (hl : arr.size = cs.length) (hr : ∀ (j : Nat) (v : Value) (a : AV), arr[j]? = some v → cs[j]? = some a → RV G v a) : RV G (.agg arr) (.agg cs)
  | tup {arr : Array Value} {cs : List AV} (hl : arr.size = cs.length) (hr : ∀ (j : Nat) (v : Value) (a : AV), arr[j]? = some v → cs[j]? = some a → RV G v a) : RV G (.tuple arr) (.tup cs)
  | fn {f : Nat} {fs cs : Array Value} {as bs : List AV} (hl : fs.size = as.length) (hr : ∀ (j : Nat) (v : Value) (a : AV), fs[j]? = some v → as[j]? = some a → RV G v a) (hl2 : cs.size = bs.length) (hr2 : ∀ (j : Nat) (v : Value) (a : AV), cs[j]? = some v → bs[j]? = some a → RV G v a) : RV G (.func (.func f) fs cs) (.fn f as bs)
  | yld {l b : Nat} (h : G.phi l = some (b, 0)) : RV G (.func (.yield b) #[] #[]) (.yld l)
  | ifc {t : Nat} {v : Value} {a : AV} (h : RV G v a) : RV G (.iface t v) (.ifc t a)
/-- Rows of values. -/
structure RVs (G : Gh) (vs : Array Value) (as : List AV) : Prop where
  len : vs.size = as.length
  at' : ∀ (j : Nat) (v : Value) (a : AV), vs[j]? = some v → as[j]? = some a → RV G v a
/-- The second knows all that the first does. -/
structure GLe (G G' : Gh) : Prop where
  phi : ∀ id x, G.phi id = some x → G'.phi id = some x
  con : ∀ b i v, G.con b i = some v → G'.con b i = some v
  cob : ∀ b v, G.cob b = some v → G'.cob b = some v
  tot : ∀ id b base, G.phi id = some (b, base) → G'.tot b = G.tot b
theorem GLe.refl (G : Gh) : GLe G G := ⟨fun _ _ h => h, fun _ _ _ h => h, fun _ _ h => h, fun _ _ _ _ => rfl⟩
theorem GLe.trans {G G' G'' : Gh} (h : GLe G G') (k : GLe G' G'') : GLe G G'' :=
  ⟨fun id x e => k.phi id x (h.phi id x e), fun b i v e => k.con b i v (h.con b i v e), fun b v e => k.cob b v (h.cob b v e), fun id b base e => (k.tot id b base (h.phi id _ e)).trans (h.tot id b base e)⟩
theorem RV.mono {G G' : Gh} {v : Value} {a : AV} (h : RV G v a) (k : GLe G G') : RV G' v a := by
  induction h with
  | undef => exact .undef
  | top v => exact .top v
  | bool b => exact .bool b
  | int kk n => exact .int kk n
  | str s => exact .str s
  | nilp => exact .nilp
  | nilm => exact .nilm
  | nilf => exact .nilf
  | nili => exact .nili
  | ptr h => exact .ptr (k.phi _ _ h)
  | cp vs h _ ih => exact .cp vs (fun j a e => k.con _ _ _ (h j a e)) ih
  | lstn => exact .lstn
  | lst vs hc hf hs h _ ih => exact .lst vs hc hf hs (fun i j a hi e => k.con _ _ _ (h i j a hi e)) ih
  | sl h hc hf ht ho => exact .sl (k.phi _ _ h) hc hf (by rw [k.tot _ _ _ h]; exact ht) ho
  | map h => exact .map (k.phi _ _ h)
  | cmap h hl _ _ ih ih2 => exact .cmap (k.cob _ _ h) hl ih ih2
  | agg hl _ ih => exact .agg hl ih
  | tup hl _ ih => exact .tup hl ih
  | fn hl _ hl2 _ ih ih2 => exact .fn hl ih hl2 ih2
  | yld h => exact .yld (k.phi _ _ h)
  | ifc _ ih => exact .ifc ih
theorem RVs.mono {G G' : Gh} {vs : Array Value} {as : List AV} (h : RVs G vs as) (k : GLe G G') : RVs G' vs as := ⟨h.len, fun j v a e f => (h.at' j v a e f).mono k⟩
/-- Temporaries. -/
def RT (G : Gh) (ts : Array Value) (tm : Tr AV) : Prop := ∀ t, RV G (ts.getD t undef) ((tm.get t).getD .undef)
theorem RT.mono {G G' : Gh} {ts : Array Value} {tm : Tr AV} (h : RT G ts tm) (k : GLe G G') : RT G' ts tm := fun t => (h t).mono k
/-- A map of numbers: what a key finds. -/
def fI : List MapEntry → Int → Option Int
  | [], _ => none
  | e :: es, n => match e.key, e.val with | .int _ m, .int _ v => (if m = n then some v else fI es n) | _, _ => none
def IntE (kk kv : IntKind) (ents : List MapEntry) : Prop := ∀ e ∈ ents, ∃ n v, e.key = .int kk n ∧ e.val = .int kv v
def EntI (kk kv : IntKind) (ents : List MapEntry) (l : List (Int × Int)) : Prop := IntE kk kv ents ∧ ∀ n, fI ents n = if lkB l n then some (lkV l n) else none
/-- A block. -/
def BlkR (G : Gh) (w : World) (b base : Nat) : Blk → Prop
  | .gone => True
  | .var cs => base = 0 ∧ ∃ arr t, w.heap[b]? = some (.cells arr t (0, 0)) ∧ RVs G arr cs
  | .row sz n g => ∃ arr t, w.heap[b]? = some (.cells arr t (0, 0)) ∧ base + n * sz ≤ arr.size ∧ arr.size = G.tot b ∧ ∀ i, i < n → (g i).length = sz ∧ ∀ (j : Nat) (v : Value) (a : AV), arr[base + (i * sz + j)]? = some v → (g i)[j]? = some a → RV G v a
  | .map es => base = 0 ∧ ∃ ents clock, w.heap[b]? = some (.map ents clock) ∧ ents.size = es.length ∧ ∀ (j : Nat) (e : MapEntry) (p : AV × AV), ents[j]? = some e → es[j]? = some p → RV G e.key p.1 ∧ RV G e.val p.2
  | .mpi kk kv l => base = 0 ∧ ∃ ents clock, w.heap[b]? = some (.map ents clock) ∧ EntI kk kv ents.toList l
  | .loop fn sz tm ps as body d st pend => base = 0 ∧ ∃ ts db, w.heap[b]? = some (.loop { state := st, pending := pend, fn, tmps := ts, params := ps, assign := as, body, defers := db }) ∧ ts.size = sz ∧ RT G ts tm ∧ G.phi d = some (db, 0)
  | .dfr => base = 0 ∧ w.heap[b]? = some (.deferred (some []))
/-- A block that is owned. -/
def Own (M : Mem) (id : Nat) : Prop := ∃ k, M.h.get id = some k ∧ k ≠ .gone
def OwnB (G : Gh) (M : Mem) (b : Nat) : Prop := ∃ id base, Own M id ∧ G.phi id = some (b, base)
/-- The two memories. -/
structure St (G : Gh) (w : World) (M : Mem) : Prop where
  blk : ∀ id k b base, M.h.get id = some k → G.phi id = some (b, base) → BlkR G w b base k
  inj : ∀ id id' b base base', Own M id → Own M id' → G.phi id = some (b, base) → G.phi id' = some (b, base') → id = id'
  lt : ∀ id b base, G.phi id = some (b, base) → b < w.heap.size
  fresh : ∀ id b base, G.phi id = some (b, base) → id < M.nx
  con : ∀ b i v, G.con b i = some v → w.cell? ⟨b, i, none⟩ = some v
  cob : ∀ b v, G.cob b = some v → ∃ c, w.heap[b]? = some (.map v c)
  sep : ∀ id b base i, Own M id → G.phi id = some (b, base) → G.con b i = none
  sep2 : ∀ id b base, Own M id → G.phi id = some (b, base) → G.cob b = none
/-- From the one pair of memories to the other. -/
structure Ev (G : Gh) (w : World) (M : Mem) (G' : Gh) (w' : World) (M' : Mem) : Prop where
  le : GLe G G'
  phin : ∀ id b base, G'.phi id = some (b, base) → G.phi id = some (b, base) ∨ w.heap.size ≤ b ∨ OwnB G M b
  conn : ∀ b i v, G'.con b i = some v → G.con b i = some v ∨ w.heap.size ≤ b ∨ OwnB G M b
  cobn : ∀ b v, G'.cob b = some v → G.cob b = some v ∨ w.heap.size ≤ b ∨ OwnB G M b
  tot : ∀ b, b < w.heap.size → G'.tot b = G.tot b
  keep : ∀ b, b < w.heap.size → ¬ OwnB G M b → w'.heap[b]? = w.heap[b]?
  size : w.heap.size ≤ w'.heap.size
  os : w'.os = w.os ∧ w'.tape = w.tape ∧ w'.output = w.output
  nx : M.nx ≤ M'.nx
  dom : ∀ id, Own M' id → Own M id ∨ G.phi id = none
theorem Ev.refl (G : Gh) (w : World) (M : Mem) : Ev G w M G w M :=
  ⟨GLe.refl G, fun _ _ _ h => .inl h, fun _ _ _ h => .inl h, fun _ _ h => .inl h, fun _ _ => rfl, fun _ _ _ => rfl, Nat.le_refl _, ⟨rfl, rfl, rfl⟩, Nat.le_refl _, fun _ h => .inl h⟩
theorem Ev.ownB {G G' : Gh} {w w' : World} {M M' : Mem} (h : Ev G w M G' w' M') {b : Nat} (hb : b < w.heap.size) (ho : OwnB G' M' b) : OwnB G M b := by
  obtain ⟨id, base, o, e⟩ := ho
  rcases h.phin id b base e with e1 | e1 | e1
  · rcases h.dom id o with o1 | o1
    · exact ⟨id, base, o1, e1⟩
    · rw [o1] at e1; cases e1
  · omega
  · exact e1
theorem Ev.trans {G G' G'' : Gh} {w w' w'' : World} {M M' M'' : Mem} (h : Ev G w M G' w' M') (k : Ev G' w' M' G'' w'' M'') : Ev G w M G'' w'' M'' := by
  have up : ∀ b, w'.heap.size ≤ b ∨ OwnB G' M' b → w.heap.size ≤ b ∨ OwnB G M b := fun b hb => by
    by_cases hlt : b < w.heap.size
    · rcases hb with hb | hb
      · have := h.size; omega
      · exact .inr (h.ownB hlt hb)
    · exact .inl (Nat.le_of_not_lt hlt)
  refine ⟨h.le.trans k.le, fun id b base e => ?_, fun b i v e => ?_, fun b v e => ?_, fun b hb => (k.tot b (Nat.lt_of_lt_of_le hb h.size)).trans (h.tot b hb), fun b hb ho => (k.keep b (Nat.lt_of_lt_of_le hb h.size) (fun o => ho (h.ownB hb o))).trans (h.keep b hb ho), Nat.le_trans h.size k.size, ⟨k.os.1.trans h.os.1, k.os.2.1.trans h.os.2.1, k.os.2.2.trans h.os.2.2⟩, Nat.le_trans h.nx k.nx, fun id o => ?_⟩
  · rcases k.phin id b base e with e1 | e1
    · exact h.phin id b base e1
    · exact .inr (up b e1)
  · rcases k.conn b i v e with e1 | e1
    · exact h.conn b i v e1
    · exact .inr (up b e1)
  · rcases k.cobn b v e with e1 | e1
    · exact h.cobn b v e1
    · exact .inr (up b e1)
  · rcases k.dom id o with o1 | o1
    · exact h.dom id o1
    · refine .inr ?_
      cases e : G.phi id with
      | none => rfl
      | some x => rw [h.le.phi id x e] at o1; cases o1
/-- What the log says. -/
def Lg (M M' : Mem) : Prop := ∃ ex, M'.lg = ex ++ M.lg ∧ ∀ id, id < M.nx → id ∉ ex → M'.h.get id = M.h.get id
theorem Lg.refl (M : Mem) : Lg M M := ⟨[], rfl, fun _ _ _ => rfl⟩
theorem Lg.trans {M M' M'' : Mem} (h : Lg M M') (hn : M.nx ≤ M'.nx) (k : Lg M' M'') : Lg M M'' := by
  obtain ⟨x, hx, h1⟩ := h
  obtain ⟨y, hy, k1⟩ := k
  exact ⟨y ++ x, by rw [hy, hx, List.append_assoc], fun id hi hn2 => (k1 id (by omega) (fun e => hn2 (List.mem_append.2 (.inl e)))).trans (h1 id hi (fun e => hn2 (List.mem_append.2 (.inr e))))⟩
/-- Ids that stay unborn. -/
def Ub (S : Nat → Prop) (G G' : Gh) : Prop := ∀ id, S id → G.phi id = none → G'.phi id = none
theorem Ub.refl (S : Nat → Prop) (G : Gh) : Ub S G G := fun _ _ h => h
theorem Ub.trans {S : Nat → Prop} {G G' G'' : Gh} (h : Ub S G G') (k : Ub S G' G'') : Ub S G G'' := fun id hi e => k id hi (h id hi e)
theorem Ub.mono {S T : Nat → Prop} {G G' : Gh} (h : Ub S G G') (k : ∀ id, T id → S id) : Ub T G G' := fun id hi e => h id (k id hi) e
/-! Ends. -/
def RCh (G : Gh) : List PanicEntry → List AE → Prop
  | [], [] => True
  | p :: ps, a :: as => p.recovered = a.rcv ∧ p.goexit = false ∧ RV G p.v a.v ∧ RCh G ps as
  | _, _ => False
def RE (G : Gh) : Ending → AEnd → Prop
  | .returned v, .ret a => RV G v a
  | .panicked ch, .pan l => RCh G ch l
  | _, _ => False
def RM (G : Gh) : FrameMode → AMode → Prop
  | .run, .run => True
  | .returning, .ret => True
  | .panicking ch, .pan l => RCh G ch l
  | _, _ => False
theorem RCh.mono {G G' : Gh} (k : GLe G G') : ∀ {ch : List PanicEntry} {l : List AE}, RCh G ch l → RCh G' ch l
  | [], [], _ => trivial
  | p :: ps, a :: as, h => ⟨h.1, h.2.1, h.2.2.1.mono k, RCh.mono k h.2.2.2⟩
theorem RM.mono {G G' : Gh} (k : GLe G G') : ∀ {m : FrameMode} {u : AMode}, RM G m u → RM G' m u
  | .run, .run, _ => trivial
  | .returning, .ret, _ => trivial
  | .panicking _, .pan _, h => RCh.mono k h
end Go.Proofs.YtbknpfckdnladaaGreat
