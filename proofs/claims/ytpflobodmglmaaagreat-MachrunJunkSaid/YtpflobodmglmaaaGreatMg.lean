/- Several texts joined. No condition. -/
import Derived.Test.YtpflobodmglmaaaGreatMf
import Derived.Test.YtpflobodmglmaaaGreatMep
set_option linter.unusedSimpArgs false
set_option linter.unusedSectionVars false
set_option linter.unusedVariables false
set_option maxHeartbeats 1000000
namespace Go.Proofs.YtpflobodmglmaaaGreat
/-- The numbers of the first n names: the last one counts. -/
noncomputable def mapG (g : Nat → ByteArray) : Nat → ByteArray → Option Int
  | 0 => fun _ => none
  | n + 1 => putF (g n) (n : Int) (mapG g n)
noncomputable def cNu : Cfg := ⟨[], [(72, 0, { live := [0, 3, 6, 7, 8, 9], ids := [.v 3] })]⟩
theorem nu_lp (nb f : Bool) (n : Nat) (g : Nat → ByteArray) (hn : n ≤ 16777216) (k : Nat) (x : Int) (h : ByteArray → Option Int) (hx : x = k) (hk : k ≤ n) (hh : h = mapG g k) :
    FrE XV.P (frH XV.P 72 0 [(0, strs nb f n g), (3, .map 0), (6, .map 0), (7, strs nb f n g), (8, iV n), (9, iV x)]) (clM [.mps .i64 h]) (.ret (.cms .i64 (mapG g n))) [] :=
  vl0 (c := cNu) (n := 4000) (by kernel_rfl)
    (ifs (c := ltI x (.ofNat n)) (fun h1 => by
      have h1 : x < (n : Int) := by simpa using h1
      exact ck (c := inI x n && true) (by simp; omega) (lp (nu_lp nb f n g hn (k + 1) (wr .i64 (x + 1)) (putF (g (Int.toNat x)) x h) (by rw [wr_id] <;> omega) (by omega) (by
        subst hx
        rw [hh]
        rfl)))) (fun h1 => by
      have h1 : (n : Int) ≤ x := by simpa using h1
      have e : k = n := by omega
      have w : WkE (.ret (.cms .i64 h)) (.ret (.cms .i64 (mapG g n))) := by rw [hh, e]; exact wkE _
      exact endI w))
    (by kernel_rfl)
termination_by n - k
decreasing_by omega
theorem numbered_ok (nb f : Bool) (n : Nat) (g : Nat → ByteArray) (hn : n ≤ 16777216) : CtE XV.P 72 [strs nb f n g] [] (.ret (.cms .i64 (mapG g n))) [] :=
  vc0 (c := cNu) (n := 4000) (by kernel_rfl) (lp (nu_lp nb f n g hn 0 0 (fun _ => none) rfl (Nat.zero_le _) rfl)) (by kernel_rfl)
theorem mapG_no (g : Nat → ByteArray) (s : ByteArray) : ∀ (n : Nat), (∀ i, i < n → s ≠ g i) → mapG g n s = none
  | 0, _ => rfl
  | n + 1, h => by
    show putF (g n) _ (mapG g n) s = none
    rw [putF_eq, if_neg (h n (by omega))]
    exact mapG_no g s n fun i hi => h i (by omega)
theorem mapG_at (g : Nat → ByteArray) (j : Nat) : ∀ (n : Nat), j < n → (∀ i, j < i → i < n → g j ≠ g i) → mapG g n (g j) = some (j : Int)
  | 0, h, _ => by omega
  | n + 1, h, h2 => by
    show putF (g n) _ (mapG g n) (g j) = _
    rw [putF_eq]
    by_cases e : j = n
    · subst e; rw [if_pos rfl]
    · rw [if_neg (h2 n (by omega) (by omega))]
      exact mapG_at g j n (by omega) fun i h3 h4 => h2 i h3 (by omega)
end Go.Proofs.YtpflobodmglmaaaGreat
set_option linter.unusedVariables false
set_option maxHeartbeats 1000000
namespace Go.Proofs.YtpflobodmglmaaaGreat
/-- A table's cells, of which the registers' numbers are known. -/
noncomputable def tcl (V : Nat → AV) (h : ByteArray → Option Int) : List AV := [V 0, V 1, V 2, V 3, V 4, V 5, V 6, V 7, V 8, V 9, .cms .i64 h, V 11, V 12, V 13, V 14, V 15, V 16, V 17, V 18, V 19, V 20]
noncomputable def ints (nb f : Bool) (n : Nat) (z : Nat → Int) : AV := .lst nb f n (fun i => [.int .i64 (z i)])
noncomputable def nuZ (h : ByteArray → Option Int) (g : Nat → ByteArray) (i : Nat) : List AV := [iV (giV (h (g i)))]
noncomputable def nuE (h : ByteArray → Option Int) (g : Nat → ByteArray) (n : Nat) : AEnd := .ret (.lst (Nat.beq n 0) false n (nuZ h g))
noncomputable def cNs : Cfg := ⟨[], [(73, 0, { live := [0, 1, 5, 8, 9, 10], ids := [.v 5], ent := false })]⟩
theorem ns_end {n q : Nat} {h : ByteArray → Option Int} {g : Nat → ByteArray} {G : Nat → List AV} (e : q + 1 = n) (hG : ∀ j, j < q + 1 → G j = nuZ h g j) : WkE (.ret (.lst false false (q + 1) (fun i => (G (0 + i)).map frz0))) (nuE h g n) := by
  subst e
  exact wk_ret (wkv_lst rfl id fun i hi => .of (by rw [Nat.zero_add, hG i hi]; rfl))
theorem ns_lp (V : Nat → AV) (h : ByteArray → Option Int) (nb f : Bool) (n : Nat) (g : Nat → ByteArray) (hn : n ≤ 16777215) (q : Nat) (x : Int) (G : Nat → List AV) (hx : x = ((q + 1 : Nat) : Int)) (hq : q + 1 ≤ n) (hG : ∀ j, j < q + 1 → G j = nuZ h g j) :
    FrE XV.P (frH XV.P 73 0 [(0, .cp (tcl V h)), (1, strs nb f n g), (5, .sl 0 0 (q + 1) false 1), (8, strs nb f n g), (9, iV n), (10, iV x)]) (clM [.row 1 (q + 1) G]) (nuE h g n) [] :=
  vl0 (c := cNs) (n := 4000) (by kernel_rfl)
    (ifs (c := ltI x (.ofNat n)) (fun h1 => by
      have h1 : x < (n : Int) := by simpa using h1
      exact ck (c := inI x n && true) (by simp; omega) (ck (c := true && (true && (Nat.ble (q + 1 + 1) 16777216 && (Nat.ble (0 + (q + 1)) (q + 1) && true)))) (by simp; omega)
        (lp (ns_lp V h nb f n g hn (q + 1) (wr .i64 (x + 1)) (app1 (q + 1) G [iV (giV (h (g (Int.toNat x))))]) (by rw [wr_id] <;> omega) (by omega) (app1_eq hG (by subst hx; rfl) fun _ => rfl))))) (fun h1 => by
      have h1 : (n : Int) ≤ x := by simpa using h1
      have e : q + 1 = n := by omega
      exact endI1 (p := 0 + (q + 1) ≤ q + 1) (by omega) (ns_end e hG)))
    (by kernel_rfl)
termination_by n - q
decreasing_by omega
theorem numbers_ok (V : Nat → AV) (h : ByteArray → Option Int) (nb f : Bool) (n : Nat) (g : Nat → ByteArray) (hn : n ≤ 16777215) : CtE XV.P 73 [.cp (tcl V h), strs nb f n g] [] (nuE h g n) [] :=
  vc0 (c := cNs) (n := 4000) (by kernel_rfl)
    (ifs (c := ltI 0 (.ofNat n)) (fun h1 => by
      have h1 : 0 < (n : Int) := by simpa using h1
      exact ck (c := inI 0 n && true) (by simp; omega) (lp (ns_lp V h nb f n g hn 0 1 (fun _ => nuZ h g 0) rfl (by omega) (fun j hj => by rw [show j = 0 by omega])))) (fun h1 => by
      have h1 : (n : Int) ≤ 0 := by simpa using h1
      have w : WkE (.ret nl) (nuE h g n) := by
        obtain rfl : n = 0 := by omega
        exact wk_ret (wkv_lst rfl (fun e => by cases e) fun i hi => by omega)
      exact endI w))
    (by kernel_rfl)
end Go.Proofs.YtpflobodmglmaaaGreat
set_option linter.unusedVariables false
namespace Go.Proofs.YtpflobodmglmaaaGreat
/-- So many bits of a set, from a number on. -/
def bitsN (p : Nat → Bool) (o : Nat) : Nat → Nat
  | 0 => 0
  | m + 1 => bitsN p o m + (if p (o + m) then 2 ^ m else 0)
theorem bitsN_lt (p : Nat → Bool) (o : Nat) : ∀ m, bitsN p o m < 2 ^ m
  | 0 => Nat.one_pos
  | m + 1 => by
    have := bitsN_lt p o m
    unfold bitsN
    rw [Nat.pow_succ]
    split <;> omega
theorem bitsN_bit (p : Nat → Bool) (o : Nat) : ∀ (m b : Nat), (bitsN p o m).testBit b = (decide (b < m) && p (o + b))
  | 0, b => by simp [bitsN]
  | m + 1, b => by
    have hlt := bitsN_lt p o m
    have ih := bitsN_bit p o m b
    unfold bitsN
    by_cases hp : p (o + m) = true
    · rw [if_pos hp, ← Nat.or_two_pow_eq_add_of_lt hlt, Nat.testBit_or, Nat.testBit_two_pow, ih]
      by_cases e : b = m
      · subst e; simp [hp]
      · have h1 : decide (m = b) = false := decide_eq_false (Ne.symm e)
        have h2 : decide (b < m + 1) = decide (b < m) := by rw [decide_eq_decide]; omega
        rw [h1, h2, Bool.or_false]
    · rw [if_neg hp, Nat.add_zero, ih]
      by_cases e : b = m
      · subst e; simp [hp]
      · have h2 : decide (b < m + 1) = decide (b < m) := by rw [decide_eq_decide]; omega
        rw [h2]
theorem bitsN_ext {p q : Nat → Bool} {o : Nat} : ∀ {m : Nat}, (∀ b, b < m → p (o + b) = q (o + b)) → bitsN p o m = bitsN q o m
  | 0, _ => rfl
  | m + 1, h => by
    unfold bitsN
    rw [bitsN_ext (m := m) fun b hb => h b (by omega), h m (by omega)]
theorem bitsN_zero {p : Nat → Bool} {o : Nat} : ∀ {m : Nat}, (∀ b, b < m → p (o + b) = false) → bitsN p o m = 0
  | 0, _ => rfl
  | m + 1, h => by
    unfold bitsN
    rw [bitsN_zero (m := m) fun b hb => h b (by omega), h m (by omega)]
    simp
/-- The j-th word of a set. -/
def wvN (p : Nat → Bool) (j : Nat) : Nat := bitsN p (64 * j) 64
def wv (p : Nat → Bool) (j : Nat) : Int := (wvN p j : Int)
theorem wv_zero {p : Nat → Bool} {j : Nat} (h : ∀ v, 64 * j ≤ v → v < 64 * j + 64 → p v = false) : wv p j = 0 := by
  unfold wv wvN
  rw [bitsN_zero fun b hb => h _ (by omega) (by omega)]
  rfl
theorem wv_pos {p : Nat → Bool} {v : Nat} (h : p v = true) : wv p (v / 64) ≠ 0 := fun e => by
  have e : wvN p (v / 64) = 0 := by unfold wv at e; omega
  have := bitsN_bit p (64 * (v / 64)) 64 (v % 64)
  unfold wvN at e
  rw [e, show 64 * (v / 64) + v % 64 = v by omega, h, decide_eq_true (by omega)] at this
  simp at this
/-- A bit more. -/
noncomputable def orB (w r : Int) : Int := wr .u64 (.ofNat (BitVec.toNat ((BitVec.ofInt 64 w) ||| (BitVec.ofInt 64 (wr .u64 (1 * (2 ^ (min (Int.toNat r) 64))))))))
theorem wrap_u64 (n : Int) : IntKind.wrap .u64 n = n % 18446744073709551616 := by
  simp [IntKind.wrap, IntKind.bits, IntKind.signed]
theorem orB_eq {w r : Nat} (hw : w < 2 ^ 64) (hr : r < 64) : orB (w : Int) (r : Int) = ((w ||| 2 ^ r : Nat) : Int) := by
  have h2 : (2 : Nat) ^ r < 2 ^ 64 := Nat.pow_lt_pow_right (by decide) hr
  have e1 : wr .u64 (1 * (2 ^ (min (Int.toNat (r : Int)) 64))) = ((2 ^ r : Nat) : Int) := by
    rw [wr_eq, wrap_u64, Int.one_mul, Int.toNat_natCast, Nat.min_eq_left (by omega)]
    have : ((2 : Int) ^ r) = ((2 ^ r : Nat) : Int) := by simp
    rw [this]
    generalize 2 ^ r = t at h2 ⊢
    omega
  unfold orB
  rw [e1, wr_eq, wrap_u64]
  have e2 : ∀ x : Nat, BitVec.ofInt 64 (x : Int) = BitVec.ofNat 64 x := fun x => by
    apply BitVec.eq_of_toNat_eq
    simp
  rw [e2, e2, BitVec.toNat_or, BitVec.toNat_ofNat, BitVec.toNat_ofNat, Nat.mod_eq_of_lt hw, Nat.mod_eq_of_lt h2]
  have h3 : (w ||| 2 ^ r) < 2 ^ 64 := Nat.or_lt_two_pow hw h2
  show (((w ||| 2 ^ r : Nat) : Int)) % 18446744073709551616 = _
  omega
/-- A set with a number more. -/
theorem wv_with {p q : Nat → Bool} {v : Nat} (hq : ∀ u, q u = (p u || decide (u = v))) (j : Nat) : wv q j = if j = v / 64 then orB (wv p j) ((v % 64 : Nat) : Int) else wv p j := by
  by_cases e : j = v / 64
  · rw [if_pos e]
    unfold wv
    have hlt : wvN p j < 2 ^ 64 := bitsN_lt _ _ _
    rw [orB_eq hlt (Nat.mod_lt _ (by decide))]
    congr 1
    refine Nat.eq_of_testBit_eq fun b => ?_
    unfold wvN
    rw [Nat.testBit_or, bitsN_bit, bitsN_bit, Nat.testBit_two_pow, hq]
    by_cases hb : b < 64
    · rw [decide_eq_true hb, Bool.true_and, Bool.true_and]
      congr 1
      rw [decide_eq_decide]
      omega
    · simp [hb]
      omega
  · rw [if_neg e]
    unfold wv wvN
    rw [bitsN_ext fun b hb => ?_]
    rw [hq, decide_eq_false (by omega), Bool.or_false]
end Go.Proofs.YtpflobodmglmaaaGreat
set_option linter.unusedVariables false
set_option maxHeartbeats 1000000
namespace Go.Proofs.YtpflobodmglmaaaGreat
/-- Is a number among the first k, and one that a set can have? -/
def mem (z : Nat → Int) (k v : Nat) : Bool := decide (v ≤ 65535) && (List.range k).any fun i => decide (z i = (v : Int))
theorem mem_zero (z : Nat → Int) (v : Nat) : mem z 0 v = false := by simp [mem]
theorem mem_succ (z : Nat → Int) (k v : Nat) : mem z (k + 1) v = (mem z k v || (decide (v ≤ 65535) && decide (z k = (v : Int)))) := by
  unfold mem
  rw [List.range_succ, List.any_append]
  cases decide (v ≤ 65535) <;> simp
theorem mem_bad {z : Nat → Int} {k : Nat} (h : z k < 0 ∨ 65535 < z k) : mem z (k + 1) = mem z k := by
  funext v
  rw [mem_succ]
  by_cases e : z k = (v : Int)
  · rw [decide_eq_false (show ¬ v ≤ 65535 by omega)]; simp
  · rw [decide_eq_false e]; simp
theorem mem_good {z : Nat → Int} {k w : Nat} (h : z k = w) (hw : w ≤ 65535) (v : Nat) : mem z (k + 1) v = (mem z k v || decide (v = w)) := by
  rw [mem_succ, h]
  congr 1
  by_cases e : v = w
  · subst e; simp [hw]
  · rw [decide_eq_false e, decide_eq_false (show ¬ ((w : Int) = (v : Int)) by omega)]; simp
/-- Sets of numbers, as they lie in memory. -/
noncomputable def setN (p : Nat → Bool) : Nat := trimN (wv p) 1024
noncomputable def bsV (nb : Bool) (p : Nat → Bool) : AV := .agg [u64s nb true (setN p) (wv p)]
noncomputable def ofE (z : Nat → Int) (n : Nat) : AEnd := .ret (bsV (Nat.beq (setN (mem z n)) 0) (mem z n))
structure OfI (z : Nat → Int) (k l : Nat) (zw : Nat → Int) : Prop where
  w : ∀ j, j < l → zw j = wv (mem z k) j
  b : ∀ v, mem z k v = true → v < 64 * l
theorem trimN_ext {z z' : Nat → Int} : ∀ {n : Nat}, (∀ j, j < n → z j = z' j) → trimN z n = trimN z' n
  | 0, _ => rfl
  | n + 1, h => by
    unfold trimN
    rw [h n (by omega), trimN_ext (n := n) fun j hj => h j (by omega)]
theorem trimN_more {z : Nat → Int} {l : Nat} : ∀ {n : Nat}, l ≤ n → (∀ j, l ≤ j → j < n → z j = 0) → trimN z n = trimN z l
  | n, h, h0 => by
    by_cases e : l = n
    · rw [e]
    · obtain ⟨m, rfl⟩ : ∃ m, n = m + 1 := ⟨n - 1, by omega⟩
      rw [trimN, if_pos (h0 m (by omega) (by omega))]
      exact trimN_more (by omega) fun j h1 h2 => h0 j h1 (by omega)
theorem trimN_pos {z : Nat → Int} {j : Nat} : ∀ {n : Nat}, j < n → z j ≠ 0 → trimN z n ≠ 0
  | n + 1, h, h0 => by
    unfold trimN
    by_cases e : z n = 0
    · rw [if_pos e]
      exact trimN_pos (by by_cases e2 : j = n; subst e2; exact absurd e h0; omega) h0
    · rw [if_neg e]; omega
theorem OfI.trim {z zw : Nat → Int} {k l : Nat} (h : OfI z k l zw) (hl : l ≤ 1024) : trimN zw l = setN (mem z k) := by
  unfold setN
  rw [trimN_ext h.w]
  refine (trimN_more hl fun j h1 h2 => wv_zero fun v h3 h4 => ?_).symm
  cases hm : mem z k v with
  | false => rfl
  | true => have := h.b v hm; omega
theorem OfI.grow {z zw : Nat → Int} {k l : Nat} (h : OfI z k l zw) : OfI z k (l + 1) (fun i => bif Nat.blt i l then zw (0 + i) else 0) := by
  refine ⟨fun j hj => ?_, fun v hv => by have := h.b v hv; omega⟩
  by_cases e : j < l
  · rw [blt_t e, Nat.zero_add]; exact h.w j e
  · rw [blt_f (by omega)]
    refine (wv_zero fun v h1 h2 => ?_).symm
    cases hm : mem z k v with
    | false => rfl
    | true => have := h.b v hm; omega
theorem OfI.put {z zw : Nat → Int} {k l w : Nat} (h : OfI z k l zw) (hz : z k = w) (hw : w ≤ 65535) (hl : w / 64 < l) : OfI z (k + 1) l (fun i => bif Nat.beq i (0 + w / 64) then orB (zw (0 + w / 64)) ((w % 64 : Nat) : Int) else zw i) := by
  refine ⟨fun j hj => ?_, fun v hv => ?_⟩
  · rw [wv_with (mem_good hz hw) j, Nat.zero_add]
    by_cases e : j = w / 64
    · subst e
      rw [Nat.beq_refl, if_pos rfl]
      show orB (zw (w / 64)) _ = _
      rw [h.w _ hl]
    · rw [beq_ff e, if_neg e]
      exact h.w j hj
  · rw [mem_good hz hw] at hv
    simp only [Bool.or_eq_true, decide_eq_true_eq] at hv
    rcases hv with hv | rfl
    · exact h.b v hv
    · omega
theorem OfI.skip {z zw : Nat → Int} {k l : Nat} (h : OfI z k l zw) (hz : z k < 0 ∨ 65535 < z k) : OfI z (k + 1) l zw := by
  refine ⟨?_, ?_⟩ <;> rw [mem_bad hz]
  · exact h.w
  · exact h.b
end Go.Proofs.YtpflobodmglmaaaGreat
set_option linter.unusedVariables false
set_option maxHeartbeats 1000000
namespace Go.Proofs.YtpflobodmglmaaaGreat
noncomputable def spTr : CSp := { ids := [], res := fun args _ => match args with | [.lst nb _ n g] => (trR nb (trimN (fun i => match g i with | [.int _ x] => x | _ => 0) n) (fun i => match g i with | [.int _ x] => x | _ => 0), []) | _ => (.ret .undef, []) }
noncomputable def cOf : Cfg := ⟨[(153, spTr)], [(74, 0, { live := [0, 2, 3, 6, 7, 8], ids := [.v 2, .v 3] }), (74, 2, { live := [0, 2, 3, 5, 6, 7, 8], ids := [.v 2, .v 3] })]⟩
theorem trimN_le (z : Nat → Int) : ∀ n, trimN z n ≤ n
  | 0 => Nat.le_refl _
  | n + 1 => by
    unfold trimN
    have := trimN_le z n
    split <;> omega
theorem trim_nil : CtE XV.P 153 [nl] [] (trR true 0 (fun _ => 0)) [] := ct_wk (.cons (wkv_lst rfl id fun i hi => by omega) .nil) (trimmed_ok true true 0 (fun _ => 0) (by omega))
section
variable (nb f : Bool) (n : Nat) (z : Nat → Int) (hn : n ≤ 16777216)
/-- The words so far: none, or some. -/
noncomputable def ofW (l : Nat) : AV := match l with | 0 => nl | l + 1 => .sl 1 0 (l + 1) false 1
noncomputable def ofM (l : Nat) (zw : Nat → Int) : List Blk := match l with | 0 => [.var [nl]] | l + 1 => [.var [nl], .row 1 (l + 1) (fun i => [.int .u64 (zw i)])]
noncomputable def ofO (x : Int) (l : Nat) (zw : Nat → Int) : Prop := FrE XV.P (frH XV.P 74 0 [(0, ints nb f n z), (2, .ptr 0 0 0 0), (3, ofW l), (6, ints nb f n z), (7, iV n), (8, iV x)]) (clM (ofM l zw)) (ofE z n) []
noncomputable def ofJ (x v : Int) (l : Nat) (zw : Nat → Int) : Prop := FrE XV.P (frH XV.P 74 1 [(0, ints nb f n z), (2, .ptr 0 0 0 0), (3, ofW l), (5, iV v), (6, ints nb f n z), (7, iV n), (8, iV x)]) (clM (ofM l zw)) (ofE z n) []
include hn
omit hn in
theorem of_in (k : Nat) (x : Int) (hx : x = k) (hk : k < n) (w : Nat) (v : Int) (hv : v = w) (hw : w ≤ 65535) (hz : z k = w) (IH : ∀ (l : Nat) (zw : Nat → Int), 0 < l → l ≤ 1024 → OfI z (k + 1) l zw → ofO nb f n z (wr .i64 (x + 1)) l zw)
    (l : Nat) (zw : Nat → Int) (hl : l ≤ 1024) (hI : OfI z k l zw) : ofJ nb f n z x v l zw := by
  have e1 : wr .i64 (Int.tdiv v 64) = ((w / 64 : Nat) : Int) := by
    rw [hv, show Int.tdiv (w : Int) 64 = ((w / 64 : Nat) : Int) from rfl, wr_id] <;> omega
  have e2 : Int.tmod v 64 = ((w % 64 : Nat) : Int) := by rw [hv]; rfl
  have e3 : Int.toNat (wr .i64 (Int.tdiv v 64)) = w / 64 := by rw [e1]; rfl
  have more : ¬ w / 64 < l → ofJ nb f n z x v (l + 1) (fun i => bif Nat.blt i l then zw (0 + i) else 0) := fun h => of_in k x hx hk w v hv hw hz IH (l + 1) _ (by omega) hI.grow
  cases l with
  | zero =>
    exact vl0 (c := cOf) (n := 4000) (by kernel_rfl)
      (ifs (c := !(ltI (wr .i64 (Int.tdiv v 64)) 0)) (fun h => lp (more (by omega)))
        (fun h => ck (c := inI (wr .i64 (Int.tdiv v 64)) 0 && false) (p := False) (by rw [e1] at h; simp at h; omega) (by rw [e1] at h; simp at h; omega)))
      (by kernel_rfl)
  | succ l =>
    exact vl0 (c := cOf) (n := 4000) (by kernel_rfl)
      (ifs (c := !(ltI (wr .i64 (Int.tdiv v 64)) (.ofNat (l + 1)))) (fun h => ck (c := true && (true && (Nat.ble (l + 1 + 1) 16777216 && (Nat.ble (0 + (l + 1)) (l + 1) && true)))) (by simp; omega) (lp (more (by rw [e1] at h; simp at h; omega))))
        (fun h => by
          have h : w / 64 < l + 1 := by rw [e1] at h; simp at h; omega
          have c1 : (inI (wr .i64 (Int.tdiv v 64)) (l + 1) && true) = true := by rw [e1]; simp; omega
          have c2 : ((true && Nat.blt (0 + Int.toNat (wr .i64 (Int.tdiv v 64))) (l + 1)) && true) = true := by rw [e3]; simp; omega
          have nx := IH (l + 1) _ (by omega) (by omega) (hI.put hz hw h)
          rw [← e3, ← e2] at nx
          exact ck c1 (ck c2 (ck (c := !(ltI (Int.tmod v 64) 0)) (by rw [e2]; simp; omega) (ck c1 (ck c2 (lp nx)))))))
      (by kernel_rfl)
termination_by 1024 - l
decreasing_by omega
omit hn in
theorem of_end0 (zw : Nat → Int) (hI : OfI z n 0 zw) (z0 : Nat → Int) : WkE (.ret (.agg [u64s true true 0 z0])) (ofE z n) := by
  have e := hI.trim (by omega)
  have e : setN (mem z n) = 0 := e.symm
  unfold ofE bsV
  rw [e]
  exact wk_ret (wkv_agg (.cons (wkv_lst rfl id fun i hi => by omega) .nil))
omit hn in
theorem of_end1 (l : Nat) (zw : Nat → Int) (hl : l + 1 ≤ 1024) (hI : OfI z n (l + 1) zw) (h0 : ∃ v, mem z n v = true) : WkE (trR false (trimN (fun i => zw (0 + i)) (l + 1)) (fun i => zw (0 + i))) (ofE z n) := by
  have ez : (fun i => zw (0 + i)) = zw := by funext i; rw [Nat.zero_add]
  rw [ez, hI.trim hl]
  obtain ⟨v, hv⟩ := h0
  have hb := hI.b v hv
  have hp : setN (mem z n) ≠ 0 := trimN_pos (j := v / 64) (by omega) (wv_pos hv)
  have hle : setN (mem z n) ≤ l + 1 := by rw [← hI.trim hl]; exact trimN_le zw (l + 1)
  unfold ofE bsV trR
  rw [beq_ff hp]
  exact wk_ret (wkv_agg (.cons (wkv_lst rfl id fun i hi => .of (by rw [hI.w i (by omega)])) .nil))
theorem of_lp (k : Nat) (x : Int) (hx : x = k) (hk : k ≤ n) (l : Nat) (zw : Nat → Int) (hl : l ≤ 1024) (hI : OfI z k l zw) (h0 : 0 < l → ∃ v, mem z k v = true) : ofO nb f n z x l zw := by
  have w1 : x < (n : Int) → wr .i64 (x + 1) = ((k + 1 : Nat) : Int) := fun h => by rw [wr_id] <;> omega
  have skip : x < (n : Int) → (z (Int.toNat x) < 0 ∨ 65535 < z (Int.toNat x)) → ofO nb f n z (wr .i64 (x + 1)) l zw := fun h hz => by
    have hz : z k < 0 ∨ 65535 < z k := by rw [hx] at hz; exact hz
    exact of_lp (k + 1) (wr .i64 (x + 1)) (w1 h) (by omega) l zw hl (hI.skip hz) fun h => by rw [mem_bad hz]; exact h0 h
  have good : x < (n : Int) → ¬ z (Int.toNat x) < 0 → ¬ 65535 < z (Int.toNat x) → ofJ nb f n z x (z (Int.toNat x)) l zw := fun h h1 h2 => by
    have ek : Int.toNat x = k := by rw [hx]; rfl
    rw [ek] at h1 h2 ⊢
    have hw : z k = ((z k).toNat : Int) := by omega
    exact of_in nb f n z k x hx (by omega) (z k).toNat (z k) hw (by omega) hw (fun l zw hl0 hl1 hI => of_lp (k + 1) (wr .i64 (x + 1)) (w1 h) (by omega) l zw hl1 hI fun _ => ⟨(z k).toNat, by rw [mem_good hw (by omega)]; simp⟩) l zw hl hI
  cases l with
  | zero =>
    exact vl0 (c := cOf) (n := 4000) (by kernel_rfl)
      (ifs (c := ltI x (.ofNat n)) (fun h => by
        have h : x < (n : Int) := by simpa using h
        exact ck (c := inI x n && true) (by simp; omega) (ifs (c := ltI (z (Int.toNat x)) 0) (fun h1 => lp (skip h (.inl (by simpa using h1)))) (fun h1 => ifs (c := ltI 65535 (z (Int.toNat x))) (fun h2 => lp (skip h (.inr (by simpa using h2)))) (fun h2 => lp (good h (by simpa using h1) (by simpa using h2))))))
      (fun h => by
        have h : (n : Int) ≤ x := by simpa using h
        have e : k = n := by omega
        exact cl (trim_nil) (endI (of_end0 n z zw (e ▸ hI) (fun _ => 0)))))
      (by kernel_rfl)
  | succ l =>
    exact vl0 (c := cOf) (n := 4000) (by kernel_rfl)
      (ifs (c := ltI x (.ofNat n)) (fun h => by
        have h : x < (n : Int) := by simpa using h
        exact ck (c := inI x n && true) (by simp; omega) (ifs (c := ltI (z (Int.toNat x)) 0) (fun h1 => lp (skip h (.inl (by simpa using h1)))) (fun h1 => ifs (c := ltI 65535 (z (Int.toNat x))) (fun h2 => lp (skip h (.inr (by simpa using h2)))) (fun h2 => lp (good h (by simpa using h1) (by simpa using h2))))))
      (fun h => by
        have h : (n : Int) ≤ x := by simpa using h
        have e : k = n := by omega
        have w := of_end1 n z l zw hl (e ▸ hI) (e ▸ h0 (by omega))
        have p : 0 + (l + 1) ≤ l + 1 := by omega
        exact cl1 p (trimmed_ok false false (l + 1) (fun i => zw (0 + i)) (by omega)) (endI w)))
      (by kernel_rfl)
termination_by n - k
decreasing_by all_goals omega
theorem of_ok : CtE XV.P 74 [ints nb f n z] [] (ofE z n) [] :=
  vc0 (c := cOf) (n := 4000) (by kernel_rfl) (lp (of_lp nb f n z hn 0 0 rfl (Nat.zero_le _) 0 (fun _ => 0) (by omega) ⟨fun j hj => by omega, fun v hv => by rw [mem_zero] at hv; cases hv⟩ (fun h => by omega))) (by kernel_rfl)
end
end Go.Proofs.YtpflobodmglmaaaGreat
set_option linter.unusedVariables false
set_option maxHeartbeats 1000000
namespace Go.Proofs.YtpflobodmglmaaaGreat
noncomputable def c00 : Cfg := ⟨[], []⟩
theorem wk_strs0 (nb f f' : Bool) (g g' : Nat → List AV) (hf : f' = true → f = true) : WkE (.ret (.lst nb f 0 g)) (.ret (.lst nb f' 0 g')) := wk_ret (wkv_lst rfl hf fun i hi => by omega)
theorem clone0 (f : Bool) (g : Nat → ByteArray) : CtE XV.P 148 [strs true f 0 g] [] (.ret (strs true false 0 g)) [] :=
  vc0 (c := c00) (n := 4000) (by kernel_rfl) (endI (wk_strs0 true true false (fun _ => []) (fun i => [.str (g i)]) (fun h => by cases h))) (by kernel_rfl)
theorem clone1 (f : Bool) (n : Nat) (g : Nat → ByteArray) (hn : n ≤ 16777215) : CtE XV.P 148 [strs false f (n + 1) g] [] (.ret (strs false false (n + 1) g)) [] :=
  have w : WkE (.ret (.lst false false (0 + (n + 1)) (fun i => [.str (g (0 + i - 0))]))) (.ret (strs false false (n + 1) g)) := wkEq (by simp [strs])
  vc0 (c := c00) (n := 4000) (by kernel_rfl) (ck (c := true && (true && (Nat.ble (0 + (n + 1)) 16777216 && true))) (by simp; omega) (endI1 (p := 0 + (0 + (n + 1)) ≤ 0 + (n + 1)) (by omega) w)) (by kernel_rfl)
noncomputable def spNl : CSp := { ids := [], res := fun _ _ => (.ret nl, []) }
theorem regs_nil : CtE XV.P 145 [nl] [] (.ret nl) [] := vc0 (c := c00) (n := 4000) (by kernel_rfl) (endI (wkE (.ret nl))) (by kernel_rfl)
noncomputable def cRs : Cfg := ⟨[(145, spNl)], [(145, 0, { live := [0, 7, 8], ids := [.v 0] })]⟩
noncomputable def rgR (gs : Nat → ByteArray) (w a : Nat → Int) (j : Nat) : List AV := [.str (gs j), iV (w j), iV (a j), nl]
noncomputable def upd {α : Type} (g : Nat → α) (x : Int) (j : Nat) : α := bif Nat.beq j (0 + Int.toNat x) then g (0 + Int.toNat x) else g j
theorem upd_eq {α : Type} (g : Nat → α) (x : Int) (j : Nat) : upd g x j = g j := by
  unfold upd
  by_cases e : j = 0 + Int.toNat x
  · subst e; rw [Nat.beq_refl]; rfl
  · rw [beq_ff e]; rfl
theorem rs_lp (n : Nat) (hn : n ≤ 16777215) (k : Nat) (x : Int) (gs : Nat → ByteArray) (w a : Nat → Int) (hx : x = k) (hk : k ≤ n + 1) (h1 : ∀ j, gs j = nm j) (h2 : ∀ j, w j = 8) (h3 : ∀ j, a j = 0) :
    FrE XV.P (frH XV.P 145 0 [(0, .sl 0 0 (n + 1) false 4), (7, .int .i64 (.ofNat (n + 1))), (8, iV x)]) (clM [.row 4 (n + 1) (rgR gs w a)]) (.ret (.lst false false (n + 1) regR)) [] :=
  vl0 (c := cRs) (n := 4000) (by kernel_rfl)
    (ifs (c := ltI x (.ofNat (n + 1))) (fun h => by
      have h : x < ((n + 1 : Nat) : Int) := by simpa using h
      have c1 : (inI x (n + 1) && true) = true := by simp; omega
      have c2 : ((true && Nat.blt (0 + Int.toNat x) (n + 1)) && true) = true := by simp; omega
      exact ck c1 (ck c2 (cl regs_nil (ck c1 (ck c2 (lp (rs_lp n hn (k + 1) (wr .i64 (x + 1)) (upd gs x) (upd w x) (upd a x) (by rw [wr_id] <;> omega) (by omega) (fun j => by rw [upd_eq, h1]) (fun j => by rw [upd_eq, h2]) (fun j => by rw [upd_eq, h3])))))))) (fun h => by
      have w1 : WkE (.ret (.lst false false (n + 1) (fun i => rgR gs w a (0 + i)))) (.ret (.lst false false (n + 1) regR)) := wkEq (by
        congr 2
        funext i
        unfold rgR regR
        rw [h1, h2, h3, Nat.zero_add])
      exact endI1 (p := 0 + (n + 1) ≤ n + 1) (by omega) w1))
    (by kernel_rfl)
termination_by n + 1 - k
decreasing_by omega
theorem regs_ok (n : Nat) (hn : n ≤ 16777215) : CtE XV.P 145 [.lst false false (n + 1) regR] [] (.ret (.lst false false (n + 1) regR)) [] :=
  have e : 0 + (n + 1) = n + 1 := Nat.zero_add _
  have l : FrE XV.P (frH XV.P 145 0 [(0, .sl 0 0 (0 + (n + 1)) false 4), (7, .int .i64 (.ofNat (0 + (n + 1)))), (8, iV 0)]) (clM [.row 4 (0 + (n + 1)) (rgR (fun j => nm (j - 0)) (fun _ => 8) (fun _ => 0))]) (.ret (.lst false false (n + 1) regR)) [] := by
    rw [e]
    exact rs_lp n hn 0 0 _ _ _ rfl (by omega) (fun _ => rfl) (fun _ => rfl) (fun _ => rfl)
  vc0 (c := cRs) (n := 4000) (by kernel_rfl) (ck (c := true && (true && (Nat.ble (0 + (n + 1)) 16777216 && true))) (by simp; omega) (lp l)) (by kernel_rfl)
end Go.Proofs.YtpflobodmglmaaaGreat
set_option linter.unusedVariables false
set_option maxHeartbeats 1000000
namespace Go.Proofs.YtpflobodmglmaaaGreat
noncomputable def cE : Cfg := ⟨[], []⟩
noncomputable def plC (r a w : Int) : AV := .agg [iV r, iV a, iV w]
noncomputable def lapB (r a w r2 a2 w2 : Int) : Bool := bif !(eqI r r2) then false else bif ltI w 1 then false else bif ltI w2 1 then false else bif ltI a2 a then ltI (wr .u64 ((wr .u64 a) - (wr .u64 a2))) (wr .u64 w2) else ltI (wr .u64 ((wr .u64 a2) - (wr .u64 a))) (wr .u64 w)
noncomputable def witB (r a w r2 a2 w2 : Int) : Bool := bif !(eqI r r2) then false else bif ltI w 1 then true else bif ltI w2 1 then false else bif ltI a a2 then false else bif !(ltI (wr .u64 w2) (wr .u64 ((wr .u64 a) - (wr .u64 a2)))) then !(ltI (wr .u64 ((wr .u64 w2) - (wr .u64 ((wr .u64 a) - (wr .u64 a2))))) (wr .u64 w)) else false
theorem wkb {a b : Bool} (h : b = a) : WkE (.ret (.bool a)) (.ret (.bool b)) := by rw [h]; exact wkE _
theorem lap_ok (r a w r2 a2 w2 : Int) : CtE XV.P 154 [plC r a w, plC r2 a2 w2] [] (.ret (.bool (lapB r a w r2 a2 w2))) [] :=
  vc0 (c := cE) (n := 4000) (by kernel_rfl)
    (ifs (c := !(eqI r r2)) (fun h1 => endI (wkb (b := lapB r a w r2 a2 w2) (a := false) (by unfold lapB; rw [h1]; rfl))) (fun h1 => ifs (c := ltI w 1) (fun h2 => endI (wkb (b := lapB r a w r2 a2 w2) (a := false) (by unfold lapB; rw [h1, h2]; rfl))) (fun h2 => ifs (c := ltI w2 1) (fun h3 => endI (wkb (b := lapB r a w r2 a2 w2) (a := false) (by unfold lapB; rw [h1, h2, h3]; rfl))) (fun h3 =>
      ifs (c := ltI a2 a) (fun h4 => endI (wkb (b := lapB r a w r2 a2 w2) (a := ltI (wr .u64 ((wr .u64 a) - (wr .u64 a2))) (wr .u64 w2)) (by unfold lapB; rw [h1, h2, h3, h4]; rfl))) (fun h4 => endI (wkb (b := lapB r a w r2 a2 w2) (a := ltI (wr .u64 ((wr .u64 a2) - (wr .u64 a))) (wr .u64 w)) (by unfold lapB; rw [h1, h2, h3, h4]; rfl)))))))
    (by kernel_rfl)
theorem within_ok (r a w r2 a2 w2 : Int) : CtE XV.P 157 [plC r a w, plC r2 a2 w2] [] (.ret (.bool (witB r a w r2 a2 w2))) [] :=
  vc0 (c := cE) (n := 4000) (by kernel_rfl)
    (ifs (c := !(eqI r r2)) (fun h1 => endI (wkb (b := witB r a w r2 a2 w2) (a := false) (by unfold witB; rw [h1]; rfl))) (fun h1 => ifs (c := ltI w 1) (fun h2 => endI (wkb (b := witB r a w r2 a2 w2) (a := true) (by unfold witB; rw [h1, h2]; rfl))) (fun h2 => ifs (c := ltI w2 1) (fun h3 => endI (wkb (b := witB r a w r2 a2 w2) (a := false) (by unfold witB; rw [h1, h2, h3]; rfl))) (fun h3 =>
      ifs (c := ltI a a2) (fun h4 => endI (wkb (b := witB r a w r2 a2 w2) (a := false) (by unfold witB; rw [h1, h2, h3, h4]; rfl))) (fun h4 => ifs (c := !(ltI (wr .u64 w2) (wr .u64 ((wr .u64 a) - (wr .u64 a2))))) (fun h5 => endI (wkb (b := witB r a w r2 a2 w2) (a := !(ltI (wr .u64 ((wr .u64 w2) - (wr .u64 ((wr .u64 a) - (wr .u64 a2))))) (wr .u64 w))) (by unfold witB; rw [h1, h2, h3, h4, h5]; rfl))) (fun h5 => endI (wkb (b := witB r a w r2 a2 w2) (a := false) (by unfold witB; rw [h1, h2, h3, h4, h5]; rfl))))))))
    (by kernel_rfl)
noncomputable def intOf (a : AV) : Int := match a with | .int _ x => x | _ => 0
noncomputable def spLap : CSp := { ids := [], res := fun args _ => match args with | [.agg [a, b, c], .agg [d, e, f]] => (.ret (.bool (lapB (intOf a) (intOf b) (intOf c) (intOf d) (intOf e) (intOf f))), []) | _ => (.ret .undef, []) }
noncomputable def spWit : CSp := { ids := [], res := fun args _ => match args with | [.agg [a, b, c], .agg [d, e, f]] => (.ret (.bool (witB (intOf a) (intOf b) (intOf c) (intOf d) (intOf e) (intOf f))), []) | _ => (.ret .undef, []) }
/-- A row that is constant. -/
structure LP where
  nb : Bool
  f : Bool
  n : Nat
  g : Nat → List AV
noncomputable def LP.v (L : LP) : AV := .lst L.nb L.f L.n L.g
def LP.nil : LP := ⟨true, true, 0, fun _ => []⟩
/-- A table. -/
structure TB where
  name : ByteArray
  regs : LP
  cls : LP
  ops : LP
  args : LP
  res : ByteArray
  saved : LP
  slots : Int
  names : LP
  pb : Bool
  pf : Bool
  pn : Nat
  pr : Nat → Int
  pa : Nat → Int
  pw : Nat → Int
  hr : ByteArray → Option Int
  hc : ByteArray → Option Int
  ho : ByteArray → Option Int
  laps : LP
  of : LP
  in' : LP
  may : LP
  clob : LP
  sv : LP
  ar : LP
  keeps : LP
noncomputable def TB.pl (T : TB) : AV := .lst T.pb T.pf T.pn (fun i => [iV (T.pr i), iV (T.pa i), iV (T.pw i)])
noncomputable def TB.c (T : TB) : List AV := [.str T.name, T.regs.v, T.cls.v, T.ops.v, T.args.v, .str T.res, T.saved.v, iV T.slots, T.names.v, T.pl, .cms .i64 T.hr, .cms .i64 T.hc, .cms .i64 T.ho, T.laps.v, T.of.v, T.in'.v, T.may.v, T.clob.v, T.sv.v, T.ar.v, T.keeps.v]
end Go.Proofs.YtpflobodmglmaaaGreat
set_option linter.unusedVariables false
set_option maxHeartbeats 1000000
namespace Go.Proofs.YtpflobodmglmaaaGreat
noncomputable def spOf : CSp := { ids := [], res := fun args _ => match args with | [.lst _ _ n g] => (ofE (fun i => match g i with | [.int _ x] => x | _ => 0) n, []) | _ => (.ret .undef, []) }
/-- A table's cells, with another row of what laps. -/
noncomputable def TB.cl (T : TB) (l : AV) : List AV := [.str T.name, T.regs.v, T.cls.v, T.ops.v, T.args.v, .str T.res, T.saved.v, iV T.slots, T.names.v, T.pl, .cms .i64 T.hr, .cms .i64 T.hc, .cms .i64 T.ho, l, T.of.v, T.in'.v, T.may.v, T.clob.v, T.sv.v, T.ar.v, T.keeps.v]
noncomputable def cLa : Cfg := ⟨[(154, spLap), (74, spOf)], (75, 0, { live := [0, 10, 11, 12], ids := [.c 0 13] }) :: [1, 2, 3, 4].map fun i => (75, i, { live := [0, 3, 4, 10, 11, 12, 19, 20, 21], ids := [.v 3, .c 0 13, .v 4] })⟩
/-- Do two of a table's registers lap? -/
noncomputable def lapQ (T : TB) (i v : Nat) : Bool := lapB (T.pr i) (T.pa i) (T.pw i) (T.pr v) (T.pa v) (T.pw v)
noncomputable def lapP (T : TB) (i v : Nat) : Bool := decide (v < T.pn) && lapQ T i v
noncomputable def setS (p : Nat → Bool) : AV := u64s (Nat.beq (setN p) 0) true (setN p) (wv p)
noncomputable def lapR (T : TB) (i : Nat) : List AV := [setS (lapP T i)]
noncomputable def lapsE (T : TB) : AV := .lst (Nat.beq T.pn 0) false T.pn (lapR T)
theorem mem_ext {z z' : Nat → Int} {c : Nat} (h : ∀ j, j < c → z j = z' j) : mem z c = mem z' c := by
  funext v
  unfold mem
  congr 1
  rw [Bool.eq_iff_iff, List.any_eq_true, List.any_eq_true]
  constructor <;> rintro ⟨j, hj, e⟩ <;> refine ⟨j, hj, ?_⟩
  · rw [← h j (List.mem_range.1 hj)]; exact e
  · rw [h j (List.mem_range.1 hj)]; exact e
noncomputable def zApp (z : Nat → Int) (c : Nat) (y : Int) (i : Nat) : Int := bif Nat.blt i c then z (0 + i) else y
theorem mem_app {z : Nat → Int} {c y : Nat} (hy : y ≤ 65535) (v : Nat) : mem (zApp z c y) (c + 1) v = (mem z c v || decide (v = y)) := by
  rw [mem_good (w := y) (by unfold zApp; rw [blt_f (Nat.le_refl _)]; rfl) hy]
  congr 1
  exact congrFun (mem_ext fun j hj => by unfold zApp; rw [blt_t hj, Nat.zero_add]; rfl) v
theorem of_nil : CtE XV.P 74 [nl] [] (ofE (fun _ => 0) 0) [] := ct_wk (.cons (wkv_lst rfl id fun i hi => by omega) .nil) (of_ok true true 0 (fun _ => 0) (by omega))
noncomputable def laL (q c : Nat) : AV := match c, q with | 0, _ => nl | c + 1, 0 => .sl 2 0 (c + 1) false 1 | c + 1, _ + 1 => .sl 3 0 (c + 1) false 1
noncomputable def laM (T : TB) (q c : Nat) (a1 a2 a3 : Int) (G : Nat → List AV) (z : Nat → Int) : List Blk := match q, c with
  | 0, 0 => [.var (T.cl nl), .var [iV a1, iV a2, iV a3]]
  | 0, c + 1 => [.var (T.cl nl), .var [iV a1, iV a2, iV a3], .row 1 (c + 1) (fun j => [iV (z j)])]
  | q + 1, 0 => [.var (T.cl (.sl 2 0 (q + 1) false 1)), .var [iV a1, iV a2, iV a3], .row 1 (q + 1) G]
  | q + 1, c + 1 => [.var (T.cl (.sl 2 0 (q + 1) false 1)), .var [iV a1, iV a2, iV a3], .row 1 (q + 1) G, .row 1 (c + 1) (fun j => [iV (z j)])]
noncomputable def laN (T : TB) (q : Nat) (G : Nat → List AV) : List Blk := match q with
  | 0 => [.var (T.cl nl)]
  | q + 1 => [.var (T.cl (.sl 1 0 (q + 1) false 1)), .row 1 (q + 1) G]
noncomputable def laI (T : TB) (q c : Nat) (x y a1 a2 a3 : Int) (G : Nat → List AV) (z : Nat → Int) : Prop := FrE XV.P (frH XV.P 75 1 [(0, .ptr 0 0 0 0), (3, .ptr 1 0 0 0), (4, laL q c), (10, T.pl), (11, iV T.pn), (12, iV x), (19, T.pl), (20, iV T.pn), (21, iV y)]) (clM (laM T q c a1 a2 a3 G z)) (.ret (.tup [])) [.var (T.cl (lapsE T))]
noncomputable def laO (T : TB) (q : Nat) (x : Int) (G : Nat → List AV) : Prop := FrE XV.P (frH XV.P 75 0 [(0, .ptr 0 0 0 0), (10, T.pl), (11, iV T.pn), (12, iV x)]) (clM (laN T q G)) (.ret (.tup [])) [.var (T.cl (lapsE T))]
noncomputable def mz (G : Nat → List AV) (i : Nat) : List AV := (G i).map frz0
theorem mz_eq {T : TB} {G : Nat → List AV} {q : Nat} (h : ∀ j, j < q → G j = lapR T j) : ∀ j, j < q → mz G j = lapR T j := fun j hj => by unfold mz; rw [h j hj]; rfl
section
variable (T : TB) (hn : T.pn ≤ 65536)
include hn
theorem la_in (q : Nat) (x : Int) (hx : x = q) (hq : q < T.pn) (IH : ∀ G, (∀ j, j < q + 1 → G j = lapR T j) → laO T (q + 1) (wr .i64 (x + 1)) G)
    (m c : Nat) (y : Int) (G : Nat → List AV) (z : Nat → Int) (hy : y = ((T.pn - m : Nat) : Int)) (hm : m ≤ T.pn) (hc : c ≤ T.pn - m) (hG : ∀ j, j < q → G j = lapR T j) (hM : ∀ v, mem z c v = (decide (v < T.pn - m) && lapQ T q v)) : laI T q c x y (T.pr q) (T.pa q) (T.pw q) G z := by
  have step : ∀ (c' : Nat) (z' : Nat → Int) (G' : Nat → List AV), y < (T.pn : Int) → c' ≤ T.pn - m + 1 → (∀ j, j < q → G' j = lapR T j) → (∀ v, mem z' c' v = (decide (v < T.pn - m + 1) && lapQ T q v)) → laI T q c' x (wr .i64 (y + 1)) (T.pr q) (T.pa q) (T.pw q) G' z' := fun c' z' G' h h1 h2 h3 =>
    la_in q x hx hq IH (m - 1) c' (wr .i64 (y + 1)) G' z' (by rw [wr_id] <;> omega) (by omega) (by omega) h2 (by rw [show T.pn - (m - 1) = T.pn - m + 1 by omega]; exact h3)
  have ey : Int.toNat y = T.pn - m := by omega
  have stepT : y < (T.pn : Int) → lapB (T.pr q) (T.pa q) (T.pw q) (T.pr y.toNat) (T.pa y.toNat) (T.pw y.toNat) = true → ∀ G' : Nat → List AV, (∀ j, j < q → G' j = lapR T j) → laI T q (c + 1) x (wr .i64 (y + 1)) (T.pr q) (T.pa q) (T.pw q) G' (zApp z c y) := fun h hl G' h2 => step (c + 1) (zApp z c y) G' h (by omega) h2 fun v => by
    rw [ey] at hl
    rw [hy, mem_app (by omega), hM]
    by_cases e : v = T.pn - m
    · subst e
      have : lapQ T q (T.pn - m) = true := hl
      simp [this]
    · have e2 : decide (v < T.pn - m + 1) = decide (v < T.pn - m) := by rw [decide_eq_decide]; omega
      rw [e2, decide_eq_false e, Bool.or_false]
  have stepF : y < (T.pn : Int) → lapB (T.pr q) (T.pa q) (T.pw q) (T.pr y.toNat) (T.pa y.toNat) (T.pw y.toNat) = false → ∀ G' : Nat → List AV, (∀ j, j < q → G' j = lapR T j) → laI T q c x (wr .i64 (y + 1)) (T.pr q) (T.pa q) (T.pw q) G' z := fun h hl G' h2 => step c z G' h (by omega) h2 fun v => by
    rw [ey] at hl
    rw [hM]
    by_cases e : v = T.pn - m
    · subst e
      have : lapQ T q (T.pn - m) = false := hl
      simp [this]
    · have e2 : decide (v < T.pn - m + 1) = decide (v < T.pn - m) := by rw [decide_eq_decide]; omega
      rw [e2]
  have eM : (T.pn : Int) ≤ y → mem z c = lapP T q := fun h => by
    have : m = 0 := by omega
    subst this
    funext v
    rw [hM]
    rfl
  have lp1 := lap_ok (T.pr q) (T.pa q) (T.pw q) (T.pr y.toNat) (T.pa y.toNat) (T.pw y.toNat)
  have z0 : (fun i => z (0 + i)) = z := by funext i; rw [Nat.zero_add]
  have capp : ∀ {a : Nat}, a ≤ 65537 → (true && (true && (Nat.ble (a + 1 + 1) 16777216 && (Nat.ble (0 + (a + 1)) (a + 1) && true)))) = true := fun h => by simp; omega
  have hin : y < (T.pn : Int) → (inI y T.pn && true) = true := fun h => by simp; omega
  have row : ∀ (p : Nat → Bool), p = lapP T q → [setS p] = lapR T q := fun p h => by rw [h]; rfl
  cases q with
  | zero =>
    cases c with
    | zero =>
      exact vlN (c := cLa) (n := 20000) (by kernel_rfl) (by kernel_rfl) (by simp [laM])
        (ifs (c := ltI y (.ofNat T.pn)) (fun h => by
          have h : y < (T.pn : Int) := by simpa using h
          exact ck (hin h) (cl lp1 (ifs (c := lapB (T.pr 0) (T.pa 0) (T.pw 0) (T.pr y.toNat) (T.pa y.toNat) (T.pw y.toNat)) (fun hl => lp (stepT h hl G hG)) (fun hl => lp (stepF h hl G hG)))))
        (fun h => by
          have h : (T.pn : Int) ≤ y := by simpa using h
          have eM := eM h
          have e0 : mem (fun _ => 0) 0 = lapP T 0 := by rw [← eM]; exact mem_ext fun j hj => by omega
          exact cl of_nil (lp (IH (fun _ => [setS (mem (fun _ => 0) 0)]) (fun j hj => by
            rw [show j = 0 by omega]
            exact row _ e0)))))
        (by kernel_rfl)
    | succ c =>
      exact vlN (c := cLa) (n := 20000) (by kernel_rfl) (by kernel_rfl) (by simp [laM])
        (ifs (c := ltI y (.ofNat T.pn)) (fun h => by
          have h : y < (T.pn : Int) := by simpa using h
          exact ck (hin h) (cl lp1 (ifs (c := lapB (T.pr 0) (T.pa 0) (T.pw 0) (T.pr y.toNat) (T.pa y.toNat) (T.pw y.toNat)) (fun hl => ck (capp (a := c) (by omega)) (lp (stepT h hl G hG))) (fun hl => lp (stepF h hl G hG)))))
        (fun h => by
          have h : (T.pn : Int) ≤ y := by simpa using h
          have eM := eM h
          have e0 : mem (fun i => z (0 + i)) (c + 1) = lapP T 0 := by rw [z0]; exact eM
          have p : 0 + (c + 1) ≤ c + 1 := by omega
          exact cl1 p (of_ok false false (c + 1) (fun i => z (0 + i)) (by omega)) (lp (IH (fun _ => [setS (mem (fun i => z (0 + i)) (c + 1))]) (fun j hj => by
            rw [show j = 0 by omega]
            exact row _ e0)))))
        (by kernel_rfl)
  | succ q =>
    cases c with
    | zero =>
      exact vlN (c := cLa) (n := 20000) (by kernel_rfl) (by kernel_rfl) (by simp [laM])
        (ifs (c := ltI y (.ofNat T.pn)) (fun h => by
          have h : y < (T.pn : Int) := by simpa using h
          exact ck (hin h) (cl lp1 (ifs (c := lapB (T.pr (q + 1)) (T.pa (q + 1)) (T.pw (q + 1)) (T.pr y.toNat) (T.pa y.toNat) (T.pw y.toNat)) (fun hl => lp (stepT h hl (mz G) (mz_eq hG))) (fun hl => lp (stepF h hl (mz G) (mz_eq hG))))))
        (fun h => by
          have h : (T.pn : Int) ≤ y := by simpa using h
          have eM := eM h
          have e0 : mem (fun _ => 0) 0 = lapP T (q + 1) := by rw [← eM]; exact mem_ext fun j hj => by omega
          have nx := IH (app1 (q + 1) G [setS (mem (fun _ => 0) 0)]) (app1_eq hG (row _ e0) fun _ => rfl)
          exact cl of_nil (ck (capp (a := q) (by omega)) (lp nx))))
        (by kernel_rfl)
    | succ c =>
      exact vlN (c := cLa) (n := 20000) (by kernel_rfl) (by kernel_rfl) (by simp [laM])
        (ifs (c := ltI y (.ofNat T.pn)) (fun h => by
          have h : y < (T.pn : Int) := by simpa using h
          exact ck (hin h) (cl lp1 (ifs (c := lapB (T.pr (q + 1)) (T.pa (q + 1)) (T.pw (q + 1)) (T.pr y.toNat) (T.pa y.toNat) (T.pw y.toNat)) (fun hl => ck (capp (a := c) (by omega)) (lp (stepT h hl (mz G) (mz_eq hG)))) (fun hl => lp (stepF h hl (mz G) (mz_eq hG))))))
        (fun h => by
          have h : (T.pn : Int) ≤ y := by simpa using h
          have eM := eM h
          have e0 : mem (fun i => z (0 + i)) (c + 1) = lapP T (q + 1) := by rw [z0]; exact eM
          have p : 0 + (c + 1) ≤ c + 1 := by omega
          have nx := IH (app1 (q + 1) G [setS (mem (fun i => z (0 + i)) (c + 1))]) (app1_eq hG (row _ e0) fun _ => rfl)
          exact cl1 p (of_ok false false (c + 1) (fun i => z (0 + i)) (by omega)) (ck (capp (a := q) (by omega)) (lp nx))))
        (by kernel_rfl)
termination_by m
decreasing_by omega
end
end Go.Proofs.YtpflobodmglmaaaGreat
set_option linter.unusedVariables false
set_option maxHeartbeats 1000000
namespace Go.Proofs.YtpflobodmglmaaaGreat
theorem cl_wk (T : TB) {l l' : AV} (h : WkV l l') : WkL (T.cl l) (T.cl l') :=
  .cons (.refl _) (.cons (.refl _) (.cons (.refl _) (.cons (.refl _) (.cons (.refl _) (.cons (.refl _) (.cons (.refl _) (.cons (.refl _) (.cons (.refl _) (.cons (.refl _) (.cons (.refl _) (.cons (.refl _) (.cons (.refl _) (.cons h (.refl _))))))))))))))
section
variable (T : TB) (hn : T.pn ≤ 65536)
include hn
theorem la_out (q : Nat) (x : Int) (G : Nat → List AV) (hx : x = q) (hq : q ≤ T.pn) (hG : ∀ j, j < q → G j = lapR T j) : laO T q x G := by
  have ex : Int.toNat x = q := by rw [hx]; rfl
  have inn : x < (T.pn : Int) → ∀ G' : Nat → List AV, (∀ j, j < q → G' j = lapR T j) → laI T q 0 x 0 (T.pr x.toNat) (T.pa x.toNat) (T.pw x.toNat) G' (fun _ => 0) := fun h G' hG' => by
    rw [ex]
    exact la_in T hn q x hx (by omega) (fun G2 h2 => la_out (q + 1) (wr .i64 (x + 1)) G2 (by rw [wr_id] <;> omega) (by omega) h2) T.pn 0 0 G' (fun _ => 0) (by omega) (Nat.le_refl _) (by omega) hG' fun v => by rw [mem_zero]; simp
  cases q with
  | zero =>
    exact vlN (c := cLa) (n := 20000) (by kernel_rfl) (by kernel_rfl) (by simp [laN])
      (ifs (c := ltI x (.ofNat T.pn)) (fun h => by
        have h : x < (T.pn : Int) := by simpa using h
        exact ck (c := inI x T.pn && true) (by simp; omega) (lp (inn h G hG)))
      (fun h => by
        have h : (T.pn : Int) ≤ x := by simpa using h
        have e : T.pn = 0 := by omega
        have w : WkV nl (lapsE T) := by
          unfold lapsE
          rw [e]
          exact wkv_lst rfl (fun h => by cases h) fun i hi => by omega
        exact endB1 (wkE (.ret (.tup []))) (wkB_var (cl_wk T w))))
      (by kernel_rfl)
  | succ q =>
    exact vlN (c := cLa) (n := 20000) (by kernel_rfl) (by kernel_rfl) (by simp [laN])
      (ifs (c := ltI x (.ofNat T.pn)) (fun h => by
        have h : x < (T.pn : Int) := by simpa using h
        exact ck (c := inI x T.pn && true) (by simp; omega) (lp (inn h (mz G) (mz_eq hG))))
      (fun h => by
        have h : (T.pn : Int) ≤ x := by simpa using h
        have e : q + 1 = T.pn := by omega
        have w : WkV (.lst false false (q + 1) (fun i => (G (0 + i)).map frz0)) (lapsE T) := by
          unfold lapsE
          rw [← e]
          exact wkv_lst rfl id fun i hi => .of (by rw [Nat.zero_add, hG i hi]; rfl)
        have p : 0 + (q + 1) ≤ q + 1 := by omega
        exact endBp p (wkE (.ret (.tup []))) (wkB_var (cl_wk T w))))
      (by kernel_rfl)
termination_by T.pn - q
decreasing_by omega
theorem lapping_ok : CtE XV.P 75 [.ptr 0 0 0 0] [.var (T.cl nl)] (.ret (.tup [])) [.var (T.cl (lapsE T))] :=
  vcN (c := cLa) (n := 20000) (by kernel_rfl) (by kernel_rfl) (by simp) (lp (la_out T hn 0 0 (fun _ => []) rfl (Nat.zero_le _) (fun j hj => by omega))) (by kernel_rfl)
end
end Go.Proofs.YtpflobodmglmaaaGreat
set_option linter.unusedVariables false
set_option maxHeartbeats 1000000
namespace Go.Proofs.YtpflobodmglmaaaGreat
/-- The first number below m + k, from k on, of which p holds; -1: there is none. -/
noncomputable def ixB (p : Nat → Bool) : Nat → Nat → Int
  | 0, _ => -1
  | m + 1, k => bif p k then (k : Int) else ixB p m (k + 1)
noncomputable def fnX (T : TB) (r a w : Int) : AV := .fn 156 [] [.cp [iV r, iV a, iV w], .cp [.cp T.c]]
noncomputable def cWi : Cfg := ⟨[(157, spWit)], [(195, 0, { live := [0, 1, 7, 8], ids := [] })]⟩
noncomputable def iLst (nb f : Bool) (n : Nat) (z : Nat → Int) : AV := .lst nb f n (fun i => [iV (z i)])
noncomputable def wiP (T : TB) (z : Nat → Int) (r a w : Int) (i : Nat) : Bool := witB r a w (T.pr (z i).toNat) (T.pa (z i).toNat) (T.pw (z i).toNat)
section
variable (T : TB) (nb f : Bool) (sn : Nat) (sz : Nat → Int) (hs : ∀ i, i < sn → 0 ≤ sz i ∧ sz i < T.pn) (r a w : Int) (hn : sn ≤ 65536)
include hs hn
theorem if_lp (m k : Nat) (x e : Int) (hx : x = k) (hk : k + m = sn) (he : ixB (wiP T sz r a w) m k = e) :
    FrE XV.P (frH XV.P 195 0 [(0, iLst nb f sn sz), (1, fnX T r a w), (7, iV sn), (8, iV x)]) (clM []) (.ret (iV e)) [] :=
  vl0 (c := cWi) (n := 20000) (by kernel_rfl)
    (ifs (c := ltI x (.ofNat sn)) (fun h => by
      have h : x < (sn : Int) := by simpa using h
      obtain ⟨m, rfl⟩ : ∃ m', m = m' + 1 := ⟨m - 1, by omega⟩
      have ex : x.toNat = k := by omega
      have hz := hs k (by omega)
      exact ck (c := inI x sn && true) (by simp; omega) (ck (c := inI (sz x.toNat) T.pn && true) (by rw [ex]; simp; omega)
        (cl (within_ok r a w (T.pr (sz x.toNat).toNat) (T.pa (sz x.toNat).toNat) (T.pw (sz x.toNat).toNat)) (ifs (c := witB r a w (T.pr (sz x.toNat).toNat) (T.pa (sz x.toNat).toNat) (T.pw (sz x.toNat).toNat)) (fun h2 => by
          have w : WkE (.ret (iV x)) (.ret (iV e)) := wkEq (by
            rw [ex] at h2
            have h2 : wiP T sz r a w k = true := h2
            rw [← he, ixB, h2, hx]; rfl)
          exact endI w) (fun h2 => lp (if_lp m (k + 1) (wr .i64 (x + 1)) e (by rw [wr_id] <;> omega) (by omega) (by
            rw [ex] at h2
            have h2 : wiP T sz r a w k = false := h2
            rw [← he, ixB, h2]; rfl))))))) (fun h => by
      have h : (sn : Int) ≤ x := by simpa using h
      have w : WkE (.ret (iV (-1))) (.ret (iV e)) := wkEq (by
        obtain rfl : m = 0 := by omega
        rw [← he, ixB])
      exact endI w))
    (by kernel_rfl)
termination_by m
theorem if_ok : CtE XV.P 195 [iLst nb f sn sz, fnX T r a w] [] (.ret (iV (ixB (wiP T sz r a w) sn 0))) [] :=
  vc0 (c := cWi) (n := 20000) (by kernel_rfl) (lp (if_lp T nb f sn sz hs r a w hn sn 0 0 _ rfl (by omega) rfl)) (by kernel_rfl)
end
end Go.Proofs.YtpflobodmglmaaaGreat
set_option linter.unusedVariables false
set_option maxHeartbeats 1000000
namespace Go.Proofs.YtpflobodmglmaaaGreat
noncomputable def siz (T : TB) (i : Nat) : Int := match T.sv.g i with | [.int _ x] => x | _ => 0
/-- A table's saved registers are numbers of places. -/
def SvI (T : TB) : Prop := T.sv.n ≤ 65536 ∧ ∀ i, i < T.sv.n → T.sv.g i = [iV (siz T i)] ∧ 0 ≤ siz T i ∧ siz T i < T.pn
noncomputable def spIf (T : TB) : CSp := { ids := [], res := fun args _ => match args with | [_, .fn _ _ [.cp [r, a, w], _]] => (.ret (iV (ixB (wiP T (siz T) (intOf r) (intOf a) (intOf w)) T.sv.n 0)), []) | _ => (.ret .undef, []) }
noncomputable def svB (T : TB) (r a w : Int) : Bool := !(ltI (ixB (wiP T (siz T) r a w) T.sv.n 0) 0)
noncomputable def spCf (T : TB) : CSp := { ids := [], res := fun args _ => match args with | [_, .fn _ _ [.cp [r, a, w], _]] => (.ret (.bool (svB T (intOf r) (intOf a) (intOf w))), []) | _ => (.ret .undef, []) }
noncomputable def cCf (T : TB) : Cfg := ⟨[(195, spIf T)], []⟩
noncomputable def cSu (T : TB) : Cfg := ⟨[(93, spCf T), (74, spOf)], [(77, 0, { live := [0, 1, 2, 9, 10, 11], ids := [.v 1, .v 2] })]⟩
noncomputable def TB.ck (T : TB) (l : AV) : List AV := [.str T.name, T.regs.v, T.cls.v, T.ops.v, T.args.v, .str T.res, T.saved.v, iV T.slots, T.names.v, T.pl, .cms .i64 T.hr, .cms .i64 T.hc, .cms .i64 T.ho, T.laps.v, T.of.v, T.in'.v, T.may.v, T.clob.v, T.sv.v, T.ar.v, l]
noncomputable def suL (c : Nat) : AV := match c with | 0 => nl | c + 1 => .sl 2 0 (c + 1) false 1
noncomputable def suN (T : TB) (c : Nat) (z : Nat → Int) : List Blk := match c with
  | 0 => [.var T.c, .var [.ptr 0 0 0 0]]
  | c + 1 => [.var T.c, .var [.ptr 0 0 0 0], .row 1 (c + 1) (fun j => [iV (z j)])]
noncomputable def svQ (T : TB) (v : Nat) : Bool := svB T (T.pr v) (T.pa v) (T.pw v)
noncomputable def svP (T : TB) (v : Nat) : Bool := decide (v < T.pn) && svQ T v
noncomputable def suO (T : TB) (c : Nat) (x : Int) (z : Nat → Int) : Prop := FrE XV.P (frH XV.P 77 0 [(0, .ptr 0 0 0 0), (1, .ptr 1 0 0 0), (2, suL c), (9, T.pl), (10, iV T.pn), (11, iV x)]) (clM (suN T c z)) (.ret (.tup [])) [.var (T.ck (setS (svP T)))]
section
variable (T : TB) (hn : T.pn ≤ 65536) (hs : SvI T)
include hn hs
theorem ifT_ok (r a w : Int) : CtE XV.P 195 [T.sv.v, fnX T r a w] [] (.ret (iV (ixB (wiP T (siz T) r a w) T.sv.n 0))) [] :=
  ct_wk (.cons (wkv_lst rfl id fun i hi => .of (hs.2 i hi).1) (.cons (.refl _) .nil)) (if_ok T T.sv.nb T.sv.f T.sv.n (siz T) (fun i hi => (hs.2 i hi).2) r a w hs.1)
theorem cfT_ok (r a w : Int) : CtE XV.P 93 [T.sv.v, fnX T r a w] [] (.ret (.bool (svB T r a w))) [] :=
  vc0 (c := cCf T) (n := 20000) (by kernel_rfl) (cl (ifT_ok T hn hs r a w) (endI (wkE (.ret (.bool (svB T r a w)))))) (by kernel_rfl)
theorem su_lp (m c : Nat) (x : Int) (z : Nat → Int) (hx : x = ((T.pn - m : Nat) : Int)) (hm : m ≤ T.pn) (hc : c ≤ T.pn - m) (hM : ∀ v, mem z c v = (decide (v < T.pn - m) && svQ T v)) : suO T c x z := by
  have ex : Int.toNat x = T.pn - m := by omega
  have step : ∀ (c' : Nat) (z' : Nat → Int), x < (T.pn : Int) → c' ≤ T.pn - m + 1 → (∀ v, mem z' c' v = (decide (v < T.pn - m + 1) && svQ T v)) → suO T c' (wr .i64 (x + 1)) z' := fun c' z' h h2 h3 =>
    su_lp (m - 1) c' (wr .i64 (x + 1)) z' (by rw [wr_id] <;> omega) (by omega) (by omega) (by rw [show T.pn - (m - 1) = T.pn - m + 1 by omega]; exact h3)
  have stepT : x < (T.pn : Int) → svB T (T.pr x.toNat) (T.pa x.toNat) (T.pw x.toNat) = true → suO T (c + 1) (wr .i64 (x + 1)) (zApp z c x) := fun h hl => step (c + 1) (zApp z c x) h (by omega) fun v => by
    rw [ex] at hl
    rw [hx, mem_app (by omega), hM]
    by_cases e : v = T.pn - m
    · subst e
      have : svQ T (T.pn - m) = true := hl
      simp [this]
    · have e2 : decide (v < T.pn - m + 1) = decide (v < T.pn - m) := by rw [decide_eq_decide]; omega
      rw [e2, decide_eq_false e, Bool.or_false]
  have stepF : x < (T.pn : Int) → svB T (T.pr x.toNat) (T.pa x.toNat) (T.pw x.toNat) = false → ∀ z' : Nat → Int, (∀ j, j < c → z' j = z j) → suO T c (wr .i64 (x + 1)) z' := fun h hl z' hz => step c z' h (by omega) fun v => by
    rw [ex] at hl
    rw [mem_ext hz, hM]
    by_cases e : v = T.pn - m
    · subst e
      have : svQ T (T.pn - m) = false := hl
      simp [this]
    · have e2 : decide (v < T.pn - m + 1) = decide (v < T.pn - m) := by rw [decide_eq_decide]; omega
      rw [e2]
  have eM : (T.pn : Int) ≤ x → mem z c = svP T := fun h => by
    have : m = 0 := by omega
    subst this
    funext v
    rw [hM]
    rfl
  have cf := cfT_ok T hn hs (T.pr x.toNat) (T.pa x.toNat) (T.pw x.toNat)
  have z0 : (fun i => z (0 + i)) = z := by funext i; rw [Nat.zero_add]
  have capp : ∀ {a : Nat}, a ≤ 65537 → (true && (true && (Nat.ble (a + 1 + 1) 16777216 && (Nat.ble (0 + (a + 1)) (a + 1) && true)))) = true := fun h => by simp; omega
  have hin : x < (T.pn : Int) → (inI x T.pn && true) = true := fun h => by simp; omega
  cases c with
  | zero =>
    exact vlN (c := cSu T) (n := 20000) (by kernel_rfl) (by kernel_rfl) (by simp [suN])
      (ifs (c := ltI x (.ofNat T.pn)) (fun h => by
        have h : x < (T.pn : Int) := by simpa using h
        exact ck (hin h) (cl cf (ifs (c := svB T (T.pr x.toNat) (T.pa x.toNat) (T.pw x.toNat)) (fun hl => lp (stepT h hl)) (fun hl => lp (stepF h hl z fun _ _ => rfl)))))
      (fun h => by
        have h : (T.pn : Int) ≤ x := by simpa using h
        have e0 : mem (fun _ => 0) 0 = svP T := by rw [← eM h]; exact mem_ext fun j hj => by omega
        have wb : WkB (.var (T.ck (setS (mem (fun _ => 0) 0)))) (.var (T.ck (setS (svP T)))) := by rw [e0]; exact wkB _
        exact cl of_nil (endB1 (wkE (.ret (.tup []))) wb)))
      (by kernel_rfl)
  | succ c =>
    exact vlN (c := cSu T) (n := 20000) (by kernel_rfl) (by kernel_rfl) (by simp [suN])
      (ifs (c := ltI x (.ofNat T.pn)) (fun h => by
        have h : x < (T.pn : Int) := by simpa using h
        exact ck (hin h) (cl cf (ifs (c := svB T (T.pr x.toNat) (T.pa x.toNat) (T.pw x.toNat)) (fun hl => ck (capp (a := c) (by omega)) (lp (stepT h hl))) (fun hl => lp (stepF h hl z fun _ _ => rfl)))))
      (fun h => by
        have h : (T.pn : Int) ≤ x := by simpa using h
        have e0 : mem (fun i => z (0 + i)) (c + 1) = svP T := by rw [z0]; exact eM h
        have p : 0 + (c + 1) ≤ c + 1 := by omega
        have wb : WkB (.var (T.ck (setS (mem (fun i => z (0 + i)) (c + 1))))) (.var (T.ck (setS (svP T)))) := by rw [e0]; exact wkB _
        exact cl1 p (of_ok false false (c + 1) (fun i => z (0 + i)) (by omega)) (endB1 (wkE (.ret (.tup []))) wb)))
      (by kernel_rfl)
termination_by m
decreasing_by omega
theorem surviving_ok : CtE XV.P 77 [.ptr 0 0 0 0] [.var T.c] (.ret (.tup [])) [.var (T.ck (setS (svP T)))] :=
  vcN (c := cSu T) (n := 20000) (by kernel_rfl) (by kernel_rfl) (by simp) (lp (su_lp T hn hs T.pn 0 0 (fun _ => 0) (by simp) (Nat.le_refl _) (Nat.zero_le _) (fun v => by rw [mem_zero]; simp))) (by kernel_rfl)
end
end Go.Proofs.YtpflobodmglmaaaGreat
set_option linter.unusedVariables false
set_option maxHeartbeats 1000000
namespace Go.Proofs.YtpflobodmglmaaaGreat
noncomputable def nf0 : AV := .lst true false 0 (rowL [])
noncomputable def opL : List AV := [sG, .str ⟨#[]⟩]
noncomputable def u1 (f : Bool) : AV := .lst false f 1 (rowL [opL])
noncomputable def u2 (f : Bool) : AV := .lst false f 2 (rowL [opL, opL])
noncomputable def r0L (f : Bool) (s : ByteArray) : AV := .lst false f 1 (rowL [[.str s]])
theorem cs_nil : CtE XV.P 148 [nl] [] (.ret nf0) [] :=
  vc0 (c := c00) (n := 20000) (by kernel_rfl) (endI (wk_ret (wkv_lst (f := true) (f' := false) (nb := true) (nb' := true) (n := 0) (g := rowL []) (g' := rowL []) rfl (fun h => by cases h) fun i hi => by omega))) (by kernel_rfl)
theorem ct_end {P : Program} {f : Nat} {args : List AV} {N0 N : List Blk} {e e' : AEnd} (h : WkE e e') (hc : CtE P f args N0 e N) : CtE P f args N0 e' N := fun bl bl' => by
  obtain ⟨h1, h2, h3⟩ := hc bl bl'
  exact ⟨h1, h2, fun G w vs c0s cs hs hw hv hb => by
    obtain ⟨G', w', cs', E, m', a1, a2, a3, a4, a5⟩ := h3 G w vs c0s cs hs hw hv hb
    exact ⟨G', w', cs', E, m', a1, a2, a3, h _ _ a4, a5⟩⟩
theorem cs_one (s : ByteArray) : CtE XV.P 148 [r0L true s] [] (.ret (r0L false s)) [] :=
  ct_end (wk_ret (wkv_lst rfl id fun i hi => .of (by rw [show i = 0 by omega]; rfl))) (ct_wk (.cons (wkv_lst rfl id fun i hi => .of (by rw [show i = 0 by omega]; rfl)) .nil) (clone1 true 0 (fun _ => s) (by omega)))
noncomputable def oprs (f : Bool) (n : Nat) : AV := .lst false f n (fun _ => opL)
theorem co_n (n : Nat) (hn : n ≤ 16777215) : CtE XV.P 149 [oprs true (n + 1)] [] (.ret (oprs false (n + 1))) [] :=
  have w : WkE (.ret (.lst false false (0 + (n + 1)) (fun i => opL))) (.ret (oprs false (n + 1))) := wkEq (by simp [oprs])
  vc0 (c := c00) (n := 20000) (by kernel_rfl) (ck (c := true && (true && (Nat.ble (0 + (n + 1)) 16777216 && true))) (by simp; omega) (endI1 (p := 0 + (0 + (n + 1)) ≤ 0 + (n + 1)) (by omega) w)) (by kernel_rfl)
theorem co_one : CtE XV.P 149 [u1 true] [] (.ret (u1 false)) [] :=
  ct_end (wk_ret (wkv_lst rfl id fun i hi => .of (by rw [show i = 0 by omega]; rfl))) (ct_wk (.cons (wkv_lst rfl id fun i hi => .of (by rw [show i = 0 by omega]; rfl)) .nil) (co_n 0 (by omega)))
theorem u2_at {i : Nat} (hi : i < 2) : rowL [opL, opL] i = opL := by
  rcases (show i = 0 ∨ i = 1 by omega) with e | e <;> rw [e] <;> rfl
theorem co_two : CtE XV.P 149 [u2 true] [] (.ret (u2 false)) [] :=
  ct_end (wk_ret (wkv_lst rfl id fun i hi => .of (u2_at hi).symm)) (ct_wk (.cons (wkv_lst rfl id fun i hi => .of (u2_at hi)) .nil) (co_n 1 (by omega)))
noncomputable def spId : CSp := { ids := [], res := fun args _ => match args with | [.lst nb _ n g] => (.ret (.lst nb false n g), []) | _ => (.ret .undef, []) }
noncomputable def cCo : Cfg := ⟨[(145, spId), (148, spId), (149, spId)], []⟩
noncomputable def opD (a : ByteArray) (u : AV) : List AV := [.str a, sG, .str ⟨#[]⟩, u, iV (-1), nf0]
/-- A small machine's own copy. -/
noncomputable def cpL (n : Nat) (args saved : AV) : List AV := [.str ⟨#[109]⟩, .lst false false n regR, .lst false false 1 (rowL [[sG, nmV n]]), .lst false false 3 (rowL [opD ⟨#[97, 100, 100]⟩ (oprs false 2), opD ⟨#[110, 111, 116]⟩ (oprs false 1), opD ⟨#[100, 105, 118]⟩ (oprs false 2)]), args, .str (nm 0), saved, iV 100]
/-! The end that an evaluation comes to, by the same evaluator. -/
noncomputable def kA : K AEnd := fun e _ M => cnE (rhoK 0) (zK 0) M e
noncomputable def baseA (c : Cfg) (j : Job AEnd) : AEnd := match j with
  | .call f args dfd bl M k => (match clOf c f dfd args with
    | some s => k (rnE 0 [] (s.res (args.map (cn (rhoI []) (zL [] (args.flatMap (rch M 4))) 4 M)) []).1) bl (updM M [] (args.flatMap (rch M 4)) [])
    | none => .ret .undef)
  | _ => .ret .undef
noncomputable def endA (c : Cfg) (n : Nat) (j : Job AEnd) : AEnd := stepJ XV (fun _ => .ret .undef) (runV c XV (fun _ => .ret .undef) (baseA c) n) j
noncomputable def pull (e : AEnd) (k : Nat) : Nat → List AV := match e with
  | .ret (.agg l) => (match l[k]? with | some (.lst _ _ _ g) => g | _ => fun _ => [])
  | _ => fun _ => []
noncomputable def cpA (m : Nat) (args saved : AV) : AEnd := endA cCo 20000 (.call 70 [.agg (smL (m + 3) regR nmR nl args saved)] false .run (clM []) kA)
noncomputable def cpX (m : Nat) (g h : Nat → List AV) (args saved : AV) : AEnd := .ret (.agg [.str ⟨#[109]⟩, .lst false false (m + 3) regR, .lst false false 1 g, .lst false false 3 h, args, .str (nm 0), saved, iV 100])
noncomputable def pcl (l : List AV) (k : Nat) : Nat → List AV := match l[k]? with | some (.lst _ _ _ g) => g | _ => fun _ => []
noncomputable def opXx (a : ByteArray) (n : Nat) (g g' : Nat → List AV) : List AV := [.str a, sG, .str ⟨#[]⟩, .lst false false n g, iV (-1), .lst true false 0 g']
theorem op_wk (l : List AV) (a : ByteArray) (n : Nat) (hn : n ≤ 2) (e : l = opXx a n (pcl l 3) (pcl l 5)) (g0 : pcl l 3 0 = opL) (g1 : n = 2 → pcl l 3 1 = opL) : WkL l (opD a (oprs false n)) := by
  rw [e]
  exact .cons (.refl _) (.cons (.refl _) (.cons (.refl _) (.cons (wkv_lst rfl id fun i hi => .of (by
    rcases (show i = 0 ∨ (n = 2 ∧ i = 1) by omega) with e | ⟨e2, e⟩
    · rw [e]; exact g0
    · rw [e]; exact g1 e2)) (.cons (.refl _) (.cons (wkv_lst rfl id fun i hi => by omega) .nil)))))
theorem cp_wk (m : Nat) (g h : Nat → List AV) (args saved : AV) (h0 : g 0 = [sG, nmV (m + 3)]) (h1 : WkL (h 0) (opD ⟨#[97, 100, 100]⟩ (oprs false 2))) (h2 : WkL (h 1) (opD ⟨#[110, 111, 116]⟩ (oprs false 1))) (h3 : WkL (h 2) (opD ⟨#[100, 105, 118]⟩ (oprs false 2))) : WkE (cpX m g h args saved) (.ret (.agg (cpL (m + 3) args saved))) :=
  wk_ret (wkv_agg (.cons (.refl _) (.cons (.refl _) (.cons (wkv_lst rfl id fun i hi => .of (by rw [show i = 0 by omega, h0]; rfl)) (.cons (wkv_lst rfl id fun i hi => by
    rcases (show i = 0 ∨ i = 1 ∨ i = 2 by omega) with e | e | e
    · rw [e]; exact h1
    · rw [e]; exact h2
    · rw [e]; exact h3) (.refl _))))))
/-- What the calls are given. -/
noncomputable def baseL (c : Cfg) (j : Job (List (List AV))) : List (List AV) := match j with
  | .call f args dfd bl M k => (match clOf c f dfd args with
    | some s => args.map (cn (rhoI []) (zL [] (args.flatMap (rch M 4))) 4 M) :: k (rnE 0 [] (s.res (args.map (cn (rhoI []) (zL [] (args.flatMap (rch M 4))) 4 M)) []).1) bl (updM M [] (args.flatMap (rch M 4)) [])
    | none => [])
  | _ => []
noncomputable def callsA (m : Nat) (args saved : AV) : List (List AV) := stepJ XV (fun _ => []) (runV cCo XV (fun _ => []) (baseL cCo) 20000) (.call 70 [.agg (smL (m + 3) regR nmR nl args saved)] false .run (clM []) (fun _ _ _ => []))
noncomputable def gq (l : List (List AV)) (j : Nat) : Nat → List AV := match l[j]? with | some [.lst _ _ _ g] => g | _ => fun _ => []
theorem co_g (n : Nat) (hn : n ≤ 16777215) (G : Nat → List AV) (hG : ∀ i, i < n + 1 → G i = opL) : CtE XV.P 149 [.lst false true (n + 1) G] [] (.ret (.lst false false (n + 1) G)) [] :=
  ct_end (wk_ret (wkv_lst rfl id fun i hi => .of (hG i hi).symm)) (ct_wk (.cons (wkv_lst rfl id fun i hi => .of (hG i hi)) .nil) (co_n n hn))
theorem co_1 (G : Nat → List AV) (h0 : G 0 = opL) : CtE XV.P 149 [.lst false true 1 G] [] (.ret (.lst false false 1 G)) [] :=
  co_g 0 (by omega) G fun i hi => by rw [show i = 0 by omega]; exact h0
theorem co_2 (G : Nat → List AV) (h0 : G 0 = opL) (h1 : G 1 = opL) : CtE XV.P 149 [.lst false true 2 G] [] (.ret (.lst false false 2 G)) [] :=
  co_g 1 (by omega) G fun i hi => by
    rcases (show i = 0 ∨ i = 1 by omega) with e | e <;> rw [e]
    · exact h0
    · exact h1
theorem cs_nilg (G : Nat → List AV) : CtE XV.P 148 [.lst true true 0 G] [] (.ret (.lst true false 0 G)) [] :=
  ct_end (wk_ret (wkv_lst rfl id fun i hi => by omega)) (ct_wk (.cons (wkv_lst rfl id fun i hi => by omega) .nil) cs_nil)
theorem copied00 (m : Nat) (hm : m + 3 ≤ 40) : CtE XV.P 70 [.agg (smL (m + 3) regR nmR nl (r0L true (nm 0)) nl)] [] (.ret (.agg (cpL (m + 3) (r0L false (nm 0)) nf0))) [] :=
  have w := cp_wk m (pull (cpA m (r0L true (nm 0)) nl) 2) (pull (cpA m (r0L true (nm 0)) nl) 3) (r0L false (nm 0)) nf0 (by kernel_rfl) (op_wk (pull (cpA m (r0L true (nm 0)) nl) 3 0) ⟨#[97, 100, 100]⟩ 2 (by omega) (by kernel_rfl) (by kernel_rfl) (fun _ => by kernel_rfl)) (op_wk (pull (cpA m (r0L true (nm 0)) nl) 3 1) ⟨#[110, 111, 116]⟩ 1 (by omega) (by kernel_rfl) (by kernel_rfl) (fun h => by cases h)) (op_wk (pull (cpA m (r0L true (nm 0)) nl) 3 2) ⟨#[100, 105, 118]⟩ 2 (by omega) (by kernel_rfl) (by kernel_rfl) (fun _ => by kernel_rfl))
  vc0 (c := cCo) (n := 20000) (by kernel_rfl)
    (cl (regs_ok (m + 2) (by omega)) (cl (clone1 false (m + 2) nm (by omega)) (cl (co_2 (gq (callsA m (r0L true (nm 0)) nl) 2) (by kernel_rfl) (by kernel_rfl)) (cl (cs_nilg (gq (callsA m (r0L true (nm 0)) nl) 3)) (cl (co_1 (gq (callsA m (r0L true (nm 0)) nl) 4) (by kernel_rfl)) (cl (cs_nilg (gq (callsA m (r0L true (nm 0)) nl) 5)) (cl (co_2 (gq (callsA m (r0L true (nm 0)) nl) 6) (by kernel_rfl) (by kernel_rfl)) (cl (cs_nilg (gq (callsA m (r0L true (nm 0)) nl) 7)) (cl (cs_one (nm 0)) (cl cs_nil (endL (p := (1 ≤ 1 ∧ (3 ≤ 3 ∧ True))) ⟨by omega, by omega, trivial⟩ w)))))))))))
    (by kernel_rfl)
theorem copied01 (m s : Nat) (hm : m + 3 ≤ 40) : CtE XV.P 70 [.agg (smL (m + 3) regR nmR nl (r0L true (nm 0)) (r0L true (nm s)))] [] (.ret (.agg (cpL (m + 3) (r0L false (nm 0)) (r0L false (nm s))))) [] :=
  have w := cp_wk m (pull (cpA m (r0L true (nm 0)) (r0L true (nm s))) 2) (pull (cpA m (r0L true (nm 0)) (r0L true (nm s))) 3) (r0L false (nm 0)) (r0L false (nm s)) (by kernel_rfl) (op_wk (pull (cpA m (r0L true (nm 0)) (r0L true (nm s))) 3 0) ⟨#[97, 100, 100]⟩ 2 (by omega) (by kernel_rfl) (by kernel_rfl) (fun _ => by kernel_rfl)) (op_wk (pull (cpA m (r0L true (nm 0)) (r0L true (nm s))) 3 1) ⟨#[110, 111, 116]⟩ 1 (by omega) (by kernel_rfl) (by kernel_rfl) (fun h => by cases h)) (op_wk (pull (cpA m (r0L true (nm 0)) (r0L true (nm s))) 3 2) ⟨#[100, 105, 118]⟩ 2 (by omega) (by kernel_rfl) (by kernel_rfl) (fun _ => by kernel_rfl))
  vc0 (c := cCo) (n := 20000) (by kernel_rfl)
    (cl (regs_ok (m + 2) (by omega)) (cl (clone1 false (m + 2) nm (by omega)) (cl (co_2 (gq (callsA m (r0L true (nm 0)) (r0L true (nm s))) 2) (by kernel_rfl) (by kernel_rfl)) (cl (cs_nilg (gq (callsA m (r0L true (nm 0)) (r0L true (nm s))) 3)) (cl (co_1 (gq (callsA m (r0L true (nm 0)) (r0L true (nm s))) 4) (by kernel_rfl)) (cl (cs_nilg (gq (callsA m (r0L true (nm 0)) (r0L true (nm s))) 5)) (cl (co_2 (gq (callsA m (r0L true (nm 0)) (r0L true (nm s))) 6) (by kernel_rfl) (by kernel_rfl)) (cl (cs_nilg (gq (callsA m (r0L true (nm 0)) (r0L true (nm s))) 7)) (cl (cs_one (nm 0)) (cl (cs_one (nm s)) (endL (p := (1 ≤ 1 ∧ (3 ≤ 3 ∧ True))) ⟨by omega, by omega, trivial⟩ w)))))))))))
    (by kernel_rfl)
end Go.Proofs.YtpflobodmglmaaaGreat
set_option linter.unusedVariables false
set_option maxHeartbeats 1000000
namespace Go.Proofs.YtpflobodmglmaaaGreat
theorem endV1 {p : Prop} {x y : AEnd} {b b' : Blk} (h0 : p) (h : WkE x y) (hb : WkB b b') : (p ∧ True) ∧ WkE x y ∧ ((True ∧ WkB b b') ∧ True) := ⟨⟨h0, trivial⟩, h, ⟨trivial, hb⟩, trivial⟩
theorem nr_lp (T : TB) (nb f : Bool) (n : Nat) (g : Nat → ByteArray) (hn : n ≤ 16777215) (q : Nat) (x : Int) (G : Nat → List AV) (hx : x = ((q + 1 : Nat) : Int)) (hq : q + 1 ≤ n) (hG : ∀ j, j < q + 1 → G j = nuZ T.hr g j) :
    FrE XV.P (frH XV.P 73 0 [(0, .ptr 0 0 0 0), (1, strs nb f n g), (5, .sl 1 0 (q + 1) false 1), (8, strs nb f n g), (9, iV n), (10, iV x)]) (clM [.var T.c, .row 1 (q + 1) G]) (nuE T.hr g n) [.var T.c] :=
  vlN (c := cNs) (n := 4000) (by kernel_rfl) (by kernel_rfl) (by simp)
    (ifs (c := ltI x (.ofNat n)) (fun h1 => by
      have h1 : x < (n : Int) := by simpa using h1
      exact ck (c := inI x n && true) (by simp; omega) (ck (c := true && (true && (Nat.ble (q + 1 + 1) 16777216 && (Nat.ble (0 + (q + 1)) (q + 1) && true)))) (by simp; omega)
        (lp (nr_lp T nb f n g hn (q + 1) (wr .i64 (x + 1)) (app1 (q + 1) G [iV (giV (T.hr (g (Int.toNat x))))]) (by rw [wr_id] <;> omega) (by omega) (app1_eq hG (by subst hx; rfl) fun _ => rfl))))) (fun h1 => by
      have h1 : (n : Int) ≤ x := by simpa using h1
      have e : q + 1 = n := by omega
      exact endV1 (p := 0 + (q + 1) ≤ q + 1) (by omega) (ns_end e hG) (wkB (.var T.c))))
    (by kernel_rfl)
termination_by n - q
decreasing_by omega
theorem numbersR_ok (T : TB) (nb f : Bool) (n : Nat) (g : Nat → ByteArray) (hn : n ≤ 16777215) : CtE XV.P 73 [.ptr 0 0 0 0, strs nb f n g] [.var T.c] (nuE T.hr g n) [.var T.c] :=
  vcN (c := cNs) (n := 4000) (by kernel_rfl) (by kernel_rfl) (by simp)
    (ifs (c := ltI 0 (.ofNat n)) (fun h1 => by
      have h1 : 0 < (n : Int) := by simpa using h1
      exact ck (c := inI 0 n && true) (by simp; omega) (lp (nr_lp T nb f n g hn 0 1 (fun _ => nuZ T.hr g 0) rfl (by omega) (fun j hj => by rw [show j = 0 by omega])))) (fun h1 => by
      have h1 : (n : Int) ≤ 0 := by simpa using h1
      have w : WkE (.ret nl) (nuE T.hr g n) := by
        obtain rfl : n = 0 := by omega
        exact wk_ret (wkv_lst rfl (fun e => by cases e) fun i hi => by omega)
      exact endB1 w (wkB (.var T.c))))
    (by kernel_rfl)
end Go.Proofs.YtpflobodmglmaaaGreat
