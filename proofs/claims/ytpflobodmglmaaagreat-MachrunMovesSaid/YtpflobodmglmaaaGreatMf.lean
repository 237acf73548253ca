/- Several texts joined. No condition. -/
import Derived.Test.YtpflobodmglmaaaGreatMep
set_option linter.unusedVariables false
namespace Go.Proofs.YtpflobodmglmaaaGreat
/-- How many words there are without noughts at the end. -/
noncomputable def trimN (z : Nat → Int) : Nat → Nat
  | 0 => 0
  | n + 1 => if z n = 0 then trimN z n else n + 1
noncomputable def u64s (nb f : Bool) (n : Nat) (z : Nat → Int) : AV := .lst nb f n (fun i => [.int .u64 (z i)])
noncomputable def trR (nb : Bool) (m : Nat) (z : Nat → Int) : AEnd := .ret (.agg [u64s nb true m z])
noncomputable def cTr : Cfg := ⟨[], [(153, 0, { live := [0, 2, 3], ids := [.v 2] })]⟩
theorem trim_end (nb : Bool) (m : Nat) (z : Nat → Int) (x : Int) (hx : x = m) : WkE (.ret (.agg [.lst nb true (Int.toNat (x - 0)) (fun i => [.int .u64 (z (0 + i))])])) (trR nb m z) := wkEq (by
  subst hx
  simp [trR, u64s])
theorem trim_lp (nb f : Bool) (n : Nat) (z : Nat → Int) (m : Nat) (hn : n ≤ 16777216) (k : Nat) (x : Int) (hx : x = k) (hk : k ≤ n) (hm : trimN z k = m) : FrE XV.P (frH XV.P 153 0 [(0, u64s nb f n z), (2, .ptr 0 0 0 0), (3, .int .i64 x)]) (clM [.var [nl]]) (trR nb m z) [] :=
  vl0 (c := cTr) (n := 4000) (by kernel_rfl)
    (ifs (c := ltI 0 x) (fun h => by
      have h : 0 < x := by simpa using h
      have hw : wr .i64 (x - 1) = ((k - 1 : Nat) : Int) := by rw [wr_id] <;> omega
      exact ck (c := inI (wr .i64 (x - 1)) n && true) (by rw [hw]; simp; omega) (ifs (c := eqI (z (Int.toNat (wr .i64 (x - 1)))) 0) (fun h2 => lp (trim_lp nb f n z m hn (k - 1) (wr .i64 (x - 1)) hw (by omega) (by
        rw [hw] at h2
        have h2 : z (k - 1) = 0 := by simpa using h2
        rw [← hm, show k = k - 1 + 1 by omega]
        simp [trimN, h2]))) (fun h2 => ck (c := (leI 0 0 && (leI 0 x && (eqI x x && leI x (.ofNat n)))) && (true && (Nat.beq (Int.toNat (x - 0)) 0 || true))) (by simp; omega) (endI (trim_end nb m z x (by
        rw [hw] at h2
        have h2 : z (k - 1) ≠ 0 := by simpa using h2
        rw [← hm, show k = k - 1 + 1 by omega]
        simp [trimN, h2]
        omega))))))
      (fun h => ck (c := (leI 0 0 && (leI 0 x && (eqI x x && leI x (.ofNat n)))) && (true && (Nat.beq (Int.toNat (x - 0)) 0 || true))) (by simp; omega) (endI (trim_end nb m z x (by
        have h : x ≤ 0 := by simpa using h
        have : k = 0 := by omega
        subst this
        rw [← hm]
        exact hx)))))
    (by kernel_rfl)
termination_by k
decreasing_by omega
theorem trimmed_ok (nb f : Bool) (n : Nat) (z : Nat → Int) (hn : n ≤ 16777216) : CtE XV.P 153 [u64s nb f n z] [] (trR nb (trimN z n) z) [] :=
  vc0 (c := cTr) (n := 4000) (by kernel_rfl) (lp (trim_lp nb f n z (trimN z n) hn n (.ofNat n) rfl (Nat.le_refl _) rfl)) (by kernel_rfl)
end Go.Proofs.YtpflobodmglmaaaGreat
set_option linter.unusedVariables false
set_option maxHeartbeats 1000000
namespace Go.Proofs.YtpflobodmglmaaaGreat
noncomputable def digs : List UInt8 := [48, 49, 50, 51, 52, 53, 54, 55, 56, 57]
noncomputable def dA (i : Int) : ByteArray := ⟨(List.toArray (List.take (Int.toNat ((wr .i64 ((wr .i64 (Int.tdiv i 10)) + 1)) - (wr .i64 (Int.tdiv i 10)))) (List.drop (Int.toNat (wr .i64 (Int.tdiv i 10))) digs)))⟩
noncomputable def dB (i : Int) : ByteArray := ⟨(List.toArray (List.take (Int.toNat ((wr .i64 ((Int.tmod i 10) + 1)) - (Int.tmod i 10))) (List.drop (Int.toNat (Int.tmod i 10)) digs)))⟩
noncomputable def rA (i : Int) : ByteArray := ⟨(List.toArray ([114] ++ (dA i).data.toList))⟩
noncomputable def nX (i : Int) : ByteArray := ⟨(List.toArray ((rA i).data.toList ++ (dB i).data.toList))⟩
noncomputable def cA (i : Int) : Bool := (leI 0 (wr .i64 (Int.tdiv i 10))) && ((leI (wr .i64 (Int.tdiv i 10)) (wr .i64 ((wr .i64 (Int.tdiv i 10)) + 1))) && (leI (wr .i64 ((wr .i64 (Int.tdiv i 10)) + 1)) 10))
noncomputable def cB (i : Int) : Bool := Nat.ble (1 + (dA i).data.toList.length) 16777216
noncomputable def cC (i : Int) : Bool := (leI 0 (Int.tmod i 10)) && ((leI (Int.tmod i 10) (wr .i64 ((Int.tmod i 10) + 1))) && (leI (wr .i64 ((Int.tmod i 10) + 1)) 10))
noncomputable def cD (i : Int) : Bool := Nat.ble ((rA i).data.toList.length + (dB i).data.toList.length) 16777216
/-- The i-th register's name. -/
noncomputable def nm (i : Nat) : ByteArray := ⟨#[114, UInt8.ofNat (48 + i / 10), UInt8.ofNat (48 + i % 10)]⟩
theorem nX_all : ((List.range 40).all fun i => cA i && (cB i && (cC i && (cD i && beqU (nX i).data.toList (nm i).data.toList)))) = true := by kernel_rfl
theorem bytes_ext {a b : ByteArray} (h : beqU a.data.toList b.data.toList = true) : a = b := by
  rw [beqU_eq] at h
  have h2 := Array.toList_inj.1 (eq_of_beq h)
  cases a
  cases b
  exact congrArg _ h2
theorem nX_at (i : Nat) (h : i < 40) : cA i = true ∧ cB i = true ∧ cC i = true ∧ cD i = true ∧ nX i = nm i := by
  have := all_lt nX_all i h
  simp only [Bool.and_eq_true] at this
  exact ⟨this.1, this.2.1, this.2.2.1, this.2.2.2.1, bytes_ext this.2.2.2.2⟩
noncomputable def sG : AV := .str ⟨#[103]⟩
noncomputable def sE : AV := .str ⟨#[]⟩
noncomputable def regR (j : Nat) : List AV := [.str (nm j), iV 8, iV 0, nl]
noncomputable def nmR (j : Nat) : List AV := [.str (nm j)]
noncomputable def cellR (i : Int) : List AV := [.str (nX i), iV 8, iV 0, nl]
noncomputable def opC (nme : AV) (uses clob : AV) : List AV := [nme, sG, sE, uses, iV (-1), clob]
noncomputable def us2 : AV := .lst false true 2 (rowL [[sG, sE], [sG, sE]])
noncomputable def us1 : AV := .lst false true 1 (rowL [[sG, sE]])
noncomputable def smOps (clob : AV) : AV := .lst false true 3 (rowL [opC (.str ⟨#[97, 100, 100]⟩) us2 clob, opC (.str ⟨#[110, 111, 116]⟩) us1 nl, opC (.str ⟨#[100, 105, 118]⟩) us2 nl])
noncomputable def smCls (n : Nat) (g : Nat → List AV) : AV := .lst false true 1 (rowL [[sG, .lst false false n g]])
/-- A small machine: its registers, what its first operation destroys, its arguments, what is saved. -/
noncomputable def smL (n : Nat) (gR gN : Nat → List AV) (clob args saved : AV) : List AV := [.str ⟨#[109]⟩, .lst false false n gR, smCls n gN, smOps clob, args, .str (nm 0), saved, iV 100]
noncomputable def ar0 : AV := .lst false true 1 (rowL [nmR 0])
noncomputable def smV (n : Nat) : AEnd := .ret (.agg (smL n regR nmR nl ar0 nl))
noncomputable def smM (q : Nat) (gR gN : Nat → List AV) : List Blk := [.var [sE, nl, nl, nl, nl, sE, nl, iV 0], .var [.str ⟨#[109]⟩, .sl 3 0 (q + 1) false 4, nl, nl, nl, sE, nl, iV 100], .var [sG, .sl 4 0 (q + 1) false 1], .row 4 (q + 1) gR, .row 1 (q + 1) gN]
noncomputable def cSm : Cfg := ⟨[], [(22, 0, { live := [0, 2, 3, 4, 5], ids := [.v 2, .v 3, .v 4, .c 1 1, .c 2 1], ent := false })]⟩
theorem sm_end (n : Nat) (gR gN : Nat → List AV) (h1 : ∀ j, j < n → gR j = regR j) (h2 : ∀ j, j < n → gN j = nmR j) : WkE (.ret (.agg (smL n (fun i => (gR (0 + i)).map frz0) (fun i => (gN (0 + i)).map frz0) nl ar0 nl))) (smV n) :=
  wk_ret (wkv_agg (.cons (.refl _) (.cons (wkv_lst rfl id fun i hi => .of (by rw [Nat.zero_add, h1 i hi]; rfl)) (.cons (wkv_lst rfl id fun i hi => by
    cases i with
    | zero => exact .cons (.refl _) (.cons (wkv_lst rfl id fun i hi => .of (by rw [Nat.zero_add, h2 i hi]; rfl)) .nil)
    | succ i => omega) (WkL.refl _)))))
theorem sm_lp (N : Nat) (n : Int) (hN : n = N) (hn : N ≤ 30) (q : Nat) (i : Int) (gR gN : Nat → List AV) (hi : i = ((q + 1 : Nat) : Int)) (hq : q + 1 ≤ N) (h1 : ∀ j, j < q + 1 → gR j = regR j) (h2 : ∀ j, j < q + 1 → gN j = nmR j) :
    FrE XV.P (frH XV.P 22 0 [(0, iV n), (2, .ptr 0 0 0 0), (3, .ptr 1 0 0 0), (4, .ptr 2 0 0 0), (5, iV i)]) (clM (smM q gR gN)) (smV N) [] :=
  vl0 (c := cSm) (n := 4000) (by kernel_rfl)
    (ifs (c := ltI i n) (fun h => by
      have h : i < n := by simpa using h
      obtain ⟨a1, a2, a3, a4, a5⟩ := nX_at (q + 1) (by omega)
      rw [← hi] at a1 a2 a3 a4 a5
      have hb : (true && (true && (Nat.ble (q + 1 + 1) 16777216 && (Nat.ble (0 + (q + 1)) (q + 1) && true)))) = true := by simp; omega
      exact ck (c := cA i) a1 (ck (c := cB i) a2 (ck (c := cC i) a3 (ck (c := cD i) a4 (ck hb (ck hb (lp (sm_lp N n hN hn (q + 1) (wr .i64 (i + 1)) (app1 (q + 1) gR (cellR i)) (app1 (q + 1) gN [.str (nX i)]) (by rw [wr_id] <;> omega) (by omega)
        (app1_eq h1 (by unfold cellR regR; rw [a5]) fun _ => rfl) (app1_eq h2 (by unfold nmR; rw [a5]) fun _ => rfl))))))))) (fun h => by
      have h : n ≤ i := by simpa using h
      have e : q + 1 = N := by omega
      have w : WkE (.ret (.agg (smL (q + 1) (fun i => (gR (0 + i)).map frz0) (fun i => (gN (0 + i)).map frz0) nl ar0 nl))) (smV N) := by rw [← e]; exact sm_end (q + 1) gR gN h1 h2
      exact endL (p := 0 + (q + 1) ≤ q + 1 ∧ 1 ≤ 1 ∧ 0 + (q + 1) ≤ q + 1 ∧ 3 ≤ 3 ∧ 2 ≤ 2 ∧ 1 ≤ 1 ∧ 2 ≤ 2 ∧ 1 ≤ 1 ∧ True) (by simp) w))
    (by kernel_rfl)
termination_by N - q
theorem small_ok (m : Nat) (hm : m < 30) : CtE XV.P 22 [iV (.ofNat (m + 1))] [] (smV (m + 1)) [] :=
  vc0 (c := cSm) (n := 4000) (by kernel_rfl) (lp (sm_lp (m + 1) (.ofNat (m + 1)) rfl hm 0 1 (fun _ => regR 0) (fun _ => nmR 0) rfl (by omega) (fun j hj => by rw [show j = 0 by omega]) (fun j hj => by rw [show j = 0 by omega]))) (by kernel_rfl)
end Go.Proofs.YtpflobodmglmaaaGreat
set_option linter.unusedVariables false
set_option maxHeartbeats 1000000
namespace Go.Proofs.YtpflobodmglmaaaGreat
noncomputable def strs (nb f : Bool) (n : Nat) (g : Nat → ByteArray) : AV := .lst nb f n (fun i => [.str (g i)])
noncomputable def strOf (l : List AV) : ByteArray := match l with | [.str s] => s | _ => ⟨#[]⟩
/-- The first place of a string, of m from k on; -1: there is none. -/
noncomputable def ixG (g : Nat → ByteArray) (s : ByteArray) : Nat → Nat → Int
  | 0, _ => -1
  | m + 1, k => if s = g k then (k : Int) else ixG g s m (k + 1)
theorem beqU_t (a b : ByteArray) : beqU a.data.toList b.data.toList = true ↔ a = b := by
  rw [beqU_eq]
  constructor
  · intro h
    have h2 := Array.toList_inj.1 (eq_of_beq h)
    cases a
    cases b
    exact congrArg _ h2
  · intro h; rw [h]; simp
theorem beqU_f (a b : ByteArray) : beqU a.data.toList b.data.toList = false ↔ a ≠ b := by
  rw [← Bool.not_eq_true, beqU_t]
noncomputable def cIx : Cfg := ⟨[], [(245, 0, { live := [0, 1, 7, 8], ids := [] })]⟩
theorem ix_lp (nb f : Bool) (n : Nat) (g : Nat → ByteArray) (s : ByteArray) (r : Int) (hn : n ≤ 16777216) (m k : Nat) (x : Int) (hx : x = k) (hk : k + m = n) (hr : ixG g s m k = r) :
    FrE XV.P (frH XV.P 245 0 [(0, strs nb f n g), (1, .str s), (7, iV n), (8, iV x)]) (clM []) (.ret (iV r)) [] :=
  vl0 (c := cIx) (n := 4000) (by kernel_rfl)
    (ifs (c := ltI x (.ofNat n)) (fun h => by
      have h : x < (n : Int) := by simpa using h
      obtain ⟨m, rfl⟩ : ∃ m', m = m' + 1 := ⟨m - 1, by omega⟩
      exact ck (c := inI x n && true) (by simp; omega) (ifs (c := beqU s.data.toList (g (Int.toNat x)).data.toList) (fun h2 => by
        have w : WkE (.ret (iV x)) (.ret (iV r)) := wkEq (by
          rw [beqU_t, hx] at h2
          have h2 : s = g k := h2
          rw [← hr, ixG, if_pos h2, hx])
        exact endI w) (fun h2 => lp (ix_lp nb f n g s r hn m (k + 1) (wr .i64 (x + 1)) (by rw [wr_id] <;> omega) (by omega) (by
          rw [beqU_f, hx] at h2
          have h2 : s ≠ g k := h2
          rw [← hr, ixG, if_neg h2]))))) (fun h => by
      have h : (n : Int) ≤ x := by simpa using h
      have w : WkE (.ret (iV (-1))) (.ret (iV r)) := wkEq (by
        obtain rfl : m = 0 := by omega
        rw [← hr, ixG])
      exact endI w))
    (by kernel_rfl)
termination_by m
theorem index_ok (nb f : Bool) (n : Nat) (g : Nat → ByteArray) (s : ByteArray) (hn : n ≤ 16777216) : CtE XV.P 245 [strs nb f n g, .str s] [] (.ret (iV (ixG g s n 0))) [] :=
  vc0 (c := cIx) (n := 4000) (by kernel_rfl) (lp (ix_lp nb f n g s _ hn n 0 0 rfl (by omega) rfl)) (by kernel_rfl)
noncomputable def spIx : CSp := { ids := [], res := fun args _ => match args with | [.lst _ _ n g, .str s] => (.ret (iV (ixG (fun i => strOf (g i)) s n 0)), []) | _ => (.ret .undef, []) }
theorem ixG_at (g : Nat → ByteArray) (s : ByteArray) : ∀ (m k j : Nat), k ≤ j → j < k + m → s = g j → (∀ i, i < j → s ≠ g i) → ixG g s m k = j
  | 0, k, j, h1, h2, _, _ => by omega
  | m + 1, k, j, h1, h2, h3, h4 => by
    unfold ixG
    by_cases e : k = j
    · subst e; rw [if_pos h3]
    · rw [if_neg (h4 k (by omega))]
      exact ixG_at g s m (k + 1) j (by omega) (by omega) h3 h4
theorem ixG_no (g : Nat → ByteArray) (s : ByteArray) : ∀ (m k : Nat), (∀ i, i < k + m → s ≠ g i) → ixG g s m k = -1
  | 0, k, _ => rfl
  | m + 1, k, h => by
    unfold ixG
    rw [if_neg (h k (by omega))]
    exact ixG_no g s m (k + 1) fun i hi => h i (by omega)
end Go.Proofs.YtpflobodmglmaaaGreat
set_option linter.unusedVariables false
set_option maxHeartbeats 1000000
namespace Go.Proofs.YtpflobodmglmaaaGreat
noncomputable def nmV (n : Nat) : AV := .lst false false n nmR
noncomputable def plV (n : Nat) : AV := .lst false false n (fun i => [iV i, iV 0, iV 8])
/-- Rows of names: what is destroyed, arguments, what is saved. -/
structure Fm where
  n : Nat
  cb : Bool
  cn : Nat
  cg : Nat → ByteArray
  ab : Bool
  af : Bool
  an : Nat
  ag : Nat → ByteArray
  sb : Bool
  sn : Nat
  sg : Nat → ByteArray
noncomputable def Fm.V (F : Fm) : List AV := smL F.n regR nmR (strs F.cb true F.cn F.cg) (strs F.ab F.af F.an F.ag) (strs F.sb true F.sn F.sg)
noncomputable def ckC (F : Fm) : AV := .cp (F.V ++ [nmV F.n, plV F.n])
theorem nm_inj_all : ((List.range 40).all fun i => (List.range 40).all fun j => Nat.beq i j || !beqU (nm i).data.toList (nm j).data.toList) = true := by kernel_rfl
theorem nm_inj {i j : Nat} (hi : i < 40) (hj : j < 40) (h : nm i = nm j) : i = j := by
  have := all_lt (all_lt nm_inj_all i hi) j hj
  simp only [Bool.or_eq_true, Nat.beq_eq, Bool.not_eq_true'] at this
  rcases this with e | e
  · exact e
  · rw [beqU_f] at e; exact absurd h e
theorem nm_ne_all : ((List.range 40).all fun i => !beqU ([103] : List UInt8) (nm i).data.toList) = true := by kernel_rfl
theorem nm_ne {i : Nat} (hi : i < 40) : (⟨#[103]⟩ : ByteArray) ≠ nm i := by
  have := all_lt nm_ne_all i hi
  simp only [Bool.not_eq_true'] at this
  exact (beqU_f ⟨#[103]⟩ (nm i)).1 this
theorem ix_nm {n j : Nat} (hn : n ≤ 40) (hj : j < n) : ixG nm (nm j) n 0 = j := ixG_at nm _ n 0 j (Nat.zero_le _) (by omega) rfl fun i hi h => by
  have := nm_inj (by omega) (by omega) h
  omega
theorem ix_g {n : Nat} (hn : n ≤ 40) : ixG nm ⟨#[103]⟩ n 0 = -1 := ixG_no nm _ n 0 fun i hi => nm_ne (by omega)
noncomputable def cCl : Cfg := ⟨[(245, spIx), (241, spT)], [(141, 3, { live := [0, 2, 3, 19, 20, 21, 60, 61, 62], ids := [.v 3] }), (141, 2, { live := [0, 2, 3, 19, 20, 21, 60, 61, 62], ids := [.v 3] })]⟩
noncomputable def named1 (s : ByteArray) : Bool := runJ (X0 Tryz.prog) (fun _ => false) 20000 (.call 241 [.str s] false .run (clM []) (fun e _ M => okC (.ret (.bool true)) e M))
theorem named_g : CtE XV.P 241 [sG] [] (.ret (.bool true)) [] := run_ct (X := X0 Tryz.prog) pok (ct0 _) (n := 20000) rfl (show named1 ⟨#[103]⟩ = true by kernel_rfl)
theorem named_all : ((List.range 40).all fun i => named1 (nm i)) = true := by kernel_rfl
theorem named_nm {i : Nat} (hi : i < 40) : CtE XV.P 241 [.str (nm i)] [] (.ret (.bool true)) [] := run_ct (X := X0 Tryz.prog) pok (ct0 _) (n := 20000) rfl (all_lt named_all i hi)
theorem ixc (n : Nat) (s : ByteArray) (hn : n ≤ 40) : CtE XV.P 245 [nmV n, .str s] [] (.ret (iV (ixG nm s n 0))) [] := index_ok false false n nm s (by omega)
theorem cls_lp (F : Fm) (h1 : 1 ≤ F.n) (h2 : F.n ≤ 40) (k : Nat) (x : Int) (hx : x = k) (hk : k ≤ F.n) :
    FrE XV.P (frH XV.P 141 1 [(0, ckC F), (2, iV 0), (3, .ptr 0 0 0 0), (19, smCls F.n nmR), (20, iV 1), (21, iV 0), (60, nmV F.n), (61, iV F.n), (62, iV x)]) (clM [.var [sG, nmV F.n]]) (.ret (.tup [])) [] :=
  vl0 (c := cCl) (n := 4000) (by kernel_rfl)
    (ifs (c := ltI x (.ofNat F.n)) (fun h => by
      have h : x < (F.n : Int) := by simpa using h
      have e : ixG nm (nm x.toNat) F.n 0 = x := by rw [ix_nm h2 (by omega)]; omega
      have e0 : ixG nm (nm (Int.toNat 0)) F.n 0 = 0 := ix_nm h2 (j := 0) (by omega)
      exact ck (c := inI x F.n && true) (by simp; omega) (cl (ixc F.n (nm x.toNat) h2) (ckN (c := !(!(ltI (ixG nm (nm x.toNat) F.n 0) 0))) (by rw [e]; simp; omega) (cl (ixc F.n (nm x.toNat) h2) (ck (c := eqI (ixG nm (nm x.toNat) F.n 0) x) (by rw [e]; simp)
        (ck (c := inI (ixG nm (nm x.toNat) F.n 0) F.n && true) (by rw [e]; simp; omega) (ck (c := inI 0 F.n && true) (by simp; omega) (cl (ixc F.n (nm (Int.toNat 0)) h2) (ckN (c := !(!(ltI (ixG nm (nm (Int.toNat 0)) F.n 0) 0))) (by rw [e0]; simp)
          (ck (c := inI (ixG nm (nm (Int.toNat 0)) F.n 0) F.n && true) (by rw [e0]; simp; omega) (lp (cls_lp F h1 h2 (k + 1) (wr .i64 (x + 1)) (by rw [wr_id] <;> omega) (by omega))))))))))))) (fun h => endI (wkE (.ret (.tup [])))))
    (by kernel_rfl)
termination_by F.n - k
decreasing_by omega
theorem classes_ok (F : Fm) (h1 : 1 ≤ F.n) (h2 : F.n ≤ 40) : CtE XV.P 141 [ckC F] [] (.ret (.tup [])) [] :=
  vc0 (c := cCl) (n := 4000) (by kernel_rfl)
    (cl named_g (cl (ixc F.n ⟨#[103]⟩ h2) (ckN (c := !(!(!(ltI (ixG nm ⟨#[103]⟩ F.n 0) 0)))) (by rw [ix_g h2]; rfl) (ck (c := !(ltI F.n 1)) (by simp; omega) (ckN (c := !(!(ltI 64 F.n))) (by simp; omega) (lp (cls_lp F h1 h2 0 0 rfl (by omega))))))))
    (by kernel_rfl)
end Go.Proofs.YtpflobodmglmaaaGreat
set_option linter.unusedVariables false
set_option maxHeartbeats 1000000
namespace Go.Proofs.YtpflobodmglmaaaGreat
/-- A name's number. -/
noncomputable def dec (s : ByteArray) : Int := Int.ofNat ((UInt8.toNat (s.data.toList.getD 1 0) - 48) * 10 + (UInt8.toNat (s.data.toList.getD 2 0) - 48))
theorem dec_all : ((List.range 40).all fun i => eqI (dec (nm i)) (Int.ofNat i)) = true := by kernel_rfl
theorem dec_nm {i : Nat} (hi : i < 40) : dec (nm i) = i := by
  have := all_lt dec_all i hi
  rwa [eqI_t] at this
noncomputable def spReg : CSp := { ids := [], res := fun args _ => match args with | [_, .str s, _] => (.ret (iV (dec s)), []) | _ => (.ret .undef, []) }
noncomputable def spW8 : CSp := { ids := [], res := fun _ _ => (.ret (iV 8), []) }
noncomputable def spUn : CSp := { ids := [], res := fun _ _ => (.ret (.tup []), []) }
noncomputable def cRg : Cfg := ⟨[(245, spIx)], []⟩
theorem reg_ok (F : Fm) (h2 : F.n ≤ 40) (j : Nat) (hj : j < F.n) (e : Int) : CtE XV.P 244 [ckC F, .str (nm j), iV e] [] (.ret (iV (dec (nm j)))) [] := by
  have e1 : ixG nm (nm j) F.n 0 = j := ix_nm h2 hj
  have w : WkE (.ret (iV (ixG nm (nm j) F.n 0))) (.ret (iV (dec (nm j)))) := wkEq (by rw [e1, dec_nm (by omega)])
  exact vc0 (c := cRg) (n := 4000) (by kernel_rfl)
    (cl (ixc F.n (nm j) h2) (ckN (c := !(!(ltI (ixG nm (nm j) F.n 0) 0))) (by rw [e1]; simp) (endI w)))
    (by kernel_rfl)
noncomputable def cWd : Cfg := ⟨[(244, spReg)], []⟩
theorem width_ok (F : Fm) (h1 : 1 ≤ F.n) (h2 : F.n ≤ 40) : CtE XV.P 246 [ckC F, iV 0] [] (.ret (iV 8)) [] :=
  vc0 (c := cWd) (n := 4000) (by kernel_rfl)
    (ck (c := inI 0 F.n && true) (by simp; omega) (cl (reg_ok F h2 0 (by omega) 8) (ck (c := inI 0 F.n && true) (by simp; omega) (endI (wkE (.ret (iV 8)))))))
    (by kernel_rfl)
end Go.Proofs.YtpflobodmglmaaaGreat
set_option linter.unusedVariables false
set_option maxHeartbeats 1000000
namespace Go.Proofs.YtpflobodmglmaaaGreat
noncomputable def cOp : Cfg := ⟨[(244, spReg), (246, spW8)], []⟩
noncomputable def cFi : Cfg := ⟨[(244, spReg)], []⟩
noncomputable def cCv : Cfg := ⟨[(244, spReg), (245, spIx)], []⟩
noncomputable def opV (nme : AV) (uses clob : AV) : AV := .agg (opC nme uses clob)
section
variable (m : Nat) (hm : m + 3 ≤ 40) (cb : Bool) (cn : Nat) (cg : Nat → ByteArray) (an : Nat) (ag : Nat → ByteArray) (sb : Bool) (sn : Nat) (sg : Nat → ByteArray)
include hm
theorem ops0 : CtE XV.P 142 [ckC ⟨m + 3, cb, 0, cg, false, true, an, ag, sb, sn, sg⟩] [] (.ret (.tup [])) [] :=
  have w := width_ok ⟨m + 3, cb, 0, cg, false, true, an, ag, sb, sn, sg⟩ (by simp) hm
  vc0 (c := cOp) (n := 20000) (by kernel_rfl) (cl w (cl w (cl w (cl w (cl w (cl w (cl w (cl w (cl w (cl w (endI (wkE (.ret (.tup [])))))))))))))) (by kernel_rfl)
theorem ops1 (c : Nat) (hc : c < m + 3) : CtE XV.P 142 [ckC ⟨m + 3, cb, 1, fun _ => nm c, false, true, an, ag, sb, sn, sg⟩] [] (.ret (.tup [])) [] :=
  have w := width_ok ⟨m + 3, cb, 1, fun _ => nm c, false, true, an, ag, sb, sn, sg⟩ (by simp) hm
  vc0 (c := cOp) (n := 20000) (by kernel_rfl) (cl w (cl w (cl w (cl w (cl (reg_ok ⟨m + 3, cb, 1, fun _ => nm c, false, true, an, ag, sb, sn, sg⟩ hm c hc 9) (ck (c := beqU (nm c).data.toList (nm c).data.toList) (by rw [beqU_t]) (cl w (cl w (cl w (cl w (cl w (cl w (endI (wkE (.ret (.tup [])))))))))))))))) (by kernel_rfl)
theorem conv0 : CtE XV.P 143 [ckC ⟨m + 3, cb, cn, cg, false, true, 1, fun _ => nm 0, sb, 0, sg⟩] [] (.ret (.tup [])) [] :=
  have r := reg_ok ⟨m + 3, cb, cn, cg, false, true, 1, fun _ => nm 0, sb, 0, sg⟩ hm 0 (by simp) 10
  have e : ixG nm (nm 0) (m + 3) 0 = 0 := ix_nm hm (j := 0) (by omega)
  have i := ixc (m + 3) (nm 0) hm
  vc0 (c := cCv) (n := 20000) (by kernel_rfl) (cl r (cl r (cl i (ck (c := !(ltI (ixG nm (nm 0) (m + 3) 0) 0)) (by rw [e]; rfl) (cl i (ck (c := !(ltI (ixG nm (nm 0) (m + 3) 0) 0)) (by rw [e]; rfl) (endI (wkE (.ret (.tup []))))))))))
    (by kernel_rfl)
theorem conv1 (s : Nat) (h0 : 0 < s) (hs : s < m + 3) : CtE XV.P 143 [ckC ⟨m + 3, cb, cn, cg, false, true, 1, fun _ => nm 0, sb, 1, fun _ => nm s⟩] [] (.ret (.tup [])) [] :=
  have r := reg_ok ⟨m + 3, cb, cn, cg, false, true, 1, fun _ => nm 0, sb, 1, fun _ => nm s⟩ hm 0 (by simp) 10
  have e : ixG nm (nm 0) (m + 3) 0 = 0 := ix_nm hm (j := 0) (by omega)
  have i := ixc (m + 3) (nm 0) hm
  have d : dec (nm s) = s := dec_nm (by omega)
  vc0 (c := cCv) (n := 20000) (by kernel_rfl) (cl r (cl r (cl (reg_ok ⟨m + 3, cb, cn, cg, false, true, 1, fun _ => nm 0, sb, 1, fun _ => nm s⟩ hm s hs 10) (ck (c := inI (dec (nm s)) (m + 3) && true) (by rw [d]; simp; omega) (ck (c := !(eqI (.ofNat (Int.toNat (dec (nm s)))) 0)) (by rw [d]; simp; omega)
    (cl i (ck (c := !(ltI (ixG nm (nm 0) (m + 3) 0) 0)) (by rw [e]; rfl) (cl i (ck (c := !(ltI (ixG nm (nm 0) (m + 3) 0) 0)) (by rw [e]; rfl) (endI (wkE (.ret (.tup [])))))))))))))
    (by kernel_rfl)
theorem fitsA : CtE XV.P 251 [ckC ⟨m + 3, cb, cn, cg, false, true, an, ag, sb, sn, sg⟩, opV (.str ⟨#[97, 100, 100]⟩) us2 (strs cb true 0 cg)] [] (.ret (.bool true)) [] :=
  have r := fun j h => reg_ok ⟨m + 3, cb, cn, cg, false, true, an, ag, sb, sn, sg⟩ hm j h 9
  vc0 (c := cFi) (n := 20000) (by kernel_rfl) (cl (r 0 (by simp)) (cl (r 0 (by simp)) (cl (r 1 (by simp)) (cl (r 0 (by simp)) (endI (wkE (.ret (.bool true)))))))) (by kernel_rfl)
theorem fitsN : CtE XV.P 251 [ckC ⟨m + 3, cb, cn, cg, false, true, an, ag, sb, sn, sg⟩, opV (.str ⟨#[110, 111, 116]⟩) us1 nl] [] (.ret (.bool true)) [] :=
  have r := fun j h => reg_ok ⟨m + 3, cb, cn, cg, false, true, an, ag, sb, sn, sg⟩ hm j h 9
  vc0 (c := cFi) (n := 20000) (by kernel_rfl) (cl (r 0 (by simp)) (cl (r 0 (by simp)) (endI (wkE (.ret (.bool true)))))) (by kernel_rfl)
theorem fitsD : CtE XV.P 251 [ckC ⟨m + 3, cb, cn, cg, false, true, an, ag, sb, sn, sg⟩, opV (.str ⟨#[100, 105, 118]⟩) us2 nl] [] (.ret (.bool true)) [] :=
  have r := fun j h => reg_ok ⟨m + 3, cb, cn, cg, false, true, an, ag, sb, sn, sg⟩ hm j h 9
  vc0 (c := cFi) (n := 20000) (by kernel_rfl) (cl (r 0 (by simp)) (cl (r 0 (by simp)) (cl (r 1 (by simp)) (cl (r 0 (by simp)) (endI (wkE (.ret (.bool true)))))))) (by kernel_rfl)
theorem pair00 : CtE XV.P 252 [ckC ⟨m + 3, cb, cn, cg, false, true, an, ag, sb, sn, sg⟩, iV 0, iV 0] [] (.ret (.bool true)) [] :=
  have r := fun j h => reg_ok ⟨m + 3, cb, cn, cg, false, true, an, ag, sb, sn, sg⟩ hm j h 9
  vc0 (c := cFi) (n := 20000) (by kernel_rfl) (cl (r 0 (by simp)) (cl (r 0 (by simp)) (cl (r 1 (by simp)) (endI (wkE (.ret (.bool true))))))) (by kernel_rfl)
end
end Go.Proofs.YtpflobodmglmaaaGreat
set_option linter.unusedVariables false
set_option maxHeartbeats 1000000
namespace Go.Proofs.YtpflobodmglmaaaGreat

noncomputable def plE (n : Nat) : AEnd := .ret (.tup [nmV n, plV n, iV 0])
noncomputable def plB (n : Nat) : Bool := runJ (X0 Tryz.prog) (fun _ => false) 200000 (.call 71 [.lst false false n regR] false .run (clM []) (fun e _ M => okC (plE n) e M))
def PlOk (n : Nat) : Prop := CtE XV.P 71 [.lst false false n regR] [] (plE n) []
theorem pl_of {n : Nat} (h : plB n = true) : PlOk n := run_ct (X := X0 Tryz.prog) pok (ct0 _) (n := 200000) (by kernel_rfl) h
noncomputable def spPl : CSp := { ids := [], res := fun args _ => match args with | [.lst _ _ n _] => (.ret (.tup [nmV n, plV n, iV 0]), []) | _ => (.ret .undef, []) }
end Go.Proofs.YtpflobodmglmaaaGreat
set_option linter.unusedVariables false
set_option maxHeartbeats 1000000
namespace Go.Proofs.YtpflobodmglmaaaGreat
theorem named_m : CtE XV.P 241 [.str ⟨#[109]⟩] [] (.ret (.bool true)) [] := run_ct (X := X0 Tryz.prog) pok (ct0 _) (n := 20000) rfl (show named1 ⟨#[109]⟩ = true by kernel_rfl)
noncomputable def cSpl : Cfg := ⟨[(251, spT), (252, spT)], []⟩
noncomputable def cChk : Cfg := ⟨[(241, spT), (71, spPl), (141, spUn), (142, spUn), (143, spUn), (144, spUn)], []⟩
theorem spills0 (m : Nat) (hm : m + 3 ≤ 40) (cb : Bool) (cg : Nat → ByteArray) (an : Nat) (ag : Nat → ByteArray) (sb : Bool) (sn : Nat) (sg : Nat → ByteArray) : CtE XV.P 144 [ckC ⟨m + 3, cb, 0, cg, false, true, an, ag, sb, sn, sg⟩] [] (.ret (.tup [])) [] :=
  vc0 (c := cSpl) (n := 20000) (by kernel_rfl) (cl (fitsA m hm cb 0 cg an ag sb sn sg) (cl (fitsN m hm cb 0 cg an ag sb sn sg) (cl (fitsD m hm cb 0 cg an ag sb sn sg) (cl (pair00 m hm cb 0 cg an ag sb sn sg) (endI (wkE (.ret (.tup []))))))))
    (by kernel_rfl)
theorem check_of (m : Nat) (hm : m + 3 ≤ 40) (hp : PlOk (m + 3)) (cb : Bool) (cn : Nat) (cg : Nat → ByteArray) (an : Nat) (ag : Nat → ByteArray) (sb : Bool) (sn : Nat) (sg : Nat → ByteArray)
    (h1 : CtE XV.P 142 [ckC ⟨m + 3, cb, cn, cg, false, true, an, ag, sb, sn, sg⟩] [] (.ret (.tup [])) []) (h2 : CtE XV.P 143 [ckC ⟨m + 3, cb, cn, cg, false, true, an, ag, sb, sn, sg⟩] [] (.ret (.tup [])) []) (h3 : CtE XV.P 144 [ckC ⟨m + 3, cb, cn, cg, false, true, an, ag, sb, sn, sg⟩] [] (.ret (.tup [])) []) :
    CtE XV.P 69 [.agg (Fm.mk (m + 3) cb cn cg false true an ag sb sn sg).V] [] (.ret (iV 0)) [] :=
  vc0 (c := cChk) (n := 20000) (by kernel_rfl) (cl named_m (cl hp (cl (classes_ok ⟨m + 3, cb, cn, cg, false, true, an, ag, sb, sn, sg⟩ (by simp) hm) (cl h1 (cl h2 (cl h3 (endI (wkE (.ret (iV 0))))))))))
    (by kernel_rfl)
theorem check00 (m : Nat) (hm : m + 3 ≤ 40) (hp : PlOk (m + 3)) (cb : Bool) (cg : Nat → ByteArray) (sb : Bool) (sg : Nat → ByteArray) : CtE XV.P 69 [.agg (Fm.mk (m + 3) cb 0 cg false true 1 (fun _ => nm 0) sb 0 sg).V] [] (.ret (iV 0)) [] :=
  check_of m hm hp _ _ _ _ _ _ _ _ (ops0 m hm cb cg 1 _ sb 0 sg) (conv0 m hm cb 0 cg sb sg) (spills0 m hm cb cg 1 _ sb 0 sg)
theorem check01 (m : Nat) (hm : m + 3 ≤ 40) (hp : PlOk (m + 3)) (cb : Bool) (cg : Nat → ByteArray) (sb : Bool) (s : Nat) (h0 : 0 < s) (hs : s < m + 3) : CtE XV.P 69 [.agg (Fm.mk (m + 3) cb 0 cg false true 1 (fun _ => nm 0) sb 1 (fun _ => nm s)).V] [] (.ret (iV 0)) [] :=
  check_of m hm hp _ _ _ _ _ _ _ _ (ops0 m hm cb cg 1 _ sb 1 _) (conv1 m hm cb 0 cg sb s h0 hs) (spills0 m hm cb cg 1 _ sb 1 _)
end Go.Proofs.YtpflobodmglmaaaGreat
