/- Several texts joined. No condition. -/
import Derived.Test.YtpflobodmglmaaaGreatMh
import Derived.Test.YtpflobodmglmaaaGreatMEm
set_option linter.unusedSimpArgs false
set_option linter.unusedSectionVars false
set_option linter.unusedVariables false
set_option maxHeartbeats 1000000
namespace Go.Proofs.YtpflobodmglmaaaGreat
/-- A small machine's table: what machrun looks at is told. -/
structure ST where
  U : TB
  n : Nat
  hr : ByteArray → Option Int
  sb : Bool
  sf : Bool
  sn : Nat
  sz : Nat → Int
  ab : Bool
  af : Bool
  an : Nat
  az : Nat → Int
  kp : LP
noncomputable def ST.c (T : ST) : List AV := [.str T.U.name, .lst false false T.n regR, T.U.cls.v, T.U.ops.v, T.U.args.v, .str (nm 0), T.U.saved.v, iV 100, .lst false false T.n nmR, .lst false false T.n (fun i => [iV (Int.ofNat i), iV 0, iV 8]), .cms .i64 T.hr, .cms .i64 T.U.hc, .cms .i64 T.U.ho, T.U.laps.v, T.U.of.v, T.U.in'.v, T.U.may.v, T.U.clob.v, .lst T.sb T.sf T.sn (fun i => [iV (T.sz i)]), .lst T.ab T.af T.an (fun i => [iV (T.az i)]), T.kp.v]
noncomputable def insV (k d a b n : Int) (s : ByteArray) (l : AV) (t f : Int) : List AV := [iV k, iV d, iV a, iV b, iV n, .str s, l, iV t, iV f]
end Go.Proofs.YtpflobodmglmaaaGreat
set_option linter.unusedVariables false
set_option maxHeartbeats 1000000
namespace Go.Proofs.YtpflobodmglmaaaGreat
noncomputable def plc8 (x : Int) : AV := .agg [iV (Int.ofNat x.toNat), iV 0, iV 8]
noncomputable def spPc : CSp := { ids := [], res := fun args _ => match args with | [_, .int _ x] => (.ret (plc8 x), []) | _ => (.ret .undef, []) }
theorem place_ok (T : ST) (x : Int) (h0 : 0 ≤ x) (h1 : x < T.n) : CtE XV.P 48 [.cp T.c, iV x] [] (.ret (plc8 x)) [] :=
  vc0 (c := ⟨[], []⟩) (n := 20000) (by kernel_rfl)
    (ifs (c := !(ltI x 0)) (fun h => ifs (c := !(ltI x (.ofNat T.n))) (fun h => endI (x := .ret (.agg [iV 0, iV 0, iV 0])) (y := .ret (plc8 x)) (absurd h (by simp; omega))) (fun h => ck (c := inI x T.n && true) (by simp; omega) (endI (wkE (.ret (plc8 x))))))
      (fun h => endI (x := .ret (.agg [iV 0, iV 0, iV 0])) (y := .ret (plc8 x)) (absurd h (by simp; omega))))
    (by kernel_rfl)
noncomputable def u64R (z : Nat → Int) (i : Nat) : List AV := [.int .u64 (z i)]
/-- Tables whose only argument is in the first register. -/
noncomputable def ST.one (T : ST) : ST := { T with ab := false, an := 1, az := fun _ => 0 }
noncomputable def rnC (T : ST) (B : LP) (sl : AV) (junk b at' : Int) : List AV := [.ptr 1 0 0 0, .cp T.c, .str ⟨#[102]⟩, iV 0, B.v, .sl 2 0 T.n false 1, .sl 3 0 T.n false 1, .sl 4 0 T.n false 1, sl, .int .u64 junk, iV b, iV at']
noncomputable def ouC (orc : AV) (fuel : Int) (ev : AV) (res en : Int) (rg : AV) : List AV := [.top, orc, iV fuel, ev, iV res, iV en, rg]
noncomputable def evR (s : ByteArray) (x : Int) : Nat → List AV := fun _ => [iV 2, .str s, .lst false false 1 (fun _ => [iV x])]
noncomputable def rd8 (x : Int) : Int := wr .i64 (Int.fdiv (wr .u64 ((wr .u64 (wr .i64 (Int.fdiv x 1))) * 72057594037927936)) 72057594037927936)
noncomputable def wr8 (x v : Int) : Int := zO (zS x 255) (zA (wr .u64 ((wr .u64 v) * 1)) 255)
/-- What a call leaves in a register. -/
noncomputable def clZ (z k : Nat → Int) (junk : Int) (j : Nat) : Int := zO (zA (z j) (k j)) (zA (zS junk (k j)) 255)
/-- .. and what is put into the first one. -/
noncomputable def clA (z k : Nat → Int) (junk ans : Int) (j : Nat) : Int := if j = 0 then wr8 (clZ z k junk 0) ans else clZ z k junk j
noncomputable def cI (d : Int) : List AV := insV 6 d 0 0 1 bG nl 0 0
noncomputable def w255 : Nat → List AV := fun _ => [.int .u64 255]
noncomputable def cN (T : ST) (B : LP) (sl : AV) (junk fuel b at' : Int) (orc ev : AV) (z k : Nat → Int) : List Blk := [.var (rnC T.one B sl junk b at'), .var (ouC orc fuel ev 0 0 nl), .row 1 T.n (u64R z), .row 1 T.n (u64R k), .row 1 T.n w255]
noncomputable def orE (ans : Int) : AV := .lst false false 0 (fun _ => [iV ans])
noncomputable def or1 (ans : Int) : AV := .lst false true 1 (fun _ => [iV ans])
noncomputable def ev1 (x : Int) : AV := .lst false false 1 (evR bG x)
noncomputable def cMc : Cfg := ⟨[(120, spCl), (48, spPc)], [(128, 0, { live := [0, 3, 4, 27, 28, 29], ids := [] })]⟩
theorem endX5 {e : AEnd} {a a' b b' c c' d d' f f' : Blk} (h1 : WkB a a') (h2 : WkB b b') (h3 : WkB c c') (h4 : WkB d d') (h5 : WkB f f') : True ∧ WkE e e ∧ ((True ∧ WkB a a') ∧ ((True ∧ WkB b b') ∧ ((True ∧ WkB c c') ∧ ((True ∧ WkB d d') ∧ ((True ∧ WkB f f') ∧ True))))) := ⟨trivial, wkE e, ⟨trivial, h1⟩, ⟨trivial, h2⟩, ⟨trivial, h3⟩, ⟨trivial, h4⟩, ⟨trivial, h5⟩, trivial⟩
section
variable (T : ST) (B : LP) (sl : LP) (junk fuel b at' ans : Int) (z k : Nat → Int) (ev : Int) (hn : T.n ≤ 40)
include hn
/-- Nothing is asked for. -/
theorem callN_lp (q : Nat) (x : Int) (z' : Nat → Int) (hx : x = q) (hq : q ≤ T.n) (hz : ∀ j, z' j = if j < q then clZ z k junk j else z j) :
    FrE XV.P (frH XV.P 128 0 [(0, .ptr 0 0 0 0), (3, .cp (cI (-1))), (4, iV ans), (27, .sl 4 0 T.n false 1), (28, iV T.n), (29, iV x)]) (clM (cN T B sl.v junk fuel b at' (orE ans) (ev1 ev) z' k)) (.ret (.tup [])) (cN T B sl.v junk fuel b at' (orE ans) (ev1 ev) (clZ z k junk) k) :=
  vlN (c := cMc) (n := 20000) (by kernel_rfl) (by kernel_rfl) (by simp [cN])
    (ifs (c := ltI x (.ofNat T.n)) (fun h => by
      have h : x < (T.n : Int) := by simpa using h
      have ex : x.toNat = q := by rw [hx]; rfl
      have i1 : (inI x T.n && true) = true := by simp; omega
      have i2 : ((true && Nat.blt (0 + x.toNat) T.n) && true) = true := by simp; omega
      exact ck i1 (ck i2 (ck i1 (ck i2 (ck i1 (ck i2 (ck i1 (ck i2 (ck i1 (ck i2 (lp (callN_lp (q + 1) (wr .i64 (x + 1)) (fun j => bif Nat.beq j (0 + x.toNat) then clZ z' k junk (0 + x.toNat) else z' j) (by rw [wr_id] <;> omega) (by omega) (fun j => by
        rw [ex, Nat.zero_add]
        by_cases e : j = q
        · subst e
          rw [Nat.beq_refl, if_pos (by omega)]
          show clZ z' k junk j = _
          unfold clZ
          rw [hz j, if_neg (by omega)]
        · rw [beq_ff e]
          show z' j = _
          rw [hz j]
          by_cases e2 : j < q
          · rw [if_pos e2, if_pos (by omega)]
          · rw [if_neg e2, if_neg (by omega)])))))))))))))
    (fun h => by
      have h : (T.n : Int) ≤ x := by simpa using h
      exact endX5 (e := .ret (.tup [])) (wkB (.var (rnC T.one B sl.v junk b at'))) (wkB (.var (ouC (orE ans) fuel (ev1 ev) 0 0 nl))) (wkB_row (sz := 1) (n := T.n) (g := u64R z') (g' := u64R (clZ z k junk)) fun j hj => .of (by unfold u64R; rw [hz j, if_pos (by omega)])) (wkB (.row 1 T.n (u64R k))) (wkB (.row 1 T.n w255))))
    (by kernel_rfl)
termination_by T.n - q
decreasing_by omega
/-- An answer is asked for. -/
theorem callA_lp (q : Nat) (x : Int) (z' : Nat → Int) (hx : x = q) (hq : q ≤ T.n) (h0 : giV (T.hr (nm 0)) = 0) (h1 : 0 < T.n) (hz : ∀ j, z' j = if j < q then clZ z k junk j else z j) :
    FrE XV.P (frH XV.P 128 0 [(0, .ptr 0 0 0 0), (3, .cp (cI 0)), (4, iV ans), (27, .sl 4 0 T.n false 1), (28, iV T.n), (29, iV x)]) (clM (cN T B sl.v junk fuel b at' (orE ans) (ev1 ev) z' k)) (.ret (.tup [])) (cN T B sl.v junk fuel b at' (orE ans) (ev1 ev) (clA z k junk ans) k) :=
  vlN (c := cMc) (n := 20000) (by kernel_rfl) (by kernel_rfl) (by simp [cN])
    (ifs (c := ltI x (.ofNat T.n)) (fun h => by
      have h : x < (T.n : Int) := by simpa using h
      have ex : x.toNat = q := by rw [hx]; rfl
      have i1 : (inI x T.n && true) = true := by simp; omega
      have i2 : ((true && Nat.blt (0 + x.toNat) T.n) && true) = true := by simp; omega
      exact ck i1 (ck i2 (ck i1 (ck i2 (ck i1 (ck i2 (ck i1 (ck i2 (ck i1 (ck i2 (lp (callA_lp (q + 1) (wr .i64 (x + 1)) (fun j => bif Nat.beq j (0 + x.toNat) then clZ z' k junk (0 + x.toNat) else z' j) (by rw [wr_id] <;> omega) (by omega) h0 h1 (fun j => by
        rw [ex, Nat.zero_add]
        by_cases e : j = q
        · subst e
          rw [Nat.beq_refl, if_pos (by omega)]
          show clZ z' k junk j = _
          unfold clZ
          rw [hz j, if_neg (by omega)]
        · rw [beq_ff e]
          show z' j = _
          rw [hz j]
          by_cases e2 : j < q
          · rw [if_pos e2, if_pos (by omega)]
          · rw [if_neg e2, if_neg (by omega)])))))))))))))
    (fun h => by
      have h : (T.n : Int) ≤ x := by simpa using h
      have i1 : (inI (Int.ofNat (giV (T.hr (nm 0))).toNat) T.n && true) = true := by rw [h0]; simp; omega
      have i2 : ((true && Nat.blt (0 + (Int.ofNat (giV (T.hr (nm 0))).toNat).toNat) T.n) && true) = true := by rw [h0]; simp; omega
      exact cl (place_ok T.one (giV (T.hr (nm 0))) (by rw [h0]; omega) (by rw [h0]; exact Int.ofNat_lt.2 h1)) (ck i1 (ck i2 (ck i2
        (endX5 (e := .ret (.tup [])) (wkB (.var (rnC T.one B sl.v junk b at'))) (wkB (.var (ouC (orE ans) fuel (ev1 ev) 0 0 nl))) (wkB_row (sz := 1) (n := T.n) (g := u64R (fun j => bif Nat.beq j (0 + (Int.ofNat (giV (T.hr (nm 0))).toNat).toNat) then wr8 (z' (0 + (Int.ofNat (giV (T.hr (nm 0))).toNat).toNat)) ans else z' j)) (g' := u64R (clA z k junk ans)) fun j hj => .of (by
          unfold u64R
          rw [h0]
          show [AV.int .u64 (bif Nat.beq j 0 then wr8 (z' 0) ans else z' j)] = _
          unfold clA
          by_cases e : j = 0
          · subst e; rw [Nat.beq_refl, if_pos rfl, hz 0, if_pos (by omega)]; rfl
          · rw [beq_ff e, if_neg e, hz j, if_pos (by omega)]; rfl)) (wkB (.row 1 T.n (u64R k))) (wkB (.row 1 T.n w255))))))))
    (by kernel_rfl)
termination_by T.n - q
decreasing_by omega
theorem callN_ok (h1 : 0 < T.n) : CtE XV.P 128 [.ptr 0 0 0 0, .agg (cI (-1))] (cN T B sl.v junk fuel b at' (or1 ans) nl z k) (.ret (.tup [])) (cN T B sl.v junk fuel b at' (orE ans) (ev1 (rd8 (z 0))) (clZ z k junk) k) :=
  have i1 : (inI 0 T.n && true) = true := by simp; omega
  have i2 : ((true && Nat.blt 0 T.n) && true) = true := by simp; omega
  vcN (c := cMc) (n := 20000) (by kernel_rfl) (by kernel_rfl) (by simp [cN])
    (cl (clI_ok false T.af 1 (fun _ => 0) (fun h => by cases h) (by omega)) (cl (place_ok T.one 0 (by omega) (Int.ofNat_lt.2 h1)) (ck i1 (ck i2 (cl1 (show 0 + 1 ≤ 1 by omega) (clI_ok false false 1 (fun _ => rd8 (z 0)) (fun h => by cases h) (by omega)) (cl0 (show 0 + 1 ≤ 1 by omega)
      (callN_lp T B sl junk fuel b at' ans z k (rd8 (z 0)) hn 0 0 z rfl (Nat.zero_le _) (fun j => by rw [if_neg (by omega)]))))))))
    (by kernel_rfl)
theorem callA_ok (h1 : 0 < T.n) (h0 : giV (T.hr (nm 0)) = 0) : CtE XV.P 128 [.ptr 0 0 0 0, .agg (cI 0)] (cN T B sl.v junk fuel b at' (or1 ans) nl z k) (.ret (.tup [])) (cN T B sl.v junk fuel b at' (orE ans) (ev1 (rd8 (z 0))) (clA z k junk ans) k) :=
  have i1 : (inI 0 T.n && true) = true := by simp; omega
  have i2 : ((true && Nat.blt 0 T.n) && true) = true := by simp; omega
  vcN (c := cMc) (n := 20000) (by kernel_rfl) (by kernel_rfl) (by simp [cN])
    (cl (clI_ok false T.af 1 (fun _ => 0) (fun h => by cases h) (by omega)) (cl (place_ok T.one 0 (by omega) (Int.ofNat_lt.2 h1)) (ck i1 (ck i2 (cl1 (show 0 + 1 ≤ 1 by omega) (clI_ok false false 1 (fun _ => rd8 (z 0)) (fun h => by cases h) (by omega)) (cl0 (show 0 + 1 ≤ 1 by omega)
      (callA_lp T B sl junk fuel b at' ans z k (rd8 (z 0)) hn 0 0 z rfl (Nat.zero_le _) h0 h1 (fun j => by rw [if_neg (by omega)]))))))))
    (by kernel_rfl)
end
end Go.Proofs.YtpflobodmglmaaaGreat
set_option linter.unusedVariables false
set_option maxHeartbeats 1000000
namespace Go.Proofs.YtpflobodmglmaaaGreat
theorem clip_ok (nb f : Bool) (n : Nat) (z : Nat → Int) (hn : n ≤ 16777216) : CtE XV.P 53 [.lst nb f n (fun i => [iV (z i)])] [] (.ret (.lst nb false n (fun i => [iV (z i)]))) [] :=
  have w : WkE (.ret (.lst nb true (Int.toNat (Int.ofNat n - 0)) (fun i => [iV (z (Int.toNat 0 + i))]))) (.ret (.lst nb false n (fun i => [iV (z i)]))) := wk_ret (by
    rw [show Int.toNat (Int.ofNat n - 0) = n by simp]
    exact wkv_lst rfl (fun e => by cases e) fun i hi => .of (by rw [show Int.toNat 0 + i = i by simp]))
  vc0 (c := ⟨[], []⟩) (n := 20000) (by kernel_rfl) (ck (c := (leI 0 0 && (leI 0 (.ofNat n) && (eqI (.ofNat n) (.ofNat n) && leI (.ofNat n) (.ofNat n)))) && (true && (Nat.beq (Int.toNat (Int.ofNat n - 0)) 0 || true))) (by simp) (endI w)) (by kernel_rfl)
theorem clip_nil : CtE XV.P 53 [.lst true true 0 (fun _ => [])] [] (.ret (.lst true false 0 (fun _ => []))) [] := ct_end (wk_ret (wkv_lst rfl id fun i hi => by omega)) (ct_wk (.cons (wkv_lst rfl id fun i hi => by omega) .nil) (clip_ok true true 0 (fun _ => 0) (by omega)))
/-- A run's data: what else it knows of. -/
structure RD where
  t : List AV
  nm : ByteArray
  sl : Int
  B : LP
  ke : LP
  wi : LP
  sv : LP
  junk : Int
  b : Int
  at' : Int
  orc : LP
  fuel : Int
  ev : LP
  res : Int
  en : Int
noncomputable def RD.r (R : RD) (o ro : AV) : List AV := [o, .cp R.t, .str R.nm, iV R.sl, R.B.v, ro, R.ke.v, R.wi.v, R.sv.v, .int .u64 R.junk, iV R.b, iV R.at']
noncomputable def RD.o (R : RD) (rg : AV) : List AV := [.top, R.orc.v, iV R.fuel, R.ev.v, iV R.res, iV R.en, rg]
noncomputable def trZ : List AV := [nl, iV 0, iV 0, nl]
noncomputable def spCp' : CSp := { ids := [], res := fun args _ => match args with | [.lst nb _ n g] => (.ret (.lst nb false n g), []) | _ => (.ret .undef, []) }
noncomputable def cRe : Cfg := ⟨[(53, spCp')], [(17, 6, { live := [6, 11, 166, 167, 168], ids := [.v 6, .v 11, .c 1 0, .c 1 5, .c 2 6] })]⟩
noncomputable def reR (q : Nat) : AV := match q with | 0 => nl | q + 1 => .sl 4 0 (q + 1) false 1
noncomputable def reM (R : RD) (n q : Nat) (z : Nat → Int) (G : Nat → List AV) : List Blk := match q with
  | 0 => [.var trZ, .var (R.r (.ptr 2 0 0 0) (.sl 3 0 n false 1)), .var (R.o nl), .row 1 n (u64R z)]
  | q + 1 => [.var trZ, .var (R.r (.ptr 2 0 0 0) (.sl 3 0 n false 1)), .var (R.o (.sl 4 0 (q + 1) false 1)), .row 1 n (u64R z), .row 1 (q + 1) G]
noncomputable def rgZ (z : Nat → Int) (i : Nat) : List AV := [iV (wr .i64 (z i))]
noncomputable def runE (R : RD) (n : Nat) (z : Nat → Int) : AEnd := .ret (.tup [.agg [R.ev.v, iV R.res, iV R.en, .lst false false n (rgZ z)], iV 0])
theorem re_lp (R : RD) (n0 : Nat) (z : Nat → Int) (hn : n0 + 1 ≤ 65536) (q : Nat) (x : Int) (G : Nat → List AV) (hx : x = q) (hq : q ≤ n0 + 1) (hG : ∀ j, j < q → G j = rgZ z j) :
    FrE XV.P (frH XV.P 17 3 [(6, .ptr 0 0 0 0), (11, .ptr 1 0 0 0), (166, .sl 3 0 (n0 + 1) false 1), (167, iV (Int.ofNat (n0 + 1))), (168, iV x)]) (clM (reM R (n0 + 1) q z G)) (runE R (n0 + 1) z) [] := by
  have ex : x.toNat = q := by rw [hx]; rfl
  have wx : x < ((n0 + 1 : Nat) : Int) → wr .i64 (x + 1) = ((q + 1 : Nat) : Int) := fun h => by rw [wr_id] <;> omega
  have i1 : x < ((n0 + 1 : Nat) : Int) → (inI x (n0 + 1) && true) = true := fun h => by simp; omega
  have i2 : x < ((n0 + 1 : Nat) : Int) → ((true && Nat.blt (0 + x.toNat) (n0 + 1)) && true) = true := fun h => by simp; omega
  cases q with
  | zero =>
    exact vl0 (c := cRe) (n := 20000) (by kernel_rfl)
      (ifs (c := ltI x (.ofNat (n0 + 1))) (fun h => by
        have h : x < ((n0 + 1 : Nat) : Int) := by omega
        exact ck (i1 h) (ck (i2 h) (lp (re_lp R n0 z hn 1 (wr .i64 (x + 1)) (fun _ => rgZ z (0 + x.toNat)) (wx h) (by omega) (fun j hj => by rw [show j = 0 by omega, ex])))))
      (fun h => cl clip_nil (endI (x := .ret (.tup [.agg [R.ev.v, iV R.res, iV R.en, .lst true false 0 (fun _ => [])], iV 0])) (y := runE R (n0 + 1) z) (absurd h (by simp; omega)))))
      (by kernel_rfl)
  | succ q =>
    exact vl0 (c := cRe) (n := 20000) (by kernel_rfl)
      (ifs (c := ltI x (.ofNat (n0 + 1))) (fun h => by
        have h : x < ((n0 + 1 : Nat) : Int) := by simpa using h
        exact ck (i1 h) (ck (i2 h) (ck (c := true && (true && (Nat.ble (q + 1 + 1) 16777216 && (Nat.ble (0 + (q + 1)) (q + 1) && true)))) (by simp; omega) (lp (re_lp R n0 z hn (q + 1 + 1) (wr .i64 (x + 1)) (app1 (q + 1) G (rgZ z (0 + x.toNat))) (wx h) (by omega) (app1_eq hG (by rw [ex, Nat.zero_add]) fun _ => rfl))))))
      (fun h => by
        have h : ((n0 + 1 : Nat) : Int) ≤ x := by simpa using h
        have e : q = n0 := by omega
        have cc : CtE XV.P 53 [.lst false false (q + 1) (frR0 G)] [] (.ret (.lst false false (q + 1) (frR0 G))) [] :=
          ct_end (wk_ret (wkv_lst rfl id fun i hi => .of (by rw [frR0_eq hG (fun _ => rfl) i hi]; rfl))) (ct_wk (.cons (wkv_lst rfl id fun i hi => .of (by rw [frR0_eq hG (fun _ => rfl) i hi]; rfl)) .nil) (clip_ok false false (q + 1) (fun i => wr .i64 (z i)) (by omega)))
        have w : WkE (.ret (.tup [.agg [R.ev.v, iV R.res, iV R.en, .lst false false (q + 1) (frR0 G)], iV 0])) (runE R (n0 + 1) z) := by
          rw [← e]
          exact wk_ret (wkv_tup (.cons (wkv_agg (.cons (.refl _) (.cons (.refl _) (.cons (.refl _) (.cons (wkR (frR0_eq hG fun _ => rfl)) .nil))))) (.refl _)))
        exact cl1 (show 0 + (q + 1) ≤ q + 1 by omega) cc (endI w)))
      (by kernel_rfl)
termination_by n0 + 1 - q
decreasing_by all_goals omega
end Go.Proofs.YtpflobodmglmaaaGreat
set_option linter.unusedVariables false
set_option maxHeartbeats 1000000
namespace Go.Proofs.YtpflobodmglmaaaGreat
/-- How a run begins. -/
structure RS where
  T : ST
  nm : ByteArray
  sl : Int
  B : LP
  sv : LP
  junk : Int
  orc : LP
  fuel : Int
  wa : LP
  wm : LP
  wo : LP
  wf : Int
  ib : Bool
  if' : Bool
  il : Nat
  iz : Nat → Int
  wj : Int
noncomputable def RS.r (R : RS) (ro ke wi : AV) : List AV := [.ptr 2 0 0 0, .cp R.T.c, .str R.nm, iV R.sl, R.B.v, ro, ke, wi, R.sv.v, .int .u64 R.junk, iV 0, iV 0]
noncomputable def RS.o (R : RS) : List AV := [.top, R.orc.v, iV R.fuel, nl, iV 0, iV 0, nl]
noncomputable def RS.w (R : RS) : List AV := [R.wa.v, R.wm.v, R.wo.v, iV R.wf, .lst R.ib R.if' R.il (fun i => [iV (R.iz i)]), iV R.wj]
noncomputable def cut8 (v : Int) : Int := wr .i64 (Int.fdiv (wr .u64 ((wr .u64 v) * 72057594037927936)) 72057594037927936)
noncomputable def roZ (iz : Nat → Int) (j : Nat) : Int := wr .u64 (cut8 (iz j))
noncomputable def stM (R : RS) (q : Nat) (G1 G2 G3 : Nat → List AV) : List Blk := match q with
  | 0 => [.var trZ, .var (R.r nl nl nl), .var R.o]
  | q + 1 => [.var trZ, .var (R.r (.sl 3 0 (q + 1) false 1) (.sl 4 0 (q + 1) false 1) (.sl 5 0 (q + 1) false 1)), .var R.o, .row 1 (q + 1) G1, .row 1 (q + 1) G2, .row 1 (q + 1) G3]
noncomputable def stL (R : RS) (n q : Nat) (x : Int) (G1 G2 G3 : Nat → List AV) (e : AEnd) : Prop := FrE XV.P (frH XV.P 17 0 [(0, .cp R.T.c), (5, .cp R.w), (6, .ptr 0 0 0 0), (11, .ptr 1 0 0 0), (56, .lst false false n regR), (57, iV (Int.ofNat n)), (58, iV x)]) (clM (stM R q G1 G2 G3)) e []
noncomputable def st16 (R : RS) (q : Nat) (G1 G2 G3 : Nat → List AV) (e : AEnd) : Prop := FrE XV.P (frR XV.P 17 16 [(0, .cp R.T.c), (5, .cp R.w), (6, .ptr 0 0 0 0), (11, .ptr 1 0 0 0)]) (clM (stM R q G1 G2 G3)) e []
noncomputable def cSt0 : Cfg := ⟨[], [(17, 0, { live := [0, 5, 6, 11, 56, 57, 58], ids := [.v 6, .v 11, .c 1 0, .c 1 5, .c 1 6, .c 1 7] }), (17, 1000016, { live := [0, 5, 6, 11], ids := [.v 6, .v 11, .c 1 0, .c 1 5, .c 1 6, .c 1 7] })]⟩
noncomputable def zer : Nat → List AV := fun _ => [.int .u64 0]
theorem st_lp (R : RS) (n0 : Nat) (e : AEnd) (he : rnE 0 [] e = e) (hn : n0 + 1 ≤ 65536) (hi : n0 + 1 ≤ R.il)
    (K : ∀ G1 G2 G3, (∀ j, j < n0 + 1 → G1 j = u64R (roZ R.iz) j) → (∀ j, j < n0 + 1 → G2 j = zer j) → (∀ j, j < n0 + 1 → G3 j = w255 j) → st16 R (n0 + 1) G1 G2 G3 e)
    (q : Nat) (x : Int) (G1 G2 G3 : Nat → List AV) (hx : x = q) (hq : q ≤ n0 + 1) (h1 : ∀ j, j < q → G1 j = u64R (roZ R.iz) j) (h2 : ∀ j, j < q → G2 j = zer j) (h3 : ∀ j, j < q → G3 j = w255 j) : stL R (n0 + 1) q x G1 G2 G3 e := by
  have ex : x.toNat = q := by rw [hx]; rfl
  have wx : x < ((n0 + 1 : Nat) : Int) → wr .i64 (x + 1) = ((q + 1 : Nat) : Int) := fun h => by rw [wr_id] <;> omega
  have i1 : x < ((n0 + 1 : Nat) : Int) → (inI x (n0 + 1) && true) = true := fun h => by simp; omega
  have i2 : x < ((n0 + 1 : Nat) : Int) → (inI x R.il && true) = true := fun h => by simp; omega
  have nx : x < ((n0 + 1 : Nat) : Int) → ∀ (G1 G2 G3 : Nat → List AV), (∀ j, j < q + 1 → G1 j = u64R (roZ R.iz) j) → (∀ j, j < q + 1 → G2 j = zer j) → (∀ j, j < q + 1 → G3 j = w255 j) → stL R (n0 + 1) (q + 1) (wr .i64 (x + 1)) G1 G2 G3 e := fun h G1 G2 G3 a b c => st_lp R n0 e he hn hi K (q + 1) _ G1 G2 G3 (wx h) (by omega) a b c
  cases q with
  | zero =>
    have hl : x < ((n0 + 1 : Nat) : Int) := by omega
    exact vlN (c := cSt0) (n := 20000) (he0 he) hN0 (by simp)
      (ifs (c := ltI x (.ofNat (n0 + 1))) (fun h => ck (i1 hl) (ifs (c := ltI x (.ofNat R.il)) (fun h => ck (i2 hl) (lp (nx hl (fun _ => u64R (roZ R.iz) x.toNat) zer w255 (fun j hj => by rw [show j = 0 by omega, ex]) (fun _ _ => rfl) (fun _ _ => rfl))))
        (fun h => lp (show stL R (n0 + 1) 1 (wr .i64 (x + 1)) (fun _ => [.int .u64 (wr .u64 (cut8 0))]) zer w255 e from absurd h (by simp; omega)))))
      (fun h => lp (show st16 R 0 G1 G2 G3 e from absurd h (by simp; omega))))
      (by kernel_rfl)
  | succ q =>
    have ca : (true && (true && (Nat.ble (q + 1 + 1) 16777216 && (Nat.ble (0 + (q + 1)) (q + 1) && true)))) = true := by simp; omega
    exact vlN (c := cSt0) (n := 20000) (he0 he) hN0 (by simp)
      (ifs (c := ltI x (.ofNat (n0 + 1))) (fun h => by
        have hl : x < ((n0 + 1 : Nat) : Int) := by simpa using h
        exact ck (i1 hl) (ifs (c := ltI x (.ofNat R.il)) (fun h => ck (i2 hl) (ck ca (ck ca (ck ca (lp (nx hl (app1 (q + 1) G1 (u64R (roZ R.iz) x.toNat)) (app1 (q + 1) G2 [.int .u64 0]) (app1 (q + 1) G3 [.int .u64 255]) (app1_eq h1 (by rw [ex]) fun _ => rfl) (app1_eq h2 rfl fun _ => rfl) (app1_eq h3 rfl fun _ => rfl)))))))
          (fun h => ck ca (ck ca (ck ca (lp (show stL R (n0 + 1) (q + 1 + 1) (wr .i64 (x + 1)) (app1 (q + 1) G1 [.int .u64 (wr .u64 (cut8 0))]) (app1 (q + 1) G2 [.int .u64 0]) (app1 (q + 1) G3 [.int .u64 255]) e from absurd h (by simp; omega))))))))
      (fun h => by
        have h : ((n0 + 1 : Nat) : Int) ≤ x := by simpa using h
        have e1 : q = n0 := by omega
        have k : st16 R (q + 1) (fz G1) (fz G2) (fz G3) e := by
          have f1 := fz_eq h1 fun _ => rfl
          have f2 := fz_eq h2 fun _ => rfl
          have f3 := fz_eq h3 fun _ => rfl
          rw [e1] at f1 f2 f3 ⊢
          exact K _ _ _ f1 f2 f3
        exact lp k))
      (by kernel_rfl)
termination_by n0 + 1 - q
decreasing_by all_goals omega
end Go.Proofs.YtpflobodmglmaaaGreat
set_option linter.unusedVariables false
set_option maxHeartbeats 1000000
namespace Go.Proofs.YtpflobodmglmaaaGreat
/-- One register is saved. -/
noncomputable def ST.sav (T : ST) (s : Int) : ST := { T with sb := false, sn := 1, sz := fun _ => s }
noncomputable def kpZ (s : Int) (j : Nat) : Int := bif Nat.beq j (0 + (Int.ofNat s.toNat).toNat) then zO 0 255 else 0
noncomputable def rI : List AV := insV 9 0 0 0 0 b0' nl 0 0
noncomputable def cdB (d : Int) : LP := ⟨false, true, 1, fun _ => [.lst false true 2 (rowL [cI d, rI])]⟩
noncomputable def sl0 : LP := ⟨false, false, 0, fun _ => [iV 0]⟩
noncomputable def rsC (T : ST) (s d junk ans : Int) (ib if' : Bool) (il : Nat) (iz : Nat → Int) : RS := ⟨(T.sav s).one, ⟨#[102]⟩, 0, cdB d, sl0, wr .u64 junk, ⟨false, true, 1, fun _ => [iV ans]⟩, 9, LP.nil, LP.nil, ⟨false, true, 1, fun _ => [iV ans]⟩, 9, ib, if', il, iz, junk⟩
noncomputable def oreL (ans : Int) : LP := ⟨false, false, 0, fun _ => [iV ans]⟩
noncomputable def rdC (T : ST) (s d junk ans ev res : Int) : RD := ⟨(T.sav s).one.c, ⟨#[102]⟩, 0, cdB d, ⟨false, false, T.n, fun i => u64R (kpZ s) (0 + i)⟩, ⟨false, false, T.n, w255⟩, sl0, junk, 0, 2, oreL ans, 7, ⟨false, false, 1, evR bG ev⟩, res, 0⟩
noncomputable def spCk (N : List Blk) : CSp := { ids := [.v 0, .c 0 0, .c 0 5, .c 0 6, .c 0 7], res := fun _ _ => (.ret (.tup []), N) }
noncomputable def cRun (N : List Blk) : Cfg := ⟨[(120, spCl), (48, spPc), (128, spCk N)], [(17, 6, { live := [6, 11, 166, 167, 168], ids := [.v 6, .v 11, .c 1 0, .c 1 5, .c 2 6] })]⟩
theorem cl02 {P : Program} {f : Fr} {M : Mem} {e : AEnd} {N : List Blk} {p p2 : Prop} (h0 : p) (h1 : p2) (h : FrE P f M e N) : (p ∧ (p2 ∧ True)) ∧ (FrE P f M e N ∧ (e = e ∧ bld N 0 .nil = bld N 0 .nil)) := ⟨⟨h0, h1, trivial⟩, h, rfl, rfl⟩
theorem runCN (T : ST) (n0 : Nat) (hT : T.n = n0 + 1) (hn : n0 + 1 ≤ 40) (s junk ans : Int) (h0 : giV (T.hr (nm 0)) = 0) (hs0 : 0 ≤ s) (hs1 : s < T.n) (ib if' : Bool) (il : Nat) (iz : Nat → Int) :
    st16 (rsC T s (-1) junk ans ib if' il iz) (n0 + 1) (u64R (roZ iz)) zer w255 (runE (rdC T s (-1) (wr .u64 junk) ans (rd8 (roZ iz 0)) (rd8 ((clZ (roZ iz) (kpZ s) (wr .u64 junk)) (0 + (Int.ofNat (giV (T.hr (nm 0))).toNat).toNat)))) (n0 + 1) (clZ (roZ iz) (kpZ s) (wr .u64 junk))) := by
  have i1 : (inI (Int.ofNat s.toNat) (n0 + 1) && true) = true := by simp; omega
  have i2 : ((true && Nat.blt (0 + (Int.ofNat s.toNat).toNat) (n0 + 1)) && true) = true := by simp; omega
  have j1 : (inI (Int.ofNat (giV (T.hr (nm 0))).toNat) (n0 + 1) && true) = true := by rw [h0]; simp
  have j2 : ((true && Nat.blt (0 + (Int.ofNat (giV (T.hr (nm 0))).toNat).toNat) (n0 + 1)) && true) = true := by rw [h0]; simp
  have pl1 : CtE XV.P 48 [.cp (T.sav s).one.c, iV s] [] (.ret (plc8 s)) [] := place_ok (T.sav s).one s hs0 hs1
  have pl2 : CtE XV.P 48 [.cp (T.sav s).one.c, iV (giV (T.hr (nm 0)))] [] (.ret (plc8 (giV (T.hr (nm 0))))) [] := place_ok (T.sav s).one (giV (T.hr (nm 0))) (by rw [h0]; omega) (by rw [h0]; show (0 : Int) < (T.n : Int); omega)
  have cc := callN_ok (T.sav s) (cdB (-1)) sl0 (wr .u64 junk) 8 0 1 ans (roZ iz) (kpZ s) (by show T.n ≤ 40; omega) (by show 0 < T.n; omega)
  have re := re_lp (rdC T s (-1) (wr .u64 junk) ans (rd8 (roZ iz 0)) (rd8 ((clZ (roZ iz) (kpZ s) (wr .u64 junk)) (0 + (Int.ofNat (giV (T.hr (nm 0))).toNat).toNat)))) n0 (clZ (roZ iz) (kpZ s) (wr .u64 junk)) (by omega) 0 0 (fun _ => []) rfl (Nat.zero_le _) (fun j hj => by omega)
  obtain ⟨U, n, hr, sb, sf, sn, sz, ab, af, an, az, kp⟩ := T
  cases hT
  exact vlR (c := cRun (cN (ST.sav ⟨U, n0 + 1, hr, sb, sf, sn, sz, ab, af, an, az, kp⟩ s) (cdB (-1)) sl0.v (wr .u64 junk) 8 0 1 (orE ans) (ev1 (rd8 (roZ iz 0))) (clZ (roZ iz) (kpZ s) (wr .u64 junk)) (kpZ s))) (n := 20000) (by kernel_rfl) hN0 (by simp)
    (cl (clI_ok false sf 1 (fun _ => s) (fun h => by cases h) (by omega)) (cl pl1 (ck i1 (ck i2 (ck i1 (ck i2 (cl (clI_ok false af 1 (fun _ => 0) (fun h => by cases h) (by omega)) (cl cc (cl pl2 (ck j1 (ck j2 (cl02 (show 0 + (n0 + 1) ≤ n0 + 1 by omega) (show 0 + (n0 + 1) ≤ n0 + 1 by omega) re))))))))))))
    (by kernel_rfl)
theorem runCA (T : ST) (n0 : Nat) (hT : T.n = n0 + 1) (hn : n0 + 1 ≤ 40) (s junk ans : Int) (h0 : giV (T.hr (nm 0)) = 0) (hs0 : 0 ≤ s) (hs1 : s < T.n) (ib if' : Bool) (il : Nat) (iz : Nat → Int) :
    st16 (rsC T s 0 junk ans ib if' il iz) (n0 + 1) (u64R (roZ iz)) zer w255 (runE (rdC T s 0 (wr .u64 junk) ans (rd8 (roZ iz 0)) (rd8 ((clA (roZ iz) (kpZ s) (wr .u64 junk) ans) (0 + (Int.ofNat (giV (T.hr (nm 0))).toNat).toNat)))) (n0 + 1) (clA (roZ iz) (kpZ s) (wr .u64 junk) ans)) := by
  have i1 : (inI (Int.ofNat s.toNat) (n0 + 1) && true) = true := by simp; omega
  have i2 : ((true && Nat.blt (0 + (Int.ofNat s.toNat).toNat) (n0 + 1)) && true) = true := by simp; omega
  have j1 : (inI (Int.ofNat (giV (T.hr (nm 0))).toNat) (n0 + 1) && true) = true := by rw [h0]; simp
  have j2 : ((true && Nat.blt (0 + (Int.ofNat (giV (T.hr (nm 0))).toNat).toNat) (n0 + 1)) && true) = true := by rw [h0]; simp
  have pl1 : CtE XV.P 48 [.cp (T.sav s).one.c, iV s] [] (.ret (plc8 s)) [] := place_ok (T.sav s).one s hs0 hs1
  have pl2 : CtE XV.P 48 [.cp (T.sav s).one.c, iV (giV (T.hr (nm 0)))] [] (.ret (plc8 (giV (T.hr (nm 0))))) [] := place_ok (T.sav s).one (giV (T.hr (nm 0))) (by rw [h0]; omega) (by rw [h0]; show (0 : Int) < (T.n : Int); omega)
  have cc := callA_ok (T.sav s) (cdB 0) sl0 (wr .u64 junk) 8 0 1 ans (roZ iz) (kpZ s) (by show T.n ≤ 40; omega) (by show 0 < T.n; omega) h0
  have re := re_lp (rdC T s 0 (wr .u64 junk) ans (rd8 (roZ iz 0)) (rd8 ((clA (roZ iz) (kpZ s) (wr .u64 junk) ans) (0 + (Int.ofNat (giV (T.hr (nm 0))).toNat).toNat)))) n0 (clA (roZ iz) (kpZ s) (wr .u64 junk) ans) (by omega) 0 0 (fun _ => []) rfl (Nat.zero_le _) (fun j hj => by omega)
  obtain ⟨U, n, hr, sb, sf, sn, sz, ab, af, an, az, kp⟩ := T
  cases hT
  exact vlR (c := cRun (cN (ST.sav ⟨U, n0 + 1, hr, sb, sf, sn, sz, ab, af, an, az, kp⟩ s) (cdB 0) sl0.v (wr .u64 junk) 8 0 1 (orE ans) (ev1 (rd8 (roZ iz 0))) (clA (roZ iz) (kpZ s) (wr .u64 junk) ans) (kpZ s))) (n := 20000) (by kernel_rfl) hN0 (by simp)
    (cl (clI_ok false sf 1 (fun _ => s) (fun h => by cases h) (by omega)) (cl pl1 (ck i1 (ck i2 (ck i1 (ck i2 (cl (clI_ok false af 1 (fun _ => 0) (fun h => by cases h) (by omega)) (cl cc (cl pl2 (ck j1 (ck j2 (cl02 (show 0 + (n0 + 1) ≤ n0 + 1 by omega) (show 0 + (n0 + 1) ≤ n0 + 1 by omega) re))))))))))))
    (by kernel_rfl)
end Go.Proofs.YtpflobodmglmaaaGreat
set_option linter.unusedVariables false
set_option maxHeartbeats 1000000
namespace Go.Proofs.YtpflobodmglmaaaGreat
noncomputable def ST.m (T : ST) : List AV := [.str T.U.name, .lst false false T.n regR, T.U.cls.v, T.U.ops.v, T.U.args.v, .str (nm 0), T.U.saved.v, iV 100]
theorem machine_ok (T : ST) (h : CtE XV.P 70 [.agg T.m] [] (.ret (.agg T.m)) []) : CtE XV.P 44 [.cp T.c] [] (.ret (.agg T.m)) [] :=
  vc0 (c := ⟨[(70, spE (.ret (.agg T.m)))], []⟩) (n := 20000) (by kernel_rfl) (cl h (endI (wkE (.ret (.agg T.m))))) (by kernel_rfl)
noncomputable def e000 : AEnd := .ret (.tup [iV 0, iV 0, iV 0])
noncomputable def cBeg (T : ST) : Cfg := ⟨[(42, spE e000), (44, spE (.ret (.agg T.m)))], cSt0.ls⟩
theorem chkN (T : ST) : CtE XV.P 42 [.cp T.one.c, .agg [.str ⟨#[102]⟩, iV 0, (cdB (-1)).v]] [] e000 [] :=
  vc0 (c := ⟨[(120, spCl)], []⟩) (n := 20000) (by kernel_rfl) (cl (clI_ok false T.af 1 (fun _ => 0) (fun h => by cases h) (by omega)) (endI (wkE e000))) (by kernel_rfl)
theorem runN_ok (T : ST) (n0 : Nat) (hT : T.n = n0 + 1) (hn : n0 + 1 ≤ 40) (s junk ans : Int) (h0 : giV (T.hr (nm 0)) = 0) (hs0 : 0 ≤ s) (hs1 : s < T.n) (ib if' : Bool) (il : Nat) (iz : Nat → Int) (hi : n0 + 1 ≤ il)
    (hm : CtE XV.P 70 [.agg T.m] [] (.ret (.agg T.m)) []) : CtE XV.P 17 [.cp (T.sav s).one.c, .agg [.str ⟨#[102]⟩, iV 0, (cdB (-1)).v], .agg (rsC T s (-1) junk ans ib if' il iz).w] [] (runE (rdC T s (-1) (wr .u64 junk) ans (rd8 (roZ iz 0)) (rd8 ((clZ (roZ iz) (kpZ s) (wr .u64 junk)) (0 + (Int.ofNat (giV (T.hr (nm 0))).toNat).toNat)))) (n0 + 1) (clZ (roZ iz) (kpZ s) (wr .u64 junk))) [] := by
  have k := st_lp (rsC T s (-1) junk ans ib if' il iz) n0 (runE (rdC T s (-1) (wr .u64 junk) ans (rd8 (roZ iz 0)) (rd8 ((clZ (roZ iz) (kpZ s) (wr .u64 junk)) (0 + (Int.ofNat (giV (T.hr (nm 0))).toNat).toNat)))) (n0 + 1) (clZ (roZ iz) (kpZ s) (wr .u64 junk))) (by kernel_rfl) (by omega) hi (fun G1 G2 G3 a b c => by
      refine fr_wkB (.cons (by simp) (by simp) (wkB _) (.cons (by simp) (by simp) (wkB _) (.cons (by simp) (by simp) (wkB _) (.cons (by simp) (by simp) (wkB_row fun j hj => .of (a j hj)) (.cons (by simp) (by simp) (wkB_row fun j hj => .of (b j hj)) (.cons (by simp) (by simp) (wkB_row fun j hj => .of (c j hj)) .nil)))))) (runCN T n0 hT hn s junk ans h0 hs0 hs1 ib if' il iz))
    0 0 (fun _ => []) (fun _ => []) (fun _ => []) rfl (Nat.zero_le _) (fun j hj => by omega) (fun j hj => by omega) (fun j hj => by omega)
  have ck' : CtE XV.P 42 [.cp (T.sav s).one.c, .agg [.str ⟨#[102]⟩, iV 0, (cdB (-1)).v]] [] e000 [] := chkN (T.sav s)
  have mm : CtE XV.P 44 [.cp (T.sav s).one.c] [] (.ret (.agg T.m)) [] := machine_ok (T.sav s).one hm
  obtain ⟨U, n, hr, sb, sf, sn, sz, ab, af, an, az, kp⟩ := T
  cases hT
  exact vc0 (c := cBeg ⟨U, n0 + 1, hr, sb, sf, sn, sz, ab, af, an, az, kp⟩) (n := 20000) (by kernel_rfl)
    (cl ck' (cl mm (cl0 (Nat.le_refl 0) k)))
    (by kernel_rfl)
theorem chkA (T : ST) : CtE XV.P 42 [.cp T.one.c, .agg [.str ⟨#[102]⟩, iV 0, (cdB 0).v]] [] e000 [] :=
  vc0 (c := ⟨[(120, spCl)], []⟩) (n := 20000) (by kernel_rfl) (cl (clI_ok false T.af 1 (fun _ => 0) (fun h => by cases h) (by omega)) (endI (wkE e000))) (by kernel_rfl)
theorem runA_ok (T : ST) (n0 : Nat) (hT : T.n = n0 + 1) (hn : n0 + 1 ≤ 40) (s junk ans : Int) (h0 : giV (T.hr (nm 0)) = 0) (hs0 : 0 ≤ s) (hs1 : s < T.n) (ib if' : Bool) (il : Nat) (iz : Nat → Int) (hi : n0 + 1 ≤ il)
    (hm : CtE XV.P 70 [.agg T.m] [] (.ret (.agg T.m)) []) : CtE XV.P 17 [.cp (T.sav s).one.c, .agg [.str ⟨#[102]⟩, iV 0, (cdB 0).v], .agg (rsC T s 0 junk ans ib if' il iz).w] [] (runE (rdC T s 0 (wr .u64 junk) ans (rd8 (roZ iz 0)) (rd8 ((clA (roZ iz) (kpZ s) (wr .u64 junk) ans) (0 + (Int.ofNat (giV (T.hr (nm 0))).toNat).toNat)))) (n0 + 1) (clA (roZ iz) (kpZ s) (wr .u64 junk) ans)) [] := by
  have k := st_lp (rsC T s 0 junk ans ib if' il iz) n0 (runE (rdC T s 0 (wr .u64 junk) ans (rd8 (roZ iz 0)) (rd8 ((clA (roZ iz) (kpZ s) (wr .u64 junk) ans) (0 + (Int.ofNat (giV (T.hr (nm 0))).toNat).toNat)))) (n0 + 1) (clA (roZ iz) (kpZ s) (wr .u64 junk) ans)) (by kernel_rfl) (by omega) hi (fun G1 G2 G3 a b c => by
      refine fr_wkB (.cons (by simp) (by simp) (wkB _) (.cons (by simp) (by simp) (wkB _) (.cons (by simp) (by simp) (wkB _) (.cons (by simp) (by simp) (wkB_row fun j hj => .of (a j hj)) (.cons (by simp) (by simp) (wkB_row fun j hj => .of (b j hj)) (.cons (by simp) (by simp) (wkB_row fun j hj => .of (c j hj)) .nil)))))) (runCA T n0 hT hn s junk ans h0 hs0 hs1 ib if' il iz))
    0 0 (fun _ => []) (fun _ => []) (fun _ => []) rfl (Nat.zero_le _) (fun j hj => by omega) (fun j hj => by omega) (fun j hj => by omega)
  have ck' : CtE XV.P 42 [.cp (T.sav s).one.c, .agg [.str ⟨#[102]⟩, iV 0, (cdB 0).v]] [] e000 [] := chkA (T.sav s)
  have mm : CtE XV.P 44 [.cp (T.sav s).one.c] [] (.ret (.agg T.m)) [] := machine_ok (T.sav s).one hm
  obtain ⟨U, n, hr, sb, sf, sn, sz, ab, af, an, az, kp⟩ := T
  cases hT
  exact vc0 (c := cBeg ⟨U, n0 + 1, hr, sb, sf, sn, sz, ab, af, an, az, kp⟩) (n := 20000) (by kernel_rfl)
    (cl ck' (cl mm (cl0 (Nat.le_refl 0) k)))
    (by kernel_rfl)
end Go.Proofs.YtpflobodmglmaaaGreat
set_option linter.unusedVariables false
set_option maxHeartbeats 1000000
namespace Go.Proofs.YtpflobodmglmaaaGreat
theorem nf {c : Bool} {q : Prop} {y : AEnd} (h : c = false) (x : q) : (bif c then (True ∧ WkE (.ret (.bool false)) y ∧ True) else q) := by rw [h]; exact x
noncomputable def a255 (x : Int) : Int := wr .i64 (.ofNat (BitVec.toNat ((BitVec.ofInt 64 x) &&& (BitVec.ofInt 64 255))))
noncomputable def wanN (iz : Nat → Int) (s junk : Int) (j : Nat) : Int := if (j : Int) = s then a255 (iz j) else a255 junk
noncomputable def wanA (iz : Nat → Int) (s junk ans : Int) (j : Nat) : Int := if j = 0 then a255 ans else if (j : Int) = s then a255 (iz j) else a255 junk
noncomputable def tT : AEnd := .ret (.bool true)
theorem wkT {b : Bool} (h : b = true) : WkE (.ret (.bool b)) tT := by rw [h]; exact wkE _
noncomputable def cMCl : Cfg := ⟨[], [(4, 0, { live := [0, 1, 2, 3, 5, 17, 18, 20], ids := [] })]⟩
theorem mcN_lp (N : Nat) (s junk ans : Int) (ib if' : Bool) (il : Nat) (iz : Nat → Int) (evs : LP) (res : Int) (Z : Nat → Int) (h1 : 1 ≤ N) (hN : N ≤ 40) (hi : N ≤ il) (hZ : ∀ j, j < N → Z j = wanN iz s junk j) (hr : res = Z 0) (q : Nat) (i : Int) (hq : i = q) (hm : q ≤ N) :
    FrE XV.P (frH XV.P 4 0 [(0, iV (Int.ofNat N)), (1, iV s), (2, iV junk), (3, iV ans), (5, .lst ib if' il (fun i => [iV (iz i)])), (17, iV (-1)), (18, .cp [evs.v, iV res, iV 0, .lst false false N (fun i => [iV (Z i)])]), (20, iV i)]) (clM []) tT [] :=
  vl0 (c := cMCl) (n := 20000) (by kernel_rfl)
    (ifs (c := ltI i (.ofNat N)) (fun h => by
      have h : i < (N : Int) := by simpa using h
      have ex : i.toNat = q := by rw [hq]; rfl
      have i1 : (inI i N && true) = true := by simp; omega
      have i2 : (inI i il && true) = true := by simp; omega
      have nx := mcN_lp N s junk ans ib if' il iz evs res Z h1 hN hi hZ hr (q + 1) (wr .i64 (i + 1)) (by rw [wr_id] <;> omega) (by omega)
      have wz := hZ i.toNat (by omega)
      have ei : ((i.toNat : Nat) : Int) = i := by omega
      exact (ifs (c := eqI i s) (fun hs => by
        have hs : ((i.toNat : Nat) : Int) = s := by rw [ei]; simpa using hs
        exact ck i2 (ifs (c := eqI i 0) (fun h0 => (ck i1 (nf (y := tT) (c := !(eqI (Z i.toNat) (a255 (iz i.toNat)))) (by rw [wz]; unfold wanN; rw [if_pos hs]; simp) (lp nx)))) (fun h0 => (ck i1 (nf (y := tT) (c := !(eqI (Z i.toNat) (a255 (iz i.toNat)))) (by rw [wz]; unfold wanN; rw [if_pos hs]; simp) (lp nx))))))
      (fun hs => by
        have hs : ¬ ((i.toNat : Nat) : Int) = s := by rw [ei]; simpa using hs
        exact (ifs (c := eqI i 0) (fun h0 => (ck i1 (nf (y := tT) (c := !(eqI (Z i.toNat) (a255 junk))) (by rw [wz]; unfold wanN; rw [if_neg hs]; simp) (lp nx)))) (fun h0 => (ck i1 (nf (y := tT) (c := !(eqI (Z i.toNat) (a255 junk))) (by rw [wz]; unfold wanN; rw [if_neg hs]; simp) (lp nx))))))))
    (fun h => ck (c := inI 0 N && true) (by simp; omega) (endI (wkT (b := eqI res (Z (Int.toNat 0))) (by rw [hr]; simp)))))
    (by kernel_rfl)
termination_by N - q
decreasing_by omega
theorem mcA_lp (N : Nat) (s junk ans : Int) (ib if' : Bool) (il : Nat) (iz : Nat → Int) (evs : LP) (res : Int) (Z : Nat → Int) (h1 : 1 ≤ N) (hN : N ≤ 40) (hi : N ≤ il) (hZ : ∀ j, j < N → Z j = wanA iz s junk ans j) (hr : res = Z 0) (q : Nat) (i : Int) (hq : i = q) (hm : q ≤ N) :
    FrE XV.P (frH XV.P 4 0 [(0, iV (Int.ofNat N)), (1, iV s), (2, iV junk), (3, iV ans), (5, .lst ib if' il (fun i => [iV (iz i)])), (17, iV 0), (18, .cp [evs.v, iV res, iV 0, .lst false false N (fun i => [iV (Z i)])]), (20, iV i)]) (clM []) tT [] :=
  vl0 (c := cMCl) (n := 20000) (by kernel_rfl)
    (ifs (c := ltI i (.ofNat N)) (fun h => by
      have h : i < (N : Int) := by simpa using h
      have ex : i.toNat = q := by rw [hq]; rfl
      have i1 : (inI i N && true) = true := by simp; omega
      have i2 : (inI i il && true) = true := by simp; omega
      have nx := mcA_lp N s junk ans ib if' il iz evs res Z h1 hN hi hZ hr (q + 1) (wr .i64 (i + 1)) (by rw [wr_id] <;> omega) (by omega)
      have wz := hZ i.toNat (by omega)
      have ei : ((i.toNat : Nat) : Int) = i := by omega
      exact (ifs (c := eqI i s) (fun hs => by
        have hs : ((i.toNat : Nat) : Int) = s := by rw [ei]; simpa using hs
        exact ck i2 (ifs (c := eqI i 0) (fun h0 => have h0 : i = 0 := (by simpa using h0); (ck i1 (nf (y := tT) (c := !(eqI (Z i.toNat) (a255 ans))) (by rw [wz]; unfold wanA; rw [if_pos (by omega)]; simp) (lp nx)))) (fun h0 => have h0 : ¬ i = 0 := (by simpa using h0); (ck i1 (nf (y := tT) (c := !(eqI (Z i.toNat) (a255 (iz i.toNat)))) (by rw [wz]; unfold wanA; rw [if_neg (by omega), if_pos hs]; simp) (lp nx))))))
      (fun hs => by
        have hs : ¬ ((i.toNat : Nat) : Int) = s := by rw [ei]; simpa using hs
        exact (ifs (c := eqI i 0) (fun h0 => have h0 : i = 0 := (by simpa using h0); (ck i1 (nf (y := tT) (c := !(eqI (Z i.toNat) (a255 ans))) (by rw [wz]; unfold wanA; rw [if_pos (by omega)]; simp) (lp nx)))) (fun h0 => have h0 : ¬ i = 0 := (by simpa using h0); (ck i1 (nf (y := tT) (c := !(eqI (Z i.toNat) (a255 junk))) (by rw [wz]; unfold wanA; rw [if_neg (by omega), if_neg hs]; simp) (lp nx))))))))
    (fun h => ck (c := inI 0 N && true) (by simp; omega) (endI (wkT (b := eqI res (Z (Int.toNat 0))) (by rw [hr]; simp)))))
    (by kernel_rfl)
termination_by N - q
decreasing_by omega
end Go.Proofs.YtpflobodmglmaaaGreat
set_option linter.unusedVariables false
set_option maxHeartbeats 1000000
namespace Go.Proofs.YtpflobodmglmaaaGreat
noncomputable def smF (F : Fm) : TB := tbF (smD F) (smK F)
noncomputable def kpL (F : Fm) : LP := ⟨Nat.beq (setN (svP (smF F))) 0, true, setN (svP (smF F)), fun i => [.int .u64 (wv (svP (smF F)) i)]⟩
/-- The table of a machine of the family, with its saved registers and its arguments as numbers. -/
noncomputable def sT (F : Fm) (sz az : Nat → Int) : ST := ⟨smF F, F.n, mapG nm F.n, Nat.beq F.sn 0, false, F.sn, sz, Nat.beq F.an 0, false, F.an, az, kpL F⟩
theorem sT_wk (F : Fm) (sz az : Nat → Int) (hs : ∀ i, i < F.sn → giV (mapG nm F.n (F.sg i)) = sz i) (ha : ∀ i, i < F.an → giV (mapG nm F.n (F.ag i)) = az i) : WkL ((smF F).ck (setS (svP (smF F)))) (sT F sz az).c :=
  .cons (.refl _) (.cons (.refl _) (.cons (.refl _) (.cons (.refl _) (.cons (.refl _) (.cons (.refl _) (.cons (.refl _) (.cons (.refl _) (.cons (.refl _) (.cons (.refl _) (.cons (.refl _) (.cons (.refl _) (.cons (.refl _) (.cons (.refl _) (.cons (.refl _) (.cons (.refl _) (.cons (.refl _) (.cons (.refl _)
  (.cons (wkv_lst rfl id fun i (hi : i < F.sn) => .of (congrArg (fun x => [iV x]) (hs i hi))) (.cons (wkv_lst rfl id fun i (hi : i < F.an) => .of (congrArg (fun x => [iV x]) (ha i hi))) (.cons (.refl _) .nil))))))))))))))))))))
noncomputable def smD2 (F : Fm) : MD := ⟨⟨#[109]⟩, ⟨false, false, F.n, regR⟩, false, false, 0, (smC F).cp, false, false, 3, (smO F).cp, ⟨F.ab, false, F.an, F.ag⟩, nm 0, ⟨F.sb, false, F.sn, F.sg⟩, 100⟩
theorem copy2 (F : Fm) (h : FmOk F) (sz az : Nat → Int) : CtE XV.P 70 [.agg (sT F sz az).m] [] (.ret (.agg (sT F sz az).m)) [] := by
  have hn := h.n
  obtain ⟨k, hk⟩ : ∃ k, F.n = k + 1 := ⟨F.n - 1, by omega⟩
  have hR : CtE XV.P 145 [.lst false false F.n regR] [] (.ret (.lst false false F.n regR)) [] := by
    rw [hk]
    exact regs_ok k (by omega)
  have ok : CpOk ((smD2 F).wo 3) 2 :=
    ⟨by show 0 ≤ 65536; omega, by omega, fun j hj => ⟨(fun e => by cases e), by show F.n ≤ 65536; omega⟩, fun j hj => ⟨rfl, by
      show opU j ≤ 65536
      unfold opU
      split <;> omega⟩, fun j hj => by
      cases j with
      | zero => exact ⟨h.c.1, by show F.cn ≤ 65536; have := h.c.2.1; omega⟩
      | succ j => exact ⟨fun _ => rfl, Nat.zero_le _⟩, h.a, ⟨h.s.1, by show F.sn ≤ 65536; have := h.s.2.1; omega⟩⟩
  exact copied_ok (smD2 F) ⟨false, false, F.n, regR⟩ 2 ok rfl rfl hR
/-! Numbers. -/
theorem emod_nat (x : Int) (n : Nat) (hn : 0 < n) : ∃ k : Nat, x % n = (k : Int) ∧ k < n := by
  have h1 := Int.emod_nonneg x (b := (n : Int)) (by omega)
  have h2 := Int.emod_lt_of_pos x (b := (n : Int)) (by omega)
  exact ⟨(x % n).toNat, by omega, by omega⟩
theorem ofInt_emod (x : Int) : BitVec.ofInt 64 x = BitVec.ofNat 64 (x % 18446744073709551616).toNat := by
  apply BitVec.eq_of_toNat_eq
  rw [BitVec.toNat_ofInt, BitVec.toNat_ofNat]
  have := Int.emod_lt_of_pos x (b := 18446744073709551616) (by omega)
  have := Int.emod_nonneg x (b := 18446744073709551616) (by omega)
  show (x % 18446744073709551616).toNat = (x % 18446744073709551616).toNat % 2 ^ 64
  rw [Nat.mod_eq_of_lt (by omega)]
theorem wr_small {n : Nat} (h : n < 256) (k : IntKind) (hk : k = .i64 ∨ k = .u64) : wr k (n : Int) = (n : Int) := by
  rcases hk with rfl | rfl
  · exact wr_id (by omega) (by omega)
  · exact wr_u64 (by omega)
theorem and_255 (n : Nat) : n &&& 255 = n % 256 := Nat.and_two_pow_sub_one_eq_mod n 8
theorem a255_eq (x : Int) : a255 x = x % 256 := by
  unfold a255
  rw [ofInt_emod]
  have e : BitVec.ofInt 64 255 = BitVec.ofNat 64 255 := rfl
  rw [e, BitVec.toNat_and, BitVec.toNat_ofNat, BitVec.toNat_ofNat]
  have h1 := Int.emod_lt_of_pos x (b := 18446744073709551616) (by omega)
  have h2 := Int.emod_nonneg x (b := 18446744073709551616) (by omega)
  rw [Nat.mod_eq_of_lt (a := (x % 18446744073709551616).toNat) (by omega), show 255 % 2 ^ 64 = 255 from rfl, and_255]
  have h3 : (x % 18446744073709551616).toNat % 256 < 256 := Nat.mod_lt _ (by omega)
  show wr .i64 (((x % 18446744073709551616).toNat % 256 : Nat) : Int) = _
  rw [wr_small h3 _ (.inl rfl)]
  omega
theorem wru_emod (x : Int) : wr .u64 x = x % 18446744073709551616 := by rw [wr_eq, wrap_u64]
theorem cut8_eq (x : Int) : cut8 x = x % 256 := by
  unfold cut8
  rw [wru_emod, wru_emod, Int.fdiv_eq_ediv_of_nonneg _ (by omega)]
  rw [wr_id] <;> omega
theorem rd8_eq {x : Int} (h0 : 0 ≤ x) (h1 : x < 256) : rd8 x = x := by
  unfold rd8
  rw [Int.fdiv_eq_ediv_of_nonneg x (by omega), wru_emod, wru_emod, wr_id (x := x / 1) (by omega) (by omega), Int.fdiv_eq_ediv_of_nonneg _ (by omega)]
  rw [wr_id] <;> omega
theorem roZ_eq (iz : Nat → Int) (j : Nat) : roZ iz j = iz j % 256 := by
  unfold roZ
  rw [cut8_eq, wru_emod]
  omega
theorem zA_nat {a b : Nat} (ha : a < 2 ^ 64) (hb : b < 2 ^ 64) : zA (a : Int) (b : Int) = ((a &&& b : Nat) : Int) := by
  unfold zA
  rw [ofInt_nat, ofInt_nat, BitVec.toNat_and, BitVec.toNat_ofNat, BitVec.toNat_ofNat, Nat.mod_eq_of_lt ha, Nat.mod_eq_of_lt hb]
  exact wr_u64 (Nat.and_lt_two_pow _ hb)
theorem zO_nat {a b : Nat} (ha : a < 2 ^ 64) (hb : b < 2 ^ 64) : zO (a : Int) (b : Int) = ((a ||| b : Nat) : Int) := by
  unfold zO
  rw [ofInt_nat, ofInt_nat, BitVec.toNat_or, BitVec.toNat_ofNat, BitVec.toNat_ofNat, Nat.mod_eq_of_lt ha, Nat.mod_eq_of_lt hb]
  exact wr_u64 (Nat.or_lt_two_pow ha hb)
/-- Without its lowest eight bits; without none. -/
theorem zS_255 {a : Nat} (ha : a < 256) : zS (a : Int) 255 = 0 := by
  unfold zS
  rw [ofInt_nat]
  have t : ((List.range 256).all fun a => Nat.beq (BitVec.ofNat 64 a &&& ~~~(BitVec.ofInt 64 255)).toNat 0) = true := by kernel_rfl
  have := all_lt t a ha
  rw [Nat.beq_eq] at this
  rw [this]
  rfl
theorem zS_0 {a : Nat} (ha : a < 2 ^ 64) : zS (a : Int) 0 = (a : Int) := by
  unfold zS
  rw [ofInt_nat]
  have e : ~~~(BitVec.ofInt 64 0) = BitVec.allOnes 64 := rfl
  rw [e, BitVec.and_allOnes, BitVec.toNat_ofNat, Nat.mod_eq_of_lt ha]
  exact wr_u64 ha
end Go.Proofs.YtpflobodmglmaaaGreat
set_option linter.unusedVariables false
set_option maxHeartbeats 1000000
namespace Go.Proofs.YtpflobodmglmaaaGreat
theorem zAS_255 {a : Nat} (ha : a < 2 ^ 64) : zA (zS (a : Int) 255) 255 = 0 := by
  have e : zS (a : Int) 255 = ((BitVec.ofNat 64 a &&& ~~~(BitVec.ofNat 64 255)).toNat : Int) := by
    unfold zS
    rw [ofInt_nat]
    exact wr_u64 (BitVec.isLt _)
  rw [e]
  unfold zA
  rw [ofInt_nat]
  have e2 : BitVec.ofNat 64 (BitVec.ofNat 64 a &&& ~~~(BitVec.ofNat 64 255)).toNat &&& BitVec.ofInt 64 255 = 0#64 := by
    rw [BitVec.ofNat_toNat, BitVec.setWidth_eq, show BitVec.ofInt 64 255 = BitVec.ofNat 64 255 from rfl, BitVec.and_assoc]
    have : ~~~(BitVec.ofNat 64 255) &&& BitVec.ofNat 64 255 = 0#64 := by decide
    rw [this, BitVec.and_zero]
  rw [e2]
  rfl
theorem zA255 {a : Nat} (ha : a < 2 ^ 64) : zA (a : Int) 255 = ((a % 256 : Nat) : Int) := by
  have := zA_nat (a := a) (b := 255) ha (by omega)
  rw [and_255] at this
  exact this
theorem kpZ_eq {s : Int} (j : Nat) (hs : 0 ≤ s) : kpZ s j = if (j : Int) = s then 255 else 0 := by
  unfold kpZ
  have e : 0 + (Int.ofNat s.toNat).toNat = s.toNat := Nat.zero_add _
  rw [e]
  by_cases h : (j : Int) = s
  · rw [if_pos h, show j = s.toNat by omega, Nat.beq_refl]; rfl
  · rw [if_neg h, beq_ff (by omega)]; rfl
theorem wru_nat (x : Int) : ∃ k : Nat, wr .u64 x = (k : Int) ∧ k < 2 ^ 64 ∧ (k : Int) % 256 = x % 256 := by
  have h1 := Int.emod_lt_of_pos x (b := 18446744073709551616) (by omega)
  have h2 := Int.emod_nonneg x (b := 18446744073709551616) (by omega)
  exact ⟨(x % 18446744073709551616).toNat, by rw [wru_emod]; omega, by omega, by omega⟩
theorem roZ_nat (iz : Nat → Int) (j : Nat) : ∃ k : Nat, roZ iz j = (k : Int) ∧ k < 256 ∧ (k : Int) = iz j % 256 := by
  obtain ⟨k, h1, h2⟩ := emod_nat (iz j) 256 (by omega)
  exact ⟨k, by rw [roZ_eq]; exact h1, h2, h1.symm⟩
theorem clZ_eq (iz : Nat → Int) {s : Int} (hs : 0 ≤ s) (junk : Int) (j : Nat) : clZ (roZ iz) (kpZ s) (wr .u64 junk) j = (if (j : Int) = s then iz j % 256 else junk % 256) := by
  unfold clZ
  rw [kpZ_eq j hs]
  obtain ⟨k, e1, e2, e3⟩ := roZ_nat iz j
  obtain ⟨J, f1, f2, f3⟩ := wru_nat junk
  rw [e1, f1]
  by_cases h : (j : Int) = s
  · rw [if_pos h, if_pos h, zAS_255 f2, zA255 (by omega), Nat.mod_eq_of_lt e2]
    have := zO_nat (a := k) (b := 0) (by omega) (by omega)
    rw [Nat.or_zero] at this
    exact this.trans e3
  · rw [if_neg h, if_neg h, zS_0 f2, zA255 f2]
    have e0 := zA_nat (a := k) (b := 0) (by omega) (by omega)
    rw [Nat.and_zero] at e0
    have e0 : zA (k : Int) 0 = ((0 : Nat) : Int) := e0
    rw [e0, zO_nat (by omega) (by have := Nat.mod_lt J (show 0 < 256 by omega); omega), Nat.zero_or]
    omega
theorem wr8_eq {k : Nat} (hk : k < 256) (v : Int) : wr8 (k : Int) v = v % 256 := by
  unfold wr8
  rw [zS_255 hk]
  obtain ⟨J, f1, f2, f3⟩ := wru_nat v
  rw [f1, Int.mul_one]
  have e : wr .u64 (J : Int) = (J : Int) := wr_u64 f2
  rw [e, zA255 f2]
  have := zO_nat (a := 0) (b := J % 256) (by omega) (by have := Nat.mod_lt J (show 0 < 256 by omega); omega)
  rw [Nat.zero_or] at this
  have t : zO (0 : Int) ((J % 256 : Nat) : Int) = ((J % 256 : Nat) : Int) := this
  rw [t]
  omega
theorem clZ_lt (iz : Nat → Int) {s : Int} (hs : 0 ≤ s) (junk : Int) (j : Nat) : ∃ k : Nat, clZ (roZ iz) (kpZ s) (wr .u64 junk) j = (k : Int) ∧ k < 256 := by
  rw [clZ_eq iz hs]
  by_cases h : (j : Int) = s
  · rw [if_pos h]; exact emod_nat _ 256 (by omega)
  · rw [if_neg h]; exact emod_nat _ 256 (by omega)
theorem zN_eq (iz : Nat → Int) {s : Int} (hs : 0 ≤ s) (junk : Int) (j : Nat) : wr .i64 (clZ (roZ iz) (kpZ s) (wr .u64 junk) j) = wanN iz s junk j := by
  obtain ⟨k, e1, e2⟩ := clZ_lt iz hs junk j
  rw [e1, wr_small e2 _ (.inl rfl), ← e1, clZ_eq iz hs]
  unfold wanN
  rw [a255_eq, a255_eq]
theorem clA_lt (iz : Nat → Int) {s : Int} (hs : 0 ≤ s) (junk ans : Int) (j : Nat) : ∃ k : Nat, clA (roZ iz) (kpZ s) (wr .u64 junk) ans j = (k : Int) ∧ k < 256 := by
  unfold clA
  by_cases h : j = 0
  · rw [if_pos h]
    obtain ⟨k, e1, e2⟩ := clZ_lt iz hs junk 0
    rw [e1, wr8_eq e2]
    exact emod_nat _ 256 (by omega)
  · rw [if_neg h]; exact clZ_lt iz hs junk j
theorem zA_eq (iz : Nat → Int) {s : Int} (hs : 0 ≤ s) (junk ans : Int) (j : Nat) : wr .i64 (clA (roZ iz) (kpZ s) (wr .u64 junk) ans j) = wanA iz s junk ans j := by
  obtain ⟨k, e1, e2⟩ := clA_lt iz hs junk ans j
  rw [e1, wr_small e2 _ (.inl rfl), ← e1]
  unfold clA wanA
  by_cases h : j = 0
  · rw [if_pos h, if_pos h]
    obtain ⟨k, e1, e2⟩ := clZ_lt iz hs junk 0
    rw [e1, wr8_eq e2, a255_eq]
  · rw [if_neg h, if_neg h, clZ_eq iz hs, a255_eq, a255_eq]
theorem clp {P : Program} {f : Nat} {args : List AV} {N0 : List Blk} {e : AEnd} {N : List Blk} {p q : Prop} (h0 : p) (h : CtE P f args N0 e N) (x : q) : p ∧ (CtE P f args N0 e N ∧ q) := ⟨h0, h, x⟩
noncomputable def cMC3 (e : AEnd) : Cfg := ⟨[(17, spE e)], [(4, 0, { live := [0, 1, 2, 3, 5, 17, 18, 20], ids := [] })]⟩
theorem mcN12 (T : ST) (n0 : Nat) (hT : T.n = n0 + 1) (hn : n0 + 1 ≤ 40) (s junk ans : Int) (h0 : giV (T.hr (nm 0)) = 0) (hs0 : 0 ≤ s) (hs1 : s < T.n) (ib if' : Bool) (il : Nat) (iz : Nat → Int) (hi : n0 + 1 ≤ il)
    (hm : CtE XV.P 70 [.agg T.m] [] (.ret (.agg T.m)) []) : FrE XV.P (frR XV.P 4 12 [(0, iV (Int.ofNat (n0 + 1))), (1, iV s), (2, iV junk), (3, iV ans), (5, .lst ib if' il (fun i => [iV (iz i)])), (15, .cp (T.sav s).one.c), (17, iV (-1))]) (clM []) tT [] := by
  have run := runN_ok T n0 hT hn s junk ans h0 hs0 hs1 ib if' il iz hi hm
  have eZ : ∀ j, wr .i64 ((clZ (roZ iz) (kpZ s) (wr .u64 junk)) j) = wanN iz s junk j := fun j => zN_eq iz hs0 junk j
  have er : (rd8 ((clZ (roZ iz) (kpZ s) (wr .u64 junk)) (0 + (Int.ofNat (giV (T.hr (nm 0))).toNat).toNat))) = wr .i64 ((clZ (roZ iz) (kpZ s) (wr .u64 junk)) 0) := by
    rw [h0]
    show rd8 ((clZ (roZ iz) (kpZ s) (wr .u64 junk)) 0) = _
    obtain ⟨k, e1, e2⟩ := clZ_lt iz hs0 junk 0
    rw [e1, rd8_eq (by omega) (by omega), wr_small e2 _ (.inl rfl)]
  have lpp := mcN_lp (n0 + 1) s junk ans ib if' il iz ⟨false, false, 1, evR bG (rd8 (roZ iz 0))⟩ (rd8 ((clZ (roZ iz) (kpZ s) (wr .u64 junk)) (0 + (Int.ofNat (giV (T.hr (nm 0))).toNat).toNat))) (fun j => wr .i64 ((clZ (roZ iz) (kpZ s) (wr .u64 junk)) j)) (by omega) hn hi (fun j _ => eZ j) er 0 0 rfl (Nat.zero_le _)
  have ea : eqI (rd8 (roZ iz 0)) (a255 (iz (Int.toNat 0))) = true := by
    obtain ⟨k, e1, e2, e3⟩ := roZ_nat iz 0
    rw [eqI_t, e1, rd8_eq (by omega) (by omega), a255_eq]
    exact e3
  have arg : CtE XV.P 17 [.cp (T.sav s).one.c, .agg [.str ⟨#[102]⟩, iV 0, .lst false true 1 (rowL [[.lst false true 2 (rowL [cI (-1), rI])]])], .agg [nl, nl, .lst false true 1 (rowL [[iV ans]]), iV 9, .lst ib if' il (fun i => [iV (iz i)]), iV junk]] [] (runE (rdC T s (-1) (wr .u64 junk) ans (rd8 (roZ iz 0)) (rd8 ((clZ (roZ iz) (kpZ s) (wr .u64 junk)) (0 + (Int.ofNat (giV (T.hr (nm 0))).toNat).toNat)))) (n0 + 1) (clZ (roZ iz) (kpZ s) (wr .u64 junk))) [] :=
    ct_wk (.cons (.refl _) (.cons (wkv_agg (.cons (.refl _) (.cons (.refl _) (.cons (wkv_lst rfl id fun i hi => .of (by rw [show i = 0 by omega]; rfl)) .nil)))) (.cons (wkv_agg (.cons (.refl _) (.cons (.refl _) (.cons (wkv_lst rfl id fun i hi => .of (by rw [show i = 0 by omega]; rfl)) (.refl _))))) .nil))) run
  exact vlR (c := cMC3 (runE (rdC T s (-1) (wr .u64 junk) ans (rd8 (roZ iz 0)) (rd8 ((clZ (roZ iz) (kpZ s) (wr .u64 junk)) (0 + (Int.ofNat (giV (T.hr (nm 0))).toNat).toNat)))) (n0 + 1) (clZ (roZ iz) (kpZ s) (wr .u64 junk)))) (n := 20000) (by kernel_rfl) hN0 (by simp)
    (clp (p := 0 + 1 ≤ 1 ∧ (0 + 2 ≤ 2 ∧ (0 + 1 ≤ 1 ∧ True))) ⟨by omega, by omega, by omega, trivial⟩ arg (nf (y := tT) (c := !(eqI (.ofNat (n0 + 1)) (.ofNat (n0 + 1)))) (by simp) (ck (c := inI 0 il && true) (by simp; omega) (nf (y := tT) (c := !(eqI (rd8 (roZ iz 0)) (a255 (iz (Int.toNat 0))))) (by rw [ea]; rfl) (lp lpp)))))
    (by kernel_rfl)
theorem mcA12 (T : ST) (n0 : Nat) (hT : T.n = n0 + 1) (hn : n0 + 1 ≤ 40) (s junk ans : Int) (h0 : giV (T.hr (nm 0)) = 0) (hs0 : 0 ≤ s) (hs1 : s < T.n) (ib if' : Bool) (il : Nat) (iz : Nat → Int) (hi : n0 + 1 ≤ il)
    (hm : CtE XV.P 70 [.agg T.m] [] (.ret (.agg T.m)) []) : FrE XV.P (frR XV.P 4 12 [(0, iV (Int.ofNat (n0 + 1))), (1, iV s), (2, iV junk), (3, iV ans), (5, .lst ib if' il (fun i => [iV (iz i)])), (15, .cp (T.sav s).one.c), (17, iV 0)]) (clM []) tT [] := by
  have run := runA_ok T n0 hT hn s junk ans h0 hs0 hs1 ib if' il iz hi hm
  have eZ : ∀ j, wr .i64 ((clA (roZ iz) (kpZ s) (wr .u64 junk) ans) j) = wanA iz s junk ans j := fun j => zA_eq iz hs0 junk ans j
  have er : (rd8 ((clA (roZ iz) (kpZ s) (wr .u64 junk) ans) (0 + (Int.ofNat (giV (T.hr (nm 0))).toNat).toNat))) = wr .i64 ((clA (roZ iz) (kpZ s) (wr .u64 junk) ans) 0) := by
    rw [h0]
    show rd8 ((clA (roZ iz) (kpZ s) (wr .u64 junk) ans) 0) = _
    obtain ⟨k, e1, e2⟩ := clA_lt iz hs0 junk ans 0
    rw [e1, rd8_eq (by omega) (by omega), wr_small e2 _ (.inl rfl)]
  have lpp := mcA_lp (n0 + 1) s junk ans ib if' il iz ⟨false, false, 1, evR bG (rd8 (roZ iz 0))⟩ (rd8 ((clA (roZ iz) (kpZ s) (wr .u64 junk) ans) (0 + (Int.ofNat (giV (T.hr (nm 0))).toNat).toNat))) (fun j => wr .i64 ((clA (roZ iz) (kpZ s) (wr .u64 junk) ans) j)) (by omega) hn hi (fun j _ => eZ j) er 0 0 rfl (Nat.zero_le _)
  have ea : eqI (rd8 (roZ iz 0)) (a255 (iz (Int.toNat 0))) = true := by
    obtain ⟨k, e1, e2, e3⟩ := roZ_nat iz 0
    rw [eqI_t, e1, rd8_eq (by omega) (by omega), a255_eq]
    exact e3
  have arg : CtE XV.P 17 [.cp (T.sav s).one.c, .agg [.str ⟨#[102]⟩, iV 0, .lst false true 1 (rowL [[.lst false true 2 (rowL [cI 0, rI])]])], .agg [nl, nl, .lst false true 1 (rowL [[iV ans]]), iV 9, .lst ib if' il (fun i => [iV (iz i)]), iV junk]] [] (runE (rdC T s 0 (wr .u64 junk) ans (rd8 (roZ iz 0)) (rd8 ((clA (roZ iz) (kpZ s) (wr .u64 junk) ans) (0 + (Int.ofNat (giV (T.hr (nm 0))).toNat).toNat)))) (n0 + 1) (clA (roZ iz) (kpZ s) (wr .u64 junk) ans)) [] :=
    ct_wk (.cons (.refl _) (.cons (wkv_agg (.cons (.refl _) (.cons (.refl _) (.cons (wkv_lst rfl id fun i hi => .of (by rw [show i = 0 by omega]; rfl)) .nil)))) (.cons (wkv_agg (.cons (.refl _) (.cons (.refl _) (.cons (wkv_lst rfl id fun i hi => .of (by rw [show i = 0 by omega]; rfl)) (.refl _))))) .nil))) run
  exact vlR (c := cMC3 (runE (rdC T s 0 (wr .u64 junk) ans (rd8 (roZ iz 0)) (rd8 ((clA (roZ iz) (kpZ s) (wr .u64 junk) ans) (0 + (Int.ofNat (giV (T.hr (nm 0))).toNat).toNat)))) (n0 + 1) (clA (roZ iz) (kpZ s) (wr .u64 junk) ans))) (n := 20000) (by kernel_rfl) hN0 (by simp)
    (clp (p := 0 + 1 ≤ 1 ∧ (0 + 2 ≤ 2 ∧ (0 + 1 ≤ 1 ∧ True))) ⟨by omega, by omega, by omega, trivial⟩ arg (nf (y := tT) (c := !(eqI (.ofNat (n0 + 1)) (.ofNat (n0 + 1)))) (by simp) (ck (c := inI 0 il && true) (by simp; omega) (nf (y := tT) (c := !(eqI (rd8 (roZ iz 0)) (a255 (iz (Int.toNat 0))))) (by rw [ea]; rfl) (lp lpp)))))
    (by kernel_rfl)
end Go.Proofs.YtpflobodmglmaaaGreat
set_option linter.unusedVariables false
set_option maxHeartbeats 1000000
namespace Go.Proofs.YtpflobodmglmaaaGreat
/-- A small machine of which one register is saved. -/
noncomputable def fmS (N : Nat) (s : Int) : Fm := ⟨N, true, 0, fun _ => b0', false, true, 1, fun _ => nm 0, false, 1, fun _ => nm s.toNat⟩
theorem fmS_ok {N : Nat} {s : Int} (h1 : 3 ≤ N) (h2 : N ≤ 30) (h3 : 0 ≤ s) (h4 : s < N) : FmOk (fmS N s) :=
  ⟨⟨h1, h2⟩, ⟨fun _ => rfl, by show 0 ≤ 1; omega, fun i hi => absurd hi (by show ¬ i < 0; omega)⟩, ⟨(fun e => by cases e), by show 1 ≤ 65536; omega⟩, ⟨(fun e => by cases e), by show 1 ≤ 1; omega, fun i hi => ⟨s.toNat, by show s.toNat < N; omega, rfl⟩⟩⟩
noncomputable def stS (N : Nat) (s : Int) : ST := sT (fmS N s) (fun _ => s) (fun _ => 0)
theorem makeS {N : Nat} {s : Int} (h1 : 3 ≤ N) (h2 : N ≤ 30) (h3 : 0 < s) (h4 : s < N) : CtE XV.P 23 [.agg (smL N regR nmR nl ar0 (.lst false true 1 (rowL [[.str (nm s.toNat)]])))] [] (mkE (smF (fmS N s))) [] := by
  have ok := fmS_ok h1 h2 (by omega) h4
  obtain ⟨m, rfl⟩ : ∃ m, N = m + 3 := ⟨N - 3, by omega⟩
  have ck := check01 m (by omega) (pl_all (m + 3) h1 h2) true (fun _ => b0') false s.toNat (by omega) (by omega)
  refine ct_wk (.cons (wkv_agg (.cons (.refl _) (.cons (.refl _) (.cons (.refl _) (.cons (wkv_lst rfl id fun i hi => ?_) (.cons (wkv_lst rfl id fun i hi => .of (by rw [show i = 0 by omega]; rfl)) (.cons (.refl _) (.cons (wkv_lst rfl id fun i hi => .of (by rw [show i = 0 by omega]; rfl)) (.refl _))))))))) .nil) (make_small (fmS (m + 3) s) ok (pl_all (m + 3) h1 h2) ck)
  rcases (show i = 0 ∨ i = 1 ∨ i = 2 by omega) with e | e | e <;> subst e
  · exact .cons (.refl _) (.cons (.refl _) (.cons (.refl _) (.cons (.refl _) (.cons (.refl _) (.cons (wkv_lst rfl id fun i hi => by omega) .nil)))))
  · exact .refl _
  · exact .refl _
noncomputable def cMC2 (N : Nat) (s : Int) : Cfg := ⟨[(22, spE (smV N)), (23, spE (mkE (smF (fmS N s))))], [(4, 1000012, { live := [0, 1, 2, 3, 5, 15, 17], ids := [] })]⟩
section
variable (N : Nat) (s junk ans wants : Int) (ib if' : Bool) (il : Nat) (iz : Nat → Int) (h1 : 3 ≤ N) (h2 : N ≤ 30) (h3 : 0 < s) (h4 : s < N) (h5 : N ≤ il)
include h1 h2 h3 h4 h5
theorem mcL4 : FrE XV.P (frR XV.P 4 4 [(0, iV (Int.ofNat N)), (1, iV s), (2, iV junk), (3, iV ans), (4, iV wants), (5, .lst ib if' il (fun i => [iV (iz i)]))]) (clM []) tT [] := by
  have ok := fmS_ok h1 h2 (by omega : 0 ≤ s) h4
  have hm := copy2 (fmS N s) ok (fun _ => s) (fun _ => 0)
  have h0 : giV ((stS N s).hr (nm 0)) = 0 := hr_nm (n := N) (j := 0) h2 (by omega)
  have wk : WkV (.cp ((smF (fmS N s)).ck (setS (svP (smF (fmS N s)))))) (.cp ((stS N s).sav s).one.c) := wkv_cp (sT_wk (fmS N s) (fun _ => s) (fun _ => 0) (fun i hi => by
    show giV (mapG nm N (nm s.toNat)) = s
    rw [hr_nm h2 (by omega)]; omega) (fun i hi => h0))
  obtain ⟨n0, rfl⟩ : ∃ n0, N = n0 + 1 := ⟨N - 1, by omega⟩
  have small : CtE XV.P 22 [iV (Int.ofNat (n0 + 1))] [] (smV (n0 + 1)) [] := small_ok n0 (by omega)
  have kA : FrE XV.P (frR XV.P 4 12 [(0, iV (Int.ofNat (n0 + 1))), (1, iV s), (2, iV junk), (3, iV ans), (5, .lst ib if' il (fun i => [iV (iz i)])), (15, .cp ((smF (fmS (n0 + 1) s)).ck (setS (svP (smF (fmS (n0 + 1) s)))))), (17, iV 0)]) (clM []) tT [] :=
    fr_wkT (L' := [(0, iV (Int.ofNat (n0 + 1))), (1, iV s), (2, iV junk), (3, iV ans), (5, .lst ib if' il (fun i => [iV (iz i)])), (15, .cp ((stS (n0 + 1) s).sav s).one.c), (17, iV 0)]) ⟨rfl, .refl _, rfl, .refl _, rfl, .refl _, rfl, .refl _, rfl, .refl _, rfl, wk, rfl, .refl _, trivial⟩ (mcA12 (stS (n0 + 1) s) n0 rfl (by omega) s junk ans h0 (by omega) h4 ib if' il iz h5 hm)
  have kN : FrE XV.P (frR XV.P 4 12 [(0, iV (Int.ofNat (n0 + 1))), (1, iV s), (2, iV junk), (3, iV ans), (5, .lst ib if' il (fun i => [iV (iz i)])), (15, .cp ((smF (fmS (n0 + 1) s)).ck (setS (svP (smF (fmS (n0 + 1) s)))))), (17, iV (-1))]) (clM []) tT [] :=
    fr_wkT (L' := [(0, iV (Int.ofNat (n0 + 1))), (1, iV s), (2, iV junk), (3, iV ans), (5, .lst ib if' il (fun i => [iV (iz i)])), (15, .cp ((stS (n0 + 1) s).sav s).one.c), (17, iV (-1))]) ⟨rfl, .refl _, rfl, .refl _, rfl, .refl _, rfl, .refl _, rfl, .refl _, rfl, wk, rfl, .refl _, trivial⟩ (mcN12 (stS (n0 + 1) s) n0 rfl (by omega) s junk ans h0 (by omega) h4 ib if' il iz h5 hm)
  exact vlR (c := cMC2 (n0 + 1) s) (n := 20000) (by kernel_rfl) hN0 (by simp)
    (cl small (ck (c := inI s (n0 + 1) && true) (by simp; omega) (clp (p := 0 + 1 ≤ 1 ∧ True) ⟨by omega, trivial⟩ (makeS h1 h2 h3 h4) (ifs (c := eqI (wr .i64 (.ofNat (BitVec.toNat ((BitVec.ofInt 64 wants) &&& (BitVec.ofInt 64 1))))) 1) (fun _ => lp kA) (fun _ => lp kN)))))
    (by kernel_rfl)
end
noncomputable def cMC1 : Cfg := ⟨[(12, spT)], [(4, 1000004, { live := [0, 1, 2, 3, 4, 5], ids := [] })]⟩
theorem calls_ok (hal : CtE XV.P 12 [] [] tT []) (n s junk ans wants : Int) (ib if' : Bool) (il : Nat) (iz : Nat → Int) : CtE XV.P 4 [iV n, iV s, iV junk, iV ans, iV wants, .lst ib if' il (fun i => [iV (iz i)])] [] tT [] := by
  have E : True ∧ WkE tT tT ∧ True := endI (wkE tT)
  cases n with
  | negSucc k => exact vc0 (c := cMC1) (n := 20000) (by kernel_rfl) (cl hal E) (by kernel_rfl)
  | ofNat N =>
    exact vc0 (c := cMC1) (n := 20000) (by kernel_rfl)
      (cl hal (ifs (c := ltI (.ofNat N) 3) (fun _ => E) (fun a1 => ifs (c := ltI 30 (.ofNat N)) (fun _ => E) (fun a2 => ifs (c := ltI s 1) (fun _ => E) (fun a3 => ifs (c := !(ltI s (.ofNat N))) (fun _ => E) (fun a4 => ifs (c := ltI (.ofNat il) (.ofNat N)) (fun _ => E) (fun a5 => by
        simp only [Int.ofNat_eq_natCast, ltI_f] at a1 a2 a3 a5
        have a4 : s < (N : Int) := by simpa using a4
        exact lp (mcL4 N s junk ans wants ib if' il iz (by omega) (by omega) (by omega) a4 (by omega)))))))))
      (by kernel_rfl)
end Go.Proofs.YtpflobodmglmaaaGreat
