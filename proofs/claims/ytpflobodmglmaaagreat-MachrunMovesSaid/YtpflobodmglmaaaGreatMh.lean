/- Several texts joined. No condition. -/
import Derived.Test.YtpflobodmglmaaaGreatMg
import Derived.Test.YtpflobodmglmaaaGreatMep
import Derived.Test.YtpflobodmglmaaaGreatMf
set_option linter.unusedSimpArgs false
set_option linter.unusedSectionVars false
set_option linter.unusedVariables false
set_option maxHeartbeats 1000000
namespace Go.Proofs.YtpflobodmglmaaaGreat
/-- A table that is being made: what it knows ahead of its classes. -/
structure TN where
  name : ByteArray
  regs : LP
  cls : LP
  ops : LP
  args : LP
  res : ByteArray
  saved : LP
  slots : Int
  names : LP
  pl : LP
  hr : ByteArray → Option Int
noncomputable def TN.c (T : TN) (of in' : AV) : List AV := [.str T.name, T.regs.v, T.cls.v, T.ops.v, T.args.v, .str T.res, T.saved.v, iV T.slots, T.names.v, T.pl.v, .cms .i64 T.hr, .nilm, .nilm, nl, of, in', nl, nl, nl, nl, nl]
/-- A row as it stays. -/
noncomputable def fz (G : Nat → List AV) (i : Nat) : List AV := (G i).map frz0
theorem scl_scl (a : AV) : scl (scl a) = scl a := by
  cases a <;> try rfl
  case tup l => cases l <;> rfl
theorem frz0_scl (a : AV) : frz0 (scl a) = scl a := by
  cases a <;> try rfl
  case tup l => cases l <;> rfl
theorem frz_frz (a : AV) : frz0 (frz0 a) = frz0 a := by
  cases a <;> try rfl
  case tup l => cases l <;> rfl
  case fn f l r => cases l <;> cases r <;> rfl
  case ifc t v => exact congrArg (AV.ifc t) (scl_scl v)
theorem fz_fz (G : Nat → List AV) : fz (fz G) = fz G := by
  funext i
  unfold fz
  rw [List.map_map]
  exact List.map_congr_left fun a _ => frz_frz a
theorem wkB_fz {sz n : Nat} {G G' : Nat → List AV} (h : G' = G) (hG : fz G = G) : WkB (.row sz n (fz G')) (.row sz n G) := by rw [h, hG]; exact wkB _
theorem nk0_lp (T : TN) (nb f : Bool) (n : Nat) (g : Nat → ByteArray) (hn : n ≤ 16777215) (q : Nat) (x : Int) (G : Nat → List AV) (hx : x = ((q + 1 : Nat) : Int)) (hq : q + 1 ≤ n) (hG : ∀ j, j < q + 1 → G j = nuZ T.hr g j) :
    FrE XV.P (frH XV.P 73 0 [(0, .ptr 0 0 0 0), (1, strs nb f n g), (5, .sl 1 0 (q + 1) false 1), (8, strs nb f n g), (9, iV n), (10, iV x)]) (clM [.var (T.c nl nl), .row 1 (q + 1) G]) (nuE T.hr g n) [.var (T.c nl nl)] :=
  vlN (c := cNs) (n := 4000) (by kernel_rfl) (by kernel_rfl) (by simp)
    (ifs (c := ltI x (.ofNat n)) (fun h1' => by
      have h1' : x < (n : Int) := by simpa using h1'
      exact ck (c := inI x n && true) (by simp; omega) (ck (c := true && (true && (Nat.ble (q + 1 + 1) 16777216 && (Nat.ble (0 + (q + 1)) (q + 1) && true)))) (by simp; omega)
        (lp (nk0_lp T nb f n g hn (q + 1) (wr .i64 (x + 1)) (app1 (q + 1) G [iV (giV (T.hr (g (Int.toNat x))))]) (by rw [wr_id] <;> omega) (by omega) (app1_eq hG (by subst hx; rfl) fun _ => rfl))))) (fun h1' => by
      have h1' : (n : Int) ≤ x := by simpa using h1'
      have e : q + 1 = n := by omega
      exact (show ((0 + (q + 1) ≤ q + 1) ∧ True) ∧ WkE (.ret (.lst false false (q + 1) (fun i => (G (0 + i)).map frz0))) (nuE T.hr g n) ∧ (True ∧ WkB (.var (T.c nl nl)) (.var (T.c nl nl))) ∧ True from ⟨⟨by omega, trivial⟩, ns_end e hG, ⟨⟨trivial, wkB _⟩, trivial⟩⟩)))
    (by kernel_rfl)
termination_by n - q
decreasing_by omega
theorem nk0_ok (T : TN) (nb f : Bool) (n : Nat) (g : Nat → ByteArray) (hn : n ≤ 16777215) : CtE XV.P 73 [.ptr 0 0 0 0, strs nb f n g] [.var (T.c nl nl)] (nuE T.hr g n) [.var (T.c nl nl)] :=
  vcN (c := cNs) (n := 4000) (by kernel_rfl) (by kernel_rfl) (by simp)
    (ifs (c := ltI 0 (.ofNat n)) (fun h1' => by
      have h1' : 0 < (n : Int) := by simpa using h1'
      exact ck (c := inI 0 n && true) (by simp; omega) (lp (nk0_lp T nb f n g hn 0 1 (fun _ => nuZ T.hr g 0) rfl (by omega) (fun j hj => by rw [show j = 0 by omega])))) (fun h1' => by
      have h1' : (n : Int) ≤ 0 := by simpa using h1'
      have w : WkE (.ret nl) (nuE T.hr g n) := by
        obtain rfl : n = 0 := by omega
        exact wk_ret (wkv_lst rfl (fun e => by cases e) fun i hi => by omega)
      exact (show True ∧ WkE (.ret nl) (nuE T.hr g n) ∧ (True ∧ WkB (.var (T.c nl nl)) (.var (T.c nl nl))) ∧ True from ⟨trivial, w, ⟨⟨trivial, wkB _⟩, trivial⟩⟩)))
    (by kernel_rfl)
theorem nk1_lp (T : TN) (j1 : Nat) (H1 : Nat → List AV) (h1 : fz H1 = H1) (nb f : Bool) (n : Nat) (g : Nat → ByteArray) (hn : n ≤ 16777215) (q : Nat) (x : Int) (G : Nat → List AV) (G1 : Nat → List AV) (e1 : G1 = H1) (hx : x = ((q + 1 : Nat) : Int)) (hq : q + 1 ≤ n) (hG : ∀ j, j < q + 1 → G j = nuZ T.hr g j) :
    FrE XV.P (frH XV.P 73 0 [(0, .ptr 0 0 0 0), (1, strs nb f n g), (5, .sl 2 0 (q + 1) false 1), (8, strs nb f n g), (9, iV n), (10, iV x)]) (clM [.var (T.c (.sl 1 0 j1 false 1) nl), .row 1 j1 G1, .row 1 (q + 1) G]) (nuE T.hr g n) [.var (T.c (.sl 1 0 j1 false 1) nl), .row 1 j1 H1] :=
  vlN (c := cNs) (n := 4000) (by kernel_rfl) (by show ([.var (T.c (.sl 1 0 j1 false 1) nl), .row 1 j1 (fz H1)] : List Blk) = [.var (T.c (.sl 1 0 j1 false 1) nl), .row 1 j1 H1]; rw [h1]) (by simp)
    (ifs (c := ltI x (.ofNat n)) (fun h1' => by
      have h1' : x < (n : Int) := by simpa using h1'
      exact ck (c := inI x n && true) (by simp; omega) (ck (c := true && (true && (Nat.ble (q + 1 + 1) 16777216 && (Nat.ble (0 + (q + 1)) (q + 1) && true)))) (by simp; omega)
        (lp (nk1_lp T j1 H1 h1 nb f n g hn (q + 1) (wr .i64 (x + 1)) (app1 (q + 1) G [iV (giV (T.hr (g (Int.toNat x))))]) (fz G1) (by rw [e1, h1]) (by rw [wr_id] <;> omega) (by omega) (app1_eq hG (by subst hx; rfl) fun _ => rfl))))) (fun h1' => by
      have h1' : (n : Int) ≤ x := by simpa using h1'
      have e : q + 1 = n := by omega
      exact (show ((0 + (q + 1) ≤ q + 1) ∧ True) ∧ WkE (.ret (.lst false false (q + 1) (fun i => (G (0 + i)).map frz0))) (nuE T.hr g n) ∧ (True ∧ WkB (.var (T.c (.sl 1 0 j1 false 1) nl)) (.var (T.c (.sl 1 0 j1 false 1) nl))) ∧ (True ∧ WkB (.row 1 j1 (fz G1)) (.row 1 j1 H1)) ∧ True from ⟨⟨by omega, trivial⟩, ns_end e hG, ⟨⟨trivial, wkB _⟩, ⟨⟨trivial, wkB_fz e1 h1⟩, trivial⟩⟩⟩)))
    (by kernel_rfl)
termination_by n - q
decreasing_by omega
theorem nk1_ok (T : TN) (j1 : Nat) (H1 : Nat → List AV) (h1 : fz H1 = H1) (nb f : Bool) (n : Nat) (g : Nat → ByteArray) (hn : n ≤ 16777215) : CtE XV.P 73 [.ptr 0 0 0 0, strs nb f n g] [.var (T.c (.sl 1 0 j1 false 1) nl), .row 1 j1 H1] (nuE T.hr g n) [.var (T.c (.sl 1 0 j1 false 1) nl), .row 1 j1 H1] :=
  vcN (c := cNs) (n := 4000) (by kernel_rfl) (by show ([.var (T.c (.sl 1 0 j1 false 1) nl), .row 1 j1 (fz H1)] : List Blk) = [.var (T.c (.sl 1 0 j1 false 1) nl), .row 1 j1 H1]; rw [h1]) (by simp)
    (ifs (c := ltI 0 (.ofNat n)) (fun h1' => by
      have h1' : 0 < (n : Int) := by simpa using h1'
      exact ck (c := inI 0 n && true) (by simp; omega) (lp (nk1_lp T j1 H1 h1 nb f n g hn 0 1 (fun _ => nuZ T.hr g 0) (fz H1) h1 rfl (by omega) (fun j hj => by rw [show j = 0 by omega])))) (fun h1' => by
      have h1' : (n : Int) ≤ 0 := by simpa using h1'
      have w : WkE (.ret nl) (nuE T.hr g n) := by
        obtain rfl : n = 0 := by omega
        exact wk_ret (wkv_lst rfl (fun e => by cases e) fun i hi => by omega)
      exact (show True ∧ WkE (.ret nl) (nuE T.hr g n) ∧ (True ∧ WkB (.var (T.c (.sl 1 0 j1 false 1) nl)) (.var (T.c (.sl 1 0 j1 false 1) nl))) ∧ (True ∧ WkB (.row 1 j1 (fz H1)) (.row 1 j1 H1)) ∧ True from ⟨trivial, w, ⟨⟨trivial, wkB _⟩, ⟨⟨trivial, wkB_fz rfl h1⟩, trivial⟩⟩⟩)))
    (by kernel_rfl)
theorem nk2_lp (T : TN) (j1 j2 : Nat) (H1 H2 : Nat → List AV) (h1 : fz H1 = H1) (h2 : fz H2 = H2) (nb f : Bool) (n : Nat) (g : Nat → ByteArray) (hn : n ≤ 16777215) (q : Nat) (x : Int) (G : Nat → List AV) (G1 G2 : Nat → List AV) (e1 : G1 = H1) (e2 : G2 = H2) (hx : x = ((q + 1 : Nat) : Int)) (hq : q + 1 ≤ n) (hG : ∀ j, j < q + 1 → G j = nuZ T.hr g j) :
    FrE XV.P (frH XV.P 73 0 [(0, .ptr 0 0 0 0), (1, strs nb f n g), (5, .sl 3 0 (q + 1) false 1), (8, strs nb f n g), (9, iV n), (10, iV x)]) (clM [.var (T.c (.sl 1 0 j1 false 1) (.sl 2 0 j2 false 1)), .row 1 j1 G1, .row 1 j2 G2, .row 1 (q + 1) G]) (nuE T.hr g n) [.var (T.c (.sl 1 0 j1 false 1) (.sl 2 0 j2 false 1)), .row 1 j1 H1, .row 1 j2 H2] :=
  vlN (c := cNs) (n := 4000) (by kernel_rfl) (by show ([.var (T.c (.sl 1 0 j1 false 1) (.sl 2 0 j2 false 1)), .row 1 j1 (fz H1), .row 1 j2 (fz H2)] : List Blk) = [.var (T.c (.sl 1 0 j1 false 1) (.sl 2 0 j2 false 1)), .row 1 j1 H1, .row 1 j2 H2]; rw [h1, h2]) (by simp)
    (ifs (c := ltI x (.ofNat n)) (fun h1' => by
      have h1' : x < (n : Int) := by simpa using h1'
      exact ck (c := inI x n && true) (by simp; omega) (ck (c := true && (true && (Nat.ble (q + 1 + 1) 16777216 && (Nat.ble (0 + (q + 1)) (q + 1) && true)))) (by simp; omega)
        (lp (nk2_lp T j1 j2 H1 H2 h1 h2 nb f n g hn (q + 1) (wr .i64 (x + 1)) (app1 (q + 1) G [iV (giV (T.hr (g (Int.toNat x))))]) (fz G1) (fz G2) (by rw [e1, h1]) (by rw [e2, h2]) (by rw [wr_id] <;> omega) (by omega) (app1_eq hG (by subst hx; rfl) fun _ => rfl))))) (fun h1' => by
      have h1' : (n : Int) ≤ x := by simpa using h1'
      have e : q + 1 = n := by omega
      exact (show ((0 + (q + 1) ≤ q + 1) ∧ True) ∧ WkE (.ret (.lst false false (q + 1) (fun i => (G (0 + i)).map frz0))) (nuE T.hr g n) ∧ (True ∧ WkB (.var (T.c (.sl 1 0 j1 false 1) (.sl 2 0 j2 false 1))) (.var (T.c (.sl 1 0 j1 false 1) (.sl 2 0 j2 false 1)))) ∧ (True ∧ WkB (.row 1 j1 (fz G1)) (.row 1 j1 H1)) ∧ (True ∧ WkB (.row 1 j2 (fz G2)) (.row 1 j2 H2)) ∧ True from ⟨⟨by omega, trivial⟩, ns_end e hG, ⟨⟨trivial, wkB _⟩, ⟨⟨trivial, wkB_fz e1 h1⟩, ⟨⟨trivial, wkB_fz e2 h2⟩, trivial⟩⟩⟩⟩)))
    (by kernel_rfl)
termination_by n - q
decreasing_by omega
theorem nk2_ok (T : TN) (j1 j2 : Nat) (H1 H2 : Nat → List AV) (h1 : fz H1 = H1) (h2 : fz H2 = H2) (nb f : Bool) (n : Nat) (g : Nat → ByteArray) (hn : n ≤ 16777215) : CtE XV.P 73 [.ptr 0 0 0 0, strs nb f n g] [.var (T.c (.sl 1 0 j1 false 1) (.sl 2 0 j2 false 1)), .row 1 j1 H1, .row 1 j2 H2] (nuE T.hr g n) [.var (T.c (.sl 1 0 j1 false 1) (.sl 2 0 j2 false 1)), .row 1 j1 H1, .row 1 j2 H2] :=
  vcN (c := cNs) (n := 4000) (by kernel_rfl) (by show ([.var (T.c (.sl 1 0 j1 false 1) (.sl 2 0 j2 false 1)), .row 1 j1 (fz H1), .row 1 j2 (fz H2)] : List Blk) = [.var (T.c (.sl 1 0 j1 false 1) (.sl 2 0 j2 false 1)), .row 1 j1 H1, .row 1 j2 H2]; rw [h1, h2]) (by simp)
    (ifs (c := ltI 0 (.ofNat n)) (fun h1' => by
      have h1' : 0 < (n : Int) := by simpa using h1'
      exact ck (c := inI 0 n && true) (by simp; omega) (lp (nk2_lp T j1 j2 H1 H2 h1 h2 nb f n g hn 0 1 (fun _ => nuZ T.hr g 0) (fz H1) (fz H2) h1 h2 rfl (by omega) (fun j hj => by rw [show j = 0 by omega])))) (fun h1' => by
      have h1' : (n : Int) ≤ 0 := by simpa using h1'
      have w : WkE (.ret nl) (nuE T.hr g n) := by
        obtain rfl : n = 0 := by omega
        exact wk_ret (wkv_lst rfl (fun e => by cases e) fun i hi => by omega)
      exact (show True ∧ WkE (.ret nl) (nuE T.hr g n) ∧ (True ∧ WkB (.var (T.c (.sl 1 0 j1 false 1) (.sl 2 0 j2 false 1))) (.var (T.c (.sl 1 0 j1 false 1) (.sl 2 0 j2 false 1)))) ∧ (True ∧ WkB (.row 1 j1 (fz H1)) (.row 1 j1 H1)) ∧ (True ∧ WkB (.row 1 j2 (fz H2)) (.row 1 j2 H2)) ∧ True from ⟨trivial, w, ⟨⟨trivial, wkB _⟩, ⟨⟨trivial, wkB_fz rfl h1⟩, ⟨⟨trivial, wkB_fz rfl h2⟩, trivial⟩⟩⟩⟩)))
    (by kernel_rfl)
end Go.Proofs.YtpflobodmglmaaaGreat
set_option linter.unusedVariables false
set_option maxHeartbeats 1000000
namespace Go.Proofs.YtpflobodmglmaaaGreat
/-- Names. -/
structure NL where
  nb : Bool
  f : Bool
  n : Nat
  g : Nat → ByteArray
noncomputable def NL.v (L : NL) : AV := strs L.nb L.f L.n L.g
/-- Classes. -/
structure ClD where
  nm : Nat → ByteArray
  rb : Nat → Bool
  rf : Nat → Bool
  rn : Nat → Nat
  rg : Nat → Nat → ByteArray
noncomputable def ClD.r (D : ClD) (i : Nat) : List AV := [.str (D.nm i), strs (D.rb i) (D.rf i) (D.rn i) (D.rg i)]
/-- Operations. -/
structure OpD where
  nm : Nat → ByteArray
  dc : Nat → ByteArray
  df : Nat → ByteArray
  ub : Nat → Bool
  uf : Nat → Bool
  u0 : Nat → Nat
  uc : Nat → Nat → ByteArray
  ux : Nat → Nat → ByteArray
  tie : Nat → Int
  kb : Nat → Bool
  kf : Nat → Bool
  kn : Nat → Nat
  kg : Nat → Nat → ByteArray
noncomputable def OpD.r (O : OpD) (i : Nat) : List AV := [.str (O.nm i), .str (O.dc i), .str (O.df i), .lst (O.ub i) (O.uf i) (O.u0 i + 1) (fun j => [.str (O.uc i j), .str (O.ux i j)]), iV (O.tie i), strs (O.kb i) (O.kf i) (O.kn i) (O.kg i)]
/-- A machine. -/
structure MD where
  name : ByteArray
  R : LP
  cb : Bool
  cf : Bool
  c0 : Nat
  D : ClD
  ob : Bool
  of : Bool
  on : Nat
  O : OpD
  A : NL
  res : ByteArray
  S : NL
  slots : Int
noncomputable def MD.clsV (M : MD) : AV := .lst M.cb M.cf (M.c0 + 1) M.D.r
noncomputable def MD.opsV (M : MD) : AV := .lst M.ob M.of M.on M.O.r
noncomputable def MD.c (M : MD) : List AV := [.str M.name, M.R.v, M.clsV, M.opsV, M.A.v, .str M.res, M.S.v, iV M.slots]
/-- What a class's registers are: numbers, a set. -/
noncomputable def ofR (h : ByteArray → Option Int) (D : ClD) (i : Nat) : List AV := [.lst (Nat.beq (D.rn i) 0) false (D.rn i) (nuZ h (D.rg i))]
noncomputable def inP (h : ByteArray → Option Int) (D : ClD) (i : Nat) : Nat → Bool := mem (fun j => giV (h (D.rg i j))) (D.rn i)
noncomputable def inR (h : ByteArray → Option Int) (D : ClD) (i : Nat) : List AV := [setS (inP h D i)]
noncomputable def spNk : CSp := { ids := [], keep := true, res := fun args bs => match args, bs with | [_, .lst _ _ n g], (.var c :: _) => (nuE (match nth c 10 with | some (.cms _ h) => h | _ => fun _ => none) (fun i => strOf (g i)) n, bs) | _, _ => (.ret .undef, []) }
noncomputable def spNb : CSp := { ids := [], res := fun args _ => match args with | [.lst _ _ n g] => (.ret (.cms .i64 (mapG (fun i => strOf (g i)) n)), []) | _ => (.ret .undef, []) }
noncomputable def cM1 : Cfg := ⟨[(73, spNk), (74, spOf)], [(23, 0, { live := [1, 5, 6, 7, 43, 44, 45], ids := [.v 1, .v 5, .v 6, .c 1 14, .c 1 15], ent := false }), (23, 1000015, { live := [1, 5, 6, 7], ids := [.v 1, .v 5, .v 6, .c 1 14, .c 1 15] })]⟩
noncomputable def mkL1 (M : MD) (T : TN) (q : Nat) (x : Int) (N1 G1 G2 : Nat → List AV) (e : AEnd) : Prop := FrE XV.P (frH XV.P 23 0 [(1, .ptr 0 0 0 0), (5, .ptr 1 0 0 0), (6, .sl 2 0 (q + 1) false 1), (7, nl), (43, M.clsV), (44, iV (Int.ofNat (M.c0 + 1))), (45, iV x)]) (clM [.var M.c, .var (T.c (.sl 3 0 (q + 1) false 1) (.sl 4 0 (q + 1) false 1)), .row 1 (q + 1) N1, .row 1 (q + 1) G1, .row 1 (q + 1) G2]) e []
noncomputable def mkR15 (M : MD) (T : TN) (q : Nat) (N1 G1 G2 : Nat → List AV) (e : AEnd) : Prop := FrE XV.P (frR XV.P 23 15 [(1, .ptr 0 0 0 0), (5, .ptr 1 0 0 0), (6, .sl 2 0 (q + 1) false 1), (7, nl)]) (clM [.var M.c, .var (T.c (.sl 3 0 (q + 1) false 1) (.sl 4 0 (q + 1) false 1)), .row 1 (q + 1) N1, .row 1 (q + 1) G1, .row 1 (q + 1) G2]) e []
/-- A row to which one element is appended, as it lies. -/
noncomputable def rw1 (n : Nat) (g : Nat → List AV) (cs : List AV) (i : Nat) : List AV := mixL (Nat.blt i n) (g (0 + i)) cs
theorem rw1_eq {n : Nat} {g R : Nat → List AV} {cs : List AV} (h : ∀ j, j < n → g j = R j) (hc : cs = R n) (j : Nat) (hj : j < n + 1) : rw1 n g cs j = R j := by
  unfold rw1
  rw [mixL_eq, Nat.zero_add]
  by_cases e : j < n
  · rw [show Nat.blt j n = true by simpa using e]
    exact h j e
  · rw [blt_f (Nat.le_of_not_lt e)]
    show cs = R j
    rw [hc, show j = n by omega]
theorem wkB_of {sz n : Nat} {g g' R : Nat → List AV} (h : ∀ j, j < n → g j = R j) (h' : ∀ j, j < n → g' j = R j) : WkB (.row sz n g) (.row sz n g') := wkB_row fun i hi => .of (by rw [h i hi, h' i hi])
theorem fz_eq {n : Nat} {g R : Nat → List AV} (h : ∀ j, j < n → g j = R j) (hf : ∀ j, (R j).map frz0 = R j) : ∀ j, j < n → fz g j = R j := fun j hj => by unfold fz; rw [h j hj, hf]
noncomputable def nmS (g : Nat → ByteArray) (i : Nat) : List AV := [.str (g i)]
section
variable (M : MD) (T : TN) (e : AEnd) (he : rnE 0 [] e = e) (hc : M.c0 + 1 ≤ 65536) (hr : ∀ i, i < M.c0 + 1 → M.D.rn i ≤ 16777215)
  (K : ∀ N1 G1 G2, (∀ j, j < M.c0 + 1 → N1 j = nmS M.D.nm j) → (∀ j, j < M.c0 + 1 → G1 j = ofR T.hr M.D j) → (∀ j, j < M.c0 + 1 → G2 j = inR T.hr M.D j) → mkR15 M T M.c0 N1 G1 G2 e)
include he hc hr K
theorem mk1_lp (q : Nat) (x : Int) (N1 G1 G2 : Nat → List AV) (hx : x = ((q + 1 : Nat) : Int)) (hq : q + 1 ≤ M.c0 + 1) (h0 : ∀ j, j < q + 1 → N1 j = nmS M.D.nm j) (h1 : ∀ j, j < q + 1 → G1 j = ofR T.hr M.D j) (h2 : ∀ j, j < q + 1 → G2 j = inR T.hr M.D j) : mkL1 M T q x N1 G1 G2 e :=
  have ex : x.toNat = q + 1 := by rw [hx]; rfl
  have f1 := fz_eq h1 (fun _ => rfl)
  have f2 := fz_eq h2 (fun _ => rfl)
  have r1 := rw1_eq h1 (cs := ofR T.hr M.D x.toNat) (by rw [ex])
  have a1 := app1_eq h1 (cs := ofR T.hr M.D x.toNat) (by rw [ex]) (fun _ => rfl)
  vlN (c := cM1) (n := 20000) (he0 he) hN0 (by simp)
    (ifs (c := ltI x (.ofNat (M.c0 + 1))) (fun h => by
      have h : x < ((M.c0 + 1 : Nat) : Int) := by simpa using h
      have hb : M.D.rn x.toNat ≤ 16777215 := hr _ (by omega)
      have nx := mk1_lp (q + 1) (wr .i64 (x + 1)) (app1 (q + 1) N1 (nmS M.D.nm x.toNat)) (app1 (q + 1) G1 (ofR T.hr M.D x.toNat)) (app1 (q + 1) G2 (inR T.hr M.D x.toNat)) (by rw [wr_id] <;> omega) (by omega) (app1_eq h0 (by rw [ex]) fun _ => rfl) a1 (app1_eq h2 (by rw [ex]) fun _ => rfl)
      have ca : (true && (true && (Nat.ble (q + 1 + 1) 16777216 && (Nat.ble (0 + (q + 1)) (q + 1) && true)))) = true := by simp; omega
      exact ck (c := inI x (M.c0 + 1) && true) (by simp; omega) (ck ca
        (kp3 (b := .var (T.c (.sl 3 0 (q + 1) false 1) (.sl 4 0 (q + 1) false 1))) (b' := .row 1 (q + 1) (fz (fz G1))) (x' := .row 1 (q + 1) G1) (b2 := .row 1 (q + 1) (fz (fz G2))) (x2 := .row 1 (q + 1) G2)
          (nk2_ok T (q + 1) (q + 1) (fz G1) (fz G2) (fz_fz _) (fz_fz _) (M.D.rb x.toNat) (M.D.rf x.toNat) (M.D.rn x.toNat) (M.D.rg x.toNat) hb) (wkB _) (wkB_of (fz_eq f1 fun _ => rfl) h1) (wkB_of (fz_eq f2 fun _ => rfl) h2)
        (ck ca (kp3 (b := .var (T.c (.sl 26 0 (q + 1 + 1) false 1) (.sl 4 0 (q + 1) false 1))) (b' := .row 1 (q + 1 + 1) (fz (app1 (q + 1) G1 (ofR T.hr M.D x.toNat)))) (x' := .row 1 (q + 1 + 1) (rw1 (q + 1) G1 (ofR T.hr M.D x.toNat))) (b2 := .row 1 (q + 1) (fz (fz G2))) (x2 := .row 1 (q + 1) G2)
          (nk2_ok T (q + 1 + 1) (q + 1) (app1 (q + 1) G1 (ofR T.hr M.D x.toNat)) (fz G2) (fz_fz _) (fz_fz _) (M.D.rb x.toNat) (M.D.rf x.toNat) (M.D.rn x.toNat) (M.D.rg x.toNat) hb) (wkB _) (wkB_of (fz_eq a1 fun _ => rfl) r1) (wkB_of (fz_eq f2 fun _ => rfl) h2)
        (cl (of_ok (Nat.beq (M.D.rn x.toNat) 0) false (M.D.rn x.toNat) (fun j => giV (T.hr (M.D.rg x.toNat j))) (by omega)) (ck ca (lp nx))))))))
    (fun h => by
      have h : ((M.c0 + 1 : Nat) : Int) ≤ x := by simpa using h
      have e1 : q = M.c0 := by omega
      have k : mkR15 M T q (fz N1) (fz G1) (fz G2) e := by
        have f0 := fz_eq h0 fun _ => rfl
        rw [e1] at f0 f1 f2 ⊢
        exact K (fz N1) (fz G1) (fz G2) f0 f1 f2
      exact lp k))
    (by kernel_rfl)
termination_by M.c0 + 1 - q
decreasing_by omega
end
end Go.Proofs.YtpflobodmglmaaaGreat
set_option linter.unusedVariables false
set_option maxHeartbeats 1000000
namespace Go.Proofs.YtpflobodmglmaaaGreat
/-- The table at first: a machine's own copy, names, places, numbers. -/
noncomputable def tN (M : MD) (R C O A S : LP) (Nm : NL) (Pl : LP) : TN := ⟨M.name, R, C, O, A, M.res, S, M.slots, ⟨Nm.nb, Nm.f, Nm.n, nmS Nm.g⟩, Pl, mapG Nm.g Nm.n⟩
noncomputable def cpE (T : TN) : AEnd := .ret (.agg [.str T.name, T.regs.v, T.cls.v, T.ops.v, T.args.v, .str T.res, T.saved.v, iV T.slots])
noncomputable def plE' (T : TN) : AEnd := .ret (.tup [T.names.v, T.pl.v, iV 0])
noncomputable def spE (e : AEnd) : CSp := { ids := [], res := fun _ _ => (e, []) }
noncomputable def cMA (T : TN) : Cfg := ⟨(69, spE (.ret (iV 0))) :: (70, spE (cpE T)) :: (71, spE (plE' T)) :: (72, spNb) :: cM1.cs, cM1.ls⟩
section
variable (M : MD) (R C O A S : LP) (Nm : NL) (Pl : LP) (e : AEnd) (he : rnE 0 [] e = e) (hc : M.c0 + 1 ≤ 65536) (hr : ∀ i, i < M.c0 + 1 → M.D.rn i ≤ 16777215) (hn : Nm.n ≤ 16777216)
  (hck : CtE XV.P 69 [.agg M.c] [] (.ret (iV 0)) []) (hcp : CtE XV.P 70 [.agg M.c] [] (cpE (tN M R C O A S Nm Pl)) []) (hpl : CtE XV.P 71 [M.R.v] [] (plE' (tN M R C O A S Nm Pl)) [])
  (K : ∀ N1 G1 G2, (∀ j, j < M.c0 + 1 → N1 j = nmS M.D.nm j) → (∀ j, j < M.c0 + 1 → G1 j = ofR (mapG Nm.g Nm.n) M.D j) → (∀ j, j < M.c0 + 1 → G2 j = inR (mapG Nm.g Nm.n) M.D j) → mkR15 M (tN M R C O A S Nm Pl) M.c0 N1 G1 G2 e)
include he hc hr hn hck hcp hpl K
theorem mkA : CtE XV.P 23 [.agg M.c] [] e [] :=
  have hb : M.D.rn (Int.toNat 0) ≤ 16777215 := hr 0 (by omega)
  have nx := mk1_lp M (tN M R C O A S Nm Pl) e he hc hr K 0 1 (fun _ => nmS M.D.nm 0) (fun _ => ofR (mapG Nm.g Nm.n) M.D 0) (fun _ => inR (mapG Nm.g Nm.n) M.D 0) rfl (by omega) (fun j hj => by rw [show j = 0 by omega]) (fun j hj => by rw [show j = 0 by omega]; rfl) (fun j hj => by rw [show j = 0 by omega]; rfl)
  vcN (c := cMA (tN M R C O A S Nm Pl)) (n := 20000) (he0 he) hN0 (by simp)
    (cl hck (cl hcp (cl hpl (cl (numbered_ok Nm.nb Nm.f Nm.n Nm.g hn) (ck (c := inI 0 (M.c0 + 1) && true) (by simp)
      (kp1 (b := .var ((tN M R C O A S Nm Pl).c nl nl)) (x := .var ((tN M R C O A S Nm Pl).c nl nl)) (nk0_ok (tN M R C O A S Nm Pl) (M.D.rb (Int.toNat 0)) (M.D.rf (Int.toNat 0)) (M.D.rn (Int.toNat 0)) (M.D.rg (Int.toNat 0)) hb) (wkB _)
      (kp2 (b := .var ((tN M R C O A S Nm Pl).c (.sl 60 0 1 false 1) nl)) (x := .var ((tN M R C O A S Nm Pl).c (.sl 60 0 1 false 1) nl)) (b' := .row 1 1 (fun _ => ofR (mapG Nm.g Nm.n) M.D 0)) (x' := .row 1 1 (fun _ => ofR (mapG Nm.g Nm.n) M.D 0)) (nk1_ok (tN M R C O A S Nm Pl) 1 (fun _ => ofR (mapG Nm.g Nm.n) M.D 0) rfl (M.D.rb (Int.toNat 0)) (M.D.rf (Int.toNat 0)) (M.D.rn (Int.toNat 0)) (M.D.rg (Int.toNat 0)) hb) (wkB _) (wkB _)
      (cl (of_ok (Nat.beq (M.D.rn (Int.toNat 0)) 0) false (M.D.rn (Int.toNat 0)) (fun j => giV ((mapG Nm.g Nm.n) (M.D.rg (Int.toNat 0) j))) (by omega)) (lp nx)))))))))
    (by kernel_rfl)
end
end Go.Proofs.YtpflobodmglmaaaGreat
set_option linter.unusedVariables false
set_option maxHeartbeats 1000000
namespace Go.Proofs.YtpflobodmglmaaaGreat
/-- Places. -/
structure PlD where
  b : Bool
  f : Bool
  n : Nat
  r : Nat → Int
  a : Nat → Int
  w : Nat → Int
noncomputable def PlD.lp (P : PlD) : LP := ⟨P.b, P.f, P.n, fun i => [iV (P.r i), iV (P.a i), iV (P.w i)]⟩
noncomputable def tB0 (M : MD) (R C O A S : LP) (Nm : NL) (P : PlD) : TB := ⟨M.name, R, C, O, A, M.res, S, M.slots, ⟨Nm.nb, Nm.f, Nm.n, nmS Nm.g⟩, P.b, P.f, P.n, P.r, P.a, P.w, mapG Nm.g Nm.n, mapG M.D.nm (M.c0 + 1), mapG M.O.nm M.on, LP.nil, ⟨false, false, M.c0 + 1, ofR (mapG Nm.g Nm.n) M.D⟩, ⟨false, false, M.c0 + 1, inR (mapG Nm.g Nm.n) M.D⟩, LP.nil, LP.nil, LP.nil, LP.nil, LP.nil⟩
/-- With what laps. -/
noncomputable def tB1 (T : TB) : TB := { T with laps := ⟨Nat.beq T.pn 0, false, T.pn, lapR T⟩ }
/-- With the convention's numbers. -/
noncomputable def tB2 (T : TB) (A S : NL) : TB := { T with sv := ⟨Nat.beq S.n 0, false, S.n, nuZ T.hr S.g⟩, ar := ⟨Nat.beq A.n 0, false, A.n, nuZ T.hr A.g⟩ }
noncomputable def tB3 (T : TB) (may clob : LP) : TB := { T with may := may, clob := clob }
noncomputable def mkE (T : TB) : AEnd := .ret (.tup [.cp (T.ck (setS (svP T))), iV 0])
noncomputable def mkL2 (M : MD) (T : TN) (q : Nat) (x : Int) (N1 G1 G2 N2 : Nat → List AV) (e : AEnd) : Prop := FrE XV.P (frH XV.P 23 1 [(1, .ptr 0 0 0 0), (5, .ptr 1 0 0 0), (6, .sl 2 0 (M.c0 + 1) false 1), (7, .sl 5 0 (q + 1) false 1), (83, M.opsV), (84, iV (Int.ofNat M.on)), (85, iV x)]) (clM [.var M.c, .var (T.c (.sl 3 0 (M.c0 + 1) false 1) (.sl 4 0 (M.c0 + 1) false 1)), .row 1 (M.c0 + 1) N1, .row 1 (M.c0 + 1) G1, .row 1 (M.c0 + 1) G2, .row 1 (q + 1) N2]) e []
noncomputable def mkR20 (M : MD) (T : TN) (q : Nat) (N1 G1 G2 N2 : Nat → List AV) (e : AEnd) : Prop := FrE XV.P (frR XV.P 23 20 [(1, .ptr 0 0 0 0), (5, .ptr 1 0 0 0), (6, .sl 2 0 (M.c0 + 1) false 1), (7, .sl 5 0 (q + 1) false 1)]) (clM [.var M.c, .var (T.c (.sl 3 0 (M.c0 + 1) false 1) (.sl 4 0 (M.c0 + 1) false 1)), .row 1 (M.c0 + 1) N1, .row 1 (M.c0 + 1) G1, .row 1 (M.c0 + 1) G2, .row 1 (q + 1) N2]) e []
noncomputable def mkR22 (M : MD) (T : TB) (e : AEnd) : Prop := FrE XV.P (frR XV.P 23 22 [(1, .ptr 0 0 0 0), (5, .ptr 1 0 0 0)]) (clM [.var M.c, .var T.c]) e []
noncomputable def cM2 : Cfg := ⟨[], [(23, 2, { live := [1, 5, 6, 7, 83, 84, 85], ids := [.v 1, .v 5, .v 6, .c 1 14, .c 1 15, .v 7], ent := false }), (23, 1000020, { live := [1, 5, 6, 7], ids := [.v 1, .v 5, .v 6, .c 1 14, .c 1 15, .v 7] })]⟩
section
variable (M : MD) (T : TN) (N1 G1 G2 : Nat → List AV) (e : AEnd) (he : rnE 0 [] e = e) (hc : M.on ≤ 65536)
theorem mk2_lp (he : rnE 0 [] e = e) (hc : M.on ≤ 65536) (q : Nat) (x : Int) (N1 G1 G2 N2 : Nat → List AV) (hN1 : ∀ j, j < M.c0 + 1 → N1 j = nmS M.D.nm j) (hG1 : ∀ j, j < M.c0 + 1 → G1 j = ofR T.hr M.D j) (hG2 : ∀ j, j < M.c0 + 1 → G2 j = inR T.hr M.D j)
    (K : ∀ N1 G1 G2 N2, (∀ j, j < M.c0 + 1 → N1 j = nmS M.D.nm j) → (∀ j, j < M.c0 + 1 → G1 j = ofR T.hr M.D j) → (∀ j, j < M.c0 + 1 → G2 j = inR T.hr M.D j) → (∀ j, j < M.on → N2 j = nmS M.O.nm j) → ∀ q, q + 1 = M.on → mkR20 M T q N1 G1 G2 N2 e)
    (hx : x = ((q + 1 : Nat) : Int)) (hq : q + 1 ≤ M.on) (h0 : ∀ j, j < q + 1 → N2 j = nmS M.O.nm j) : mkL2 M T q x N1 G1 G2 N2 e :=
  have ex : x.toNat = q + 1 := by rw [hx]; rfl
  have f1 := fz_eq hG1 (fun _ => rfl)
  have f2 := fz_eq hG2 (fun _ => rfl)
  have f0 := fz_eq hN1 (fun _ => rfl)
  vlN (c := cM2) (n := 20000) (he0 he) hN0 (by simp)
    (ifs (c := ltI x (.ofNat M.on)) (fun h => by
      have h : x < (M.on : Int) := by simpa using h
      have nx := mk2_lp he hc (q + 1) (wr .i64 (x + 1)) (fz N1) (fz G1) (fz G2) (app1 (q + 1) N2 (nmS M.O.nm x.toNat)) f0 f1 f2 K (by rw [wr_id] <;> omega) (by omega) (app1_eq h0 (by rw [ex]) fun _ => rfl)
      have ca : (true && (true && (Nat.ble (q + 1 + 1) 16777216 && (Nat.ble (0 + (q + 1)) (q + 1) && true)))) = true := by simp; omega
      exact ck (c := inI x M.on && true) (by simp; omega) (ck ca (lp nx)))
    (fun h => by
      have h : (M.on : Int) ≤ x := by simpa using h
      have e1 : q + 1 = M.on := by omega
      have k : mkR20 M T q (fz N1) (fz G1) (fz G2) (fz N2) e := K _ _ _ _ f0 f1 f2 (by rw [← e1]; exact fz_eq h0 fun _ => rfl) q e1
      exact lp k))
    (by kernel_rfl)
termination_by M.on - q
decreasing_by omega
end
theorem cl2 {P : Program} {f : Nat} {args : List AV} {N0 : List Blk} {e : AEnd} {N : List Blk} {p p2 q : Prop} (h0 : p) (h1 : p2) (h : CtE P f args N0 e N) (x : q) : (p ∧ (p2 ∧ True)) ∧ (CtE P f args N0 e N ∧ q) := ⟨⟨h0, h1, trivial⟩, h, x⟩
theorem mapG_ext {g g' : Nat → ByteArray} : ∀ {n : Nat}, (∀ j, j < n → g j = g' j) → mapG g n = mapG g' n
  | 0, _ => rfl
  | n + 1, h => by
    show putF (g n) _ (mapG g n) = putF (g' n) _ (mapG g' n)
    rw [h n (by omega), mapG_ext fun j hj => h j (by omega)]
theorem numbered_row {n : Nat} {nm : Nat → ByteArray} (nb f : Bool) (G : Nat → List AV) (hn : n ≤ 16777216) (h : ∀ j, j < n → G j = nmS nm j) : CtE XV.P 72 [.lst nb f n G] [] (.ret (.cms .i64 (mapG (fun i => strOf (G i)) n))) [] := by
  rw [mapG_ext (g := fun i => strOf (G i)) (g' := nm) fun j hj => by show strOf (G j) = nm j; rw [h j hj]; rfl]
  exact ct_wk (.cons (wkv_lst rfl id fun i hi => .of (h i hi)) .nil) (numbered_ok nb f n nm hn)
noncomputable def tBr (M : MD) (R C O A S : LP) (Nm : NL) (P : PlD) (hc ho : ByteArray → Option Int) (of in' : LP) : TB := ⟨M.name, R, C, O, A, M.res, S, M.slots, ⟨Nm.nb, Nm.f, Nm.n, nmS Nm.g⟩, P.b, P.f, P.n, P.r, P.a, P.w, mapG Nm.g Nm.n, hc, ho, LP.nil, of, in', LP.nil, LP.nil, LP.nil, LP.nil, LP.nil⟩
noncomputable def spLa (L : TB) : CSp := { ids := [.v 0], res := fun _ _ => (.ret (.tup []), [.var (L.cl (lapsE L))]) }
noncomputable def cM3 (L : TB) : Cfg := ⟨[(72, spNb), (75, spLa L)], [(23, 1000022, { live := [1, 5], ids := [.v 1, .v 5] })]⟩
noncomputable def frR0 (G : Nat → List AV) (i : Nat) : List AV := (G (0 + i)).map frz0
theorem frR0_eq {n : Nat} {g R : Nat → List AV} (h : ∀ j, j < n → g j = R j) (hf : ∀ j, (R j).map frz0 = R j) : ∀ j, j < n → frR0 g j = R j := fun j hj => by unfold frR0; rw [Nat.zero_add, h j hj, hf]
theorem wkR {nb f : Bool} {n : Nat} {g R : Nat → List AV} (h : ∀ j, j < n → g j = R j) : WkV (.lst nb f n g) (.lst nb f n R) := wkv_lst rfl id fun i hi => .of (h i hi)
section
variable (M : MD) (R C O A S : LP) (Nm : NL) (P : PlD) (e : AEnd) (he : rnE 0 [] e = e) (hp : P.n ≤ 65536) (hc : M.c0 + 1 ≤ 65536) (ho : M.on ≤ 65536) (K : mkR22 M (tB1 (tB0 M R C O A S Nm P)) e)
include he hp hc ho K
theorem mk22_of (G1 G2 : Nat → List AV) (hc ho : ByteArray → Option Int) (e1 : hc = mapG M.D.nm (M.c0 + 1)) (e2 : ho = mapG M.O.nm M.on) (hG1 : ∀ j, j < M.c0 + 1 → G1 j = ofR (mapG Nm.g Nm.n) M.D j) (hG2 : ∀ j, j < M.c0 + 1 → G2 j = inR (mapG Nm.g Nm.n) M.D j) :
    FrE XV.P (frR XV.P 23 22 [(1, .ptr 0 0 0 0), (5, .ptr 1 0 0 0)]) (clM [.var M.c, .var ((tBr M R C O A S Nm P hc ho ⟨false, false, M.c0 + 1, G1⟩ ⟨false, false, M.c0 + 1, G2⟩).cl (lapsE (tBr M R C O A S Nm P hc ho ⟨false, false, M.c0 + 1, G1⟩ ⟨false, false, M.c0 + 1, G2⟩)))]) e [] := by
  rw [e1, e2]
  exact fr_wkB (.cons (by simp) (by simp) (wkB _) (.cons (by simp) (by simp) (wkB_var (.cons (.refl _) (.cons (.refl _) (.cons (.refl _) (.cons (.refl _) (.cons (.refl _) (.cons (.refl _) (.cons (.refl _) (.cons (.refl _) (.cons (.refl _) (.cons (.refl _) (.cons (.refl _) (.cons (.refl _) (.cons (.refl _) (.cons (.refl _) (.cons (wkR hG1) (.cons (wkR hG2) (.refl _)))))))))))))))))) .nil)) K
theorem mk20 (q : Nat) (hq : q + 1 = M.on) (N1 G1 G2 N2 : Nat → List AV) (hN1 : ∀ j, j < M.c0 + 1 → N1 j = nmS M.D.nm j) (hG1 : ∀ j, j < M.c0 + 1 → G1 j = ofR (mapG Nm.g Nm.n) M.D j) (hG2 : ∀ j, j < M.c0 + 1 → G2 j = inR (mapG Nm.g Nm.n) M.D j) (hN2 : ∀ j, j < M.on → N2 j = nmS M.O.nm j) : mkR20 M (tN M R C O A S Nm P.lp) q N1 G1 G2 N2 e :=
  have n1 : 0 + (M.c0 + 1) ≤ M.c0 + 1 := by omega
  have n2 : 0 + (q + 1) ≤ q + 1 := by omega
  have h1 := frR0_eq hN1 (fun _ => rfl)
  have h2 := frR0_eq hN2 (fun _ => rfl)
  have k := mk22_of M R C O A S Nm P e he hp hc ho K (frR0 G1) (frR0 G2) (mapG (fun i => strOf (frR0 N1 i)) (M.c0 + 1)) (mapG (fun i => strOf (frR0 N2 i)) (q + 1)) (mapG_ext fun j hj => by show strOf (frR0 N1 j) = _; rw [h1 j hj]; rfl) (by rw [hq]; exact mapG_ext fun j hj => by show strOf (frR0 N2 j) = _; rw [h2 j hj]; rfl) (frR0_eq hG1 fun _ => rfl) (frR0_eq hG2 fun _ => rfl)
  vlR (c := cM3 (tBr M R C O A S Nm P (mapG (fun i => strOf (frR0 N1 i)) (M.c0 + 1)) (mapG (fun i => strOf (frR0 N2 i)) (q + 1)) ⟨false, false, M.c0 + 1, frR0 G1⟩ ⟨false, false, M.c0 + 1, frR0 G2⟩)) (n := 20000) (he0 he) hN0 (by simp)
    (cl1 n1 (numbered_row (n := M.c0 + 1) false false (frR0 N1) (by omega) h1) (cl1 n2 (numbered_row (n := q + 1) false false (frR0 N2) (by omega) (by rw [hq]; exact h2)) (cl2 n1 n1 (lapping_ok (tBr M R C O A S Nm P (mapG (fun i => strOf (frR0 N1 i)) (M.c0 + 1)) (mapG (fun i => strOf (frR0 N2 i)) (q + 1)) ⟨false, false, M.c0 + 1, frR0 G1⟩ ⟨false, false, M.c0 + 1, frR0 G2⟩) hp) (lp k))))
    (by kernel_rfl)
end
noncomputable def MD.wo (M : MD) (n : Nat) : MD := { M with on := n }
section
variable (M : MD) (R C O A S : LP) (Nm : NL) (P : PlD) (e : AEnd) (he : rnE 0 [] e = e) (hp : P.n ≤ 65536) (hc : M.c0 + 1 ≤ 65536) (N1 G1 G2 : Nat → List AV) (hN1 : ∀ j, j < M.c0 + 1 → N1 j = nmS M.D.nm j) (hG1 : ∀ j, j < M.c0 + 1 → G1 j = ofR (mapG Nm.g Nm.n) M.D j) (hG2 : ∀ j, j < M.c0 + 1 → G2 j = inR (mapG Nm.g Nm.n) M.D j)
include he hp hc hN1 hG1 hG2
theorem mk15s (o0 : Nat) (ho : o0 + 1 ≤ 65536) (K : mkR22 (M.wo (o0 + 1)) (tB1 (tB0 (M.wo (o0 + 1)) R C O A S Nm P)) e) : mkR15 (M.wo (o0 + 1)) (tN (M.wo (o0 + 1)) R C O A S Nm P.lp) M.c0 N1 G1 G2 e :=
  have nx := mk2_lp (M.wo (o0 + 1)) (tN (M.wo (o0 + 1)) R C O A S Nm P.lp) e he ho 0 1 (fz N1) (fz G1) (fz G2) (fun _ => nmS M.O.nm 0) (fz_eq hN1 fun _ => rfl) (fz_eq hG1 fun _ => rfl) (fz_eq hG2 fun _ => rfl) (fun N1 G1 G2 N2 a b c d q hq => mk20 (M.wo (o0 + 1)) R C O A S Nm P e he hp hc ho K q hq N1 G1 G2 N2 a b c d) rfl (by show 1 ≤ o0 + 1; omega) (fun j hj => by rw [show j = 0 by omega]; rfl)
  vlR (c := cM2) (n := 20000) (he0 he) hN0 (by simp)
    (ck (c := inI 0 (o0 + 1) && true) (by simp) (lp nx))
    (by kernel_rfl)
theorem mk15z (K : mkR22 (M.wo 0) (tB1 (tB0 (M.wo 0) R C O A S Nm P)) e) : mkR15 (M.wo 0) (tN (M.wo 0) R C O A S Nm P.lp) M.c0 N1 G1 G2 e :=
  have n1 : 0 + (M.c0 + 1) ≤ M.c0 + 1 := by omega
  have h1 := frR0_eq hN1 (fun _ => rfl)
  have k := mk22_of (M.wo 0) R C O A S Nm P e he hp hc (Nat.zero_le _) K (frR0 G1) (frR0 G2) (mapG (fun i => strOf (frR0 N1 i)) (M.c0 + 1)) (mapG (fun i => strOf ((fun _ => []) i)) 0) (mapG_ext fun j hj => by show strOf (frR0 N1 j) = _; rw [h1 j hj]; rfl) rfl (frR0_eq hG1 fun _ => rfl) (frR0_eq hG2 fun _ => rfl)
  vlR (c := cM3 (tBr (M.wo 0) R C O A S Nm P (mapG (fun i => strOf (frR0 N1 i)) (M.c0 + 1)) (mapG (fun i => strOf ((fun _ => []) i)) 0) ⟨false, false, M.c0 + 1, frR0 G1⟩ ⟨false, false, M.c0 + 1, frR0 G2⟩)) (n := 20000) (he0 he) hN0 (by simp)
    (cl1 n1 (numbered_row (n := M.c0 + 1) (nm := M.D.nm) false false (frR0 N1) (by omega) h1) (cl (numbered_row (n := 0) (nm := M.D.nm) true true (fun _ => []) (by omega) (fun j hj => by omega)) (cl2 n1 n1 (lapping_ok (tBr (M.wo 0) R C O A S Nm P (mapG (fun i => strOf (frR0 N1 i)) (M.c0 + 1)) (mapG (fun i => strOf ((fun _ => []) i)) 0) ⟨false, false, M.c0 + 1, frR0 G1⟩ ⟨false, false, M.c0 + 1, frR0 G2⟩) hp) (lp k))))
    (by kernel_rfl)
end
noncomputable def sp1 (b : List AV) : CSp := { ids := [.v 0], res := fun _ _ => (.ret (.tup []), [.var b]) }
noncomputable def cM4 (a b : List AV) : Cfg := ⟨[(73, spNk), (76, sp1 a), (77, sp1 b)], []⟩
/-- A table of which nothing is told of operands, the convention's numbers, what a call keeps. -/
noncomputable def TB.bare (T : TB) : TB := { T with may := LP.nil, clob := LP.nil, sv := LP.nil, ar := LP.nil, keeps := LP.nil }
noncomputable def TB.bare2 (T : TB) : TB := { T with keeps := LP.nil }
theorem mk22 (M : MD) (T : TB) (hA : M.A.n ≤ 16777215) (hS : M.S.n ≤ 16777215) (hp : T.pn ≤ 65536) (may clob : LP) (hs : SvI (tB3 (tB2 T M.A M.S) may clob))
    (hop : CtE XV.P 76 [.ptr 0 0 0 0] [.var (tB2 T.bare M.A M.S).c] (.ret (.tup [])) [.var (tB3 (tB2 T.bare M.A M.S) may clob).c]) : mkR22 M T.bare (mkE (tB3 (tB2 T.bare M.A M.S) may clob)) :=
  vlR (c := cM4 (tB3 (tB2 T.bare M.A M.S) may clob).c ((tB3 (tB2 T.bare M.A M.S) may clob).ck (setS (svP (tB3 (tB2 T.bare M.A M.S) may clob))))) (n := 20000) (by kernel_rfl) hN0 (by simp)
    (kp1 (b := .var T.bare.c) (x := .var T.bare.c) (numbersR_ok T.bare M.A.nb M.A.f M.A.n M.A.g hA) (wkB _) (kp1 (b := .var T.bare.c) (x := .var T.bare.c) (numbersR_ok T.bare M.S.nb M.S.f M.S.n M.S.g hS) (wkB _)
      (cl hop (cl (surviving_ok (tB3 (tB2 T.bare M.A M.S) may clob) hp hs) (endI (wkE (mkE (tB3 (tB2 T.bare M.A M.S) may clob))))))))
    (by kernel_rfl)
end Go.Proofs.YtpflobodmglmaaaGreat
set_option linter.unusedVariables false
set_option maxHeartbeats 1000000
namespace Go.Proofs.YtpflobodmglmaaaGreat
/-- A word, or nought. -/
noncomputable def atZ (z : Nat → Int) (n : Nat) (x : Int) : Int := bif ltI x (.ofNat n) then z x.toNat else 0
noncomputable def spAt : CSp := { ids := [], res := fun args _ => match args with | [.lst _ _ n g, .int _ x] => (.ret (.int .u64 (atZ (fun i => match g i with | [.int _ y] => y | _ => 0) n x)), []) | _ => (.ret .undef, []) }
theorem at_ok (nb f : Bool) (n : Nat) (z : Nat → Int) (x : Int) (hx : 0 ≤ x) : CtE XV.P 303 [u64s nb f n z, iV x] [] (.ret (.int .u64 (atZ z n x))) [] :=
  vc0 (c := ⟨[], []⟩) (n := 4000) (by kernel_rfl)
    (ifs (c := ltI x (.ofNat n)) (fun h => by
      have h' : x < (n : Int) := by simpa using h
      have w : WkE (.ret (.int .u64 (z x.toNat))) (.ret (.int .u64 (atZ z n x))) := wkEq (by unfold atZ; rw [h]; rfl)
      exact ck (c := inI x n && true) (by simp; omega) (endI w)) (fun h => by
      have w : WkE (.ret (.int .u64 0)) (.ret (.int .u64 (atZ z n x))) := wkEq (by unfold atZ; rw [h]; rfl)
      exact endI w))
    (by kernel_rfl)
noncomputable def mxI (a b : Nat) : Int := bif ltI (.ofNat a) (.ofNat b) then .ofNat b else .ofNat a
theorem mxI_eq (a b : Nat) : mxI a b = ((max a b : Nat) : Int) := by
  unfold mxI
  by_cases h : a < b
  · rw [show ltI (.ofNat a) (.ofNat b) = true by simpa using h]
    show (b : Int) = _
    omega
  · rw [show ltI (.ofNat a) (.ofNat b) = false by simp; omega]
    show (a : Int) = _
    omega
noncomputable def zpL (q : Nat) : AV := match q with | 0 => nl | q + 1 => .sl 0 0 (q + 1) false 1
noncomputable def zpM (q : Nat) (G : Nat → List AV) : List Blk := match q with | 0 => [] | q + 1 => [.row 1 (q + 1) G]
noncomputable def cZp : Cfg := ⟨[(303, spAt)], [(257, 0, { live := [0, 1, 2, 7, 8, 14, 15], ids := [.v 8] })]⟩
noncomputable def zS (a b : Int) : Int := wr .u64 (.ofNat (BitVec.ofInt 64 a &&& ~~~(BitVec.ofInt 64 b)).toNat)
noncomputable def zSR (la lb : Nat) (za zb : Nat → Int) (i : Nat) : List AV := [.int .u64 (zS (atZ za la i) (atZ zb lb i))]
noncomputable def zSE (la lb : Nat) (za zb : Nat → Int) : AEnd := .ret (.lst (Nat.beq (max la lb) 0) false (max la lb) (zSR la lb za zb))
section
variable (na fa : Bool) (la : Nat) (za : Nat → Int) (nb fb : Bool) (lb : Nat) (zb : Nat → Int) (ha : la ≤ 16777215) (hb : lb ≤ 16777215)
include ha hb
theorem zS_lp (q : Nat) (x : Int) (G : Nat → List AV) (hx : x = q) (hq : q ≤ max la lb) (hG : ∀ j, j < q → G j = zSR la lb za zb j) :
    FrE XV.P (frH XV.P 257 0 [(0, u64s na fa la za), (1, u64s nb fb lb zb), (2, .fn 258 [] []), (7, .fn 303 [] []), (8, zpL q), (14, iV (mxI la lb)), (15, iV x)]) (clM (zpM q G)) (zSE la lb za zb) [] := by
  have em := mxI_eq la lb
  have hM : max la lb ≤ 16777215 := by omega
  have wx : x < mxI la lb → wr .i64 (x + 1) = ((q + 1 : Nat) : Int) := fun h => by rw [wr_id] <;> omega
  have h0 : 0 ≤ x := by omega
  cases q with
  | zero =>
    exact vl0 (c := cZp) (n := 4000) (by kernel_rfl)
      (ifs (c := ltI x (mxI la lb)) (fun h => by
        have h : x < mxI la lb := by simpa using h
        exact cl (at_ok na fa la za x h0) (cl (at_ok nb fb lb zb x h0) (lp (zS_lp 1 (wr .i64 (x + 1)) (fun _ => [.int .u64 (zS (atZ za la x) (atZ zb lb x))]) (wx h) (by omega) (fun j hj => by rw [show j = 0 by omega, hx]; rfl)))))
      (fun h => by
        have h : mxI la lb ≤ x := by simpa using h
        have e : max la lb = 0 := by omega
        have w : WkE (.ret nl) (zSE la lb za zb) := by
          unfold zSE
          rw [e]
          exact wk_ret (wkv_lst rfl (fun e => by cases e) fun i hi => by omega)
        exact endI w))
      (by kernel_rfl)
  | succ q =>
    exact vl0 (c := cZp) (n := 4000) (by kernel_rfl)
      (ifs (c := ltI x (mxI la lb)) (fun h => by
        have h : x < mxI la lb := by simpa using h
        exact cl (at_ok na fa la za x h0) (cl (at_ok nb fb lb zb x h0) (ck (c := true && (true && (Nat.ble (q + 1 + 1) 16777216 && (Nat.ble (0 + (q + 1)) (q + 1) && true)))) (by simp; omega) (lp (zS_lp (q + 1 + 1) (wr .i64 (x + 1)) (app1 (q + 1) G [.int .u64 (zS (atZ za la x) (atZ zb lb x))]) (wx h) (by omega) (app1_eq hG (by rw [hx]; rfl) fun _ => rfl)))))
      ) (fun h => by
        have h : mxI la lb ≤ x := by simpa using h
        have e : max la lb = q + 1 := by omega
        have p : 0 + (q + 1) ≤ q + 1 := by omega
        have w : WkE (.ret (.lst false false (q + 1) (fun i => (G (0 + i)).map frz0))) (zSE la lb za zb) := by
          unfold zSE
          rw [e]
          exact wk_ret (wkv_lst rfl id fun i hi => .of (by rw [Nat.zero_add, hG i hi]; rfl))
        exact endI1 p w))
      (by kernel_rfl)
termination_by max la lb - q
decreasing_by all_goals omega
theorem zS_ok : CtE XV.P 257 [u64s na fa la za, u64s nb fb lb zb, .fn 258 [] []] [] (zSE la lb za zb) [] :=
  vc0 (c := cZp) (n := 4000) (by kernel_rfl) (lp (zS_lp na fa la za nb fb lb zb ha hb 0 0 (fun _ => []) rfl (Nat.zero_le _) (fun j hj => by omega))) (by kernel_rfl)
end
noncomputable def zA (a b : Int) : Int := wr .u64 (.ofNat (BitVec.ofInt 64 a &&& BitVec.ofInt 64 b).toNat)
noncomputable def zAR (la lb : Nat) (za zb : Nat → Int) (i : Nat) : List AV := [.int .u64 (zA (atZ za la i) (atZ zb lb i))]
noncomputable def zAE (la lb : Nat) (za zb : Nat → Int) : AEnd := .ret (.lst (Nat.beq (max la lb) 0) false (max la lb) (zAR la lb za zb))
section
variable (na fa : Bool) (la : Nat) (za : Nat → Int) (nb fb : Bool) (lb : Nat) (zb : Nat → Int) (ha : la ≤ 16777215) (hb : lb ≤ 16777215)
include ha hb
theorem zA_lp (q : Nat) (x : Int) (G : Nat → List AV) (hx : x = q) (hq : q ≤ max la lb) (hG : ∀ j, j < q → G j = zAR la lb za zb j) :
    FrE XV.P (frH XV.P 257 0 [(0, u64s na fa la za), (1, u64s nb fb lb zb), (2, .fn 314 [] []), (7, .fn 303 [] []), (8, zpL q), (14, iV (mxI la lb)), (15, iV x)]) (clM (zpM q G)) (zAE la lb za zb) [] := by
  have em := mxI_eq la lb
  have hM : max la lb ≤ 16777215 := by omega
  have wx : x < mxI la lb → wr .i64 (x + 1) = ((q + 1 : Nat) : Int) := fun h => by rw [wr_id] <;> omega
  have h0 : 0 ≤ x := by omega
  cases q with
  | zero =>
    exact vl0 (c := cZp) (n := 4000) (by kernel_rfl)
      (ifs (c := ltI x (mxI la lb)) (fun h => by
        have h : x < mxI la lb := by simpa using h
        exact cl (at_ok na fa la za x h0) (cl (at_ok nb fb lb zb x h0) (lp (zA_lp 1 (wr .i64 (x + 1)) (fun _ => [.int .u64 (zA (atZ za la x) (atZ zb lb x))]) (wx h) (by omega) (fun j hj => by rw [show j = 0 by omega, hx]; rfl)))))
      (fun h => by
        have h : mxI la lb ≤ x := by simpa using h
        have e : max la lb = 0 := by omega
        have w : WkE (.ret nl) (zAE la lb za zb) := by
          unfold zAE
          rw [e]
          exact wk_ret (wkv_lst rfl (fun e => by cases e) fun i hi => by omega)
        exact endI w))
      (by kernel_rfl)
  | succ q =>
    exact vl0 (c := cZp) (n := 4000) (by kernel_rfl)
      (ifs (c := ltI x (mxI la lb)) (fun h => by
        have h : x < mxI la lb := by simpa using h
        exact cl (at_ok na fa la za x h0) (cl (at_ok nb fb lb zb x h0) (ck (c := true && (true && (Nat.ble (q + 1 + 1) 16777216 && (Nat.ble (0 + (q + 1)) (q + 1) && true)))) (by simp; omega) (lp (zA_lp (q + 1 + 1) (wr .i64 (x + 1)) (app1 (q + 1) G [.int .u64 (zA (atZ za la x) (atZ zb lb x))]) (wx h) (by omega) (app1_eq hG (by rw [hx]; rfl) fun _ => rfl)))))
      ) (fun h => by
        have h : mxI la lb ≤ x := by simpa using h
        have e : max la lb = q + 1 := by omega
        have p : 0 + (q + 1) ≤ q + 1 := by omega
        have w : WkE (.ret (.lst false false (q + 1) (fun i => (G (0 + i)).map frz0))) (zAE la lb za zb) := by
          unfold zAE
          rw [e]
          exact wk_ret (wkv_lst rfl id fun i hi => .of (by rw [Nat.zero_add, hG i hi]; rfl))
        exact endI1 p w))
      (by kernel_rfl)
termination_by max la lb - q
decreasing_by all_goals omega
theorem zA_ok : CtE XV.P 257 [u64s na fa la za, u64s nb fb lb zb, .fn 314 [] []] [] (zAE la lb za zb) [] :=
  vc0 (c := cZp) (n := 4000) (by kernel_rfl) (lp (zA_lp na fa la za nb fb lb zb ha hb 0 0 (fun _ => []) rfl (Nat.zero_le _) (fun j hj => by omega))) (by kernel_rfl)
end
noncomputable def zO (a b : Int) : Int := wr .u64 (.ofNat (BitVec.ofInt 64 a ||| BitVec.ofInt 64 b).toNat)
noncomputable def zOR (la lb : Nat) (za zb : Nat → Int) (i : Nat) : List AV := [.int .u64 (zO (atZ za la i) (atZ zb lb i))]
noncomputable def zOE (la lb : Nat) (za zb : Nat → Int) : AEnd := .ret (.lst (Nat.beq (max la lb) 0) false (max la lb) (zOR la lb za zb))
section
variable (na fa : Bool) (la : Nat) (za : Nat → Int) (nb fb : Bool) (lb : Nat) (zb : Nat → Int) (ha : la ≤ 16777215) (hb : lb ≤ 16777215)
include ha hb
theorem zO_lp (q : Nat) (x : Int) (G : Nat → List AV) (hx : x = q) (hq : q ≤ max la lb) (hG : ∀ j, j < q → G j = zOR la lb za zb j) :
    FrE XV.P (frH XV.P 257 0 [(0, u64s na fa la za), (1, u64s nb fb lb zb), (2, .fn 313 [] []), (7, .fn 303 [] []), (8, zpL q), (14, iV (mxI la lb)), (15, iV x)]) (clM (zpM q G)) (zOE la lb za zb) [] := by
  have em := mxI_eq la lb
  have hM : max la lb ≤ 16777215 := by omega
  have wx : x < mxI la lb → wr .i64 (x + 1) = ((q + 1 : Nat) : Int) := fun h => by rw [wr_id] <;> omega
  have h0 : 0 ≤ x := by omega
  cases q with
  | zero =>
    exact vl0 (c := cZp) (n := 4000) (by kernel_rfl)
      (ifs (c := ltI x (mxI la lb)) (fun h => by
        have h : x < mxI la lb := by simpa using h
        exact cl (at_ok na fa la za x h0) (cl (at_ok nb fb lb zb x h0) (lp (zO_lp 1 (wr .i64 (x + 1)) (fun _ => [.int .u64 (zO (atZ za la x) (atZ zb lb x))]) (wx h) (by omega) (fun j hj => by rw [show j = 0 by omega, hx]; rfl)))))
      (fun h => by
        have h : mxI la lb ≤ x := by simpa using h
        have e : max la lb = 0 := by omega
        have w : WkE (.ret nl) (zOE la lb za zb) := by
          unfold zOE
          rw [e]
          exact wk_ret (wkv_lst rfl (fun e => by cases e) fun i hi => by omega)
        exact endI w))
      (by kernel_rfl)
  | succ q =>
    exact vl0 (c := cZp) (n := 4000) (by kernel_rfl)
      (ifs (c := ltI x (mxI la lb)) (fun h => by
        have h : x < mxI la lb := by simpa using h
        exact cl (at_ok na fa la za x h0) (cl (at_ok nb fb lb zb x h0) (ck (c := true && (true && (Nat.ble (q + 1 + 1) 16777216 && (Nat.ble (0 + (q + 1)) (q + 1) && true)))) (by simp; omega) (lp (zO_lp (q + 1 + 1) (wr .i64 (x + 1)) (app1 (q + 1) G [.int .u64 (zO (atZ za la x) (atZ zb lb x))]) (wx h) (by omega) (app1_eq hG (by rw [hx]; rfl) fun _ => rfl)))))
      ) (fun h => by
        have h : mxI la lb ≤ x := by simpa using h
        have e : max la lb = q + 1 := by omega
        have p : 0 + (q + 1) ≤ q + 1 := by omega
        have w : WkE (.ret (.lst false false (q + 1) (fun i => (G (0 + i)).map frz0))) (zOE la lb za zb) := by
          unfold zOE
          rw [e]
          exact wk_ret (wkv_lst rfl id fun i hi => .of (by rw [Nat.zero_add, hG i hi]; rfl))
        exact endI1 p w))
      (by kernel_rfl)
termination_by max la lb - q
decreasing_by all_goals omega
theorem zO_ok : CtE XV.P 257 [u64s na fa la za, u64s nb fb lb zb, .fn 313 [] []] [] (zOE la lb za zb) [] :=
  vc0 (c := cZp) (n := 4000) (by kernel_rfl) (lp (zO_lp na fa la za nb fb lb zb ha hb 0 0 (fun _ => []) rfl (Nat.zero_le _) (fun j hj => by omega))) (by kernel_rfl)
end
end Go.Proofs.YtpflobodmglmaaaGreat
set_option linter.unusedVariables false
set_option maxHeartbeats 1000000
namespace Go.Proofs.YtpflobodmglmaaaGreat
/-- A set, as it lies in memory: whether it is nil, its words. -/
noncomputable def bS (nb : Bool) (p : Nat → Bool) : AV := u64s nb true (setN p) (wv p)
noncomputable def zpZ (f : Int → Int → Int) (a b : AV) : AEnd := match a, b with
  | .lst _ _ la ga, .lst _ _ lb gb => .ret (.lst (Nat.beq (max la lb) 0) false (max la lb) (fun i => [.int .u64 (f (atZ (fun i => match ga i with | [.int _ y] => y | _ => 0) la (Int.ofNat i)) (atZ (fun i => match gb i with | [.int _ y] => y | _ => 0) lb (Int.ofNat i)))]))
  | _, _ => .ret .undef
noncomputable def spZp : CSp := { ids := [], res := fun args _ => match args with
  | [a, b, .fn f _ _] => (bif Nat.beq f 258 then zpZ zS a b else bif Nat.beq f 314 then zpZ zA a b else zpZ zO a b, [])
  | _ => (.ret .undef, []) }
noncomputable def cSt : Cfg := ⟨[(257, spZp), (153, spTr)], []⟩
theorem trimN_nil (z : Nat → Int) : ∀ (n i : Nat), trimN z n ≤ i → i < n → z i = 0
  | 0, i, _, h => by omega
  | n + 1, i, h1, h2 => by
    unfold trimN at h1
    by_cases e : z n = 0
    · rw [if_pos e] at h1
      by_cases e2 : i = n
      · rw [e2]; exact e
      · exact trimN_nil z n i h1 (by omega)
    · rw [if_neg e] at h1; omega
theorem setN_le (p : Nat → Bool) : setN p ≤ 1024 := trimN_le _ _
theorem atZ_wv (p : Nat → Bool) {i : Nat} (h : i < 1024) : atZ (wv p) (setN p) (i : Int) = wv p i := by
  unfold atZ
  by_cases e : i < setN p
  · rw [show ltI (i : Int) (.ofNat (setN p)) = true by simp; omega]; rfl
  · rw [show ltI (i : Int) (.ofNat (setN p)) = false by simp; omega]
    exact (trimN_nil (wv p) 1024 i (by unfold setN at e; omega) h).symm
theorem wvN_lt (p : Nat → Bool) (i : Nat) : wvN p i < 2 ^ 64 := bitsN_lt _ _ _
theorem ofInt_nat (x : Nat) : BitVec.ofInt 64 (x : Int) = BitVec.ofNat 64 x := by
  apply BitVec.eq_of_toNat_eq
  simp
theorem wr_u64 {n : Nat} (h : n < 2 ^ 64) : wr .u64 (.ofNat n) = (n : Int) := by
  rw [wr_eq, wrap_u64]
  show (n : Int) % 18446744073709551616 = n
  omega
theorem zS_wv (p q : Nat → Bool) (i : Nat) : zS (wv p i) (wv q i) = wv (fun v => p v && !q v) i := by
  unfold zS wv
  rw [ofInt_nat, ofInt_nat, wr_u64 (BitVec.isLt _)]
  congr 1
  refine Nat.eq_of_testBit_eq fun b => ?_
  have hp : (wvN p i).testBit b = (decide (b < 64) && p (64 * i + b)) := bitsN_bit _ _ _ _
  have hq : (wvN q i).testBit b = (decide (b < 64) && q (64 * i + b)) := bitsN_bit _ _ _ _
  have hr : (wvN (fun v => p v && !q v) i).testBit b = (decide (b < 64) && (fun v => p v && !q v) (64 * i + b)) := bitsN_bit _ _ _ _
  rw [hr]
  simp only [BitVec.testBit_toNat, BitVec.getLsbD_and, BitVec.getLsbD_or, BitVec.getLsbD_not, BitVec.getLsbD_ofNat, hp, hq]
  cases decide (b < 64) <;> simp
theorem zS_zero {p q : Nat → Bool} {i : Nat} (h : wv p i = 0) (h' : wv q i = 0) : wv (fun v => p v && !q v) i = 0 := by
  rw [← zS_wv, h, h']
  rfl
theorem zS_set (p q : Nat → Bool) : WkE (trR (Nat.beq (max (setN p) (setN q)) 0) (trimN (fun i => zS (atZ (wv p) (setN p) (Int.ofNat i)) (atZ (wv q) (setN q) (Int.ofNat i))) (max (setN p) (setN q))) (fun i => zS (atZ (wv p) (setN p) (Int.ofNat i)) (atZ (wv q) (setN q) (Int.ofNat i)))) (.ret (.agg [bS (Nat.beq (max (setN p) (setN q)) 0) (fun v => p v && !q v)])) := by
  have h1 := setN_le p
  have h2 := setN_le q
  have hz : ∀ i : Nat, i < 1024 → zS (atZ (wv p) (setN p) (Int.ofNat i)) (atZ (wv q) (setN q) (Int.ofNat i)) = wv (fun v => p v && !q v) i := fun i hi => by
    show zS (atZ (wv p) (setN p) (i : Int)) (atZ (wv q) (setN q) (i : Int)) = _
    rw [atZ_wv p hi, atZ_wv q hi, zS_wv]
  have hm : max (setN p) (setN q) ≤ 1024 := by omega
  have e : trimN (fun i => zS (atZ (wv p) (setN p) (Int.ofNat i)) (atZ (wv q) (setN q) (Int.ofNat i))) (max (setN p) (setN q)) = setN (fun v => p v && !q v) := by
    rw [trimN_ext fun j hj => hz j (by omega)]
    refine (trimN_more hm fun j h3 h4 => ?_).symm
    exact zS_zero (trimN_nil (wv p) 1024 j (by show setN p ≤ j; omega) h4) (trimN_nil (wv q) 1024 j (by show setN q ≤ j; omega) h4)
  rw [e]
  have hle : setN (fun v => p v && !q v) ≤ 1024 := setN_le _
  exact wk_ret (wkv_agg (.cons (wkv_lst rfl id fun i hi => .of (congrArg (fun x => [AV.int .u64 x]) (hz i (by omega)))) .nil))
theorem Sub_ok (na nb : Bool) (p q : Nat → Bool) : CtE XV.P 155 [.agg [bS na p], .agg [bS nb q]] [] (.ret (.agg [bS (Nat.beq (max (setN p) (setN q)) 0) (fun v => p v && !q v)])) [] :=
  have h1 := setN_le p
  have h2 := setN_le q
  vc0 (c := cSt) (n := 4000) (by kernel_rfl)
    (cl (zS_ok na true (setN p) (wv p) nb true (setN q) (wv q) (by omega) (by omega)) (cl (trimmed_ok (Nat.beq (max (setN p) (setN q)) 0) false (max (setN p) (setN q)) (fun i => zS (atZ (wv p) (setN p) (Int.ofNat i)) (atZ (wv q) (setN q) (Int.ofNat i))) (by omega)) (endI (zS_set p q))))
    (by kernel_rfl)
theorem zA_wv (p q : Nat → Bool) (i : Nat) : zA (wv p i) (wv q i) = wv (fun v => p v && q v) i := by
  unfold zA wv
  rw [ofInt_nat, ofInt_nat, wr_u64 (BitVec.isLt _)]
  congr 1
  refine Nat.eq_of_testBit_eq fun b => ?_
  have hp : (wvN p i).testBit b = (decide (b < 64) && p (64 * i + b)) := bitsN_bit _ _ _ _
  have hq : (wvN q i).testBit b = (decide (b < 64) && q (64 * i + b)) := bitsN_bit _ _ _ _
  have hr : (wvN (fun v => p v && q v) i).testBit b = (decide (b < 64) && (fun v => p v && q v) (64 * i + b)) := bitsN_bit _ _ _ _
  rw [hr]
  simp only [BitVec.testBit_toNat, BitVec.getLsbD_and, BitVec.getLsbD_or, BitVec.getLsbD_not, BitVec.getLsbD_ofNat, hp, hq]
  cases decide (b < 64) <;> simp
theorem zA_zero {p q : Nat → Bool} {i : Nat} (h : wv p i = 0) (h' : wv q i = 0) : wv (fun v => p v && q v) i = 0 := by
  rw [← zA_wv, h, h']
  rfl
theorem zA_set (p q : Nat → Bool) : WkE (trR (Nat.beq (max (setN p) (setN q)) 0) (trimN (fun i => zA (atZ (wv p) (setN p) (Int.ofNat i)) (atZ (wv q) (setN q) (Int.ofNat i))) (max (setN p) (setN q))) (fun i => zA (atZ (wv p) (setN p) (Int.ofNat i)) (atZ (wv q) (setN q) (Int.ofNat i)))) (.ret (.agg [bS (Nat.beq (max (setN p) (setN q)) 0) (fun v => p v && q v)])) := by
  have h1 := setN_le p
  have h2 := setN_le q
  have hz : ∀ i : Nat, i < 1024 → zA (atZ (wv p) (setN p) (Int.ofNat i)) (atZ (wv q) (setN q) (Int.ofNat i)) = wv (fun v => p v && q v) i := fun i hi => by
    show zA (atZ (wv p) (setN p) (i : Int)) (atZ (wv q) (setN q) (i : Int)) = _
    rw [atZ_wv p hi, atZ_wv q hi, zA_wv]
  have hm : max (setN p) (setN q) ≤ 1024 := by omega
  have e : trimN (fun i => zA (atZ (wv p) (setN p) (Int.ofNat i)) (atZ (wv q) (setN q) (Int.ofNat i))) (max (setN p) (setN q)) = setN (fun v => p v && q v) := by
    rw [trimN_ext fun j hj => hz j (by omega)]
    refine (trimN_more hm fun j h3 h4 => ?_).symm
    exact zA_zero (trimN_nil (wv p) 1024 j (by show setN p ≤ j; omega) h4) (trimN_nil (wv q) 1024 j (by show setN q ≤ j; omega) h4)
  rw [e]
  have hle : setN (fun v => p v && q v) ≤ 1024 := setN_le _
  exact wk_ret (wkv_agg (.cons (wkv_lst rfl id fun i hi => .of (congrArg (fun x => [AV.int .u64 x]) (hz i (by omega)))) .nil))
theorem And_ok (na nb : Bool) (p q : Nat → Bool) : CtE XV.P 267 [.agg [bS na p], .agg [bS nb q]] [] (.ret (.agg [bS (Nat.beq (max (setN p) (setN q)) 0) (fun v => p v && q v)])) [] :=
  have h1 := setN_le p
  have h2 := setN_le q
  vc0 (c := cSt) (n := 4000) (by kernel_rfl)
    (cl (zA_ok na true (setN p) (wv p) nb true (setN q) (wv q) (by omega) (by omega)) (cl (trimmed_ok (Nat.beq (max (setN p) (setN q)) 0) false (max (setN p) (setN q)) (fun i => zA (atZ (wv p) (setN p) (Int.ofNat i)) (atZ (wv q) (setN q) (Int.ofNat i))) (by omega)) (endI (zA_set p q))))
    (by kernel_rfl)
theorem zO_wv (p q : Nat → Bool) (i : Nat) : zO (wv p i) (wv q i) = wv (fun v => p v || q v) i := by
  unfold zO wv
  rw [ofInt_nat, ofInt_nat, wr_u64 (BitVec.isLt _)]
  congr 1
  refine Nat.eq_of_testBit_eq fun b => ?_
  have hp : (wvN p i).testBit b = (decide (b < 64) && p (64 * i + b)) := bitsN_bit _ _ _ _
  have hq : (wvN q i).testBit b = (decide (b < 64) && q (64 * i + b)) := bitsN_bit _ _ _ _
  have hr : (wvN (fun v => p v || q v) i).testBit b = (decide (b < 64) && (fun v => p v || q v) (64 * i + b)) := bitsN_bit _ _ _ _
  rw [hr]
  simp only [BitVec.testBit_toNat, BitVec.getLsbD_and, BitVec.getLsbD_or, BitVec.getLsbD_not, BitVec.getLsbD_ofNat, hp, hq]
  cases decide (b < 64) <;> simp
theorem zO_zero {p q : Nat → Bool} {i : Nat} (h : wv p i = 0) (h' : wv q i = 0) : wv (fun v => p v || q v) i = 0 := by
  rw [← zO_wv, h, h']
  rfl
theorem zO_set (p q : Nat → Bool) : WkE (trR (Nat.beq (max (setN p) (setN q)) 0) (trimN (fun i => zO (atZ (wv p) (setN p) (Int.ofNat i)) (atZ (wv q) (setN q) (Int.ofNat i))) (max (setN p) (setN q))) (fun i => zO (atZ (wv p) (setN p) (Int.ofNat i)) (atZ (wv q) (setN q) (Int.ofNat i)))) (.ret (.agg [bS (Nat.beq (max (setN p) (setN q)) 0) (fun v => p v || q v)])) := by
  have h1 := setN_le p
  have h2 := setN_le q
  have hz : ∀ i : Nat, i < 1024 → zO (atZ (wv p) (setN p) (Int.ofNat i)) (atZ (wv q) (setN q) (Int.ofNat i)) = wv (fun v => p v || q v) i := fun i hi => by
    show zO (atZ (wv p) (setN p) (i : Int)) (atZ (wv q) (setN q) (i : Int)) = _
    rw [atZ_wv p hi, atZ_wv q hi, zO_wv]
  have hm : max (setN p) (setN q) ≤ 1024 := by omega
  have e : trimN (fun i => zO (atZ (wv p) (setN p) (Int.ofNat i)) (atZ (wv q) (setN q) (Int.ofNat i))) (max (setN p) (setN q)) = setN (fun v => p v || q v) := by
    rw [trimN_ext fun j hj => hz j (by omega)]
    refine (trimN_more hm fun j h3 h4 => ?_).symm
    exact zO_zero (trimN_nil (wv p) 1024 j (by show setN p ≤ j; omega) h4) (trimN_nil (wv q) 1024 j (by show setN q ≤ j; omega) h4)
  rw [e]
  have hle : setN (fun v => p v || q v) ≤ 1024 := setN_le _
  exact wk_ret (wkv_agg (.cons (wkv_lst rfl id fun i hi => .of (congrArg (fun x => [AV.int .u64 x]) (hz i (by omega)))) .nil))
theorem Or_ok (na nb : Bool) (p q : Nat → Bool) : CtE XV.P 264 [.agg [bS na p], .agg [bS nb q]] [] (.ret (.agg [bS (Nat.beq (max (setN p) (setN q)) 0) (fun v => p v || q v)])) [] :=
  have h1 := setN_le p
  have h2 := setN_le q
  vc0 (c := cSt) (n := 4000) (by kernel_rfl)
    (cl (zO_ok na true (setN p) (wv p) nb true (setN q) (wv q) (by omega) (by omega)) (cl (trimmed_ok (Nat.beq (max (setN p) (setN q)) 0) false (max (setN p) (setN q)) (fun i => zO (atZ (wv p) (setN p) (Int.ofNat i)) (atZ (wv q) (setN q) (Int.ofNat i))) (by omega)) (endI (zO_set p q))))
    (by kernel_rfl)
end Go.Proofs.YtpflobodmglmaaaGreat
set_option linter.unusedVariables false
set_option maxHeartbeats 1000000
namespace Go.Proofs.YtpflobodmglmaaaGreat
/-- What operands are made of: a table, its operations, what laps, its classes' sets. -/
structure OD where
  T : TB
  ob : Bool
  of : Bool
  on : Nat
  O : OpD
  lb : Bool
  lf : Bool
  ln : Nat
  lq : Nat → Nat → Bool
  ib : Bool
  if' : Bool
  inn : Nat
  iq : Nat → Nat → Bool
noncomputable def OD.mc (D : OD) (a b : AV) : List AV := [.str D.T.name, D.T.regs.v, D.T.cls.v, .lst D.ob D.of D.on D.O.r, D.T.args.v, .str D.T.res, D.T.saved.v, iV D.T.slots, D.T.names.v, D.T.pl, .cms .i64 D.T.hr, .cms .i64 D.T.hc, .cms .i64 D.T.ho, .lst D.lb D.lf D.ln (fun i => [setS (D.lq i)]), D.T.of.v, .lst D.ib D.if' D.inn (fun i => [setS (D.iq i)]), a, b, D.T.sv.v, D.T.ar.v, nl]
theorem nq0_lp (D : OD) (nb f : Bool) (n : Nat) (g : Nat → ByteArray) (hn : n ≤ 16777215) (q : Nat) (x : Int) (G : Nat → List AV) (hx : x = ((q + 1 : Nat) : Int)) (hq : q + 1 ≤ n) (hG : ∀ j, j < q + 1 → G j = nuZ D.T.hr g j) :
    FrE XV.P (frH XV.P 73 0 [(0, .ptr 0 0 0 0), (1, strs nb f n g), (5, .sl 1 0 (q + 1) false 1), (8, strs nb f n g), (9, iV n), (10, iV x)]) (clM [.var (D.mc nl nl), .row 1 (q + 1) G]) (nuE D.T.hr g n) [.var (D.mc nl nl)] :=
  vlN (c := cNs) (n := 4000) (by kernel_rfl) (by kernel_rfl) (by simp)
    (ifs (c := ltI x (.ofNat n)) (fun h1' => by
      have h1' : x < (n : Int) := by simpa using h1'
      exact ck (c := inI x n && true) (by simp; omega) (ck (c := true && (true && (Nat.ble (q + 1 + 1) 16777216 && (Nat.ble (0 + (q + 1)) (q + 1) && true)))) (by simp; omega)
        (lp (nq0_lp D nb f n g hn (q + 1) (wr .i64 (x + 1)) (app1 (q + 1) G [iV (giV (D.T.hr (g (Int.toNat x))))]) (by rw [wr_id] <;> omega) (by omega) (app1_eq hG (by subst hx; rfl) fun _ => rfl))))) (fun h1' => by
      have h1' : (n : Int) ≤ x := by simpa using h1'
      have e : q + 1 = n := by omega
      exact (show ((0 + (q + 1) ≤ q + 1) ∧ True) ∧ WkE (.ret (.lst false false (q + 1) (fun i => (G (0 + i)).map frz0))) (nuE D.T.hr g n) ∧ (True ∧ WkB (.var (D.mc nl nl)) (.var (D.mc nl nl))) ∧ True from ⟨⟨by omega, trivial⟩, ns_end e hG, ⟨⟨trivial, wkB _⟩, trivial⟩⟩)))
    (by kernel_rfl)
termination_by n - q
decreasing_by omega
theorem nq0_ok (D : OD) (nb f : Bool) (n : Nat) (g : Nat → ByteArray) (hn : n ≤ 16777215) : CtE XV.P 73 [.ptr 0 0 0 0, strs nb f n g] [.var (D.mc nl nl)] (nuE D.T.hr g n) [.var (D.mc nl nl)] :=
  vcN (c := cNs) (n := 4000) (by kernel_rfl) (by kernel_rfl) (by simp)
    (ifs (c := ltI 0 (.ofNat n)) (fun h1' => by
      have h1' : 0 < (n : Int) := by simpa using h1'
      exact ck (c := inI 0 n && true) (by simp; omega) (lp (nq0_lp D nb f n g hn 0 1 (fun _ => nuZ D.T.hr g 0) rfl (by omega) (fun j hj => by rw [show j = 0 by omega])))) (fun h1' => by
      have h1' : (n : Int) ≤ 0 := by simpa using h1'
      have w : WkE (.ret nl) (nuE D.T.hr g n) := by
        obtain rfl : n = 0 := by omega
        exact wk_ret (wkv_lst rfl (fun e => by cases e) fun i hi => by omega)
      exact (show True ∧ WkE (.ret nl) (nuE D.T.hr g n) ∧ (True ∧ WkB (.var (D.mc nl nl)) (.var (D.mc nl nl))) ∧ True from ⟨trivial, w, ⟨⟨trivial, wkB _⟩, trivial⟩⟩)))
    (by kernel_rfl)
theorem nq1_lp (D : OD) (j1 : Nat) (H1 : Nat → List AV) (h1 : fz H1 = H1) (nb f : Bool) (n : Nat) (g : Nat → ByteArray) (hn : n ≤ 16777215) (q : Nat) (x : Int) (G : Nat → List AV) (G1 : Nat → List AV) (e1 : G1 = H1) (hx : x = ((q + 1 : Nat) : Int)) (hq : q + 1 ≤ n) (hG : ∀ j, j < q + 1 → G j = nuZ D.T.hr g j) :
    FrE XV.P (frH XV.P 73 0 [(0, .ptr 0 0 0 0), (1, strs nb f n g), (5, .sl 2 0 (q + 1) false 1), (8, strs nb f n g), (9, iV n), (10, iV x)]) (clM [.var (D.mc nl (.sl 1 0 j1 false 1)), .row 1 j1 G1, .row 1 (q + 1) G]) (nuE D.T.hr g n) [.var (D.mc nl (.sl 1 0 j1 false 1)), .row 1 j1 H1] :=
  vlN (c := cNs) (n := 4000) (by kernel_rfl) (by show ([.var (D.mc nl (.sl 1 0 j1 false 1)), .row 1 j1 (fz H1)] : List Blk) = [.var (D.mc nl (.sl 1 0 j1 false 1)), .row 1 j1 H1]; rw [h1]) (by simp)
    (ifs (c := ltI x (.ofNat n)) (fun h1' => by
      have h1' : x < (n : Int) := by simpa using h1'
      exact ck (c := inI x n && true) (by simp; omega) (ck (c := true && (true && (Nat.ble (q + 1 + 1) 16777216 && (Nat.ble (0 + (q + 1)) (q + 1) && true)))) (by simp; omega)
        (lp (nq1_lp D j1 H1 h1 nb f n g hn (q + 1) (wr .i64 (x + 1)) (app1 (q + 1) G [iV (giV (D.T.hr (g (Int.toNat x))))]) (fz G1) (by rw [e1, h1]) (by rw [wr_id] <;> omega) (by omega) (app1_eq hG (by subst hx; rfl) fun _ => rfl))))) (fun h1' => by
      have h1' : (n : Int) ≤ x := by simpa using h1'
      have e : q + 1 = n := by omega
      exact (show ((0 + (q + 1) ≤ q + 1) ∧ True) ∧ WkE (.ret (.lst false false (q + 1) (fun i => (G (0 + i)).map frz0))) (nuE D.T.hr g n) ∧ (True ∧ WkB (.var (D.mc nl (.sl 1 0 j1 false 1))) (.var (D.mc nl (.sl 1 0 j1 false 1)))) ∧ (True ∧ WkB (.row 1 j1 (fz G1)) (.row 1 j1 H1)) ∧ True from ⟨⟨by omega, trivial⟩, ns_end e hG, ⟨⟨trivial, wkB _⟩, ⟨⟨trivial, wkB_fz e1 h1⟩, trivial⟩⟩⟩)))
    (by kernel_rfl)
termination_by n - q
decreasing_by omega
theorem nq1_ok (D : OD) (j1 : Nat) (H1 : Nat → List AV) (h1 : fz H1 = H1) (nb f : Bool) (n : Nat) (g : Nat → ByteArray) (hn : n ≤ 16777215) : CtE XV.P 73 [.ptr 0 0 0 0, strs nb f n g] [.var (D.mc nl (.sl 1 0 j1 false 1)), .row 1 j1 H1] (nuE D.T.hr g n) [.var (D.mc nl (.sl 1 0 j1 false 1)), .row 1 j1 H1] :=
  vcN (c := cNs) (n := 4000) (by kernel_rfl) (by show ([.var (D.mc nl (.sl 1 0 j1 false 1)), .row 1 j1 (fz H1)] : List Blk) = [.var (D.mc nl (.sl 1 0 j1 false 1)), .row 1 j1 H1]; rw [h1]) (by simp)
    (ifs (c := ltI 0 (.ofNat n)) (fun h1' => by
      have h1' : 0 < (n : Int) := by simpa using h1'
      exact ck (c := inI 0 n && true) (by simp; omega) (lp (nq1_lp D j1 H1 h1 nb f n g hn 0 1 (fun _ => nuZ D.T.hr g 0) (fz H1) h1 rfl (by omega) (fun j hj => by rw [show j = 0 by omega])))) (fun h1' => by
      have h1' : (n : Int) ≤ 0 := by simpa using h1'
      have w : WkE (.ret nl) (nuE D.T.hr g n) := by
        obtain rfl : n = 0 := by omega
        exact wk_ret (wkv_lst rfl (fun e => by cases e) fun i hi => by omega)
      exact (show True ∧ WkE (.ret nl) (nuE D.T.hr g n) ∧ (True ∧ WkB (.var (D.mc nl (.sl 1 0 j1 false 1))) (.var (D.mc nl (.sl 1 0 j1 false 1)))) ∧ (True ∧ WkB (.row 1 j1 (fz H1)) (.row 1 j1 H1)) ∧ True from ⟨trivial, w, ⟨⟨trivial, wkB _⟩, ⟨⟨trivial, wkB_fz rfl h1⟩, trivial⟩⟩⟩)))
    (by kernel_rfl)
theorem nq2_lp (D : OD) (j1 j2 : Nat) (H1 H2 : Nat → List AV) (h1 : fz H1 = H1) (h2 : fz H2 = H2) (nb f : Bool) (n : Nat) (g : Nat → ByteArray) (hn : n ≤ 16777215) (q : Nat) (x : Int) (G : Nat → List AV) (G1 G2 : Nat → List AV) (e1 : G1 = H1) (e2 : G2 = H2) (hx : x = ((q + 1 : Nat) : Int)) (hq : q + 1 ≤ n) (hG : ∀ j, j < q + 1 → G j = nuZ D.T.hr g j) :
    FrE XV.P (frH XV.P 73 0 [(0, .ptr 0 0 0 0), (1, strs nb f n g), (5, .sl 3 0 (q + 1) false 1), (8, strs nb f n g), (9, iV n), (10, iV x)]) (clM [.var (D.mc (.sl 1 0 j1 false 1) (.sl 2 0 j2 false 1)), .row 1 j1 G1, .row 1 j2 G2, .row 1 (q + 1) G]) (nuE D.T.hr g n) [.var (D.mc (.sl 1 0 j1 false 1) (.sl 2 0 j2 false 1)), .row 1 j1 H1, .row 1 j2 H2] :=
  vlN (c := cNs) (n := 4000) (by kernel_rfl) (by show ([.var (D.mc (.sl 1 0 j1 false 1) (.sl 2 0 j2 false 1)), .row 1 j1 (fz H1), .row 1 j2 (fz H2)] : List Blk) = [.var (D.mc (.sl 1 0 j1 false 1) (.sl 2 0 j2 false 1)), .row 1 j1 H1, .row 1 j2 H2]; rw [h1, h2]) (by simp)
    (ifs (c := ltI x (.ofNat n)) (fun h1' => by
      have h1' : x < (n : Int) := by simpa using h1'
      exact ck (c := inI x n && true) (by simp; omega) (ck (c := true && (true && (Nat.ble (q + 1 + 1) 16777216 && (Nat.ble (0 + (q + 1)) (q + 1) && true)))) (by simp; omega)
        (lp (nq2_lp D j1 j2 H1 H2 h1 h2 nb f n g hn (q + 1) (wr .i64 (x + 1)) (app1 (q + 1) G [iV (giV (D.T.hr (g (Int.toNat x))))]) (fz G1) (fz G2) (by rw [e1, h1]) (by rw [e2, h2]) (by rw [wr_id] <;> omega) (by omega) (app1_eq hG (by subst hx; rfl) fun _ => rfl))))) (fun h1' => by
      have h1' : (n : Int) ≤ x := by simpa using h1'
      have e : q + 1 = n := by omega
      exact (show ((0 + (q + 1) ≤ q + 1) ∧ True) ∧ WkE (.ret (.lst false false (q + 1) (fun i => (G (0 + i)).map frz0))) (nuE D.T.hr g n) ∧ (True ∧ WkB (.var (D.mc (.sl 1 0 j1 false 1) (.sl 2 0 j2 false 1))) (.var (D.mc (.sl 1 0 j1 false 1) (.sl 2 0 j2 false 1)))) ∧ (True ∧ WkB (.row 1 j1 (fz G1)) (.row 1 j1 H1)) ∧ (True ∧ WkB (.row 1 j2 (fz G2)) (.row 1 j2 H2)) ∧ True from ⟨⟨by omega, trivial⟩, ns_end e hG, ⟨⟨trivial, wkB _⟩, ⟨⟨trivial, wkB_fz e1 h1⟩, ⟨⟨trivial, wkB_fz e2 h2⟩, trivial⟩⟩⟩⟩)))
    (by kernel_rfl)
termination_by n - q
decreasing_by omega
theorem nq2_ok (D : OD) (j1 j2 : Nat) (H1 H2 : Nat → List AV) (h1 : fz H1 = H1) (h2 : fz H2 = H2) (nb f : Bool) (n : Nat) (g : Nat → ByteArray) (hn : n ≤ 16777215) : CtE XV.P 73 [.ptr 0 0 0 0, strs nb f n g] [.var (D.mc (.sl 1 0 j1 false 1) (.sl 2 0 j2 false 1)), .row 1 j1 H1, .row 1 j2 H2] (nuE D.T.hr g n) [.var (D.mc (.sl 1 0 j1 false 1) (.sl 2 0 j2 false 1)), .row 1 j1 H1, .row 1 j2 H2] :=
  vcN (c := cNs) (n := 4000) (by kernel_rfl) (by show ([.var (D.mc (.sl 1 0 j1 false 1) (.sl 2 0 j2 false 1)), .row 1 j1 (fz H1), .row 1 j2 (fz H2)] : List Blk) = [.var (D.mc (.sl 1 0 j1 false 1) (.sl 2 0 j2 false 1)), .row 1 j1 H1, .row 1 j2 H2]; rw [h1, h2]) (by simp)
    (ifs (c := ltI 0 (.ofNat n)) (fun h1' => by
      have h1' : 0 < (n : Int) := by simpa using h1'
      exact ck (c := inI 0 n && true) (by simp; omega) (lp (nq2_lp D j1 j2 H1 H2 h1 h2 nb f n g hn 0 1 (fun _ => nuZ D.T.hr g 0) (fz H1) (fz H2) h1 h2 rfl (by omega) (fun j hj => by rw [show j = 0 by omega])))) (fun h1' => by
      have h1' : (n : Int) ≤ 0 := by simpa using h1'
      have w : WkE (.ret nl) (nuE D.T.hr g n) := by
        obtain rfl : n = 0 := by omega
        exact wk_ret (wkv_lst rfl (fun e => by cases e) fun i hi => by omega)
      exact (show True ∧ WkE (.ret nl) (nuE D.T.hr g n) ∧ (True ∧ WkB (.var (D.mc (.sl 1 0 j1 false 1) (.sl 2 0 j2 false 1))) (.var (D.mc (.sl 1 0 j1 false 1) (.sl 2 0 j2 false 1)))) ∧ (True ∧ WkB (.row 1 j1 (fz H1)) (.row 1 j1 H1)) ∧ (True ∧ WkB (.row 1 j2 (fz H2)) (.row 1 j2 H2)) ∧ True from ⟨trivial, w, ⟨⟨trivial, wkB _⟩, ⟨⟨trivial, wkB_fz rfl h1⟩, ⟨⟨trivial, wkB_fz rfl h2⟩, trivial⟩⟩⟩⟩)))
    (by kernel_rfl)
/-! What operands are: the class' set, or one register; without what laps with what is destroyed, of a result. -/
noncomputable def clsO (O : OpD) (i j : Nat) : ByteArray := bif Nat.blt (0 + j) 1 then O.dc i else O.uc i (0 + j - 1)
noncomputable def fixO (O : OpD) (i j : Nat) : ByteArray := bif Nat.blt (0 + j) 1 then O.df i else O.ux i (0 + j - 1)
noncomputable def opnR (O : OpD) (i j : Nat) : List AV := [.str (clsO O i j), .str (fixO O i j)]
noncomputable def nU (O : OpD) (i : Nat) : Nat := 1 + (O.u0 i + 1)
noncomputable def baseO (D : OD) (i j : Nat) : Nat → Bool := bif beqU (fixO D.O i j).data.toList [] then D.iq (giV (D.T.hc (clsO D.O i j))).toNat else mem (fun _ => giV (D.T.hr (fixO D.O i j))) 1
noncomputable def sbP (D : OD) (i : Nat) (p : Nat → Bool) : Nat → Nat → Bool
  | 0 => p
  | c + 1 => fun v => sbP D i p c v && !(D.lq (giV (D.T.hr (D.O.kg i c))).toNat v)
noncomputable def sbN (D : OD) (i : Nat) (p : Nat → Bool) : Nat → Bool
  | 0 => Nat.beq (setN p) 0
  | c + 1 => Nat.beq (max (setN (sbP D i p c)) (setN (D.lq (giV (D.T.hr (D.O.kg i c))).toNat))) 0
noncomputable def mayW (D : OD) (i j : Nat) : AV := match j with | 0 => bS (sbN D i (baseO D i 0) (D.O.kn i)) (sbP D i (baseO D i 0) (D.O.kn i)) | j + 1 => setS (baseO D i (j + 1))
noncomputable def mayR (D : OD) (i : Nat) : List AV := [.lst false false (nU D.O i) (fun j => [mayW D i j])]
noncomputable def clbR (D : OD) (i : Nat) : List AV := [.lst (Nat.beq (D.O.kn i) 0) false (D.O.kn i) (nuZ D.T.hr (D.O.kg i))]
noncomputable def mayL (D : OD) : LP := ⟨Nat.beq D.on 0, false, D.on, mayR D⟩
noncomputable def clbL (D : OD) : LP := ⟨Nat.beq D.on 0, false, D.on, clbR D⟩
noncomputable def opN (D : OD) : List Blk := [.var (D.mc (mayL D).v (clbL D).v)]
noncomputable def ouM (D : OD) (q : Nat) (Gm Gc : Nat → List AV) : List Blk := match q with
  | 0 => [.var (D.mc nl nl)]
  | q + 1 => [.var (D.mc (.sl 1 0 (q + 1) false 1) (.sl 2 0 (q + 1) false 1)), .row 1 (q + 1) Gm, .row 1 (q + 1) Gc]
noncomputable def inM (D : OD) (q : Nat) (Gm Gc : Nat → List AV) : List Blk := match q with
  | 0 => [.var (D.mc nl (.sl 1 0 1 false 1)), .row 1 1 Gc]
  | q + 1 => [.var (D.mc (.sl 1 0 (q + 1) false 1) (.sl 2 0 (q + 1 + 1) false 1)), .row 1 (q + 1) Gm, .row 1 (q + 1 + 1) Gc]
noncomputable def lV (q j : Nat) : AV := match j, q with | 0, _ => nl | j + 1, 0 => .sl 2 0 (j + 1) false 1 | j + 1, _ + 1 => .sl 3 0 (j + 1) false 1
noncomputable def lM (j : Nat) (Gl : Nat → List AV) : List Blk := match j with | 0 => [] | j + 1 => [.row 1 (j + 1) Gl]
noncomputable def sP (q j : Nat) : AV := match j, q with | 0, 0 => .ptr 2 0 0 0 | 0, _ + 1 => .ptr 3 0 0 0 | _ + 1, 0 => .ptr 3 0 0 0 | _ + 1, _ + 1 => .ptr 4 0 0 0
noncomputable def spSt : CSp := { ids := [], res := fun args _ => match args with | [.agg [.lst _ _ _ ga], .agg [.lst _ _ _ gb]] => (.ret .undef, []) | _ => (.ret .undef, []) }
noncomputable def oA (D : OD) (q : Nat) (x : Int) (Gm Gc : Nat → List AV) : Prop := FrE XV.P (frH XV.P 76 0 [(0, .ptr 0 0 0 0), (14, .lst D.ob D.of D.on D.O.r), (15, iV D.on), (16, iV x)]) (clM (ouM D q Gm Gc)) (.ret (.tup [])) (opN D)
noncomputable def oR4 (D : OD) (q i : Nat) (x : Int) (Gm Gc : Nat → List AV) : Prop := FrE XV.P (frR XV.P 76 4 [(0, .ptr 0 0 0 0), (3, .cp (D.O.r i)), (14, .lst D.ob D.of D.on D.O.r), (15, iV D.on), (16, iV x)]) (clM (inM D q Gm Gc)) (.ret (.tup [])) (opN D)
noncomputable def oB (D : OD) (q i j : Nat) (x y : Int) (Gm Gc Gl : Nat → List AV) : Prop := FrE XV.P (frH XV.P 76 1 [(0, .ptr 0 0 0 0), (3, .cp (D.O.r i)), (4, lV q j), (14, .lst D.ob D.of D.on D.O.r), (15, iV D.on), (16, iV x), (38, .lst false false (nU D.O i) (opnR D.O i)), (39, iV (Int.ofNat (nU D.O i))), (40, iV y)]) (clM (inM D q Gm Gc ++ lM j Gl)) (.ret (.tup [])) (opN D)
noncomputable def oC (D : OD) (q i j : Nat) (x y z : Int) (Gm Gc Gl : Nat → List AV) (nb : Bool) (p : Nat → Bool) : Prop := FrE XV.P (frH XV.P 76 2 [(0, .ptr 0 0 0 0), (3, .cp (D.O.r i)), (4, lV q j), (5, iV y), (7, sP q j), (14, .lst D.ob D.of D.on D.O.r), (15, iV D.on), (16, iV x), (38, .lst false false (nU D.O i) (opnR D.O i)), (39, iV (Int.ofNat (nU D.O i))), (40, iV y), (73, .lst (Nat.beq (D.O.kn i) 0) false (D.O.kn i) (nuZ D.T.hr (D.O.kg i))), (74, iV (Int.ofNat (D.O.kn i))), (75, iV z)]) (clM (inM D q Gm Gc ++ (lM j Gl ++ [.var [bS nb p]]))) (.ret (.tup [])) (opN D)
noncomputable def oR19 (D : OD) (q i : Nat) (x : Int) (Gm Gc : Nat → List AV) (gl : Nat → List AV) : Prop := FrE XV.P (frR XV.P 76 19 [(0, .ptr 0 0 0 0), (4, .lst false false (nU D.O i) gl), (14, .lst D.ob D.of D.on D.O.r), (15, iV D.on), (16, iV x)]) (clM (inM D q Gm Gc)) (.ret (.tup [])) (opN D)
/-- What a set without another is, told by what both tell. -/
noncomputable def cOp2 (sub : List AV → AEnd) : Cfg := ⟨[(73, spNk), (74, spOf), (155, { ids := [], res := fun args _ => (sub args, []) })],
  [(76, 0, { live := [0, 14, 15, 16], ids := [.c 0 16, .c 0 17] }), (76, 2, { live := [0, 3, 4, 14, 15, 16, 38, 39, 40], ids := [.c 0 16, .c 0 17, .v 4] }), (76, 4, { live := [0, 3, 4, 5, 7, 14, 15, 16, 38, 39, 40, 73, 74, 75], ids := [.c 0 16, .c 0 17, .v 4, .v 7] }),
   (76, 1000004, { live := [0, 3, 14, 15, 16], ids := [.c 0 16, .c 0 17] }), (76, 1000019, { live := [0, 4, 14, 15, 16], ids := [.c 0 16, .c 0 17] })]⟩
noncomputable def noS : List AV → AEnd := fun _ => .ret .undef
/-- What operands' data are to be. -/
structure OdOk (D : OD) : Prop where
  on : D.on ≤ 65536
  u : ∀ i, i < D.on → nU D.O i ≤ 65536
  k : ∀ i, i < D.on → D.O.kn i ≤ 65536
  c : ∀ i j, i < D.on → j < nU D.O i → 0 ≤ giV (D.T.hc (clsO D.O i j)) ∧ giV (D.T.hc (clsO D.O i j)) < D.inn
  l : ∀ i c, i < D.on → c < D.O.kn i → 0 ≤ giV (D.T.hr (D.O.kg i c)) ∧ giV (D.T.hr (D.O.kg i c)) < D.ln
section
variable (D : OD) (hD : OdOk D)
include hD
theorem oC_lp (q : Nat) (x : Int) (hq : q < D.on) (j : Nat) (y : Int) (hy : y = j) (hj : j < nU D.O q)
    (IH : ∀ (Gm Gc Gl : Nat → List AV), (∀ a, a < q → Gm a = mayR D a) → (∀ a, a < q + 1 → Gc a = clbR D a) → (∀ a, a < j + 1 → Gl a = [mayW D q a]) → oB D q q (j + 1) x (wr .i64 (y + 1)) Gm Gc Gl)
    (m c : Nat) (z : Int) (hz : z = c) (hc : c + m = D.O.kn q) (Gm Gc Gl : Nat → List AV) (nb : Bool) (p : Nat → Bool) (h1 : ∀ a, a < q → Gm a = mayR D a) (h2 : ∀ a, a < q + 1 → Gc a = clbR D a) (h3 : ∀ a, a < j → Gl a = [mayW D q a])
    (h4 : j = 0 → nb = sbN D q (baseO D q 0) c ∧ p = sbP D q (baseO D q 0) c) (h5 : j ≠ 0 → nb = Nat.beq (setN (baseO D q j)) 0 ∧ p = baseO D q j) : oC D q q j x y z Gm Gc Gl nb p := by
  have hk := hD.k q hq
  have hu := hD.u q hq
  have ez : z.toNat = c := by rw [hz]; rfl
  have wz : z < (D.O.kn q : Int) → wr .i64 (z + 1) = ((c + 1 : Nat) : Int) := fun h => by rw [wr_id] <;> omega
  have f1 := fz_eq h1 (fun _ => rfl)
  have f2 := fz_eq h2 (fun _ => rfl)
  have f3 := fz_eq (R := fun a => [mayW D q a]) h3 (fun a => by cases a <;> rfl)
  have hlt : z < (D.O.kn q : Int) → 0 ≤ giV (D.T.hr (D.O.kg q z.toNat)) ∧ giV (D.T.hr (D.O.kg q z.toNat)) < D.ln := fun h => by rw [ez]; exact hD.l q c hq (by omega)
  -- one more that is taken out; the next one; the end
  have nxT : z < (D.O.kn q : Int) → y = 0 → oC D q q j x y (wr .i64 (z + 1)) (fz Gm) (fz Gc) (fz Gl) (Nat.beq (max (setN p) (setN (D.lq (giV (D.T.hr (D.O.kg q z.toNat))).toNat))) 0) (fun v => p v && !(D.lq (giV (D.T.hr (D.O.kg q z.toNat))).toNat v)) := fun h hy0 => by
    have j0 : j = 0 := by omega
    obtain ⟨_, hp⟩ := h4 j0
    exact oC_lp q x hq j y hy hj IH (m - 1) (c + 1) _ (wz h) (by omega) _ _ _ _ _ f1 f2 f3 (fun _ => ⟨by rw [ez, hp]; rfl, by rw [ez, hp]; rfl⟩) (fun h => absurd j0 h)
  have nxF : z < (D.O.kn q : Int) → y ≠ 0 → oC D q q j x y (wr .i64 (z + 1)) (fz Gm) (fz Gc) (fz Gl) nb p := fun h hy0 =>
    oC_lp q x hq j y hy hj IH (m - 1) (c + 1) _ (wz h) (by omega) _ _ _ _ _ f1 f2 f3 (fun h => absurd (by omega : y = 0) hy0) h5
  have wv : (D.O.kn q : Int) ≤ z → bS nb p = mayW D q j := fun h => by
    have hm : c = D.O.kn q := by omega
    cases j with
    | zero => rw [(h4 rfl).1, (h4 rfl).2, hm]; rfl
    | succ j => rw [(h5 (by omega)).1, (h5 (by omega)).2]; rfl
  have ey : ∀ {b : Bool}, eqI y 0 = b → (b = true → y = 0) ∧ (b = false → y ≠ 0) := fun h => ⟨fun e => by subst e; simpa using h, fun e => by subst e; simpa using h⟩
  have ca : ∀ {a : Nat}, a + 1 ≤ nU D.O q → (true && (true && (Nat.ble (a + 1 + 1) 16777216 && (Nat.ble (0 + (a + 1)) (a + 1) && true)))) = true := fun h => by simp; omega
  cases q with
  | zero =>
    cases j with
    | zero =>
      exact vlN (c := cOp2 (fun _ => .ret (.agg [bS (Nat.beq (max (setN p) (setN (D.lq (giV (D.T.hr (D.O.kg 0 z.toNat))).toNat))) 0) (fun v => p v && !(D.lq (giV (D.T.hr (D.O.kg 0 z.toNat))).toNat v))]))) (n := 20000) (by kernel_rfl) (by kernel_rfl) (by simp [inM, lM, ouM, opN])
        (ifs (c := ltI z (.ofNat (D.O.kn 0))) (fun h => by
          have h : z < (D.O.kn 0 : Int) := by simpa using h
          exact ck (c := inI z (D.O.kn 0) && true) (by simp; omega) (ifs (c := eqI y 0) (fun h0 => ck (c := inI (giV (D.T.hr (D.O.kg 0 z.toNat))) D.ln && true) (by have := hlt h; simp; omega) (cl (Sub_ok nb (Nat.beq (setN (D.lq (giV (D.T.hr (D.O.kg 0 z.toNat))).toNat)) 0) p (D.lq (giV (D.T.hr (D.O.kg 0 z.toNat))).toNat)) (lp (nxT h ((ey h0).1 rfl))))) (fun h0 => lp (nxF h ((ey h0).2 rfl)))))
        (fun h => by
          have h : (D.O.kn 0 : Int) ≤ z := by simpa using h
          have w := wv h
          exact lp (IH (fz Gm) (fz Gc) (fun _ => [bS nb p]) f1 f2 (fun a ha => by rw [show a = 0 by omega, w]))))
        (by kernel_rfl)
    | succ j =>
      exact vlN (c := cOp2 (fun _ => .ret (.agg [bS (Nat.beq (max (setN p) (setN (D.lq (giV (D.T.hr (D.O.kg 0 z.toNat))).toNat))) 0) (fun v => p v && !(D.lq (giV (D.T.hr (D.O.kg 0 z.toNat))).toNat v))]))) (n := 20000) (by kernel_rfl) (by kernel_rfl) (by simp [inM, lM, ouM, opN])
        (ifs (c := ltI z (.ofNat (D.O.kn 0))) (fun h => by
          have h : z < (D.O.kn 0 : Int) := by simpa using h
          exact ck (c := inI z (D.O.kn 0) && true) (by simp; omega) (ifs (c := eqI y 0) (fun h0 => ck (c := inI (giV (D.T.hr (D.O.kg 0 z.toNat))) D.ln && true) (by have := hlt h; simp; omega) (cl (Sub_ok nb (Nat.beq (setN (D.lq (giV (D.T.hr (D.O.kg 0 z.toNat))).toNat)) 0) p (D.lq (giV (D.T.hr (D.O.kg 0 z.toNat))).toNat)) (lp (nxT h ((ey h0).1 rfl))))) (fun h0 => lp (nxF h ((ey h0).2 rfl)))))
        (fun h => by
          have h : (D.O.kn 0 : Int) ≤ z := by simpa using h
          have w := wv h
          exact ck (ca (a := j) (by omega)) (lp (IH (fz Gm) (fz Gc) (app1 (j + 1) Gl [bS nb p]) f1 f2 (app1_eq (R := fun a => [mayW D 0 a]) h3 (by rw [w]) (fun a => by cases a <;> rfl))))))
        (by kernel_rfl)
  | succ q =>
    cases j with
    | zero =>
      exact vlN (c := cOp2 (fun _ => .ret (.agg [bS (Nat.beq (max (setN p) (setN (D.lq (giV (D.T.hr (D.O.kg (q + 1) z.toNat))).toNat))) 0) (fun v => p v && !(D.lq (giV (D.T.hr (D.O.kg (q + 1) z.toNat))).toNat v))]))) (n := 20000) (by kernel_rfl) (by kernel_rfl) (by simp [inM, lM, ouM, opN])
        (ifs (c := ltI z (.ofNat (D.O.kn (q + 1)))) (fun h => by
          have h : z < (D.O.kn (q + 1) : Int) := by simpa using h
          exact ck (c := inI z (D.O.kn (q + 1)) && true) (by simp; omega) (ifs (c := eqI y 0) (fun h0 => ck (c := inI (giV (D.T.hr (D.O.kg (q + 1) z.toNat))) D.ln && true) (by have := hlt h; simp; omega) (cl (Sub_ok nb (Nat.beq (setN (D.lq (giV (D.T.hr (D.O.kg (q + 1) z.toNat))).toNat)) 0) p (D.lq (giV (D.T.hr (D.O.kg (q + 1) z.toNat))).toNat)) (lp (nxT h ((ey h0).1 rfl))))) (fun h0 => lp (nxF h ((ey h0).2 rfl)))))
        (fun h => by
          have h : (D.O.kn (q + 1) : Int) ≤ z := by simpa using h
          have w := wv h
          exact lp (IH (fz Gm) (fz Gc) (fun _ => [bS nb p]) f1 f2 (fun a ha => by rw [show a = 0 by omega, w]))))
        (by kernel_rfl)
    | succ j =>
      exact vlN (c := cOp2 (fun _ => .ret (.agg [bS (Nat.beq (max (setN p) (setN (D.lq (giV (D.T.hr (D.O.kg (q + 1) z.toNat))).toNat))) 0) (fun v => p v && !(D.lq (giV (D.T.hr (D.O.kg (q + 1) z.toNat))).toNat v))]))) (n := 20000) (by kernel_rfl) (by kernel_rfl) (by simp [inM, lM, ouM, opN])
        (ifs (c := ltI z (.ofNat (D.O.kn (q + 1)))) (fun h => by
          have h : z < (D.O.kn (q + 1) : Int) := by simpa using h
          exact ck (c := inI z (D.O.kn (q + 1)) && true) (by simp; omega) (ifs (c := eqI y 0) (fun h0 => ck (c := inI (giV (D.T.hr (D.O.kg (q + 1) z.toNat))) D.ln && true) (by have := hlt h; simp; omega) (cl (Sub_ok nb (Nat.beq (setN (D.lq (giV (D.T.hr (D.O.kg (q + 1) z.toNat))).toNat)) 0) p (D.lq (giV (D.T.hr (D.O.kg (q + 1) z.toNat))).toNat)) (lp (nxT h ((ey h0).1 rfl))))) (fun h0 => lp (nxF h ((ey h0).2 rfl)))))
        (fun h => by
          have h : (D.O.kn (q + 1) : Int) ≤ z := by simpa using h
          have w := wv h
          exact ck (ca (a := j) (by omega)) (lp (IH (fz Gm) (fz Gc) (app1 (j + 1) Gl [bS nb p]) f1 f2 (app1_eq (R := fun a => [mayW D (q + 1) a]) h3 (by rw [w]) (fun a => by cases a <;> rfl))))))
        (by kernel_rfl)
termination_by m
decreasing_by all_goals omega
end
end Go.Proofs.YtpflobodmglmaaaGreat
set_option linter.unusedVariables false
set_option maxHeartbeats 1000000
namespace Go.Proofs.YtpflobodmglmaaaGreat
noncomputable def r19 (D : OD) (q i : Nat) (x : Int) (l : AV) (Gm Gc : Nat → List AV) : Prop := FrE XV.P (frR XV.P 76 19 [(0, .ptr 0 0 0 0), (4, l), (14, .lst D.ob D.of D.on D.O.r), (15, iV D.on), (16, iV x)]) (clM (inM D q Gm Gc)) (.ret (.tup [])) (opN D)
noncomputable def z1 (v : Int) (i : Nat) : Int := match rowL [[iV v]] i with | [.int _ x] => x | _ => 0
theorem z1_mem (v : Int) : mem (z1 v) 1 = mem (fun _ => v) 1 := mem_ext fun j hj => by rw [show j = 0 by omega]; rfl
theorem of_one (v : Int) : CtE XV.P 74 [.lst false true 1 (rowL [[iV v]])] [] (ofE (z1 v) 1) [] := by
  have e : ofE (z1 v) 1 = ofE (fun _ => v) 1 := by unfold ofE; rw [z1_mem]
  rw [e]
  exact ct_wk (.cons (wkv_lst rfl id fun i hi => .of (by rw [show i = 0 by omega]; rfl)) .nil) (of_ok false true 1 (fun _ => v) (by omega))
/-- A cut, with something that is to hold of memory. -/
theorem cl0 {P : Program} {f : Fr} {M : Mem} {e : AEnd} {N : List Blk} {p : Prop} (h0 : p) (h : FrE P f M e N) : (p ∧ True) ∧ (FrE P f M e N ∧ (e = e ∧ bld N 0 .nil = bld N 0 .nil)) := ⟨⟨h0, trivial⟩, h, rfl, rfl⟩
section
variable (D : OD) (hD : OdOk D)
include hD
theorem oB_lp (q : Nat) (x : Int) (hq : q < D.on)
    (IH : ∀ (Gm Gc gl : Nat → List AV), (∀ a, a < q → Gm a = mayR D a) → (∀ a, a < q + 1 → Gc a = clbR D a) → (∀ a, a < nU D.O q → gl a = [mayW D q a]) → r19 D q q x (.lst false false (nU D.O q) gl) Gm Gc)
    (m j : Nat) (y : Int) (hy : y = j) (hj : j + m = nU D.O q) (Gm Gc Gl : Nat → List AV) (h1 : ∀ a, a < q → Gm a = mayR D a) (h2 : ∀ a, a < q + 1 → Gc a = clbR D a) (h3 : ∀ a, a < j → Gl a = [mayW D q a]) : oB D q q j x y Gm Gc Gl := by
  have hk := hD.k q hq
  have hu := hD.u q hq
  have ey : y.toNat = j := by rw [hy]; rfl
  have wy : y < (nU D.O q : Int) → wr .i64 (y + 1) = ((j + 1 : Nat) : Int) := fun h => by rw [wr_id] <;> omega
  have f1 := fz_eq h1 (fun _ => rfl)
  have f2 := fz_eq h2 (fun _ => rfl)
  have f3 := fz_eq (R := fun a => [mayW D q a]) h3 (fun a => by cases a <;> rfl)
  have u0 : 1 ≤ nU D.O q := by unfold nU; omega
  have hc : y < (nU D.O q : Int) → 0 ≤ giV (D.T.hc (clsO D.O q y.toNat)) ∧ giV (D.T.hc (clsO D.O q y.toNat)) < D.inn := fun h => by rw [ey]; exact hD.c q j hq (by omega)
  have nx : y < (nU D.O q : Int) → ∀ (nb : Bool) (p : Nat → Bool), nb = Nat.beq (setN (baseO D q j)) 0 → p = baseO D q j → oC D q q j x y 0 (fz Gm) (fz Gc) (fz Gl) nb p := fun h nb p e1 e2 =>
    oC_lp D hD q x hq j y hy (by omega) (fun Gm Gc Gl a b c => oB_lp q x hq IH (m - 1) (j + 1) _ (wy h) (by omega) Gm Gc Gl a b c) (D.O.kn q) 0 0 rfl (by omega) _ _ _ nb p f1 f2 f3 (fun h => by subst h; exact ⟨e1, e2⟩) (fun h => ⟨e1, e2⟩)
  have bF : (beqU (fixO D.O q y.toNat).data.toList []) = true → D.iq (giV (D.T.hc (clsO D.O q y.toNat))).toNat = baseO D q j := fun h => by unfold baseO; rw [← ey, h]; rfl
  have bT : (beqU (fixO D.O q y.toNat).data.toList []) = false → mem (z1 (giV (D.T.hr (fixO D.O q y.toNat)))) 1 = baseO D q j := fun h => by unfold baseO; rw [← ey, h, z1_mem]; rfl
  have gT : y < (nU D.O q : Int) → (!(beqU (fixO D.O q y.toNat).data.toList [])) = true → oC D q q j x y 0 (fz Gm) (fz Gc) (fz Gl) (Nat.beq (setN (mem (z1 (giV (D.T.hr (fixO D.O q y.toNat)))) 1)) 0) (mem (z1 (giV (D.T.hr (fixO D.O q y.toNat)))) 1) := fun h hf => by
    have e := bT (by simpa using hf)
    exact nx h _ _ (by rw [e]) e
  have gF : y < (nU D.O q : Int) → (!(beqU (fixO D.O q y.toNat).data.toList [])) = false → oC D q q j x y 0 (fz Gm) (fz Gc) (fz Gl) (Nat.beq (setN (D.iq (giV (D.T.hc (clsO D.O q y.toNat))).toNat)) 0) (D.iq (giV (D.T.hc (clsO D.O q y.toNat))).toNat) := fun h hf => by
    have e := bF (by simpa using hf)
    exact nx h _ _ (by rw [e]) e
  cases q with
  | zero =>
    cases j with
    | zero =>
      exact vlN (c := cOp2 noS) (n := 20000) (by kernel_rfl) (by kernel_rfl) (by simp [inM, lM, ouM, opN])
          (ifs (c := ltI y (.ofNat (nU D.O 0))) (fun h => by
            have h : y < (nU D.O 0 : Int) := by simpa using h
            exact ck (c := inI y (nU D.O 0) && true) (by simp; omega) (ck (c := inI (giV (D.T.hc (clsO D.O 0 y.toNat))) D.inn && true) (by have := hc h; simp; omega) (ifs (c := !(beqU (fixO D.O 0 y.toNat).data.toList []))
              (fun hf => cl1 (show 0 + 1 ≤ 1 by omega) (of_one (giV (D.T.hr (fixO D.O 0 y.toNat)))) (kp2 (b := .var (D.mc nl (.sl 1 0 1 false 1))) (x := .var (D.mc nl (.sl 1 0 1 false 1))) (b' := .row 1 1 (fz (fz Gc))) (x' := .row 1 1 Gc) (nq1_ok D 1 (fz Gc) (fz_fz _) (D.O.kb 0) (D.O.kf 0) (D.O.kn 0) (D.O.kg 0) (by omega)) (wkB _) (wkB_of (fz_eq f2 fun _ => rfl) h2) (lp (gT h hf))))
              (fun hf => (kp2 (b := .var (D.mc nl (.sl 1 0 1 false 1))) (x := .var (D.mc nl (.sl 1 0 1 false 1))) (b' := .row 1 1 (fz (fz Gc))) (x' := .row 1 1 Gc) (nq1_ok D 1 (fz Gc) (fz_fz _) (D.O.kb 0) (D.O.kf 0) (D.O.kn 0) (D.O.kg 0) (by omega)) (wkB _) (wkB_of (fz_eq f2 fun _ => rfl) h2) (lp (gF h hf)))))))
          (fun h => by
            have h : (nU D.O 0 : Int) ≤ y := by simpa using h
            have k : r19 D 0 0 x nl (fz Gm) (fz Gc) := absurd u0 (by omega)
            exact lp k))
          (by kernel_rfl)
    | succ j =>
      exact vlN (c := cOp2 noS) (n := 20000) (by kernel_rfl) (by kernel_rfl) (by simp [inM, lM, ouM, opN])
          (ifs (c := ltI y (.ofNat (nU D.O 0))) (fun h => by
            have h : y < (nU D.O 0 : Int) := by simpa using h
            exact ck (c := inI y (nU D.O 0) && true) (by simp; omega) (ck (c := inI (giV (D.T.hc (clsO D.O 0 y.toNat))) D.inn && true) (by have := hc h; simp; omega) (ifs (c := !(beqU (fixO D.O 0 y.toNat).data.toList []))
              (fun hf => cl1 (show 0 + 1 ≤ 1 by omega) (of_one (giV (D.T.hr (fixO D.O 0 y.toNat)))) (kp2 (b := .var (D.mc nl (.sl 1 0 1 false 1))) (x := .var (D.mc nl (.sl 1 0 1 false 1))) (b' := .row 1 1 (fz (fz Gc))) (x' := .row 1 1 Gc) (nq1_ok D 1 (fz Gc) (fz_fz _) (D.O.kb 0) (D.O.kf 0) (D.O.kn 0) (D.O.kg 0) (by omega)) (wkB _) (wkB_of (fz_eq f2 fun _ => rfl) h2) (lp (gT h hf))))
              (fun hf => (kp2 (b := .var (D.mc nl (.sl 1 0 1 false 1))) (x := .var (D.mc nl (.sl 1 0 1 false 1))) (b' := .row 1 1 (fz (fz Gc))) (x' := .row 1 1 Gc) (nq1_ok D 1 (fz Gc) (fz_fz _) (D.O.kb 0) (D.O.kf 0) (D.O.kn 0) (D.O.kg 0) (by omega)) (wkB _) (wkB_of (fz_eq f2 fun _ => rfl) h2) (lp (gF h hf)))))))
          (fun h => by
            have h : (nU D.O 0 : Int) ≤ y := by simpa using h
            have e : nU D.O 0 = j + 1 := by omega
            have k : r19 D 0 0 x (.lst false false (j + 1) (frR0 Gl)) (fz Gm) (fz Gc) := by
              have k := IH (fz Gm) (fz Gc) (frR0 Gl) f1 f2 (by rw [e]; exact frR0_eq (R := fun a => [mayW D 0 a]) h3 (fun a => by cases a <;> rfl))
              rw [e] at k
              exact k
            exact cl0 (show 0 + (j + 1) ≤ j + 1 by omega) k))
          (by kernel_rfl)
  | succ q =>
    cases j with
    | zero =>
      exact vlN (c := cOp2 noS) (n := 20000) (by kernel_rfl) (by kernel_rfl) (by simp [inM, lM, ouM, opN])
          (ifs (c := ltI y (.ofNat (nU D.O (q + 1)))) (fun h => by
            have h : y < (nU D.O (q + 1) : Int) := by simpa using h
            exact ck (c := inI y (nU D.O (q + 1)) && true) (by simp; omega) (ck (c := inI (giV (D.T.hc (clsO D.O (q + 1) y.toNat))) D.inn && true) (by have := hc h; simp; omega) (ifs (c := !(beqU (fixO D.O (q + 1) y.toNat).data.toList []))
              (fun hf => cl1 (show 0 + 1 ≤ 1 by omega) (of_one (giV (D.T.hr (fixO D.O (q + 1) y.toNat)))) (kp3 (b := .var (D.mc (.sl 1 0 (q + 1) false 1) (.sl 2 0 (q + 1 + 1) false 1))) (x := .var (D.mc (.sl 1 0 (q + 1) false 1) (.sl 2 0 (q + 1 + 1) false 1))) (b' := .row 1 (q + 1) (fz (fz Gm))) (x' := .row 1 (q + 1) Gm) (b2 := .row 1 (q + 1 + 1) (fz (fz Gc))) (x2 := .row 1 (q + 1 + 1) Gc) (nq2_ok D (q + 1) (q + 1 + 1) (fz Gm) (fz Gc) (fz_fz _) (fz_fz _) (D.O.kb (q + 1)) (D.O.kf (q + 1)) (D.O.kn (q + 1)) (D.O.kg (q + 1)) (by omega)) (wkB _) (wkB_of (fz_eq f1 fun _ => rfl) h1) (wkB_of (fz_eq f2 fun _ => rfl) h2) (lp (gT h hf))))
              (fun hf => (kp3 (b := .var (D.mc (.sl 1 0 (q + 1) false 1) (.sl 2 0 (q + 1 + 1) false 1))) (x := .var (D.mc (.sl 1 0 (q + 1) false 1) (.sl 2 0 (q + 1 + 1) false 1))) (b' := .row 1 (q + 1) (fz (fz Gm))) (x' := .row 1 (q + 1) Gm) (b2 := .row 1 (q + 1 + 1) (fz (fz Gc))) (x2 := .row 1 (q + 1 + 1) Gc) (nq2_ok D (q + 1) (q + 1 + 1) (fz Gm) (fz Gc) (fz_fz _) (fz_fz _) (D.O.kb (q + 1)) (D.O.kf (q + 1)) (D.O.kn (q + 1)) (D.O.kg (q + 1)) (by omega)) (wkB _) (wkB_of (fz_eq f1 fun _ => rfl) h1) (wkB_of (fz_eq f2 fun _ => rfl) h2) (lp (gF h hf)))))))
          (fun h => by
            have h : (nU D.O (q + 1) : Int) ≤ y := by simpa using h
            have k : r19 D (q + 1) (q + 1) x nl (fz Gm) (fz Gc) := absurd u0 (by omega)
            exact lp k))
          (by kernel_rfl)
    | succ j =>
      exact vlN (c := cOp2 noS) (n := 20000) (by kernel_rfl) (by kernel_rfl) (by simp [inM, lM, ouM, opN])
          (ifs (c := ltI y (.ofNat (nU D.O (q + 1)))) (fun h => by
            have h : y < (nU D.O (q + 1) : Int) := by simpa using h
            exact ck (c := inI y (nU D.O (q + 1)) && true) (by simp; omega) (ck (c := inI (giV (D.T.hc (clsO D.O (q + 1) y.toNat))) D.inn && true) (by have := hc h; simp; omega) (ifs (c := !(beqU (fixO D.O (q + 1) y.toNat).data.toList []))
              (fun hf => cl1 (show 0 + 1 ≤ 1 by omega) (of_one (giV (D.T.hr (fixO D.O (q + 1) y.toNat)))) (kp3 (b := .var (D.mc (.sl 1 0 (q + 1) false 1) (.sl 2 0 (q + 1 + 1) false 1))) (x := .var (D.mc (.sl 1 0 (q + 1) false 1) (.sl 2 0 (q + 1 + 1) false 1))) (b' := .row 1 (q + 1) (fz (fz Gm))) (x' := .row 1 (q + 1) Gm) (b2 := .row 1 (q + 1 + 1) (fz (fz Gc))) (x2 := .row 1 (q + 1 + 1) Gc) (nq2_ok D (q + 1) (q + 1 + 1) (fz Gm) (fz Gc) (fz_fz _) (fz_fz _) (D.O.kb (q + 1)) (D.O.kf (q + 1)) (D.O.kn (q + 1)) (D.O.kg (q + 1)) (by omega)) (wkB _) (wkB_of (fz_eq f1 fun _ => rfl) h1) (wkB_of (fz_eq f2 fun _ => rfl) h2) (lp (gT h hf))))
              (fun hf => (kp3 (b := .var (D.mc (.sl 1 0 (q + 1) false 1) (.sl 2 0 (q + 1 + 1) false 1))) (x := .var (D.mc (.sl 1 0 (q + 1) false 1) (.sl 2 0 (q + 1 + 1) false 1))) (b' := .row 1 (q + 1) (fz (fz Gm))) (x' := .row 1 (q + 1) Gm) (b2 := .row 1 (q + 1 + 1) (fz (fz Gc))) (x2 := .row 1 (q + 1 + 1) Gc) (nq2_ok D (q + 1) (q + 1 + 1) (fz Gm) (fz Gc) (fz_fz _) (fz_fz _) (D.O.kb (q + 1)) (D.O.kf (q + 1)) (D.O.kn (q + 1)) (D.O.kg (q + 1)) (by omega)) (wkB _) (wkB_of (fz_eq f1 fun _ => rfl) h1) (wkB_of (fz_eq f2 fun _ => rfl) h2) (lp (gF h hf)))))))
          (fun h => by
            have h : (nU D.O (q + 1) : Int) ≤ y := by simpa using h
            have e : nU D.O (q + 1) = j + 1 := by omega
            have k : r19 D (q + 1) (q + 1) x (.lst false false (j + 1) (frR0 Gl)) (fz Gm) (fz Gc) := by
              have k := IH (fz Gm) (fz Gc) (frR0 Gl) f1 f2 (by rw [e]; exact frR0_eq (R := fun a => [mayW D (q + 1) a]) h3 (fun a => by cases a <;> rfl))
              rw [e] at k
              exact k
            exact cl0 (show 0 + (j + 1) ≤ j + 1 by omega) k))
          (by kernel_rfl)
termination_by m
decreasing_by all_goals omega
end
end Go.Proofs.YtpflobodmglmaaaGreat
set_option linter.unusedVariables false
set_option maxHeartbeats 1000000
namespace Go.Proofs.YtpflobodmglmaaaGreat
theorem wkT_refl : ∀ (L : List (Nat × AV)), WkT L L
  | [] => trivial
  | p :: L => ⟨rfl, WkV.refl _, wkT_refl L⟩
theorem mc_wk (D : OD) {a a' b b' : AV} (ha : WkV a a') (hb : WkV b b') : WkL (D.mc a b) (D.mc a' b') :=
  .cons (.refl _) (.cons (.refl _) (.cons (.refl _) (.cons (.refl _) (.cons (.refl _) (.cons (.refl _) (.cons (.refl _) (.cons (.refl _) (.cons (.refl _) (.cons (.refl _) (.cons (.refl _) (.cons (.refl _) (.cons (.refl _) (.cons (.refl _) (.cons (.refl _) (.cons (.refl _) (.cons ha (.cons hb (.refl _))))))))))))))))))
section
variable (D : OD) (hD : OdOk D)
include hD
theorem r19_lp (q : Nat) (x : Int) (hx : x = q) (hq : q < D.on) (IH : ∀ (Gm Gc : Nat → List AV), (∀ a, a < q + 1 → Gm a = mayR D a) → (∀ a, a < q + 1 → Gc a = clbR D a) → oA D (q + 1) (wr .i64 (x + 1)) Gm Gc)
    (Gm Gc gl : Nat → List AV) (h1 : ∀ a, a < q → Gm a = mayR D a) (h2 : ∀ a, a < q + 1 → Gc a = clbR D a) (h3 : ∀ a, a < nU D.O q → gl a = [mayW D q a]) : r19 D q q x (.lst false false (nU D.O q) gl) Gm Gc := by
  have hn := hD.on
  have f2 := fz_eq h2 (fun _ => rfl)
  refine fr_wkT (L' := [(0, .ptr 0 0 0 0), (4, .lst false false (nU D.O q) (fun a => [mayW D q a])), (14, .lst D.ob D.of D.on D.O.r), (15, iV D.on), (16, iV x)]) ⟨rfl, WkV.refl _, rfl, wkR h3, wkT_refl _⟩ ?_
  cases q with
  | zero =>
    exact vlR (c := cOp2 noS) (n := 20000) (by kernel_rfl) (by kernel_rfl) (by simp [inM, lM, ouM, opN])
      (lp (IH (fun _ => mayR D 0) (fz Gc) (fun a ha => by rw [show a = 0 by omega]) f2))
      (by kernel_rfl)
  | succ q =>
    exact vlR (c := cOp2 noS) (n := 20000) (by kernel_rfl) (by kernel_rfl) (by simp [inM, lM, ouM, opN])
      (ck (c := true && (true && (Nat.ble (q + 1 + 1) 16777216 && (Nat.ble (0 + (q + 1)) (q + 1) && true)))) (by simp; omega) (lp (IH (app1 (q + 1) Gm (mayR D (q + 1))) (fz Gc) (app1_eq h1 rfl fun _ => rfl) f2)))
      (by kernel_rfl)
theorem r4_lp (q : Nat) (x : Int) (hx : x = q) (hq : q < D.on) (IH : ∀ (Gm Gc : Nat → List AV), (∀ a, a < q + 1 → Gm a = mayR D a) → (∀ a, a < q + 1 → Gc a = clbR D a) → oA D (q + 1) (wr .i64 (x + 1)) Gm Gc)
    (Gm Gc : Nat → List AV) (h1 : ∀ a, a < q → Gm a = mayR D a) (h2 : ∀ a, a < q + 1 → Gc a = clbR D a) : oR4 D q q x Gm Gc := by
  have hu := hD.u q hq
  have e : nU D.O q = 1 + (D.O.u0 q + 1) := rfl
  have nx := oB_lp D hD q x hq (fun Gm Gc gl a b c => r19_lp D hD q x hx hq IH Gm Gc gl a b c) (nU D.O q) 0 0 rfl (by omega) (fz Gm) (fz Gc) (fun _ => []) (fz_eq h1 fun _ => rfl) (fz_eq h2 fun _ => rfl) (fun a ha => by omega)
  have c1 : (true && (true && (Nat.ble (1 + (D.O.u0 q + 1)) 16777216 && true))) = true := by simp; omega
  have p1 : 0 + (1 + (D.O.u0 q + 1)) ≤ 1 + (D.O.u0 q + 1) := by omega
  cases q with
  | zero =>
    exact vlR (c := cOp2 noS) (n := 20000) (by kernel_rfl) (by kernel_rfl) (by simp [inM, lM, ouM, opN])
      (ck c1 (cl0 p1 nx))
      (by kernel_rfl)
  | succ q =>
    exact vlR (c := cOp2 noS) (n := 20000) (by kernel_rfl) (by kernel_rfl) (by simp [inM, lM, ouM, opN])
      (ck c1 (cl0 p1 nx))
      (by kernel_rfl)
theorem oA_lp (m q : Nat) (x : Int) (hx : x = q) (hq : q + m = D.on) (Gm Gc : Nat → List AV) (h1 : ∀ a, a < q → Gm a = mayR D a) (h2 : ∀ a, a < q → Gc a = clbR D a) : oA D q x Gm Gc := by
  have hn := hD.on
  have ex : x.toNat = q := by rw [hx]; rfl
  have f1 := fz_eq h1 (fun _ => rfl)
  have f2 := fz_eq h2 (fun _ => rfl)
  have wx : x < (D.on : Int) → wr .i64 (x + 1) = ((q + 1 : Nat) : Int) := fun h => by rw [wr_id] <;> omega
  have hk : x < (D.on : Int) → D.O.kn x.toNat ≤ 65536 := fun h => by rw [ex]; exact hD.k q (by omega)
  have nx : x < (D.on : Int) → ∀ (Gc' : Nat → List AV), (∀ a, a < q + 1 → Gc' a = clbR D a) → oR4 D q x.toNat x (fz Gm) Gc' := fun h Gc' h' => by
    rw [ex]
    exact r4_lp D hD q x hx (by omega) (fun Gm Gc a b => oA_lp (m - 1) (q + 1) _ (wx h) (by omega) Gm Gc a b) _ _ f1 h'
  cases q with
  | zero =>
    exact vlN (c := cOp2 noS) (n := 20000) (by kernel_rfl) (by kernel_rfl) (by simp [inM, lM, ouM, opN])
      (ifs (c := ltI x (.ofNat D.on)) (fun h => by
        have h : x < (D.on : Int) := by simpa using h
        exact ck (c := inI x D.on && true) (by simp; omega) (kp1 (b := .var (D.mc nl nl)) (x := .var (D.mc nl nl)) (nq0_ok D (D.O.kb x.toNat) (D.O.kf x.toNat) (D.O.kn x.toNat) (D.O.kg x.toNat) (by have := hk h; omega)) (wkB _) (lp (nx h (fun _ => clbR D x.toNat) (fun a ha => by rw [show a = 0 by omega, ex])))))
      (fun h => by
        have h : (D.on : Int) ≤ x := by simpa using h
        have e : D.on = 0 := by omega
        have w : ∀ R : Nat → List AV, WkV nl (.lst (Nat.beq D.on 0) false D.on R) := fun R => by
          rw [e]
          exact wkv_lst rfl (fun h => by cases h) fun i hi => by omega
        exact endB1 (wkE (.ret (.tup []))) (wkB_var (mc_wk D (w (mayR D)) (w (clbR D))))))
      (by kernel_rfl)
  | succ q =>
    exact vlN (c := cOp2 noS) (n := 20000) (by kernel_rfl) (by kernel_rfl) (by simp [inM, lM, ouM, opN])
      (ifs (c := ltI x (.ofNat D.on)) (fun h => by
        have h : x < (D.on : Int) := by simpa using h
        exact ck (c := inI x D.on && true) (by simp; omega) (kp3 (b := .var (D.mc (.sl 1 0 (q + 1) false 1) (.sl 2 0 (q + 1) false 1))) (x := .var (D.mc (.sl 1 0 (q + 1) false 1) (.sl 2 0 (q + 1) false 1))) (b' := .row 1 (q + 1) (fz (fz Gm))) (x' := .row 1 (q + 1) Gm) (b2 := .row 1 (q + 1) (fz (fz Gc))) (x2 := .row 1 (q + 1) Gc)
          (nq2_ok D (q + 1) (q + 1) (fz Gm) (fz Gc) (fz_fz _) (fz_fz _) (D.O.kb x.toNat) (D.O.kf x.toNat) (D.O.kn x.toNat) (D.O.kg x.toNat) (by have := hk h; omega)) (wkB _) (wkB_of (fz_eq f1 fun _ => rfl) h1) (wkB_of (fz_eq f2 fun _ => rfl) h2)
          (ck (c := true && (true && (Nat.ble (q + 1 + 1) 16777216 && (Nat.ble (0 + (q + 1)) (q + 1) && true)))) (by simp; omega) (lp (nx h (app1 (q + 1) Gc (clbR D x.toNat)) (app1_eq h2 (by rw [ex]) fun _ => rfl))))))
      (fun h => by
        have h : (D.on : Int) ≤ x := by simpa using h
        have e : q + 1 = D.on := by omega
        have w : ∀ (G R : Nat → List AV), (∀ a, a < q + 1 → G a = R a) → (∀ a, (R a).map frz0 = R a) → WkV (.lst false false (q + 1) (fun i => (G (0 + i)).map frz0)) (.lst (Nat.beq D.on 0) false D.on R) := fun G R h hf => by
          rw [← e]
          exact wkv_lst rfl id fun i hi => .of (by rw [Nat.zero_add, h i hi, hf])
        have p : 0 + (q + 1) ≤ q + 1 := by omega
        exact (show True ∧ WkE (.ret (.tup [])) (.ret (.tup [])) ∧ (((0 + (q + 1) ≤ q + 1) ∧ ((0 + (q + 1) ≤ q + 1) ∧ True)) ∧ WkB (.var (D.mc (.lst false false (q + 1) (fun i => (Gm (0 + i)).map frz0)) (.lst false false (q + 1) (fun i => (Gc (0 + i)).map frz0)))) (.var (D.mc (mayL D).v (clbL D).v))) ∧ True from ⟨trivial, wkE _, ⟨⟨p, p, trivial⟩, wkB_var (mc_wk D (w Gm (mayR D) h1 fun _ => rfl) (w Gc (clbR D) h2 fun _ => rfl))⟩, trivial⟩)))
      (by kernel_rfl)
termination_by m
decreasing_by all_goals omega
theorem operands_ok : CtE XV.P 76 [.ptr 0 0 0 0] [.var (D.mc nl nl)] (.ret (.tup [])) (opN D) :=
  vcN (c := cOp2 noS) (n := 20000) (by kernel_rfl) (by kernel_rfl) (by simp [opN]) (lp (oA_lp D hD D.on 0 0 rfl (by omega) (fun _ => []) (fun _ => []) (fun a ha => by omega) (fun a ha => by omega))) (by kernel_rfl)
end
end Go.Proofs.YtpflobodmglmaaaGreat
set_option linter.unusedVariables false
set_option maxHeartbeats 1000000
namespace Go.Proofs.YtpflobodmglmaaaGreat
/-- What is copied of a machine, and its places. -/
structure CpD where
  R : LP
  C : LP
  ob : Bool
  of : Bool
  O : OpD
  A : LP
  S : LP
  Nm : NL
  P : PlD
noncomputable def CpD.ops (K : CpD) (n : Nat) : LP := ⟨K.ob, K.of, n, K.O.r⟩
noncomputable def tbM (M : MD) (K : CpD) : TB := tB2 (tB1 (tB0 M K.R K.C (K.ops M.on) K.A K.S K.Nm K.P)) M.A M.S
noncomputable def odM (M : MD) (K : CpD) : OD := ⟨tbM M K, K.ob, K.of, M.on, K.O, Nat.beq K.P.n 0, false, K.P.n, lapP (tB0 M K.R K.C (K.ops M.on) K.A K.S K.Nm K.P), false, false, M.c0 + 1, inP (mapG K.Nm.g K.Nm.n) M.D⟩
/-- The table of a machine. -/
noncomputable def tbF (M : MD) (K : CpD) : TB := tB3 (tbM M K) (mayL (odM M K)) (clbL (odM M K))
structure MkOk (M : MD) (K : CpD) : Prop where
  c : M.c0 + 1 ≤ 65536
  r : ∀ i, i < M.c0 + 1 → M.D.rn i ≤ 16777215
  n : K.Nm.n ≤ 16777216
  p : K.P.n ≤ 65536
  o : M.on ≤ 65536
  A : M.A.n ≤ 16777215
  S : M.S.n ≤ 16777215
  od : OdOk (odM M K)
  sv : SvI (tbF M K)
theorem make_wo (M : MD) (K : CpD) (n : Nat) (h : MkOk (M.wo n) K) (hck : CtE XV.P 69 [.agg (M.wo n).c] [] (.ret (iV 0)) []) (hcp : CtE XV.P 70 [.agg (M.wo n).c] [] (cpE (tN (M.wo n) K.R K.C (K.ops n) K.A K.S K.Nm K.P.lp)) [])
    (hpl : CtE XV.P 71 [M.R.v] [] (plE' (tN (M.wo n) K.R K.C (K.ops n) K.A K.S K.Nm K.P.lp)) []) : CtE XV.P 23 [.agg (M.wo n).c] [] (mkE (tbF (M.wo n) K)) [] := by
  have k : mkR22 (M.wo n) (tB1 (tB0 (M.wo n) K.R K.C (K.ops n) K.A K.S K.Nm K.P)) (mkE (tbF (M.wo n) K)) :=
    mk22 (M.wo n) (tB1 (tB0 (M.wo n) K.R K.C (K.ops n) K.A K.S K.Nm K.P)) h.A h.S h.p (mayL (odM (M.wo n) K)) (clbL (odM (M.wo n) K)) h.sv (operands_ok (odM (M.wo n) K) h.od)
  have he : rnE 0 [] (mkE (tbF (M.wo n) K)) = mkE (tbF (M.wo n) K) := by kernel_rfl
  refine mkA (M.wo n) K.R K.C (K.ops n) K.A K.S K.Nm K.P.lp _ he h.c h.r h.n hck hcp hpl fun N1 G1 G2 a b c => ?_
  cases n with
  | zero => exact mk15z M K.R K.C (K.ops 0) K.A K.S K.Nm K.P _ he h.p h.c N1 G1 G2 a b c k
  | succ n => exact mk15s M K.R K.C (K.ops (n + 1)) K.A K.S K.Nm K.P _ he h.p h.c N1 G1 G2 a b c n h.o k
theorem make_ok (M : MD) (K : CpD) (h : MkOk M K) (hck : CtE XV.P 69 [.agg M.c] [] (.ret (iV 0)) []) (hcp : CtE XV.P 70 [.agg M.c] [] (cpE (tN M K.R K.C (K.ops M.on) K.A K.S K.Nm K.P.lp)) [])
    (hpl : CtE XV.P 71 [M.R.v] [] (plE' (tN M K.R K.C (K.ops M.on) K.A K.S K.Nm K.P.lp)) []) : CtE XV.P 23 [.agg M.c] [] (mkE (tbF M K)) [] :=
  make_wo M K M.on h hck hcp hpl
end Go.Proofs.YtpflobodmglmaaaGreat
set_option linter.unusedVariables false
set_option maxHeartbeats 1000000
namespace Go.Proofs.YtpflobodmglmaaaGreat
theorem endI2 {p q : Prop} {x y : AEnd} (h0 : p) (h1 : q) (h : WkE x y) : (p ∧ (q ∧ True)) ∧ WkE x y ∧ True := ⟨⟨h0, h1, trivial⟩, h, trivial⟩
noncomputable def spCl : CSp := { ids := [], res := fun args _ => match args with | [.lst nb _ n g] => (.ret (.lst nb false n g), []) | _ => (.ret .undef, []) }
theorem clS_ok (nb f : Bool) (n : Nat) (g : Nat → ByteArray) (hb : nb = true → n = 0) (hn : n ≤ 16777215) : CtE XV.P 148 [.lst nb f n (fun i => [.str (g i)])] [] (.ret (.lst nb false n (fun i => [.str (g i)]))) [] := by
  cases n with
  | zero =>
    cases nb with
    | true => exact vc0 (c := c00) (n := 4000) (by kernel_rfl) (endI (wk_strs0 true true false (fun _ => []) (fun i => [.str (g i)]) (fun h => by cases h))) (by kernel_rfl)
    | false => exact vc0 (c := c00) (n := 4000) (by kernel_rfl) (endI1 (p := 0 + 0 ≤ 0) (Nat.le_refl _) (wk_strs0 false true false (rowL []) (fun i => [.str (g i)]) (fun h => by cases h))) (by kernel_rfl)
  | succ n =>
    cases nb with
    | true => exact absurd (hb rfl) (by omega)
    | false =>
      have w : WkE (.ret (.lst false false (0 + (n + 1)) (fun i => [.str (g (0 + i - 0))]))) (.ret (.lst false false (n + 1) (fun i => [.str (g i)]))) := wkEq (by simp)
      exact vc0 (c := c00) (n := 4000) (by kernel_rfl) (ck (c := true && (true && (Nat.ble (0 + (n + 1)) 16777216 && true))) (by simp; omega) (endI1 (p := 0 + (0 + (n + 1)) ≤ 0 + (n + 1)) (by omega) w)) (by kernel_rfl)
theorem clO_ok (nb f : Bool) (n : Nat) (g h : Nat → ByteArray) (hb : nb = true → n = 0) (hn : n ≤ 16777215) : CtE XV.P 149 [.lst nb f n (fun i => [.str (g i), .str (h i)])] [] (.ret (.lst nb false n (fun i => [.str (g i), .str (h i)]))) [] := by
  cases n with
  | zero =>
    cases nb with
    | true => exact vc0 (c := c00) (n := 4000) (by kernel_rfl) (endI (wk_strs0 true true false (fun _ => []) (fun i => [.str (g i), .str (h i)]) (fun h => by cases h))) (by kernel_rfl)
    | false => exact vc0 (c := c00) (n := 4000) (by kernel_rfl) (endI1 (p := 0 + 0 ≤ 0) (Nat.le_refl _) (wk_strs0 false true false (rowL []) (fun i => [.str (g i), .str (h i)]) (fun h => by cases h))) (by kernel_rfl)
  | succ n =>
    cases nb with
    | true => exact absurd (hb rfl) (by omega)
    | false =>
      have w : WkE (.ret (.lst false false (0 + (n + 1)) (fun i => [.str (g (0 + i - 0)), .str (h (0 + i - 0))]))) (.ret (.lst false false (n + 1) (fun i => [.str (g i), .str (h i)]))) := wkEq (by simp)
      exact vc0 (c := c00) (n := 4000) (by kernel_rfl) (ck (c := true && (true && (Nat.ble (0 + (n + 1)) 16777216 && true))) (by simp; omega) (endI1 (p := 0 + (0 + (n + 1)) ≤ 0 + (n + 1)) (by omega) w)) (by kernel_rfl)
theorem clI_ok (nb f : Bool) (n : Nat) (g : Nat → Int) (hb : nb = true → n = 0) (hn : n ≤ 16777215) : CtE XV.P 120 [.lst nb f n (fun i => [iV (g i)])] [] (.ret (.lst nb false n (fun i => [iV (g i)]))) [] := by
  cases n with
  | zero =>
    cases nb with
    | true => exact vc0 (c := c00) (n := 4000) (by kernel_rfl) (endI (wk_strs0 true true false (fun _ => []) (fun i => [iV (g i)]) (fun h => by cases h))) (by kernel_rfl)
    | false => exact vc0 (c := c00) (n := 4000) (by kernel_rfl) (endI1 (p := 0 + 0 ≤ 0) (Nat.le_refl _) (wk_strs0 false true false (rowL []) (fun i => [iV (g i)]) (fun h => by cases h))) (by kernel_rfl)
  | succ n =>
    cases nb with
    | true => exact absurd (hb rfl) (by omega)
    | false =>
      have w : WkE (.ret (.lst false false (0 + (n + 1)) (fun i => [iV (g (0 + i - 0))]))) (.ret (.lst false false (n + 1) (fun i => [iV (g i)]))) := wkEq (by simp)
      exact vc0 (c := c00) (n := 4000) (by kernel_rfl) (ck (c := true && (true && (Nat.ble (0 + (n + 1)) 16777216 && true))) (by simp; omega) (endI1 (p := 0 + (0 + (n + 1)) ≤ 0 + (n + 1)) (by omega) w)) (by kernel_rfl)
/-- A row into which something is stored. -/
noncomputable def sr0 (g : Nat → List AV) (ix off : Nat) (vs : List AV) (j : Nat) : List AV := mixL (Nat.beq j ix) (setL (g ix) off vs) (g j)
noncomputable def sr1 (g : Nat → List AV) (ix off : Nat) (vs : List AV) (j : Nat) : List AV := (sr0 g ix off vs j).map frz0
theorem sr0_eq {g R : Nat → List AV} {ix off : Nat} {vs : List AV} (h1 : setL (g ix) off vs = R ix) (h2 : ∀ j, j ≠ ix → g j = R j) (j : Nat) : sr0 g ix off vs j = R j := by
  unfold sr0
  rw [mixL_eq]
  by_cases e : j = ix
  · subst e; rw [Nat.beq_refl]; exact h1
  · rw [beq_ff e]; exact h2 j e
/-- Classes of which the first k are copied. -/
noncomputable def clK (D : ClD) (k : Nat) (j : Nat) : List AV := [.str (D.nm j), .lst (D.rb j) (bif Nat.blt j k then false else D.rf j) (D.rn j) (fun i => [.str (D.rg j i)])]
noncomputable def opK (O : OpD) (k : Nat) (j : Nat) : List AV := [.str (O.nm j), .str (O.dc j), .str (O.df j), .lst (O.ub j) (bif Nat.blt j k then false else O.uf j) (O.u0 j + 1) (fun i => [.str (O.uc j i), .str (O.ux j i)]), iV (O.tie j), .lst (O.kb j) (bif Nat.blt j k then false else O.kf j) (O.kn j) (fun i => [.str (O.kg j i)])]
noncomputable def ClD.cp (D : ClD) : ClD := { D with rf := fun _ => false }
noncomputable def OpD.cp (O : OpD) : OpD := { O with uf := fun _ => false, kf := fun _ => false }
theorem blt_lt {j k : Nat} : Nat.blt j k = decide (j < k) := by
  by_cases h : j < k
  · rw [blt_t h, decide_eq_true h]
  · rw [blt_f (Nat.le_of_not_lt h), decide_eq_false h]
theorem clK_step (D : ClD) (k : Nat) (j : Nat) : sr1 (clK D k) (0 + k) 1 [.lst (D.rb (0 + k)) false (D.rn (0 + k)) (fun i => [.str (D.rg (0 + k) i)])] j = clK D (k + 1) j := by
  unfold sr1
  rw [sr0_eq (R := clK D (k + 1)) (by simp [clK, setL, blt_lt]) (fun j hj => by
    have : (Nat.blt j (k + 1)) = Nat.blt j k := by rw [blt_lt, blt_lt, decide_eq_decide]; omega
    unfold clK; rw [this])]
  rfl
theorem opK_step (O : OpD) (k : Nat) (j : Nat) : sr1 (sr0 (opK O k) (0 + k) 3 [.lst (O.ub (0 + k)) false (O.u0 (0 + k) + 1) (fun i => [.str (O.uc (0 + k) i), .str (O.ux (0 + k) i)])]) (0 + k) 5 [.lst (O.kb (0 + k)) false (O.kn (0 + k)) (fun i => [.str (O.kg (0 + k) i)])] j = opK O (k + 1) j := by
  have h0 : ∀ j, j ≠ 0 + k → opK O k j = opK O (k + 1) j := fun j hj => by
    have : (Nat.blt j (k + 1)) = Nat.blt j k := by rw [blt_lt, blt_lt, decide_eq_decide]; omega
    unfold opK; rw [this]
  unfold sr1
  rw [sr0_eq (R := opK O (k + 1)) (by
    unfold sr0
    rw [Nat.beq_refl, mixL_eq]
    simp [opK, setL, blt_lt]) (fun j hj => by
    rw [← h0 j hj]
    unfold sr0
    rw [beq_ff hj, mixL_eq]
    rfl)]
  rfl
noncomputable def mbC (M : MD) (R : LP) (c o : AV) : List AV := [.str M.name, R.v, c, o, M.A.v, .str M.res, M.S.v, iV M.slots]
noncomputable def zmC : List AV := [.str ⟨#[]⟩, nl, nl, nl, nl, .str ⟨#[]⟩, nl, iV 0]
noncomputable def cCp (R : LP) : Cfg := ⟨[(145, spE (.ret R.v)), (148, spCl), (149, spCl)], [(70, 0, { live := [1, 2, 19, 20], ids := [.v 1, .v 2, .c 0 2, .c 0 3] }), (70, 2, { live := [1, 2, 38, 39], ids := [.v 1, .v 2, .c 0 2, .c 0 3] })]⟩
noncomputable def cpF (M : MD) (R : LP) (on : Nat) : AEnd := .ret (.agg [.str M.name, R.v, .lst false false (M.c0 + 1) M.D.cp.r, .lst false false (on + 1) M.O.cp.r, .lst M.A.nb false M.A.n (fun i => [.str (M.A.g i)]), .str M.res, .lst M.S.nb false M.S.n (fun i => [.str (M.S.g i)]), iV M.slots])
structure CpOk (M : MD) (on : Nat) : Prop where
  c : M.c0 ≤ 65536
  o : on ≤ 65536
  rb : ∀ j, j < M.c0 + 1 → (M.D.rb j = true → M.D.rn j = 0) ∧ M.D.rn j ≤ 65536
  ub : ∀ j, j < on + 1 → M.O.ub j = false ∧ M.O.u0 j ≤ 65536
  kb : ∀ j, j < on + 1 → (M.O.kb j = true → M.O.kn j = 0) ∧ M.O.kn j ≤ 65536
  A : (M.A.nb = true → M.A.n = 0) ∧ M.A.n ≤ 65536
  S : (M.S.nb = true → M.S.n = 0) ∧ M.S.n ≤ 65536
section
variable (M : MD) (R : LP) (on : Nat) (hM : CpOk M on)
include hM
theorem cp2_lp (L LC : Nat) (hL : L = on + 1) (hC : LC = M.c0 + 1) (m k : Nat) (x : Int) (hx : x = k) (hm : k + m = L) (Gc : Nat → List AV) (hG : ∀ j, j < LC → Gc j = M.D.cp.r j) : FrE XV.P (frH XV.P 70 1 [(1, .ptr 0 0 0 0), (2, .ptr 1 0 0 0), (38, iV (Int.ofNat L)), (39, iV x)]) (clM [.var (mbC M R (.sl 2 0 LC false 2) (.sl 3 0 L false 6)), .var zmC, .row 2 LC Gc, .row 6 L (opK M.O k)]) (cpF M R on) [] :=
  have hc := hM.c
  have ho := hM.o
  have ex : x.toNat = k := by rw [hx]; rfl
  have wx : x < (L : Int) → wr .i64 (x + 1) = ((k + 1 : Nat) : Int) := fun h => by rw [wr_id] <;> omega
  vl0 (c := cCp R) (n := 20000) (by kernel_rfl)
    (ifs (c := ltI x (.ofNat L)) (fun h => by
      have h : x < (L : Int) := by simpa using h
      have i1 : (inI x L && true) = true := by simp; omega
      have i2 : ((true && Nat.blt (0 + x.toNat) L) && true) = true := by simp; omega
      have hk : 0 + x.toNat < on + 1 := by omega
      have nx : FrE XV.P (frH XV.P 70 1 [(1, .ptr 0 0 0 0), (2, .ptr 1 0 0 0), (38, iV (Int.ofNat L)), (39, iV (wr .i64 (x + 1)))]) (clM [.var (mbC M R (.sl 2 0 LC false 2) (.sl 3 0 L false 6)), .var zmC, .row 2 LC (fz Gc), .row 6 L (sr1 (sr0 (opK M.O k) (0 + x.toNat) 3 [.lst (M.O.ub (0 + x.toNat)) false (M.O.u0 (0 + x.toNat) + 1) (fun i => [.str (M.O.uc (0 + x.toNat) i), .str (M.O.ux (0 + x.toNat) i)])]) (0 + x.toNat) 5 [.lst (M.O.kb (0 + x.toNat)) false (M.O.kn (0 + x.toNat)) (fun i => [.str (M.O.kg (0 + x.toNat) i)])])]) (cpF M R on) [] := by
        have k1 := cp2_lp L LC hL hC (m - 1) (k + 1) (wr .i64 (x + 1)) (wx h) (by omega) (fz Gc) (fz_eq hG fun _ => rfl)
        refine fr_wkB (.cons (by simp) (by simp) (wkB _) (.cons (by simp) (by simp) (wkB _) (.cons (by simp) (by simp) (wkB _) (.cons (by simp) (by simp) (wkB_row fun j hj => .of ?_) .nil)))) k1
        rw [ex]
        exact opK_step M.O k j
      exact ck i1 (ck i2 (cl (clO_ok (M.O.ub (0 + x.toNat)) (bif Nat.blt (0 + x.toNat) k then false else M.O.uf (0 + x.toNat)) (M.O.u0 (0 + x.toNat) + 1) (M.O.uc (0 + x.toNat)) (M.O.ux (0 + x.toNat)) (fun e => by rw [(hM.ub _ hk).1] at e; cases e) (by have := (hM.ub _ hk).2; omega))
        (ck i1 (ck i2 (cl (clS_ok (M.O.kb (0 + x.toNat)) (bif Nat.blt (0 + x.toNat) k then false else M.O.kf (0 + x.toNat)) (M.O.kn (0 + x.toNat)) (M.O.kg (0 + x.toNat)) (hM.kb _ hk).1 (by have := (hM.kb _ hk).2; omega))
          (ck i1 (ck i2 (ck i1 (ck i2 (lp nx)))))))))))
    (fun h => by
      have h : (L : Int) ≤ x := by simpa using h
      have ek : k = on + 1 := by omega
      have w : WkE (.ret (.agg [.str M.name, R.v, .lst false false LC (fun i => (Gc (0 + i)).map frz0), .lst false false L (fun i => (opK M.O k (0 + i)).map frz0), .lst M.A.nb false M.A.n (fun i => [.str (M.A.g i)]), .str M.res, .lst M.S.nb false M.S.n (fun i => [.str (M.S.g i)]), iV M.slots])) (cpF M R on) := by
        unfold cpF
        rw [hL, hC]
        refine wk_ret (wkv_agg (.cons (.refl _) (.cons (.refl _) (.cons (wkv_lst rfl id fun i hi => .of ?_) (.cons (wkv_lst rfl id fun i hi => .of ?_) (.refl _))))))
        · rw [Nat.zero_add, hG i (by omega)]; rfl
        · rw [Nat.zero_add, ek]
          unfold opK
          rw [blt_t hi]
          rfl
      exact cl (clS_ok M.A.nb M.A.f M.A.n M.A.g hM.A.1 (by have := hM.A.2; omega)) (cl (clS_ok M.S.nb M.S.f M.S.n M.S.g hM.S.1 (by have := hM.S.2; omega)) (endI2 (show 0 + LC ≤ LC by omega) (show 0 + L ≤ L by omega) w))))
    (by kernel_rfl)
termination_by m
decreasing_by omega
theorem cp1_lp (L LO : Nat) (hL : L = M.c0 + 1) (hO : LO = on + 1) (m k : Nat) (x : Int) (hx : x = k) (hm : k + m = L) (Go : Nat → List AV) (hG : ∀ j, j < LO → Go j = opK M.O 0 j) : FrE XV.P (frH XV.P 70 0 [(1, .ptr 0 0 0 0), (2, .ptr 1 0 0 0), (19, iV (Int.ofNat L)), (20, iV x)]) (clM [.var (mbC M R (.sl 2 0 L false 2) (.sl 3 0 LO false 6)), .var zmC, .row 2 L (clK M.D k), .row 6 LO Go]) (cpF M R on) [] :=
  have hc := hM.c
  have ho := hM.o
  have ex : x.toNat = k := by rw [hx]; rfl
  have wx : x < (L : Int) → wr .i64 (x + 1) = ((k + 1 : Nat) : Int) := fun h => by rw [wr_id] <;> omega
  have f := fz_eq hG fun _ => rfl
  vl0 (c := cCp R) (n := 20000) (by kernel_rfl)
    (ifs (c := ltI x (.ofNat L)) (fun h => by
      have h : x < (L : Int) := by simpa using h
      have i1 : (inI x L && true) = true := by simp; omega
      have i2 : ((true && Nat.blt (0 + x.toNat) L) && true) = true := by simp; omega
      have hk : 0 + x.toNat < M.c0 + 1 := by omega
      have nx : FrE XV.P (frH XV.P 70 0 [(1, .ptr 0 0 0 0), (2, .ptr 1 0 0 0), (19, iV (Int.ofNat L)), (20, iV (wr .i64 (x + 1)))]) (clM [.var (mbC M R (.sl 2 0 L false 2) (.sl 3 0 LO false 6)), .var zmC, .row 2 L (sr1 (clK M.D k) (0 + x.toNat) 1 [.lst (M.D.rb (0 + x.toNat)) false (M.D.rn (0 + x.toNat)) (fun i => [.str (M.D.rg (0 + x.toNat) i)])]), .row 6 LO (fz Go)]) (cpF M R on) [] := by
        have k1 := cp1_lp L LO hL hO (m - 1) (k + 1) (wr .i64 (x + 1)) (wx h) (by omega) (fz Go) f
        refine fr_wkB (.cons (by simp) (by simp) (wkB _) (.cons (by simp) (by simp) (wkB _) (.cons (by simp) (by simp) (wkB_row fun j hj => .of ?_) (.cons (by simp) (by simp) (wkB _) .nil)))) k1
        rw [ex]
        exact clK_step M.D k j
      exact ck i1 (ck i2 (cl (clS_ok (M.D.rb (0 + x.toNat)) (bif Nat.blt (0 + x.toNat) k then false else M.D.rf (0 + x.toNat)) (M.D.rn (0 + x.toNat)) (M.D.rg (0 + x.toNat)) (hM.rb _ hk).1 (by have := (hM.rb _ hk).2; omega))
          (ck i1 (ck i2 (lp nx))))))
    (fun h => by
      have h : (L : Int) ≤ x := by simpa using h
      have ek : k = M.c0 + 1 := by omega
      have nx : FrE XV.P (frH XV.P 70 1 [(1, .ptr 0 0 0 0), (2, .ptr 1 0 0 0), (38, iV (Int.ofNat LO)), (39, iV 0)]) (clM [.var (mbC M R (.sl 2 0 L false 2) (.sl 3 0 LO false 6)), .var zmC, .row 2 L (fz (clK M.D k)), .row 6 LO (fz Go)]) (cpF M R on) [] := by
        have k1 := cp2_lp M R on hM LO L hO hL LO 0 0 rfl (by omega) (fz (clK M.D k)) (fun j hj => by rw [ek]; show (clK M.D (M.c0 + 1) j).map frz0 = _; unfold clK; rw [blt_t (by omega)]; rfl)
        exact fr_wkB (.cons (by simp) (by simp) (wkB _) (.cons (by simp) (by simp) (wkB _) (.cons (by simp) (by simp) (wkB _) (.cons (by simp) (by simp) (wkB_row fun j hj => .of (f j hj)) .nil)))) k1
      exact lp nx))
    (by kernel_rfl)
termination_by m
decreasing_by omega
end
theorem copied_ok (M : MD) (R : LP) (on : Nat) (hM : CpOk (M.wo (on + 1)) on) (hcb : M.cb = false) (hob : M.ob = false) (hR : CtE XV.P 145 [M.R.v] [] (.ret R.v) []) : CtE XV.P 70 [.agg (M.wo (on + 1)).c] [] (cpF M R on) [] := by
  have hc : M.c0 ≤ 65536 := hM.c
  have ho : on ≤ 65536 := hM.o
  have k : FrE XV.P (frH XV.P 70 0 [(1, .ptr 0 0 0 0), (2, .ptr 1 0 0 0), (19, iV (Int.ofNat (0 + (M.c0 + 1)))), (20, iV 0)]) (clM [.var (mbC M R (.sl 2 0 (0 + (M.c0 + 1)) false 2) (.sl 3 0 (0 + (on + 1)) false 6)), .var zmC, .row 2 (0 + (M.c0 + 1)) M.D.r, .row 6 (0 + (on + 1)) M.O.r]) (cpF M R on) [] := by
    have k1 := cp1_lp (M.wo (on + 1)) R on hM (0 + (M.c0 + 1)) (0 + (on + 1)) (Nat.zero_add _) (Nat.zero_add _) (0 + (M.c0 + 1)) 0 0 rfl (Nat.zero_add _) M.O.r (fun j hj => by
      show M.O.r j = opK M.O 0 j
      unfold opK
      rw [blt_f (Nat.zero_le _)]
      rfl)
    refine fr_wkB (.cons (by simp) (by simp) (wkB _) (.cons (by simp) (by simp) (wkB _) (.cons (by simp) (by simp) (wkB_row fun j hj => .of ?_) (.cons (by simp) (by simp) (wkB _) .nil)))) k1
    show M.D.r j = clK M.D 0 j
    unfold clK
    rw [blt_f (Nat.zero_le _)]
    rfl
  have e : M.wo (on + 1) = { M with cb := false, ob := false, on := on + 1 } := by
    obtain ⟨a1, a2, b, c, d, e, f, g, h, i, j, k, l, m⟩ := M
    cases hcb
    cases hob
    rfl
  rw [e]
  exact vc0 (c := cCp R) (n := 20000) (by kernel_rfl)
    (cl hR (ck (c := true && (true && (Nat.ble (0 + (M.c0 + 1)) 16777216 && true))) (by simp; omega) (ck (c := true && (true && (Nat.ble (0 + (on + 1)) 16777216 && true))) (by simp; omega) (lp k))))
    (by kernel_rfl)
end Go.Proofs.YtpflobodmglmaaaGreat
set_option linter.unusedVariables false
set_option maxHeartbeats 1000000
namespace Go.Proofs.YtpflobodmglmaaaGreat
noncomputable def bG : ByteArray := ⟨#[103]⟩
noncomputable def b0' : ByteArray := ⟨#[]⟩
noncomputable def opNm (i : Nat) : ByteArray := match i with | 0 => ⟨#[97, 100, 100]⟩ | 1 => ⟨#[110, 111, 116]⟩ | _ => ⟨#[100, 105, 118]⟩
noncomputable def opU (i : Nat) : Nat := match i with | 1 => 0 | _ => 1
noncomputable def smO (F : Fm) : OpD := ⟨opNm, fun _ => bG, fun _ => b0', fun _ => false, fun _ => true, opU, fun _ _ => bG, fun _ _ => b0', fun _ => -1, fun i => match i with | 0 => F.cb | _ + 1 => true, fun _ => true, fun i => match i with | 0 => F.cn | _ + 1 => 0, fun i => match i with | 0 => F.cg | _ + 1 => fun _ => b0'⟩
noncomputable def smC (F : Fm) : ClD := ⟨fun _ => bG, fun _ => false, fun _ => false, fun _ => F.n, fun _ => nm⟩
noncomputable def smD (F : Fm) : MD := ⟨⟨#[109]⟩, ⟨false, false, F.n, regR⟩, false, true, 0, smC F, false, true, 3, smO F, ⟨F.ab, F.af, F.an, F.ag⟩, nm 0, ⟨F.sb, true, F.sn, F.sg⟩, 100⟩
noncomputable def nmL (nb : Bool) (n : Nat) (g : Nat → ByteArray) : LP := ⟨nb, false, n, nmS g⟩
noncomputable def smK (F : Fm) : CpD := ⟨⟨false, false, F.n, regR⟩, ⟨false, false, 1, (smC F).cp.r⟩, false, false, (smO F).cp, nmL F.ab F.an F.ag, nmL F.sb F.sn F.sg, ⟨false, false, F.n, nm⟩, ⟨false, false, F.n, fun i => (i : Int), fun _ => 0, fun _ => 8⟩⟩
/-- A machine of the family. -/
structure FmOk (F : Fm) : Prop where
  n : 3 ≤ F.n ∧ F.n ≤ 30
  c : (F.cb = true → F.cn = 0) ∧ F.cn ≤ 1 ∧ ∀ i, i < F.cn → ∃ j, j < F.n ∧ F.cg i = nm j
  a : (F.ab = true → F.an = 0) ∧ F.an ≤ 65536
  s : (F.sb = true → F.sn = 0) ∧ F.sn ≤ 1 ∧ ∀ i, i < F.sn → ∃ j, j < F.n ∧ F.sg i = nm j
theorem hr_nm {n j : Nat} (hn : n ≤ 30) (hj : j < n) : giV (mapG nm n (nm j)) = (j : Int) := by
  rw [mapG_at nm j n hj fun i h1 h2 e => by have := nm_inj (by omega) (by omega) e; omega]
  rfl
theorem smD_wk (F : Fm) : WkL (smD F).c F.V := by
  refine .cons (.refl _) (.cons (.refl _) (.cons (wkv_lst rfl id fun i (hi : i < 1) => .of ?_) (.cons (wkv_lst rfl id fun i (hi : i < 3) => ?_) (.refl _))))
  · rw [show i = 0 by omega]; rfl
  · rcases (show i = 0 ∨ i = 1 ∨ i = 2 by omega) with e | e | e <;> subst e
    · exact .cons (.refl _) (.cons (.refl _) (.cons (.refl _) (.cons (wkv_lst rfl id fun j hj => .of (by rcases (show j = 0 ∨ j = 1 by have : j < 2 := hj; omega) with e | e <;> subst e <;> rfl)) (.cons (.refl _) (.cons (.refl _) .nil)))))
    · exact .cons (.refl _) (.cons (.refl _) (.cons (.refl _) (.cons (wkv_lst rfl id fun j hj => .of (by have : j < 1 := hj; rw [show j = 0 by omega]; rfl)) (.cons (.refl _) (.cons (wkv_lst rfl id fun j (hj : j < 0) => by omega) .nil)))))
    · exact .cons (.refl _) (.cons (.refl _) (.cons (.refl _) (.cons (wkv_lst rfl id fun j hj => .of (by rcases (show j = 0 ∨ j = 1 by have : j < 2 := hj; omega) with e | e <;> subst e <;> rfl)) (.cons (.refl _) (.cons (wkv_lst rfl id fun j (hj : j < 0) => by omega) .nil)))))
theorem smD_kw (F : Fm) : WkL F.V (smD F).c := by
  refine .cons (.refl _) (.cons (.refl _) (.cons (wkv_lst rfl id fun i hi => .of ?_) (.cons (wkv_lst rfl id fun i hi => ?_) (.refl _))))
  · rw [show i = 0 by omega]; rfl
  · rcases (show i = 0 ∨ i = 1 ∨ i = 2 by omega) with e | e | e <;> subst e
    · exact .cons (.refl _) (.cons (.refl _) (.cons (.refl _) (.cons (wkv_lst rfl id fun j hj => .of (by rcases (show j = 0 ∨ j = 1 by have : j < 2 := hj; omega) with e | e <;> subst e <;> rfl)) (.cons (.refl _) (.cons (.refl _) .nil)))))
    · exact .cons (.refl _) (.cons (.refl _) (.cons (.refl _) (.cons (wkv_lst rfl id fun j hj => .of (by have : j < 1 := hj; rw [show j = 0 by omega]; rfl)) (.cons (.refl _) (.cons (wkv_lst rfl id fun j hj => by omega) .nil)))))
    · exact .cons (.refl _) (.cons (.refl _) (.cons (.refl _) (.cons (wkv_lst rfl id fun j hj => .of (by rcases (show j = 0 ∨ j = 1 by have : j < 2 := hj; omega) with e | e <;> subst e <;> rfl)) (.cons (.refl _) (.cons (wkv_lst rfl id fun j hj => by omega) .nil)))))
theorem sm_cpok (F : Fm) (h : FmOk F) : CpOk ((smD F).wo 3) 2 :=
  ⟨by show 0 ≤ 65536; omega, by omega, fun j hj => ⟨(fun e => by cases e), by show F.n ≤ 65536; have := h.n; omega⟩, fun j hj => ⟨rfl, by
    show opU j ≤ 65536
    unfold opU
    split <;> omega⟩, fun j hj => by
      cases j with
      | zero => exact ⟨h.c.1, by show F.cn ≤ 65536; have := h.c.2.1; omega⟩
      | succ j => exact ⟨fun _ => rfl, Nat.zero_le _⟩, h.a, ⟨h.s.1, by show F.sn ≤ 65536; have := h.s.2.1; omega⟩⟩
theorem sm_od (F : Fm) (h : FmOk F) : OdOk (odM (smD F) (smK F)) := by
  have hn := h.n
  refine ⟨show 3 ≤ 65536 by omega, fun i hi => ?_, fun i hi => ?_, fun i j hi hj => ?_, fun i c hi hc => ?_⟩
  · show 1 + (opU i + 1) ≤ 65536
    unfold opU
    split <;> omega
  · cases i with
    | zero => show F.cn ≤ 65536; have := h.c.2.1; omega
    | succ i => exact Nat.zero_le _
  · have e : clsO (odM (smD F) (smK F)).O i j = bG := by
      unfold clsO
      cases Nat.blt (0 + j) 1 <;> rfl
    rw [e]
    have e2 : (odM (smD F) (smK F)).T.hc bG = some 0 := by
      show mapG (fun _ => bG) 1 bG = some 0
      rw [mapG_at (fun _ => bG) 0 1 (by omega) (fun i h1 h2 => by omega)]
      rfl
    rw [e2]
    show (0 : Int) ≤ 0 ∧ (0 : Int) < ((0 + 1 : Nat) : Int)
    omega
  · cases i with
    | zero =>
      obtain ⟨j, hj, e⟩ := h.c.2.2 c hc
      show 0 ≤ giV (mapG nm F.n (F.cg c)) ∧ giV (mapG nm F.n (F.cg c)) < (F.n : Int)
      rw [e, hr_nm hn.2 hj]
      omega
    | succ i => exact absurd hc (by show ¬ c < 0; omega)
theorem sm_mk (F : Fm) (h : FmOk F) : MkOk (smD F) (smK F) := by
  have hn := h.n
  refine ⟨by show 0 + 1 ≤ 65536; omega, fun i hi => by show F.n ≤ 16777215; omega, by show F.n ≤ 16777216; omega, by show F.n ≤ 65536; omega, by show 3 ≤ 65536; omega, by show F.an ≤ 16777215; have := h.a; omega, by show F.sn ≤ 16777215; have := h.s.2.1; omega, sm_od F h, by show F.sn ≤ 65536; have := h.s.2.1; omega, fun i hi => ?_⟩
  obtain ⟨j, hj, e⟩ := h.s.2.2 i hi
  have e1 : siz (tbF (smD F) (smK F)) i = (j : Int) := by
    show giV (mapG nm F.n (F.sg i)) = _
    rw [e, hr_nm hn.2 hj]
  refine ⟨rfl, ?_, ?_⟩
  · rw [e1]; omega
  · rw [e1]
    show (j : Int) < (F.n : Int)
    omega
theorem make_small (F : Fm) (h : FmOk F) (hp : PlOk F.n) (hck : CtE XV.P 69 [.agg F.V] [] (.ret (iV 0)) []) : CtE XV.P 23 [.agg F.V] [] (mkE (tbF (smD F) (smK F))) [] := by
  have hn := h.n
  obtain ⟨k, hk⟩ : ∃ k, F.n = k + 1 := ⟨F.n - 1, by omega⟩
  have hR : CtE XV.P 145 [.lst false false F.n regR] [] (.ret (.lst false false F.n regR)) [] := by
    rw [hk]
    exact regs_ok k (by omega)
  refine ct_wk (.cons (wkv_agg (smD_kw F)) .nil) (make_ok (smD F) (smK F) (sm_mk F h) (ct_wk (.cons (wkv_agg (smD_wk F)) .nil) hck) ?_ hp)
  exact copied_ok (smD F) ⟨false, false, F.n, regR⟩ 2 (sm_cpok F h) rfl rfl hR
end Go.Proofs.YtpflobodmglmaaaGreat
