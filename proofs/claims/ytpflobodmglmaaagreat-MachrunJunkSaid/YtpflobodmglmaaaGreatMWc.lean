/- Several texts joined. No condition. -/
import Derived.Test.YtpflobodmglmaaaGreatMh
import Derived.Test.YtpflobodmglmaaaGreatMWa
import Derived.Test.YtpflobodmglmaaaGreatMIa
import Derived.Test.YtpflobodmglmaaaGreatMKa
import Derived.Test.YtpflobodmglmaaaGreatMEm
import Derived.Test.YtpflobodmglmaaaGreatMJa
import Derived.Test.YtpflobodmglmaaaGreatMHl
set_option linter.unusedVariables false
set_option maxHeartbeats 1000000
namespace Go.Proofs.YtpflobodmglmaaaGreat
noncomputable def bitX (k : Int) (x : Int) : Bool := !(eqI (wr .u64 (.ofNat (BitVec.toNat ((BitVec.ofInt 64 (Int.fdiv k (2 ^ (min (Int.toNat (Int.tmod x 64)) 64)))) &&& (BitVec.ofInt 64 1))))) 0)
theorem bitX_eq (k : Nat) (hk : k < 2 ^ 64) (x : Nat) : bitX (k : Int) (x : Int) = k.testBit (x % 64) := by
  unfold bitX
  have e1 : Int.tmod (x : Int) 64 = ((x % 64 : Nat) : Int) := by rw [Int.tmod_eq_emod_of_nonneg (by omega)]; omega
  have hr : x % 64 < 64 := Nat.mod_lt _ (by omega)
  rw [e1]
  generalize x % 64 = r at hr
  have e2 : min (Int.toNat (r : Int)) 64 = r := by omega
  rw [e2]
  have e3 : Int.fdiv (k : Int) (2 ^ r) = ((k / 2 ^ r : Nat) : Int) := by
    rw [Int.fdiv_eq_ediv_of_nonneg _ (by exact Int.le_of_lt (Int.pow_pos (by omega)))]
    simp
  rw [e3, ofInt_nat]
  have e4 : (BitVec.ofNat 64 (k / 2 ^ r) &&& BitVec.ofInt 64 1).toNat = k / 2 ^ r % 2 := by
    rw [show BitVec.ofInt 64 1 = BitVec.ofNat 64 1 from rfl, BitVec.toNat_and, BitVec.toNat_ofNat, BitVec.toNat_ofNat, Nat.mod_eq_of_lt (a := 1) (by omega), Nat.and_one_is_mod, Nat.mod_mod_of_dvd _ (show 2 ∣ 2 ^ 64 by decide)]
  rw [e4]
  have h2 : k / 2 ^ r % 2 < 2 := Nat.mod_lt _ (by omega)
  rw [wr_u64 (by omega), Nat.testBit_eq_decide_div_mod_eq]
  rcases (show k / 2 ^ r % 2 = 0 ∨ k / 2 ^ r % 2 = 1 by omega) with h | h <;> rw [h] <;> rfl
noncomputable def hasB (p : Nat → Bool) (x : Int) : Bool := decide (0 ≤ x) && (decide (x < 65536) && p x.toNat)
noncomputable def spHas : CSp := { ids := [], res := fun args _ => match args with | [_, .int _ x] => (.ret (.bool (hasB (fun _ => true) x)), []) | _ => (.ret .undef, []) }
theorem has_ok (nb : Bool) (p : Nat → Bool) (x : Int) (hx : x < 9223372036854775808) : CtE XV.P 304 [.agg [bS nb p], iV x] [] (.ret (.bool (hasB p x))) [] := by
  have pos : ¬ x < 0 → ∃ k : Nat, x = (k : Int) := fun h => ⟨x.toNat, by omega⟩
  have td : ∀ k : Nat, x = (k : Int) → wr .i64 (Int.tdiv x 64) = ((k / 64 : Nat) : Int) := fun k e => by
    rw [e, Int.tdiv_eq_ediv_of_nonneg (by omega), wr_id] <;> omega
  have hs := setN_le p
  exact vc0 (c := ⟨[], []⟩) (n := 4000) (by kernel_rfl)
    (ifs (c := !(ltI x 0)) (fun h => by
      obtain ⟨k, hk⟩ := pos (by simpa using h)
      have t := td k hk
      exact ifs (c := ltI (wr .i64 (Int.tdiv x 64)) (.ofNat (setN p))) (fun h2 => by
        have h2 : k / 64 < setN p := by rw [t] at h2; simp at h2; omega
        exact ck (c := inI (wr .i64 (Int.tdiv x 64)) (setN p) && true) (by rw [t]; simp; omega) (ck (c := !(ltI (Int.tmod x 64) 0)) (by
          have : 0 ≤ Int.tmod x 64 := Int.tmod_nonneg _ (by omega)
          simpa using this) (endI (wkb (a := bitX (wv p (Int.toNat (wr .i64 (Int.tdiv x 64)))) x) (b := hasB p x) (by
            rw [t, hk]
            show _ = bitX ((wvN p (k / 64) : Nat) : Int) (k : Int)
            rw [bitX_eq _ (wvN_lt p _)]
            unfold wvN
            rw [bitsN_bit, decide_eq_true (show k % 64 < 64 by omega), show 64 * (k / 64) + k % 64 = k by omega]
            unfold hasB
            rw [decide_eq_true (show (0 : Int) ≤ (k : Int) by omega), decide_eq_true (show (k : Int) < 65536 by omega)]
            rfl)))))
        (fun h2 => endI (wkb (a := false) (b := hasB p x) (by
          have h2 : setN p ≤ k / 64 := by rw [t] at h2; simp at h2; omega
          unfold hasB
          by_cases h3 : x < 65536
          · cases hp : p x.toNat with
            | false => simp
            | true =>
              have h4 : p k = true := by rw [hk] at hp; exact hp
              exact absurd (trimN_nil (wv p) 1024 (k / 64) h2 (by omega)) (wv_pos h4)
          · rw [decide_eq_false h3]; simp))))
    (fun h => endI (wkb (a := false) (b := hasB p x) (by
      have h : x < 0 := by simpa using h
      unfold hasB
      rw [decide_eq_false (by omega)]
      rfl))))
    (by kernel_rfl)
end Go.Proofs.YtpflobodmglmaaaGreat
set_option linter.unusedVariables false
set_option linter.unusedSectionVars false
set_option maxHeartbeats 1000000
namespace Go.Proofs.YtpflobodmglmaaaGreat
noncomputable def fmJ (N c : Nat) : Fm := ⟨N, false, 1, fun _ => nm c, false, true, 1, fun _ => nm 0, true, 0, fun _ => b0'⟩
theorem fmJ_ok {N c : Nat} (h1 : 3 ≤ N) (h2 : N ≤ 30) (h3 : c < N) : FmOk (fmJ N c) :=
  ⟨⟨h1, h2⟩, ⟨(fun e => by cases e), by show 1 ≤ 1; omega, fun i hi => ⟨c, h3, rfl⟩⟩, ⟨(fun e => by cases e), by show 1 ≤ 65536; omega⟩, ⟨fun _ => rfl, by show 0 ≤ 1; omega, fun i hi => absurd hi (by show ¬ i < 0; omega)⟩⟩
noncomputable def stJ (N c : Nat) : ST := sT (fmJ N c) (fun _ => 0) (fun _ => 0)
theorem makeJ {N c : Nat} (h1 : 3 ≤ N) (h2 : N ≤ 30) (h3 : c < N) : CtE XV.P 23 [.agg (smL N regR nmR (.lst false true 1 (rowL [[.str (nm c)]])) ar0 nl)] [] (mkE (smF (fmJ N c))) [] := by
  have ok := fmJ_ok h1 h2 h3
  obtain ⟨m, rfl⟩ : ∃ m, N = m + 3 := ⟨N - 3, by omega⟩
  have ck := check10 m (by omega) false true (fun _ => b0') (pl_all (m + 3) h1 h2) c h3 (by omega)
  refine ct_wk (.cons (wkv_agg (.cons (.refl _) (.cons (.refl _) (.cons (.refl _) (.cons (wkv_lst rfl id fun i hi => ?_) (.cons (wkv_lst rfl id fun i hi => .of (by rw [show i = 0 by omega]; rfl)) (.cons (.refl _) (.cons (wkv_lst rfl id fun i hi => by omega) (.refl _))))))))) .nil) (make_small (fmJ (m + 3) c) ok (pl_all (m + 3) h1 h2) ck)
  rcases (show i = 0 ∨ i = 1 ∨ i = 2 by omega) with e | e | e <;> subst e
  · exact .cons (.refl _) (.cons (.refl _) (.cons (.refl _) (.cons (.refl _) (.cons (.refl _) (.cons (wkv_lst rfl id fun i hi => .of (by rw [show i = 0 by omega]; rfl)) .nil)))))
  · exact .refl _
  · exact .refl _
noncomputable def odJ (N c : Nat) : OD := odM (smD (fmJ N c)) (smK (fmJ N c))
/-! What operands may be. -/
theorem hasT {nb : Bool} {p : Nat → Bool} {x : Int} (h0 : 0 ≤ x) (h1 : x < 65536) (hp : p x.toNat = true) : CtE XV.P 304 [.agg [bS nb p], iV x] [] (.ret (.bool true)) [] := by
  have := has_ok nb p x (by omega)
  unfold hasB at this
  rw [decide_eq_true h0, decide_eq_true h1, hp] at this
  exact this
theorem inJ {N c : Nat} (h2 : N ≤ 30) {v : Nat} (hv : v < N) (j : Nat) : baseO (odJ N c) 0 j v = true := by
  have e : baseO (odJ N c) 0 j = inP (mapG nm N) (smC (fmJ N c)) 0 := by
    unfold baseO
    have f : fixO (odJ N c).O 0 j = b0' := by
      unfold fixO
      cases Nat.blt (0 + j) 1 <;> rfl
    rw [f]
    show (odJ N c).iq (giV ((odJ N c).T.hc (clsO (odJ N c).O 0 j))).toNat = _
    have g : clsO (odJ N c).O 0 j = bG := by
      unfold clsO
      cases Nat.blt (0 + j) 1 <;> rfl
    rw [g]
    have e2 : (odJ N c).T.hc bG = some 0 := by
      show mapG (fun _ => bG) 1 bG = some 0
      rw [mapG_at (fun _ => bG) 0 1 (by omega) (fun i h1 h2 => by omega)]
      rfl
    rw [e2]
    rfl
  rw [e]
  show mem (fun j => giV (mapG nm N (nm j))) N v = true
  have key : ∀ k, v < k → k ≤ N → mem (fun j => giV (mapG nm N (nm j))) k v = true := fun k => by
    induction k with
    | zero => intro h; omega
    | succ k ih =>
      intro h hk
      rw [mem_succ]
      by_cases e : v < k
      · rw [ih e (by omega)]; rfl
      · have e : v = k := by omega
        subst e
        rw [hr_nm h2 (by omega), decide_eq_true (show v ≤ 65535 by omega), decide_eq_true rfl]
        simp
  exact key N hv (Nat.le_refl _)
theorem lapJ {N c d : Nat} (h2 : N ≤ 30) (hc : c < N) (hne : d ≠ c) : lapP (tB0 (smD (fmJ N c)) (smK (fmJ N c)).R (smK (fmJ N c)).C ((smK (fmJ N c)).ops (smD (fmJ N c)).on) (smK (fmJ N c)).A (smK (fmJ N c)).S (smK (fmJ N c)).Nm (smK (fmJ N c)).P) c d = false := by
  unfold lapP lapQ lapB
  have : eqI ((c : Nat) : Int) ((d : Nat) : Int) = false := by simp; omega
  show (decide (d < N) && (bif !(eqI ((c : Nat) : Int) ((d : Nat) : Int)) then false else _)) = false
  rw [this]
  simp
theorem resJ {N c : Nat} (h2 : N ≤ 30) (hc : c < N) {d : Nat} (hd : d < N) (hne : d ≠ c) : sbP (odJ N c) 0 (baseO (odJ N c) 0 0) 1 d = true := by
  show (baseO (odJ N c) 0 0 d && !((odJ N c).lq (giV ((odJ N c).T.hr (nm c))).toNat d)) = true
  rw [inJ h2 hd]
  have e : giV ((odJ N c).T.hr (nm c)) = (c : Int) := hr_nm (n := N) (j := c) h2 hc
  rw [e]
  have := lapJ (N := N) h2 hc hne
  show (true && !(lapP _ ((c : Int)).toNat d)) = true
  rw [show ((c : Int)).toNat = c from rfl, this]
  rfl
noncomputable def bAd : ByteArray := ⟨#[97, 100, 100]⟩
noncomputable def opJ (d c : Int) : List AV := insV 3 d 0 0 0 bAd (.lst false true 2 (rowL [[iV c], [iV 1]])) 0 0
noncomputable def cdJ (d c : Int) : LP := ⟨false, true, 1, fun _ => [.lst false true 2 (rowL [opJ d c, rI])]⟩
theorem ckB {c : Bool} {p : Prop} (h : c = true) (x : p) : (bif c then p else (True ∧ WkE (.ret (.tup [iV 0, iV 0, iV 23])) e000 ∧ True)) := by rw [h]; exact x
theorem ckNB {c : Bool} {p : Prop} (h : c = false) (x : p) : (bif c then (True ∧ WkE (.ret (.tup [iV 0, iV 0, iV 23])) e000 ∧ True) else p) := by rw [h]; exact x
noncomputable def cCkJ : Cfg := ⟨[(304, spT)], []⟩
theorem chkJ (N c : Nat) (h1 : 3 ≤ N) (h2 : N ≤ 30) (hc : c < N) (d : Int) (h0 : 0 ≤ d) (hd : d < N) (hne : d ≠ c) : CtE XV.P 42 [.cp (stJ N c).c, .agg [.str ⟨#[102]⟩, iV 0, (cdJ d c).v]] [] e000 [] := by
  have a : CtE XV.P 304 [.agg [bS (sbN (odJ N c) 0 (baseO (odJ N c) 0 0) 1) (sbP (odJ N c) 0 (baseO (odJ N c) 0 0) 1)], iV d] [] (.ret (.bool true)) [] := hasT h0 (by omega) (resJ h2 hc (by omega) (by omega))
  have b : CtE XV.P 304 [.agg [setS (baseO (odJ N c) 0 1)], iV (c : Int)] [] (.ret (.bool true)) [] := hasT (by omega) (by omega) (inJ h2 (by simpa using hc) 1)
  have b2 : CtE XV.P 304 [.agg [setS (baseO (odJ N c) 0 2)], iV 1] [] (.ret (.bool true)) [] := hasT (by omega) (by omega) (inJ h2 (by simp; omega) 2)
  have i1 : (!(ltI d 0)) = true := by simp; omega
  have i2 : (!(ltI d (.ofNat N))) = false := by simp; omega
  have i3 : (!(ltI (c : Int) 0)) = true := by simp
  have i4 : (!(ltI (c : Int) (.ofNat N))) = false := by simp; omega
  have i5 : (!(ltI 1 (.ofNat N))) = false := by simp; omega
  exact vc0 (c := cCkJ) (n := 20000) (by kernel_rfl)
    (ckB i1 (ckNB i2 (ckB i3 (ckNB i4 (ckNB i5 (cl a (cl b (cl b2 (endI (wkE e000))))))))))
    (by kernel_rfl)
end Go.Proofs.YtpflobodmglmaaaGreat
set_option linter.unusedVariables false
set_option linter.unusedSectionVars false
set_option maxHeartbeats 1000000
namespace Go.Proofs.YtpflobodmglmaaaGreat
noncomputable def add8 (x y : Int) : Int := cut8 (wr .i64 (wr .u64 ((wr .u64 (cut8 x)) + (wr .u64 (cut8 y)))))
noncomputable def ixJ (x : Int) : Nat := 0 + (Int.ofNat x.toNat).toNat
noncomputable def spJ (z : Nat → Int) (cc junk : Int) (j : Nat) : Int := bif Nat.beq j (ixJ cc) then zO (zS (z (ixJ cc)) 255) (zA junk 255) else z j
noncomputable def wtJ (z : Nat → Int) (d v : Int) (j : Nat) : Int := bif Nat.beq j (ixJ d) then wr8 (z (ixJ d)) v else z j
noncomputable def zJ (z : Nat → Int) (c cc d junk : Int) : Nat → Int := wtJ (spJ z cc junk) d (add8 (rd8 (z (ixJ c))) (rd8 (z (ixJ 1))))
noncomputable def jcc (N c : Nat) : Int := giV ((stJ N c).hr (nm c))
noncomputable def jr0 (N c : Nat) : Int := giV ((stJ N c).hr (nm 0))
noncomputable def cGJ : Cfg := ⟨[(120, spCl), (48, spPc)], []⟩
section
variable (N c : Nat) (h1 : 3 ≤ N) (h2 : N ≤ 30) (hc : c < N) (d : Int) (h0 : 0 ≤ d) (hd : d < N) (junk : Int)
noncomputable def jzE (z : Nat → Int) : List Blk := [.var (rnC (stJ N c) (cdJ d c) sl0.v (wr .u64 junk) 0 2), .var (ouC nl 3 nl (rd8 (zJ z c (jcc N c) d (wr .u64 junk) (ixJ (jr0 N c)))) 0 nl), .row 1 N (u64R (zJ z c (jcc N c) d (wr .u64 junk))), .row 1 N (u64R z0), .row 1 N w255]
include h1 h2 hc h0 hd
theorem goJ_ok (z : Nat → Int) : CtE XV.P 51 [.ptr 1 0 0 0, .fn 52 [.ptr 0 0 0 0] []] (cN (stJ N c) (cdJ d c) sl0.v (wr .u64 junk) 5 0 0 nl nl z z0) (.ret (.tup [])) (jzE N c d junk z) := by
  have ec : jcc N c = (c : Int) := hr_nm (n := N) (j := c) h2 hc
  have e0 : jr0 N c = 0 := hr_nm (n := N) (j := 0) h2 (by omega)
  have pd : CtE XV.P 48 [.cp (stJ N c).c, iV d] [] (.ret (plc8 d)) [] := place_ok (stJ N c) d h0 hd
  have pc : CtE XV.P 48 [.cp (stJ N c).c, iV (c : Int)] [] (.ret (plc8 (c : Int))) [] := place_ok (stJ N c) (c : Int) (by omega) (by show (c : Int) < (N : Int); omega)
  have p1 : CtE XV.P 48 [.cp (stJ N c).c, iV 1] [] (.ret (plc8 1)) [] := place_ok (stJ N c) 1 (by omega) (by show (1 : Int) < (N : Int); omega)
  have pcc : CtE XV.P 48 [.cp (stJ N c).c, iV (jcc N c)] [] (.ret (plc8 (jcc N c))) [] := place_ok (stJ N c) (jcc N c) (by omega) (by rw [ec]; show (c : Int) < (N : Int); omega)
  have pr : CtE XV.P 48 [.cp (stJ N c).c, iV (jr0 N c)] [] (.ret (plc8 (jr0 N c))) [] := place_ok (stJ N c) (jr0 N c) (by omega) (by rw [e0]; show (0 : Int) < (N : Int); omega)
  have ii : ∀ x : Int, 0 ≤ x → x < N → (inI (Int.ofNat x.toNat) N && true) = true := fun x a b => by simp; omega
  have ll : ∀ x : Int, 0 ≤ x → x < N → ((true && Nat.blt (0 + (Int.ofNat x.toNat).toNat) N) && true) = true := fun x a b => by simp; omega
  have id := ii d h0 hd
  have ld := ll d h0 hd
  have ic := ii (c : Int) (by omega) (by omega)
  have lc := ll (c : Int) (by omega) (by omega)
  have i1 := ii 1 (by omega) (by omega)
  have l1 := ll 1 (by omega) (by omega)
  have icc := ii (jcc N c) (by omega) (by omega)
  have lcc := ll (jcc N c) (by omega) (by omega)
  have i0 := ii (jr0 N c) (by omega) (by omega)
  have l0 := ll (jr0 N c) (by omega) (by omega)
  exact vcN (c := cGJ) (n := 20000) (by kernel_rfl) (by kernel_rfl) (by simp [jzE, cN])
    (cl pd (cl pc (ck ic (ck lc (cl p1 (ck i1 (ck l1 (cl (clI_ok false false 1 (fun _ => jcc N c) (fun h => by cases h) (by omega)) (cl pcc (ck icc (ck lcc (ck lcc (cl pd (ck id (ck ld (ck ld (cl pr (ck i0 (ck l0 (endX5 (e := .ret (.tup [])) (wkB (.var (rnC (stJ N c) (cdJ d c) sl0.v (wr .u64 junk) 0 2))) (wkB (.var (ouC nl 3 nl (rd8 (zJ z c (jcc N c) d (wr .u64 junk) (ixJ (jr0 N c)))) 0 nl))) (wkB (.row 1 N (u64R (zJ z c (jcc N c) d (wr .u64 junk))))) (wkB (.row 1 N (u64R z0))) (wkB (.row 1 N w255))))))))))))))))))))))
    (by kernel_rfl)
end
end Go.Proofs.YtpflobodmglmaaaGreat
set_option linter.unusedVariables false
set_option linter.unusedSectionVars false
set_option maxHeartbeats 1000000
namespace Go.Proofs.YtpflobodmglmaaaGreat
section
variable (n0 c : Nat) (h1 : 3 ≤ n0 + 1) (h2 : n0 + 1 ≤ 30) (hc : c < n0 + 1) (d : Int) (h0 : 0 ≤ d) (hd : d < ((n0 + 1 : Nat) : Int)) (hne : d ≠ c) (junk : Int) (ib if' : Bool) (il : Nat) (iz : Nat → Int)
noncomputable def rsJ : RS := ⟨stJ (n0 + 1) c, ⟨#[102]⟩, 0, cdJ d c, sl0, wr .u64 junk, LP.nil, 5, LP.nil, LP.nil, LP.nil, 5, ib, if', il, iz, junk⟩
noncomputable def zzJ (z : Nat → Int) : Nat → Int := zJ z c (jcc (n0 + 1) c) d (wr .u64 junk)
noncomputable def rdJ (z : Nat → Int) : RD := ⟨(stJ (n0 + 1) c).c, ⟨#[102]⟩, 0, cdJ d c, ⟨false, false, n0 + 1, fun i => u64R z0 (0 + i)⟩, ⟨false, false, n0 + 1, w255⟩, sl0, wr .u64 junk, 0, 2, LP.nil, 3, LP.nil, rd8 (zzJ n0 c d junk z (ixJ (jr0 (n0 + 1) c))), 0⟩
include h1 h2 hc h0 hd
theorem run16J (z : Nat → Int) : st16 (rsJ n0 c d junk ib if' il iz) (n0 + 1) (u64R z) zer w255 (runE (rdJ n0 c d junk z) (n0 + 1) (zzJ n0 c d junk z)) := by
  have go := goJ_ok (n0 + 1) c h1 h2 hc d h0 hd junk z
  have re := re_lp (rdJ n0 c d junk z) n0 (zzJ n0 c d junk z) (by omega) 0 0 (fun _ => []) rfl (Nat.zero_le _) (fun j hj => by omega)
  exact vlR (c := cRM (jzE (n0 + 1) c d junk z)) (n := 20000) (by kernel_rfl) hN0 (by simp)
    (cl (clI_ok true false 0 (fun _ => 0) (fun _ => rfl) (by omega)) (cl (clI_ok false false 1 (fun _ => 0) (fun h => by cases h) (by omega)) (cl go (cl02 (show 0 + (n0 + 1) ≤ n0 + 1 by omega) (show 0 + (n0 + 1) ≤ n0 + 1 by omega) re))))
    (by kernel_rfl)
include hne in
theorem runJ_ok (hi : n0 + 1 ≤ il) : CtE XV.P 17 [.cp (stJ (n0 + 1) c).c, .agg [.str ⟨#[102]⟩, iV 0, (cdJ d c).v], .agg (rsJ n0 c d junk ib if' il iz).w] [] (runE (rdJ n0 c d junk (roZ iz)) (n0 + 1) (zzJ n0 c d junk (roZ iz))) [] := by
  have k := st_lp (rsJ n0 c d junk ib if' il iz) n0 (runE (rdJ n0 c d junk (roZ iz)) (n0 + 1) (zzJ n0 c d junk (roZ iz))) (by kernel_rfl) (by omega) hi (fun G1 G2 G3 a b e => by
      refine fr_wkB (.cons (by simp) (by simp) (wkB _) (.cons (by simp) (by simp) (wkB _) (.cons (by simp) (by simp) (wkB _) (.cons (by simp) (by simp) (wkB_row fun j hj => .of (a j hj)) (.cons (by simp) (by simp) (wkB_row fun j hj => .of (b j hj)) (.cons (by simp) (by simp) (wkB_row fun j hj => .of (e j hj)) .nil)))))) (run16J n0 c h1 h2 hc d h0 hd junk ib if' il iz (roZ iz)))
    0 0 (fun _ => []) (fun _ => []) (fun _ => []) rfl (Nat.zero_le _) (fun j hj => by omega) (fun j hj => by omega) (fun j hj => by omega)
  have ck' := chkJ (n0 + 1) c h1 h2 hc d h0 hd hne
  have mm : CtE XV.P 44 [.cp (stJ (n0 + 1) c).c] [] (.ret (.agg (stJ (n0 + 1) c).m)) [] := machine_ok (stJ (n0 + 1) c) (copy2 (fmJ (n0 + 1) c) (fmJ_ok h1 h2 hc) (fun _ => 0) (fun _ => 0))
  exact vc0 (c := cBeg (stJ (n0 + 1) c)) (n := 20000) (by kernel_rfl)
    (cl ck' (cl mm (cl0 (Nat.le_refl 0) k)))
    (by kernel_rfl)
end
/-! What stands in the registers. -/
noncomputable def wanJ (c : Nat) (d junk : Int) (iz : Nat → Int) (j : Nat) : Int := if (j : Int) = d then a255 (wr .i64 (iz c + iz 1)) else if j = c then a255 junk else a255 (iz j)
theorem wri_mod (x : Int) : wr .i64 x % 256 = x % 256 := by
  rw [wr_eq, wrap_i64]
  split <;> omega
theorem add8_eq {a b : Nat} (ha : a < 256) (hb : b < 256) : add8 (a : Int) (b : Int) = ((a : Int) + b) % 256 := by
  unfold add8
  rw [cut8_eq, cut8_eq, cut8_eq, wri_mod, wru_emod, wru_emod, wru_emod]
  omega
theorem ixJ_eq (x : Int) : ixJ x = x.toNat := Nat.zero_add _
theorem zJ_eq (c : Nat) (d : Int) (h0 : 0 ≤ d) (hne : d ≠ c) (junk : Int) (iz : Nat → Int) (cc : Int) (hcc : cc = c) (j : Nat) : ∃ k : Nat, zJ (roZ iz) c cc d (wr .u64 junk) j = (k : Int) ∧ k < 256 ∧ (k : Int) = wanJ c d junk iz j := by
  subst hcc
  unfold zJ wtJ spJ wanJ
  rw [ixJ_eq, ixJ_eq, ixJ_eq]
  rw [show ((c : Int)).toNat = c from rfl, show (1 : Int).toNat = 1 from rfl]
  have hk := fun j => roZ_nat iz j
  by_cases e : (j : Int) = d
  · rw [if_pos e, show j = d.toNat by omega, Nat.beq_refl, cond_true, beq_ff (by omega), cond_false]
    obtain ⟨k, e1, e2, e3⟩ := hk d.toNat
    obtain ⟨a, a1, a2, a3⟩ := hk c
    obtain ⟨b, b1, b2, b3⟩ := hk 1
    rw [e1, a1, b1, rd8_eq (by omega) (by omega), rd8_eq (by omega) (by omega), add8_eq a2 b2, wr8_eq e2, a255_eq, wri_mod]
    obtain ⟨m, m1, m2⟩ := emod_nat (iz c + iz 1) 256 (by omega)
    have m1 : (iz c + iz 1) % 256 = (m : Int) := m1
    exact ⟨m, by omega, m2, by omega⟩
  · rw [if_neg e, beq_ff (show j ≠ d.toNat by omega), cond_false]
    by_cases e2 : j = c
    · subst e2
      rw [if_pos rfl, Nat.beq_refl, cond_true]
      obtain ⟨k, k1, k2, k3⟩ := hk j
      obtain ⟨J, f1, f2, f3⟩ := wru_nat junk
      rw [k1, f1, zS_255 k2, zA255 f2]
      have t := zO_nat (a := 0) (b := J % 256) (by omega) (by have := Nat.mod_lt J (show 0 < 256 by omega); omega)
      rw [Nat.zero_or] at t
      have t : zO (0 : Int) ((J % 256 : Nat) : Int) = ((J % 256 : Nat) : Int) := t
      rw [t, a255_eq]
      exact ⟨J % 256, rfl, Nat.mod_lt _ (by omega), by omega⟩
    · rw [if_neg e2, beq_ff e2, cond_false]
      obtain ⟨k, k1, k2, k3⟩ := hk j
      rw [k1, a255_eq]
      exact ⟨k, rfl, k2, by omega⟩
/-! The law. -/
noncomputable def cJ3 (e : AEnd) : Cfg := ⟨[(17, spE e)], [(5, 0, { live := [0, 1, 2, 3, 4, 15, 17], ids := [] })]⟩
theorem mj_lp (N c : Nat) (d junk : Int) (ib if' : Bool) (il : Nat) (iz : Nat → Int) (evs : LP) (res en : Int) (Z : Nat → Int) (h1 : 3 ≤ N) (hN : N ≤ 40) (hc : c < N) (hi : N ≤ il) (hZ : ∀ j, j < N → Z j = wanJ c d junk iz j) (hres : res = Z 0) (q : Nat) (i : Int) (hq : i = q) (hm : q ≤ N) :
    FrE XV.P (frH XV.P 5 0 [(0, iV (Int.ofNat N)), (1, iV (c : Int)), (2, iV d), (3, iV junk), (4, rwI ib if' il iz), (15, .cp [evs.v, iV res, iV en, .lst false false N (fun i => [iV (Z i)])]), (17, iV i)]) (clM []) tT [] := by
  have e0 : (inI 0 N && true) = true := by simp; omega
  exact vl0 (c := cJ3 tT) (n := 20000) (by kernel_rfl)
    (ifs (c := ltI i (.ofNat N)) (fun h => by
      have h : i < (N : Int) := by simpa using h
      have i1 : (inI i N && true) = true := by simp; omega
      have i2 : (inI i il && true) = true := by simp; omega
      have i3 : (inI (c : Int) il && true) = true := by simp; omega
      have i4 : (inI 1 il && true) = true := by simp; omega
      have nx := mj_lp N c d junk ib if' il iz evs res en Z h1 hN hc hi hZ hres (q + 1) (wr .i64 (i + 1)) (by rw [wr_id] <;> omega) (by omega)
      have wz := hZ i.toNat (by omega)
      unfold wanJ at wz
      exact ck i2 (ifs (c := eqI i (c : Int)) (fun a => ifs (c := eqI i d) (fun b => ck i3 (ck i4 (ck i1 (nf (y := tT) (c := !(eqI (Z i.toNat) (a255 (wr .i64 (iz ((c : Int)).toNat + iz (1 : Int).toNat))))) (by
            have b : i = d := by simpa using b
            rw [wz, if_pos (by omega)]
            simp) (lp nx)))))
          (fun b => ck i1 (nf (y := tT) (c := !(eqI (Z i.toNat) (a255 junk))) (by
            have a : i = (c : Int) := by simpa using a
            have b : ¬ i = d := by simpa using b
            rw [wz, if_neg (by omega), if_pos (by omega)]
            simp) (lp nx))))
        (fun a => ifs (c := eqI i d) (fun b => ck i3 (ck i4 (ck i1 (nf (y := tT) (c := !(eqI (Z i.toNat) (a255 (wr .i64 (iz ((c : Int)).toNat + iz (1 : Int).toNat))))) (by
            have b : i = d := by simpa using b
            rw [wz, if_pos (by omega)]
            simp) (lp nx)))))
          (fun b => ck i1 (nf (y := tT) (c := !(eqI (Z i.toNat) (a255 (iz i.toNat)))) (by
            have a : ¬ i = (c : Int) := by simpa using a
            have b : ¬ i = d := by simpa using b
            rw [wz, if_neg (by omega), if_neg (by omega)]
            simp) (lp nx))))))
    (fun h => ck e0 (endI (x := .ret (.bool (eqI res (Z 0)))) (y := tT) (wkb (by rw [hres]; simp)))))
    (by kernel_rfl)
termination_by N - q
decreasing_by omega
theorem mj9 (N c : Nat) (d junk : Int) (ib if' : Bool) (il : Nat) (iz : Nat → Int) (h1 : 3 ≤ N) (h2 : N ≤ 30) (hc : c < N) (h0 : 0 ≤ d) (hd : d < N) (hne : d ≠ c) (hi : N ≤ il) : FrE XV.P (frR XV.P 5 9 [(0, iV (Int.ofNat N)), (1, iV (c : Int)), (2, iV d), (3, iV junk), (4, rwI ib if' il iz), (13, .cp (stJ N c).c)]) (clM []) tT [] := by
  obtain ⟨n0, rfl⟩ : ∃ n0, N = n0 + 1 := ⟨N - 1, by omega⟩
  have ec : jcc (n0 + 1) c = (c : Int) := hr_nm (n := n0 + 1) (j := c) h2 hc
  have e0 : jr0 (n0 + 1) c = 0 := hr_nm (n := n0 + 1) (j := 0) h2 (by omega)
  have run := runJ_ok n0 c h1 h2 hc d h0 hd hne junk ib if' il iz hi
  have eZ := zJ_eq c d h0 hne junk iz (jcc (n0 + 1) c) ec
  have er : rd8 (zzJ n0 c d junk (roZ iz) (ixJ (jr0 (n0 + 1) c))) = wr .i64 (zzJ n0 c d junk (roZ iz) 0) := by
    rw [e0]
    show rd8 (zJ (roZ iz) c (jcc (n0 + 1) c) d (wr .u64 junk) 0) = wr .i64 (zJ (roZ iz) c (jcc (n0 + 1) c) d (wr .u64 junk) 0)
    obtain ⟨k, k1, k2, k3⟩ := eZ 0
    rw [k1, rd8_eq (by omega) (by omega), wr_small k2 _ (.inl rfl)]
  have lpp := mj_lp (n0 + 1) c d junk ib if' il iz LP.nil (rd8 (zzJ n0 c d junk (roZ iz) (ixJ (jr0 (n0 + 1) c)))) 0 (fun j => wr .i64 (zzJ n0 c d junk (roZ iz) j)) h1 (by omega) hc hi (fun j hj => by
    obtain ⟨k, k1, k2, k3⟩ := eZ j
    show wr .i64 (zJ (roZ iz) c (jcc (n0 + 1) c) d (wr .u64 junk) j) = _
    rw [k1, wr_small k2 _ (.inl rfl), k3]) er 0 0 rfl (Nat.zero_le _)
  have arg : CtE XV.P 17 [.cp (stJ (n0 + 1) c).c, .agg [.str ⟨#[102]⟩, iV 0, .lst false true 1 (rowL [[.lst false true 2 (rowL [opJ d c, rI])]])], .agg [nl, nl, nl, iV 5, rwI ib if' il iz, iV junk]] [] (runE (rdJ n0 c d junk (roZ iz)) (n0 + 1) (zzJ n0 c d junk (roZ iz))) [] :=
    ct_wk (.cons (.refl _) (.cons (wkv_agg (.cons (.refl _) (.cons (.refl _) (.cons (wkv_lst rfl id fun i hi => .of (by rw [show i = 0 by omega]; rfl)) .nil)))) (.cons (.refl _) .nil))) run
  exact vlR (c := cJ3 (runE (rdJ n0 c d junk (roZ iz)) (n0 + 1) (zzJ n0 c d junk (roZ iz)))) (n := 20000) (by kernel_rfl) hN0 (by simp)
    (clp (p := 0 + 1 ≤ 1 ∧ (0 + 2 ≤ 2 ∧ (0 + 2 ≤ 2 ∧ True))) ⟨by omega, by omega, by omega, trivial⟩ arg (nf (y := tT) (c := !(eqI (.ofNat (n0 + 1)) (.ofNat (n0 + 1)))) (by simp) (lp lpp)))
    (by kernel_rfl)
noncomputable def spSK (N : Nat) : CSp := { ids := [], res := fun _ _ => (smVK N, smNK), new := true }
noncomputable def cJ1 (N c : Nat) : Cfg := ⟨[(12, spT), (22, spSK N), (23, spE (mkE (smF (fmJ N c))))], [(5, 1000009, { live := [0, 1, 2, 3, 4, 13], ids := [] })]⟩
/-- The operations, as they lie behind the store. -/
noncomputable def usM (k n : Nat) (l : List (List AV)) : AV := .lst false true n (fun i => mixL0 (Nat.beq (0 + k) (0 + Int.toNat 0)) (rowL [[sG, sE], [sG, sE]] i) (rowL l i))
noncomputable def smM2 (N c : Nat) : List AV := [.str ⟨#[109]⟩, .lst false false N regR, smCls N nmR, .lst false true 3 (rowL [opC (.str ⟨#[97, 100, 100]⟩) (usM 0 2 [[sG, sE], [sG, sE]]) (.lst false true 1 (rowL [[.str (nm c)]])), opC (.str ⟨#[110, 111, 116]⟩) (usM 1 1 [[sG, sE]]) nl, opC (.str ⟨#[100, 105, 118]⟩) (usM 2 2 [[sG, sE], [sG, sE]]) nl]), ar0, .str (nm 0), nl, iV 100]
theorem makeJ2 {N c : Nat} (h1 : 3 ≤ N) (h2 : N ≤ 30) (h3 : c < N) : CtE XV.P 23 [.agg (smM2 N c)] [] (mkE (smF (fmJ N c))) [] := by
  refine ct_wk (.cons (wkv_agg (.cons (.refl _) (.cons (.refl _) (.cons (.refl _) (.cons (wkv_lst rfl id fun i hi => ?_) (.refl _)))))) .nil) (makeJ h1 h2 h3)
  rcases (show i = 0 ∨ i = 1 ∨ i = 2 by omega) with e | e | e <;> subst e
  · exact .cons (.refl _) (.cons (.refl _) (.cons (.refl _) (.cons (wkv_lst rfl id fun i hi => .of (by rcases (show i = 0 ∨ i = 1 by omega) with e | e <;> subst e <;> rfl)) (.refl _))))
  · exact .cons (.refl _) (.cons (.refl _) (.cons (.refl _) (.cons (wkv_lst rfl id fun i hi => .of (by rw [show i = 0 by omega]; rfl)) (.refl _))))
  · exact .cons (.refl _) (.cons (.refl _) (.cons (.refl _) (.cons (wkv_lst rfl id fun i hi => .of (by rcases (show i = 0 ∨ i = 1 by omega) with e | e <;> subst e <;> rfl)) (.refl _))))
open Go.RowKit in
theorem law_ctk {f : Nat} {args : List AV} {vs : Array Value} {w : World} (hv : RVs (Gw w) vs args) (h : CtK XV.P f args [] tT []) : Calls Tryz.prog f vs w fun e w' => e = .returned (.bool true) ∧ Below w.heap.size w w' := by
  intro cs
  obtain ⟨_, _, hG⟩ := h .run .run
  obtain ⟨G', w', cs', E, m', g1, g2, g3, g4, g5, g6, g7⟩ := hG (Gw w) w vs cs cs (stw w) wf0 hv rfl
  have g2 : cs' = cs := g2
  subst g2
  obtain ⟨fr, rfl, hfn, hlv⟩ := g3
  cases E with
  | outgrown => exact g4.elim
  | panicked ch => exact g4.elim
  | returned v =>
    have hvv : v = .bool true := RV.bool_inv g4
    subst hvv
    exact ⟨.returned (.bool true), w', fr, ⟨rfl, g6.os.1, g6.os.2.1, g6.os.2.2, g6.size, fun b hb => g6.keep b hb (fun ⟨id, base, ⟨k, hk, _⟩, _⟩ => by rw [show (clM []).h.get id = none from get_nil id] at hk; cases hk)⟩, g1, hfn, hlv⟩
theorem junk_ok (hal : CtE XV.P 12 [] [] tT []) (n clob d junk : Int) (ib if' : Bool) (il : Nat) (iz : Nat → Int) : CtK XV.P 5 [iV n, iV clob, iV d, iV junk, rwI ib if' il iz] [] tT [] := by
  have E : True ∧ (WkE tT tT ∧ True) := ⟨trivial, wkE tT, trivial⟩
  cases n with
  | negSucc j => exact vcK (c := cJ1 0 0) (n := 20000) (N0 := []) (N := []) (e := tT) [] [] (by kernel_rfl) rfl rfl (Nat.le_refl 0) (Nat.zero_le _) (cl hal E) (by kernel_rfl)
  | ofNat N =>
    cases clob with
    | negSucc j => exact vcK (c := cJ1 0 0) (n := 20000) (N0 := []) (N := []) (e := tT) [] [] (by kernel_rfl) rfl rfl (Nat.le_refl 0) (Nat.zero_le _) (cl hal (ifs (c := ltI (.ofNat N) 4) (fun _ => E) (fun a1 => ifs (c := ltI 30 (.ofNat N)) (fun _ => E) (fun a2 => E)))) (by kernel_rfl)
    | ofNat c =>
      exact vcK (c := cJ1 N c) (n := 20000) (N0 := []) (N := []) (e := tT) [] [] (by kernel_rfl) rfl rfl (Nat.le_refl 0) (Nat.zero_le _)
        (cl hal (ifs (c := ltI (.ofNat N) 4) (fun _ => E) (fun a1 => ifs (c := ltI 30 (.ofNat N)) (fun _ => E) (fun a2 => ifs (c := ltI (.ofNat c) 0) (fun _ => E) (fun a3 => ifs (c := !(ltI (.ofNat c) (.ofNat N))) (fun _ => E) (fun a4 => ifs (c := ltI d 0) (fun _ => E) (fun a5 => ifs (c := !(ltI d (.ofNat N))) (fun _ => E) (fun a6 => ifs (c := eqI d (.ofNat c)) (fun _ => E) (fun a7 => ifs (c := ltI (.ofNat il) (.ofNat N)) (fun _ => E) (fun a8 => by
          simp only [Int.ofNat_eq_natCast, ltI_f, ltI_t, eqI_f, Bool.not_eq_eq_eq_not, Bool.not_false] at a1 a2 a4 a5 a6 a7 a8
          have small : CtK XV.P 22 [iV (Int.ofNat N)] [] (smVK N) smNK := by
            obtain ⟨n0, rfl⟩ : ∃ n0, N = n0 + 1 := ⟨N - 1, by omega⟩
            exact smallK_ok n0 (by omega)
          have wk : WkV (.cp ((smF (fmJ N c)).ck (setS (svP (smF (fmJ N c)))))) (.cp (stJ N c).c) := wkv_cp (sT_wk (fmJ N c) (fun _ => 0) (fun _ => 0) (fun i hi => absurd hi (Nat.not_lt_zero i)) (fun i hi => by
            have e : i = 0 := by have : i < 1 := hi
                                 omega
            subst e
            exact hr_nm (n := N) (j := 0) (by omega) (by omega)))
          have nx : FrE XV.P (frR XV.P 5 9 [(0, iV (Int.ofNat N)), (1, iV (Int.ofNat c)), (2, iV d), (3, iV junk), (4, rwI ib if' il iz), (13, .cp ((smF (fmJ N c)).ck (setS (svP (smF (fmJ N c))))))]) (clM []) tT [] := by
            refine fr_wkT (L' := [(0, iV (Int.ofNat N)), (1, iV (Int.ofNat c)), (2, iV d), (3, iV junk), (4, rwI ib if' il iz), (13, .cp (stJ N c).c)]) ⟨rfl, .refl _, rfl, .refl _, rfl, .refl _, rfl, .refl _, rfl, .refl _, rfl, wk, trivial⟩ ?_
            exact mj9 N c d junk ib if' il iz (by omega) (by omega) (by omega) (by omega) (by omega) (by omega) (by omega)
          exact clKk small (ck (c := inI (Int.ofNat c) N && true) (by simp; omega) (clp (p := 0 + 3 ≤ 3 ∧ (0 + 1 ≤ 1 ∧ True)) ⟨by omega, by omega, trivial⟩ (makeJ2 (N := N) (c := c) (by omega) (by omega) (by omega)) (lpK (frK_0 (by show 0 ≤ 1000; omega) nx))))))))))))))
        (by kernel_rfl)
end Go.Proofs.YtpflobodmglmaaaGreat
set_option linter.unusedVariables false
set_option maxHeartbeats 1000000
namespace Go.Proofs.YtpflobodmglmaaaGreat
open Go.RowKit
theorem machrunJunk_any (a0 a1 a2 a3 : Int) (a4 : Option Addr) (len4 cap4 : Nat) (z4 : List Int) (w : World)
    (w4 : (a4 = none ∧ len4 = 0 ∧ cap4 = 0 ∧ z4 = []) ∨ ∃ x, a4 = some x ∧ x.spot = none ∧ len4 ≤ cap4 ∧ cap4 ≤ maxLen ∧ z4.length = cap4 ∧ (∀ i, i < z4.length → w.cell? (x.add i) = some (.int .i64 (z4.getD i 0))) ∧ ∀ n ∈ z4, (Lit.int .i64 n).wf = true) :
    Calls Tryz.prog 5 #[.int .i64 a0, .int .i64 a1, .int .i64 a2, .int .i64 a3, .slice a4 len4 cap4] w fun e w' => e = .returned (.bool true) ∧ Below w.heap.size w w' := by
  obtain ⟨nb, f, h⟩ := isrw_rv w4
  have hv : RVs (Gw w) #[.int .i64 a0, .int .i64 a1, .int .i64 a2, .int .i64 a3, .slice a4 len4 cap4] [iV a0, iV a1, iV a2, iV a3, rwI nb f len4 (fun i => z4.getD i 0)] := Rl.ok (.cons (.int _ _) (.cons (.int _ _) (.cons (.int _ _) (.cons (.int _ _) (.cons h .nil)))))
  exact law_ctk hv (junk_ok alive13 a0 a1 a2 a3 nb f len4 fun i => z4.getD i 0)
end Go.Proofs.YtpflobodmglmaaaGreat
