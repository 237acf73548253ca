/- Several texts joined. No condition. -/
import Derived.Test.YtpflobodmglmaaaGreatMJa
set_option linter.unusedVariables false
set_option maxHeartbeats 1000000
namespace Go.Proofs.YtpflobodmglmaaaGreat
noncomputable def mvI (d a : Int) : List AV := insV 2 d a 0 0 b0' nl 0 0
noncomputable def mcC (T : ST) (B : LP) (b i : Int) : List AV := [.cp T.c, .str ⟨#[102]⟩, iV 0, B.v, iV b, iV i]
noncomputable def cIns : Cfg := ⟨[(48, spPc)], []⟩
theorem insM_ok (T : ST) (B : LP) (b i d a : Int) (hd : 0 ≤ d ∧ d < T.n) (ha : 0 ≤ a ∧ a < T.n) : CtE XV.P 119 [.cp (mcC T B b i), .agg (mvI d a), .bool false] [] (.ret (.tup [])) [] :=
  vc0 (c := cIns) (n := 20000) (by kernel_rfl)
    (ck (c := !(ltI d 0)) (by simp; omega) (ckN (c := !(ltI d (.ofNat T.n))) (by simp; omega) (ck (c := !(ltI a 0)) (by simp; omega) (ckN (c := !(ltI a (.ofNat T.n))) (by simp; omega)
      (cl (place_ok T d hd.1 hd.2) (cl (place_ok T a ha.1 ha.2) (endI (wkE (.ret (.tup []))))))))))
    (by kernel_rfl)
theorem insR_ok (T : ST) (B : LP) (b i : Int) : CtE XV.P 119 [.cp (mcC T B b i), .agg rI, .bool true] [] (.ret (.tup [])) [] :=
  vc0 (c := cIns) (n := 20000) (by kernel_rfl) (endI (wkE (.ret (.tup [])))) (by kernel_rfl)
/-- A function's frame at its j-th head, calls put off. -/
noncomputable def frD (P : Program) (f j : Nat) (L : List (Nat × AV)) (ds : List AD) : Fr := ⟨f, false, szF P f, tmL (szF P f) L, hd P f j, ds, none⟩
theorem vlD {c : Cfg} {n f j : Nat} {L : List (Nat × AV)} {ds : List AD} {N0 N : List Blk} {e : AEnd} (he : rnE N.length (List.range N.length) e = e) (hN : N.map (rnK N.length (List.range N.length)) = N) (hk : N.length ≤ N0.length) {E : Prop} (p : E) (h : E = VC XV c e N n (.fr (frD XV.P f j L ds) .run (clM N0) (kE e N))) : FrE XV.P (frD XV.P f j L ds) (clM N0) e N := vc_fr pok ctV he hN hk rfl rfl p h
noncomputable def mvR (kk dd aa : Nat → Int) (i : Nat) : List AV := insV (kk i) (dd i) (aa i) 0 0 b0' nl 0 0
noncomputable def cdM (m : Nat) (kk dd aa : Nat → Int) : AV := .lst false false (m + 1) (mvR kk dd aa)
noncomputable def cdMB (m : Nat) (kk dd aa : Nat → Int) : LP := ⟨false, true, 1, fun _ => [cdM m kk dd aa]⟩
noncomputable def spTu : CSp := { ids := [], res := fun _ _ => (.ret (.tup []), []) }
noncomputable def cCkM : Cfg := ⟨[(119, spTu)], [(42, 2, { live := [4, 5, 6, 7, 9, 49, 50, 51, 73, 74, 75], ids := [.v 4, .v 5, .v 6, .v 7] })]⟩
noncomputable def ckD : List AD := [.call 116 [.ptr 0 0 0 0, .ptr 1 0 0 0, .ptr 2 0 0 0]]
theorem ckM_lp (T : ST) (m : Nat) (hm : m ≤ 1000) (kk dd aa : Nat → Int) (h1 : ∀ i, i < m → kk i = 2 ∧ (0 ≤ dd i ∧ dd i < T.n) ∧ (0 ≤ aa i ∧ aa i < T.n)) (h2 : kk m = 9 ∧ dd m = 0 ∧ aa m = 0) (n q : Nat) (x y : Int) (hx : x = q) (hq : q + n = m + 1) :
    FrE XV.P (frD XV.P 42 1 [(4, .ptr 0 0 0 0), (5, .ptr 1 0 0 0), (6, .ptr 2 0 0 0), (7, .ptr 3 0 0 0), (9, cdM m kk dd aa), (49, (cdMB m kk dd aa).v), (50, iV 1), (51, iV 0), (73, cdM m kk dd aa), (74, iV (Int.ofNat (m + 1))), (75, iV x)] ckD) (clM [.var [iV 0], .var [iV 0], .var [iV 0], .var (mcC T (cdMB m kk dd aa) 0 y)]) e000 [] := by
  have ex : x.toNat = q := by rw [hx]; rfl
  have i1 : x < ((m + 1 : Nat) : Int) → (inI x (m + 1) && true) = true := fun h => by simp; omega
  have wx : x < ((m + 1 : Nat) : Int) → wr .i64 (x + 1) = ((q + 1 : Nat) : Int) := fun h => by rw [wr_id] <;> omega
  have em : wr .i64 (Int.ofNat (m + 1) - 1) = (m : Int) := by rw [wr_id] <;> simp <;> omega
  have ins : x < ((m + 1 : Nat) : Int) → CtE XV.P 119 [.cp (mcC T (cdMB m kk dd aa) 0 x), .agg (mvR kk dd aa x.toNat), .bool (eqI x (wr .i64 (Int.ofNat (m + 1) - 1)))] [] (.ret (.tup [])) [] := fun h => by
    rw [em, ex]
    unfold mvR
    by_cases e : q = m
    · subst e
      rw [h2.1, h2.2.1, h2.2.2, show eqI x (q : Int) = true by simpa using hx]
      exact insR_ok T (cdMB q kk dd aa) 0 x
    · obtain ⟨a, b, c⟩ := h1 q (by omega)
      rw [a, show eqI x (m : Int) = false by simp; omega]
      exact insM_ok T (cdMB m kk dd aa) 0 x (dd q) (aa q) b c
  exact vlD (c := cCkM) (n := 20000) (by kernel_rfl) hN0 (by simp)
    (ifs (c := ltI x (.ofNat (m + 1))) (fun h => by
      have h : x < ((m + 1 : Nat) : Int) := by simpa using h
      exact ck (i1 h) (cl (ins h) (lp (ckM_lp T m hm kk dd aa h1 h2 (n - 1) (q + 1) (wr .i64 (x + 1)) x (wx h) (by omega)))))
      (fun h => endI (wkE e000)))
    (by kernel_rfl)
termination_by n
decreasing_by omega
end Go.Proofs.YtpflobodmglmaaaGreat
set_option linter.unusedVariables false
set_option maxHeartbeats 1000000
namespace Go.Proofs.YtpflobodmglmaaaGreat
noncomputable def tbOn : List AV := [.nilf, .fn 123 [] [], .fn 124 [] [], .fn 125 [] [], .fn 126 [] [], .fn 127 [] [], .fn 128 [] [], .fn 129 [] [], .fn 130 [] [], .fn 131 [] [], .fn 132 [] [], .fn 133 [] []]
noncomputable def z0 : Nat → Int := fun _ => 0
noncomputable def mvZ (z : Nat → Int) (d a : Int) (j : Nat) : Int := bif Nat.beq j (0 + (Int.ofNat d.toNat).toNat) then wr8 (z (0 + (Int.ofNat d.toNat).toNat)) (rd8 (z (0 + (Int.ofNat a.toNat).toNat))) else z j
noncomputable def cOn : Cfg := ⟨[(48, spPc)], [(52, 1000003, { live := [0, 2, 3], ids := [.v 2] })]⟩
section
variable (T : ST) (B : LP) (fuel x : Int) (z : Nat → Int)
theorem onM3 (d a : Int) (hd : 0 ≤ d ∧ d < T.n) (ha : 0 ≤ a ∧ a < T.n) : FrE XV.P (frR XV.P 52 3 [(0, .ptr 0 0 0 0), (2, .ptr 5 0 0 0), (3, .cp (mvI d a))]) (clM (cN T B sl0.v 0 fuel 0 x nl nl z z0 ++ [.var tbOn])) (.ret (.tup [])) (cN T B sl0.v 0 fuel 0 (wr .i64 (x + 1)) nl nl (mvZ z d a) z0) := by
  have i1 : (inI (Int.ofNat d.toNat) T.n && true) = true := by simp; omega
  have i2 : ((true && Nat.blt (0 + (Int.ofNat d.toNat).toNat) T.n) && true) = true := by simp; omega
  have j1 : (inI (Int.ofNat a.toNat) T.n && true) = true := by simp; omega
  have j2 : ((true && Nat.blt (0 + (Int.ofNat a.toNat).toNat) T.n) && true) = true := by simp; omega
  exact vlR (c := cOn) (n := 20000) (by kernel_rfl) (by kernel_rfl) (by simp [cN])
    (cl (place_ok T.one a ha.1 ha.2) (ck j1 (ck j2 (cl (place_ok T.one d hd.1 hd.2) (ck i1 (ck i2 (ck i2 (endX5 (e := .ret (.tup [])) (wkB (.var (rnC T.one B sl0.v 0 0 (wr .i64 (x + 1))))) (wkB (.var (ouC nl fuel nl 0 0 nl))) (wkB (.row 1 T.n (u64R (mvZ z d a)))) (wkB (.row 1 T.n (u64R z0))) (wkB (.row 1 T.n w255))))))))))
    (by kernel_rfl)
noncomputable def stE (n : Int) : AEnd := .pan [⟨.ifc 199 (.agg [iV n]), false⟩]
theorem onR3 (h0 : giV (T.hr (nm 0)) = 0) (h1 : 0 < T.n) : FrE XV.P (frR XV.P 52 3 [(0, .ptr 0 0 0 0), (2, .ptr 5 0 0 0), (3, .cp rI)]) (clM (cN T B sl0.v 0 fuel 0 x nl nl z z0 ++ [.var tbOn])) (stE 0) [.var (rnC T.one B sl0.v 0 0 (wr .i64 (x + 1))), .var (ouC nl fuel nl (rd8 (z (0 + (Int.ofNat (giV (T.hr (nm 0))).toNat).toNat))) 0 nl), .row 1 T.n (u64R z), .row 1 T.n (u64R z0), .row 1 T.n w255] := by
  have j1 : (inI (Int.ofNat (giV (T.hr (nm 0))).toNat) T.n && true) = true := by rw [h0]; simp; omega
  have j2 : ((true && Nat.blt (0 + (Int.ofNat (giV (T.hr (nm 0))).toNat).toNat) T.n) && true) = true := by rw [h0]; simp; omega
  have pl2 : CtE XV.P 48 [.cp T.one.c, iV (giV (T.hr (nm 0)))] [] (.ret (plc8 (giV (T.hr (nm 0))))) [] := place_ok T.one (giV (T.hr (nm 0))) (by rw [h0]; omega) (by rw [h0]; show (0 : Int) < (T.n : Int); omega)
  exact vlR (c := cOn) (n := 20000) (by kernel_rfl) (by kernel_rfl) (by simp [cN])
    (cl pl2 (ck j1 (ck j2 (endX5 (e := stE 0) (wkB (.var (rnC T.one B sl0.v 0 0 (wr .i64 (x + 1))))) (wkB (.var (ouC nl fuel nl (rd8 (z (0 + (Int.ofNat (giV (T.hr (nm 0))).toNat).toNat))) 0 nl))) (wkB (.row 1 T.n (u64R z))) (wkB (.row 1 T.n (u64R z0))) (wkB (.row 1 T.n w255))))))
    (by kernel_rfl)
end
end Go.Proofs.YtpflobodmglmaaaGreat
set_option linter.unusedVariables false
set_option linter.unusedSectionVars false
set_option maxHeartbeats 1000000
namespace Go.Proofs.YtpflobodmglmaaaGreat
section
variable (T : ST) (m : Nat) (hm : m ≤ 1000) (kk dd aa : Nat → Int) (h1 : ∀ i, i < m → kk i = 2 ∧ (0 ≤ dd i ∧ dd i < T.n) ∧ (0 ≤ aa i ∧ aa i < T.n)) (h2 : kk m = 9 ∧ dd m = 0 ∧ aa m = 0)
noncomputable def mvN (fuel x : Int) (z : Nat → Int) : List Blk := cN T (cdMB m kk dd aa) sl0.v 0 fuel 0 x nl nl z z0
noncomputable def mvE (fuel x : Int) (z : Nat → Int) (res : Int) : List Blk := [.var (rnC T.one (cdMB m kk dd aa) sl0.v 0 0 x), .var (ouC nl fuel nl res 0 nl), .row 1 T.n (u64R z), .row 1 T.n (u64R z0), .row 1 T.n w255]
include hm h1 in
theorem onM_ok (q : Nat) (hq : q < m) (fuel x : Int) (hf : fuel ≠ 0) (hx : x = q) (z : Nat → Int) : CtE XV.P 52 [.ptr 0 0 0 0] (mvN T m kk dd aa fuel x z) (.ret (.tup [])) (mvN T m kk dd aa (wr .i64 (fuel - 1)) (wr .i64 (x + 1)) (mvZ z (dd q) (aa q))) := by
  have k : FrE XV.P (frR XV.P 52 3 [(0, .ptr 0 0 0 0), (2, .ptr 5 0 0 0), (3, .cp (mvR kk dd aa x.toNat))]) (clM (cN T (cdMB m kk dd aa) sl0.v 0 (wr .i64 (fuel - 1)) 0 x nl nl z z0 ++ [.var tbOn])) (.ret (.tup [])) (cN T (cdMB m kk dd aa) sl0.v 0 (wr .i64 (fuel - 1)) 0 (wr .i64 (x + 1)) nl nl (mvZ z (dd q) (aa q)) z0) := by
    obtain ⟨a, b, c⟩ := h1 q hq
    unfold mvR
    rw [show x.toNat = q by omega, a]
    exact onM3 T (cdMB m kk dd aa) (wr .i64 (fuel - 1)) x z (dd q) (aa q) b c
  exact vcN (c := cOn) (n := 20000) (by kernel_rfl) (by kernel_rfl) (by simp [mvN, cN])
    (ckN (c := eqI fuel 0) (by simpa using hf) (ck (c := inI x (m + 1) && true) (by simp; omega) (lp k)))
    (by kernel_rfl)
include h2 in
theorem onR_ok (h0 : giV (T.hr (nm 0)) = 0) (hn : 0 < T.n) (f : Nat) (x : Int) (hx : x = m) (z : Nat → Int) : CtE XV.P 52 [.ptr 0 0 0 0] (mvN T m kk dd aa (Int.ofNat (f + 1)) x z) (stE 0) (mvE T m kk dd aa (wr .i64 (Int.ofNat (f + 1) - 1)) (wr .i64 (x + 1)) z (rd8 (z (0 + (Int.ofNat (giV (T.hr (nm 0))).toNat).toNat)))) := by
  have k : FrE XV.P (frR XV.P 52 3 [(0, .ptr 0 0 0 0), (2, .ptr 5 0 0 0), (3, .cp (mvR kk dd aa x.toNat))]) (clM (cN T (cdMB m kk dd aa) sl0.v 0 (wr .i64 (Int.ofNat (f + 1) - 1)) 0 x nl nl z z0 ++ [.var tbOn])) (stE 0) (mvE T m kk dd aa (wr .i64 (Int.ofNat (f + 1) - 1)) (wr .i64 (x + 1)) z (rd8 (z (0 + (Int.ofNat (giV (T.hr (nm 0))).toNat).toNat)))) := by
    unfold mvR
    rw [show x.toNat = m by omega, h2.1, h2.2.1, h2.2.2]
    exact onR3 T (cdMB m kk dd aa) (wr .i64 (Int.ofNat (f + 1) - 1)) x z h0 hn
  exact vcN (c := cOn) (n := 20000) (by kernel_rfl) (by kernel_rfl) (by simp [mvN, mvE, cN])
    (ck (c := inI x (m + 1) && true) (by simp; omega) (lp k))
    (by kernel_rfl)
noncomputable def mvS (z : Nat → Int) : Nat → Nat → Int
  | 0 => z
  | q + 1 => mvZ (mvS z q) (dd q) (aa q)
noncomputable def spOn (e : AEnd) (N : List Blk) : CSp := { ids := [.v 0, .c 0 0, .c 0 5, .c 0 6, .c 0 7], res := fun _ _ => (e, N) }
noncomputable def cGo (e : AEnd) (N : List Blk) : Cfg := ⟨[(52, spOn e N)], [(51, 0, { live := [1, 2], ids := [.v 2] })]⟩
include hm h1 h2 in
theorem go_lp (h0 : giV (T.hr (nm 0)) = 0) (hn : 0 < T.n) (z : Nat → Int) (F : Nat) (hF : m < F) (hF2 : F ≤ 1000000) (n q : Nat) (hq : q + n = m) (fuel x : Int) (hf : fuel = ((F - q : Nat) : Int)) (hx : x = q) (z' : Nat → Int) (hz : z' = mvS dd aa z q) :
    FrE XV.P (frD XV.P 51 0 [(1, .fn 52 [.ptr 0 0 0 0] []), (2, .ptr 5 0 0 0)] [.call 122 [.ptr 5 0 0 0]]) (clM (mvN T m kk dd aa fuel x z' ++ [.var [.ptr 1 0 0 0]])) (.ret (.tup [])) (mvE T m kk dd aa ((F - m - 1 : Nat) : Int) ((m + 1 : Nat) : Int) (mvS dd aa z m) (rd8 (mvS dd aa z m (0 + (Int.ofNat (giV (T.hr (nm 0))).toNat).toNat)))) := by
  have ef : wr .i64 (fuel - 1) = ((F - (q + 1) : Nat) : Int) := by rw [wr_id] <;> omega
  have ex : wr .i64 (x + 1) = ((q + 1 : Nat) : Int) := by rw [wr_id] <;> omega
  by_cases e : q < m
  · have o := onM_ok T m hm kk dd aa h1 q e fuel x (by omega) hx z'
    have nx := go_lp h0 hn z F hF hF2 (n - 1) (q + 1) (by omega) (wr .i64 (fuel - 1)) (wr .i64 (x + 1)) ef ex (mvZ z' (dd q) (aa q)) (by rw [hz]; rfl)
    exact vlD (c := cGo (.ret (.tup [])) (mvN T m kk dd aa (wr .i64 (fuel - 1)) (wr .i64 (x + 1)) (mvZ z' (dd q) (aa q)))) (n := 20000) (by kernel_rfl) (by kernel_rfl) (by simp [mvN, mvE, cN])
      (cl o (lp nx))
      (by kernel_rfl)
  · obtain rfl : q = m := by omega
    obtain ⟨f, hf'⟩ : ∃ f, F - q = f + 1 := ⟨F - q - 1, by omega⟩
    obtain rfl : fuel = Int.ofNat (f + 1) := by rw [hf, hf']; rfl
    have o := onR_ok T q kk dd aa h2 h0 hn f x hx z'
    rw [ef, ex, hz] at o
    rw [hz]
    exact vlD (c := cGo (stE 0) (mvE T q kk dd aa ((F - (q + 1) : Nat) : Int) ((q + 1 : Nat) : Int) (mvS dd aa z q) (rd8 (mvS dd aa z q (0 + (Int.ofNat (giV (T.hr (nm 0))).toNat).toNat))))) (n := 20000) (by kernel_rfl) (by kernel_rfl) (by simp [mvN, mvE, cN])
      (cl o (endX5 (e := .ret (.tup [])) (wkB (.var (rnC T.one (cdMB q kk dd aa) sl0.v 0 0 ((q + 1 : Nat) : Int)))) (wkB (.var (ouC nl ((F - (q + 1) : Nat) : Int) nl (rd8 (mvS dd aa z q (0 + (Int.ofNat (giV (T.hr (nm 0))).toNat).toNat))) 0 nl))) (wkB (.row 1 T.n (u64R (mvS dd aa z q)))) (wkB (.row 1 T.n (u64R z0))) (wkB (.row 1 T.n w255))))
      (by kernel_rfl)
termination_by n
decreasing_by omega
end
end Go.Proofs.YtpflobodmglmaaaGreat
set_option linter.unusedVariables false
set_option linter.unusedSectionVars false
set_option maxHeartbeats 1000000
namespace Go.Proofs.YtpflobodmglmaaaGreat
section
variable (T : ST) (m : Nat) (hm : m ≤ 1000) (kk dd aa : Nat → Int) (h1 : ∀ i, i < m → kk i = 2 ∧ (0 ≤ dd i ∧ dd i < T.n) ∧ (0 ≤ aa i ∧ aa i < T.n)) (h2 : kk m = 9 ∧ dd m = 0 ∧ aa m = 0)
include hm h1 h2
theorem chkM_ok : CtE XV.P 42 [.cp T.c, .agg [.str ⟨#[102]⟩, iV 0, (cdMB m kk dd aa).v]] [] e000 [] :=
  vc0 (c := cCkM) (n := 20000) (by kernel_rfl)
    (ifs (c := !(!(ltI 25600 (.ofNat (m + 1))))) (fun h => endI (x := .ret (.tup [iV 0, iV 0, iV 20])) (y := e000) (absurd h (by simp; omega))) (fun _ => lp (ckM_lp T m hm kk dd aa h1 h2 (m + 1) 0 0 0 rfl (by omega))))
    (by kernel_rfl)
noncomputable def cGo1 : Cfg := ⟨[], [(51, 0, { live := [1, 2], ids := [.v 2] })]⟩
theorem goM_ok (h0 : giV (T.hr (nm 0)) = 0) (hn : 0 < T.n) (z : Nat → Int) (F : Nat) (hF : m < F) (hF2 : F ≤ 1000000) : CtE XV.P 51 [.ptr 1 0 0 0, .fn 52 [.ptr 0 0 0 0] []] (mvN T m kk dd aa (Int.ofNat F) 0 z) (.ret (.tup [])) (mvE T m kk dd aa ((F - m - 1 : Nat) : Int) ((m + 1 : Nat) : Int) (mvS dd aa z m) (rd8 (mvS dd aa z m (0 + (Int.ofNat (giV (T.hr (nm 0))).toNat).toNat)))) :=
  vcN (c := cGo1) (n := 20000) (by kernel_rfl) (by kernel_rfl) (by simp [mvN, mvE, cN])
    (lp (go_lp T m hm kk dd aa h1 h2 h0 hn z F hF hF2 m 0 (by omega) (Int.ofNat F) 0 (by simp) rfl z rfl))
    (by kernel_rfl)
noncomputable def rsM : (ib if' : Bool) → (il : Nat) → (iz : Nat → Int) → RS := fun ib if' il iz => ⟨T.noS.one, ⟨#[102]⟩, 0, cdMB m kk dd aa, sl0, 0, LP.nil, 100, LP.nil, LP.nil, LP.nil, 100, ib, if', il, iz, 0⟩
noncomputable def rdM (res : Int) : RD := ⟨T.noS.one.c, ⟨#[102]⟩, 0, cdMB m kk dd aa, ⟨false, false, T.n, fun i => u64R z0 (0 + i)⟩, ⟨false, false, T.n, w255⟩, sl0, 0, 0, ((m + 1 : Nat) : Int), LP.nil, ((100 - m - 1 : Nat) : Int), LP.nil, res, 0⟩
noncomputable def spGo (N : List Blk) : CSp := { ids := [.v 1, .v 0, .c 0 5, .c 0 6, .c 0 7], res := fun _ _ => (.ret (.tup []), N) }
noncomputable def cRM (N : List Blk) : Cfg := ⟨[(120, spCl), (48, spPc), (51, spGo N)], [(17, 6, { live := [6, 11, 166, 167, 168], ids := [.v 6, .v 11, .c 1 0, .c 1 5, .c 2 6] })]⟩
theorem run16M (n0 : Nat) (hT : T.n = n0 + 1) (hn : n0 + 1 ≤ 40) (hm2 : m ≤ 60) (h0 : giV (T.hr (nm 0)) = 0) (ib if' : Bool) (il : Nat) (iz : Nat → Int) (z : Nat → Int) :
    st16 (rsM T m kk dd aa ib if' il iz) (n0 + 1) (u64R z) zer w255 (runE (rdM T m kk dd aa (rd8 (mvS dd aa z m (0 + (Int.ofNat (giV (T.hr (nm 0))).toNat).toNat)))) (n0 + 1) (mvS dd aa z m)) := by
  have go := goM_ok T.noS m hm kk dd aa h1 h2 h0 (by show 0 < T.n; omega) z 100 (by omega) (by omega)
  have re := re_lp (rdM T m kk dd aa (rd8 (mvS dd aa z m (0 + (Int.ofNat (giV (T.hr (nm 0))).toNat).toNat)))) n0 (mvS dd aa z m) (by omega) 0 0 (fun _ => []) rfl (Nat.zero_le _) (fun j hj => by omega)
  clear h1
  obtain ⟨U, n', hr, sb, sf, sn, sz, ab, af, an, az, kp⟩ := T
  cases hT
  exact vlR (c := cRM (mvE (ST.noS ⟨U, n0 + 1, hr, sb, sf, sn, sz, ab, af, an, az, kp⟩) m kk dd aa ((100 - m - 1 : Nat) : Int) ((m + 1 : Nat) : Int) (mvS dd aa z m) (rd8 (mvS dd aa z m (0 + (Int.ofNat (giV (hr (nm 0))).toNat).toNat))))) (n := 20000) (by kernel_rfl) hN0 (by simp)
    (cl (clI_ok true sf 0 sz (fun _ => rfl) (by omega)) (cl (clI_ok false af 1 (fun _ => 0) (fun h => by cases h) (by omega)) (cl go (cl02 (show 0 + (n0 + 1) ≤ n0 + 1 by omega) (show 0 + (n0 + 1) ≤ n0 + 1 by omega) re))))
    (by kernel_rfl)
theorem runM_ok (n0 : Nat) (hT : T.n = n0 + 1) (hn : n0 + 1 ≤ 40) (hm2 : m ≤ 60) (h0 : giV (T.hr (nm 0)) = 0) (ib if' : Bool) (il : Nat) (iz : Nat → Int) (hi : n0 + 1 ≤ il) (hmc : CtE XV.P 70 [.agg T.m] [] (.ret (.agg T.m)) []) :
    CtE XV.P 17 [.cp T.noS.one.c, .agg [.str ⟨#[102]⟩, iV 0, (cdMB m kk dd aa).v], .agg (rsM T m kk dd aa ib if' il iz).w] [] (runE (rdM T m kk dd aa (rd8 (mvS dd aa (roZ iz) m (0 + (Int.ofNat (giV (T.hr (nm 0))).toNat).toNat)))) (n0 + 1) (mvS dd aa (roZ iz) m)) [] := by
  have k := st_lp (rsM T m kk dd aa ib if' il iz) n0 (runE (rdM T m kk dd aa (rd8 (mvS dd aa (roZ iz) m (0 + (Int.ofNat (giV (T.hr (nm 0))).toNat).toNat)))) (n0 + 1) (mvS dd aa (roZ iz) m)) (by kernel_rfl) (by omega) hi (fun G1 G2 G3 a b c => by
      refine fr_wkB (.cons (by simp) (by simp) (wkB _) (.cons (by simp) (by simp) (wkB _) (.cons (by simp) (by simp) (wkB _) (.cons (by simp) (by simp) (wkB_row fun j hj => .of (a j hj)) (.cons (by simp) (by simp) (wkB_row fun j hj => .of (b j hj)) (.cons (by simp) (by simp) (wkB_row fun j hj => .of (c j hj)) .nil)))))) (run16M T m hm kk dd aa h1 h2 n0 hT hn hm2 h0 ib if' il iz (roZ iz)))
    0 0 (fun _ => []) (fun _ => []) (fun _ => []) rfl (Nat.zero_le _) (fun j hj => by omega) (fun j hj => by omega) (fun j hj => by omega)
  have ck' := chkM_ok T.noS.one m hm kk dd aa h1 h2
  have mm : CtE XV.P 44 [.cp T.noS.one.c] [] (.ret (.agg T.m)) [] := machine_ok T.noS.one hmc
  clear h1
  obtain ⟨U, n', hr, sb, sf, sn, sz, ab, af, an, az, kp⟩ := T
  cases hT
  exact vc0 (c := cBeg ⟨U, n0 + 1, hr, sb, sf, sn, sz, ab, af, an, az, kp⟩) (n := 20000) (by kernel_rfl)
    (cl ck' (cl mm (cl0 (Nat.le_refl 0) k)))
    (by kernel_rfl)
end
end Go.Proofs.YtpflobodmglmaaaGreat
