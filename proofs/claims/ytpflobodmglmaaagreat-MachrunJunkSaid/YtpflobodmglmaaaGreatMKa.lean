/- Several texts joined. No condition. -/
import Derived.Test.YtpflobodmglmaaaGreatMk
import Derived.Test.YtpflobodmglmaaaGreatMf
set_option linter.unusedVariables false
set_option maxHeartbeats 1000000
namespace Go.Proofs.YtpflobodmglmaaaGreat
section
variable {P : Program} {N0 N1 N : List Blk} {R : Nat}
theorem wkn_finK (h : WkN N0 N1) : finK (clM N1) R N = finK (clM N0) R N := by
  show (⟨_, _, List.range N1.length ++ []⟩ : Mem) = ⟨_, _, List.range N0.length ++ []⟩
  rw [h.len]
theorem wkn_atM {M' : Mem} (h : WkN N0 N1) (hl : M'.lg = List.range N0.length ++ []) (ha : AT ((clM N1).nx ≤ ·) (clM N1) M') : AT ((clM N0).nx ≤ ·) (clM N0) M' := by
  have e : (clM N0).nx = (clM N1).nx := h.len
  have e2 : N1.length = N0.length := h.len.symm
  refine ⟨by rw [e]; exact ha.nx, ⟨List.range N0.length, hl, fun id h1 h2 => absurd (List.mem_range.2 (show id < N0.length from Nat.lt_of_not_le h1)) h2⟩, fun id o => ?_, fun hw id o => ha.wf (fun id o => ?_) id o⟩
  · rcases ha.own id o with o | o
    · exact .inl ((wkn_own h id).1 o)
    · exact .inr (by show (clM N0).nx ≤ id; rw [e]; exact o)
  · rw [← e]; exact hw id ((wkn_own h id).1 o)
theorem wkn_goalM {G : Gh} {w : World} {m : Machine} {ro : Option Nat} {dfd : Bool} {fn : Nat} {c0s : List Frame} {e : AEnd} {bl' : AMode} {M' : Mem} (h : WkN N0 N1) (g : Goal P G w (clM N1) m ro dfd fn c0s e bl' M') : Goal P G w (clM N0) m ro dfd fn c0s e bl' M' := by
  have en : (clM N0).nx = (clM N1).nx := h.len
  obtain ⟨G', w', cs', E, m', q1, q2, q3, q4, q5, q6, q7⟩ := g
  refine ⟨G', w', cs', E, m', q1, q2, q3, q4, q5, ⟨q6.le, fun id b base e => ?_, fun b i v e => ?_, fun b v e => ?_, q6.tot, fun b hb hn => q6.keep b hb fun o => hn ((wkn_ownB h b).1 o), q6.size, q6.os, by rw [en]; exact q6.nx, fun id o => ?_⟩, fun id hi h1 => q7 id (by rw [← en]; exact hi) h1⟩
  · exact (q6.phin id b base e).imp_right fun e => e.imp_right fun o => (wkn_ownB h b).1 o
  · exact (q6.conn b i v e).imp_right fun e => e.imp_right fun o => (wkn_ownB h b).1 o
  · exact (q6.cobn b v e).imp_right fun e => e.imp_right fun o => (wkn_ownB h b).1 o
  · exact (q6.dom id o).imp_left fun o => (wkn_own h id).1 o
/-- A frame's contract, of a memory of which more is known. -/
theorem frK_wkB {f : Fr} {e : AEnd} (h : WkN N0 N1) (hf : FrK P f (clM N1) R e N) : FrK P f (clM N0) R e N := fun bl bl' => by
  obtain ⟨h1, h2⟩ := hf bl bl'
  rw [wkn_finK h] at h1
  refine ⟨wkn_atM h rfl h1, fun G w b a c0s cs hs hw hfr hb hcs => ?_⟩
  have := h2 G w b a c0s cs (wkn_st h hs) (wkn_wf h hw) hfr hb hcs
  rw [wkn_finK h] at this
  exact wkn_goalM h this
theorem ctK_wkB {f : Nat} {args : List AV} {e : AEnd} (h : WkN N0 N1) (hf : CtK P f args N1 e N) : CtK P f args N0 e N := fun bl bl' => by
  obtain ⟨h0, h1, h2⟩ := hf bl bl'
  rw [wkn_finK h, h.len.symm] at h1
  refine ⟨h0, wkn_atM h rfl h1, fun G w vs c0s cs hs hw hv hb => ?_⟩
  have := h2 G w vs c0s cs (wkn_st h hs) (wkn_wf h hw) hv hb
  rw [wkn_finK h, h.len.symm] at this
  exact wkn_goalM h this
theorem frK_wkT {f sz : Nat} {todo : List Item} {ds : List AD} {ro : Option Nat} {L L' : List (Nat × AV)} {M : Mem} {e : AEnd} (h : WkT L L') (hf : FrK P ⟨f, false, sz, tmL sz L', todo, ds, ro⟩ M R e N) : FrK P ⟨f, false, sz, tmL sz L, todo, ds, ro⟩ M R e N := fun bl bl' => by
  obtain ⟨h1, h2⟩ := hf bl bl'
  exact ⟨h1, fun G w b a c0s cs hs hw hfr hb hcs => h2 G w b a c0s cs hs hw ⟨hfr.fn, hfr.kind, hfr.sz, wkT_rt h hfr.rt, hfr.ds, hfr.ro, hfr.rd⟩ hb hcs⟩
theorem ctK_wk {f : Nat} {args args' : List AV} {e : AEnd} (h : WkL args args') (hc : CtK P f args' N0 e N) : CtK P f args N0 e N := fun bl bl' => by
  obtain ⟨h1, h2, h3⟩ := hc bl bl'
  exact ⟨h1, h2, fun G w vs c0s cs hs hw hv hb => h3 G w vs c0s cs hs hw ⟨by rw [← h.len]; exact hv.len, fun j v a e f => by
    obtain ⟨a0, e0, hk⟩ := h.at' j a f
    exact hk _ _ (hv.at' j v a0 e e0)⟩ hb⟩
end
/-- A frame that leaves nothing. -/
theorem frK_0 {P : Program} {f : Fr} {M : Mem} {e : AEnd} (hB : M.nx ≤ kB) (h : FrE P f M e []) : FrK P f M 0 e [] := fun bl bl' => by
  obtain ⟨h1, h2⟩ := h bl bl'
  have hg : ∀ (M : Mem) id, (finM M []).h.get id = none := fun M id => get_nil id
  have hk : ∀ id, (finK M 0 []).h.get id = none := fun id => get_nil id
  have no : ∀ id, ¬ Own (finK M 0 []) id := fun id ⟨k, e, _⟩ => by rw [hk] at e; cases e
  refine ⟨⟨hB, ⟨List.range M.nx, rfl, fun id h1 h2 => absurd (List.mem_range.2 (Nat.lt_of_not_le h1)) h2⟩, fun id o => absurd o (no id), fun _ id o => absurd o (no id)⟩, fun G w b a c0s cs hs hw hfr hb hcs => ?_⟩
  obtain ⟨G', w', cs', E, m', q1, q2, q3, q4, q5, q6, q7⟩ := h2 G w b a c0s cs hs hw hfr hb hcs
  refine ⟨G', w', cs', E, m', q1, q2, q3, q4, q5.congr rfl (fun id => by rw [hk, hg]) hB, ⟨q6.le, q6.phin, q6.conn, q6.cobn, q6.tot, q6.keep, q6.size, q6.os, hB, fun id o => absurd o (no id)⟩, q7⟩
noncomputable def rK (R : Nat) (N : List Blk) : Nat → Option Nat := kR R (List.range R) kB (Nat.sub N.length R)
theorem vcK {c : Cfg} {n f : Nat} {args : List AV} {N0 N : List Blk} {e : AEnd} (ks : List Src) (dp : List Nat) (he : qnE (rK N0.length N) e = e) (hN : N.map (qnK (rK N0.length N)) = N) (hng : N.all ngB = true) (hl : N0.length ≤ N.length) (hB : N0.length ≤ kB) {E : Prop} (p : E) (h : E = VCK XV c e N N0.length n (.call f args false .run (clM N0) (kEK N0.length ks dp e N))) : CtK XV.P f args N0 e N := vck_call pok ctV hl hB hng he hN p h
theorem vlK {c : Cfg} {n f j : Nat} {L : List (Nat × AV)} {N0 N : List Blk} {e : AEnd} (R : Nat) (ks : List Src) (dp : List Nat) (he : qnE (rK R N) e = e) (hN : N.map (qnK (rK R N)) = N) (hng : N.all ngB = true) (hR : R ≤ N0.length) (hl : R ≤ N.length) (hB : N0.length ≤ kB) {E : Prop} (p : E) (h : E = VCK XV c e N R n (.fr (frH XV.P f j L) .run (clM N0) (kEK R ks dp e N))) : FrK XV.P (frH XV.P f j L) (clM N0) R e N := vck_fr pok ctV hR hl hB hng he hN rfl rfl p h
theorem vrK {c : Cfg} {n f j : Nat} {L : List (Nat × AV)} {N0 N : List Blk} {e : AEnd} (R : Nat) (ks : List Src) (dp : List Nat) (he : qnE (rK R N) e = e) (hN : N.map (qnK (rK R N)) = N) (hng : N.all ngB = true) (hR : R ≤ N0.length) (hl : R ≤ N.length) (hB : N0.length ≤ kB) {E : Prop} (p : E) (h : E = VCK XV c e N R n (.fr (frR XV.P f j L) .run (clM N0) (kEK R ks dp e N))) : FrK XV.P (frR XV.P f j L) (clM N0) R e N := vck_fr pok ctV hR hl hB hng he hN rfl rfl p h
theorem lpK {P : Program} {f : Fr} {M : Mem} {R : Nat} {e : AEnd} {N : List Blk} (h : FrK P f M R e N) : True ∧ (FrK P f M R e N ∧ (e = e ∧ bldI (kIx R (Nat.sub N.length R)) N .nil = bldI (kIx R (Nat.sub N.length R)) N .nil)) := ⟨trivial, h, rfl, rfl⟩
/-- A row that other ids do not change. -/
theorem rowfz {ρ : Nat → Option Nat} {sz n : Nat} {g : Nat → List AV} (h : ∀ i, (g i).map frz0 = g i) : qnK ρ (.row sz n g) = .row sz n g := by
  show Blk.row sz n (fun i => (g i).map frz0) = _
  rw [show (fun i => (g i).map frz0) = g from funext h]
theorem endK1b {p0 p1 : Prop} {x y : AEnd} {b b' : Blk} (h0 : p0) (h : WkE x y) (h1 : p1) (hb : WkB b b') : p0 ∧ (WkE x y ∧ ((p1 ∧ WkB b b') ∧ True)) := ⟨h0, h, ⟨h1, hb⟩, trivial⟩
theorem clKk {P : Program} {f : Nat} {args : List AV} {N0 : List Blk} {e : AEnd} {N : List Blk} {q : Prop} (h : CtK P f args N0 e N) (x : q) : True ∧ (CtK P f args N0 e N ∧ q) := ⟨trivial, h, x⟩
end Go.Proofs.YtpflobodmglmaaaGreat
set_option linter.unusedVariables false
set_option maxHeartbeats 1000000
namespace Go.Proofs.YtpflobodmglmaaaGreat
noncomputable def opR0 (clob : AV) : Nat → List AV := rowL [opC (.str ⟨#[97, 100, 100]⟩) us2 clob, opC (.str ⟨#[110, 111, 116]⟩) us1 nl, opC (.str ⟨#[100, 105, 118]⟩) us2 nl]
noncomputable def smLK (n : Nat) (gR gN : Nat → List AV) : List AV := [.str ⟨#[109]⟩, .lst false false n gR, smCls n gN, .sl 1000 0 3 true 6, ar0, .str (nm 0), nl, iV 100]
noncomputable def smVK (n : Nat) : AEnd := .ret (.agg (smLK n regR nmR))
noncomputable def smNK : List Blk := [.row 6 3 (opR0 nl)]
theorem smNK_fz : smNK.map (qnK (rK 0 smNK)) = smNK := by
  show [_] = _
  rw [rowfz fun i => by
    match i with
    | 0 => rfl
    | 1 => rfl
    | 2 => rfl
    | _ + 3 => rfl]
  rfl
theorem smK_end (n : Nat) (gR gN : Nat → List AV) (h1 : ∀ j, j < n → gR j = regR j) (h2 : ∀ j, j < n → gN j = nmR j) : WkE (.ret (.agg (smLK n (fun i => (gR (0 + i)).map frz0) (fun i => (gN (0 + i)).map frz0)))) (smVK n) :=
  wk_ret (wkv_agg (.cons (.refl _) (.cons (wkv_lst rfl id fun i hi => .of (by rw [Nat.zero_add, h1 i hi]; rfl)) (.cons (wkv_lst rfl id fun i hi => by
    cases i with
    | zero => exact .cons (.refl _) (.cons (wkv_lst rfl id fun i hi => .of (by rw [Nat.zero_add, h2 i hi]; rfl)) .nil)
    | succ i => omega) (WkL.refl _)))))
theorem smK_lp (N : Nat) (n : Int) (hN : n = N) (hn : N ≤ 30) (q : Nat) (i : Int) (gR gN : Nat → List AV) (hi : i = ((q + 1 : Nat) : Int)) (hq : q + 1 ≤ N) (h1 : ∀ j, j < q + 1 → gR j = regR j) (h2 : ∀ j, j < q + 1 → gN j = nmR j) :
    FrK XV.P (frH XV.P 22 0 [(0, iV n), (2, .ptr 0 0 0 0), (3, .ptr 1 0 0 0), (4, .ptr 2 0 0 0), (5, iV i)]) (clM (smM q gR gN)) 0 (smVK N) smNK :=
  vlK (c := cSm) (n := 4000) 0 [.v 3] [100] (by kernel_rfl) smNK_fz rfl (by simp) (by simp) (by show 5 ≤ 1000; omega)
    (ifs (c := ltI i n) (fun h => by
      have h : i < n := by simpa using h
      obtain ⟨a1, a2, a3, a4, a5⟩ := nX_at (q + 1) (by omega)
      rw [← hi] at a1 a2 a3 a4 a5
      have hb : (true && (true && (Nat.ble (q + 1 + 1) 16777216 && (Nat.ble (0 + (q + 1)) (q + 1) && true)))) = true := by simp; omega
      exact ck (c := cA i) a1 (ck (c := cB i) a2 (ck (c := cC i) a3 (ck (c := cD i) a4 (ck hb (ck hb (lpK (smK_lp N n hN hn (q + 1) (wr .i64 (i + 1)) (app1 (q + 1) gR (cellR i)) (app1 (q + 1) gN [.str (nX i)]) (by rw [wr_id] <;> omega) (by omega)
        (app1_eq h1 (by unfold cellR regR; rw [a5]) fun _ => rfl) (app1_eq h2 (by unfold nmR; rw [a5]) fun _ => rfl))))))))) (fun h => by
      have h : n ≤ i := by simpa using h
      have e : q + 1 = N := by omega
      have w : WkE (.ret (.agg (smLK (q + 1) (fun i => (gR (0 + i)).map frz0) (fun i => (gN (0 + i)).map frz0)))) (smVK N) := by rw [← e]; exact smK_end (q + 1) gR gN h1 h2
      exact endK1b (p0 := 0 + (q + 1) ≤ q + 1 ∧ 1 ≤ 1 ∧ 0 + (q + 1) ≤ q + 1 ∧ 1 ≤ 1 ∧ True) (p1 := 2 ≤ 2 ∧ 1 ≤ 1 ∧ 2 ≤ 2 ∧ True) (by simp) w (by simp) (wkB (.row 6 3 (opR0 nl)))))
    (by kernel_rfl)
termination_by N - q
theorem smallK_ok (m : Nat) (hm : m < 30) : CtK XV.P 22 [iV (.ofNat (m + 1))] [] (smVK (m + 1)) smNK :=
  vcK (c := cSm) (n := 4000) [.v 3] [100] (by kernel_rfl) smNK_fz rfl (by simp) (by simp) (lpK (smK_lp (m + 1) (.ofNat (m + 1)) rfl hm 0 1 (fun _ => regR 0) (fun _ => nmR 0) rfl (by omega) (fun j hj => by rw [show j = 0 by omega]) (fun j hj => by rw [show j = 0 by omega]))) (by kernel_rfl)
end Go.Proofs.YtpflobodmglmaaaGreat
