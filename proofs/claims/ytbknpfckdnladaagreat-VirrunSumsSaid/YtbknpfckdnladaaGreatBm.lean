/- Jobs: calls; all jobs. No condition. -/
import Derived.Test.YtbknpfckdnladaaGreatBl
set_option linter.unusedVariables false
set_option maxHeartbeats 4000000
namespace Go.Proofs.YtbknpfckdnladaaGreat
/-- What is told of calls is so. -/
def CtOK (X : Cx) : Prop := ∀ (R : Type) (f : Nat) (args : List AV) (M : Mem) (sp : (AEnd → Mem → R) → R), X.ct R f args M = some sp → ∀ k : AEnd → Mem → R, ∃ e M', sp k = k e M' ∧ ∀ bl, CallS X.P f args false bl M e bl M'
section
variable {R : Type} {X : Cx} {er : Nat → R} {run : Job R → R} {k : K R} {bl : AMode} {M : Mem}
variable (H : ∀ j, Out er j.k (run j) (JobS X.P j))
include H
theorem enter_ok (f : Nat) (args : List AV) (dfd : Bool) : Out er k (jEnter er run (bodyOf X.P f) f args dfd bl M k) (CallS X.P f args dfd bl M) := by
  unfold jEnter
  split
  · rename_i c n hb
    obtain ⟨fn, h1, h2, h3⟩ := bodyOf_ok hb
    cases hle : Nat.ble args.length n with
    | false => exact .er
    | true =>
      have hle : args.length ≤ n := by simpa using hle
      refine (run_fr H ⟨f, dfd, n, enterT args 0 .nil, [.code c], [], none⟩ bl M k).imp fun e bl' M' hS => ⟨⟨fn, h1, by rw [h2]; rfl⟩, hS.1, fun G w vs c0s cs hs hw hv hb => ?_⟩
      have he : Frame.enter X.P f vs (kindOf dfd) = ({ (default : Frame) with fn := f, kind := kindOf dfd, roundOf := none } : Frame).atR ⟨vs ++ Array.replicate (n - vs.size) undef, []⟩ [.code c] := by
        simp [Frame.enter, Frame.atR, h1, h2, h3]
      rw [he]
      refine hS.2 G w _ _ c0s cs hs hw ⟨rfl, rfl, ?_, enter_rt hv, trivial, rfl, fun h => absurd rfl h⟩ hb (fun h => absurd rfl h)
      have := hv.len
      simp only [Array.size_append, Array.size_replicate]
      omega
  · exact .er
theorem call_step (hC : CtOK X) (f : Nat) (args : List AV) (dfd : Bool) : Out er k (jCall0 X er run f args dfd bl M k) (CallS X.P f args dfd bl M) := by
  unfold jCall0
  cases dfd with
  | true => exact enter_ok H f args true
  | false =>
    show Out er k (jCall X er run (X.ct R f args M) f args false bl M k) _
    unfold jCall
    split
    · rename_i sp hsp
      obtain ⟨e, M', h1, h2⟩ := hC R f args M sp hsp (fun e M' => k e bl M')
      exact .inr ⟨e, bl, M', h1, h2 bl⟩
    · exact enter_ok H f args false
theorem yld_step (l : Nat) (args : List AV) : Out er k (jYld er run (M.h.get l) l args M k) (YldS X.P l args M) := by
  unfold jYld
  split
  · rename_i fn sz tm ps as body d pe hl
    cases hle : Nat.beq args.length ps.toList.length with
    | false => exact .er
    | true =>
      have hle : args.length = ps.toList.length := by simpa using hle
      refine (run_fr H ⟨fn, false, sz, setPs sz ps.toList args tm, [.code as, .beginRound, .code body], [], some l⟩ .run M k).imp fun e bl' M' hS => ⟨hS.1, fun G w r vs c cs hs hw hp hv => ?_⟩
      obtain ⟨L, k1, k2, k3, k4, k5, k6, k7, k8, k9, k10, k11⟩ := loop_put hs hl hp
      have hsz : vs.size = L.params.size := by rw [hv.len, hle, k5]; simp
      have hrun := run_yield (P := X.P) k1 hsz
      refine ⟨_, _, _, _, hrun, ?_⟩
      have hz := setPs_rt (G := G) ps.toList vs.toList args L.tmps tm (by simpa using hv) k9 k8
      have hzip : (L.params.zip vs).foldl (fun tmps (x : Tmp × Value) => match x with | (t, a) => tmps.setIfInBounds t a) L.tmps = (ps.toList.zip vs.toList).foldl (fun tmps (p : Nat × Value) => tmps.setIfInBounds p.1 p.2) L.tmps := by
        rw [k5, ← Array.foldl_toList, Array.toList_zip]
      rw [hzip]
      have he : Frame.round r L.fn ((ps.toList.zip vs.toList).foldl (fun tmps (p : Nat × Value) => tmps.setIfInBounds p.1 p.2) L.tmps) L.assign L.body .normal = ({ (default : Frame) with fn := L.fn, kind := .normal, roundOf := some r } : Frame).atR ⟨(ps.toList.zip vs.toList).foldl (fun tmps (p : Nat × Value) => tmps.setIfInBounds p.1 p.2) L.tmps, []⟩ [.code as, .beginRound, .code body] := by
        simp [Frame.round, Frame.atR, k6, k7]
      rw [he, k4]
      exact hS.2 G w _ _ (c :: cs) (c :: cs) hs hw ⟨rfl, rfl, hz.2, hz.1, trivial, ⟨r, rfl, hp⟩, fun _ => rfl⟩ rfl (fun _ => by simp)
  · exact .er
end
/-- All jobs. -/
theorem all_ok {R : Type} {X : Cx} (hP : POk X.P) (hC : CtOK X) (er : Nat → R) : ∀ (n : Nat) (j : Job R), Out er j.k (runJ X er n j) (JobS X.P j)
  | 0, j => .inl ⟨99, rfl⟩
  | n + 1, j => by
    have H := all_ok hP hC er n
    cases j with
    | fr f bl M k => exact fr_step hP H f
    | reg all rest f bl M k => exact reg_step hP H
    | dreg d i rest f bl M k => exact dreg_step hP H d i
    | lv f u bl M k => exact lv_step hP H u
    | call f args dfd bl M k => exact call_step H hC f args dfd
    | yld l args M k => exact yld_step H l args
/-- No memory at all. -/
def G0 : Gh := ⟨fun _ => none, fun _ _ => none, fun _ => none, fun _ => 0⟩
theorem st0 (w : World) : St G0 w M0 := by
  constructor
  · intro id k b base h
    rw [show M0.h.get id = none from get_nil id] at h
    cases h
  all_goals
    intros
    rename_i h
    cases h
theorem wf0 : WfM M0 := fun id ⟨k, h, _⟩ => by rw [show M0.h.get id = none from get_nil id] at h; cases h
/-- A law that evaluates to true. -/
theorem law_calls {X : Cx} (hP : POk X.P) (hC : CtOK X) {n f : Nat} {args : List AV} {vs : Array Value} {w : World} (hv : RVs G0 vs args) (h : law X n f args = 0) :
    Calls X.P f vs w fun e w' => e = .returned (.bool true) ∧ w'.heap.size ≥ w.heap.size ∧ (∀ b, b < w.heap.size → w'.heap[b]? = w.heap[b]?) ∧ w'.os = w.os ∧ w'.tape = w.tape ∧ w'.output = w.output := by
  intro cs
  unfold law at h
  rcases all_ok hP hC (fun c => Nat.succ c) n (.call f args false .run M0 lawK) with ⟨c, hc⟩ | ⟨e, bl, M', hc, hS⟩
  · rw [hc] at h; cases h
  · have hc : runJ X (fun c => Nat.succ c) n (.call f args false .run M0 lawK) = lawK e bl M' := hc
    rw [hc] at h
    have he : e = .ret (.bool true) := by
      cases e with
      | pan l => cases h
      | ret v =>
        cases v with
        | bool b =>
          cases b with
          | true => rfl
          | false => cases h
        | _ => cases h
    subst he
    obtain ⟨_, _, hG⟩ := (show CallS X.P f args false .run M0 _ bl M' from hS)
    obtain ⟨G', w', cs', E, m', g1, g2, g3, g4, g5, g6, g7⟩ := hG G0 w vs cs cs (st0 w) wf0 hv rfl
    have g2 : cs' = cs := g2
    subst g2
    obtain ⟨fr, rfl, hfn, hlv⟩ := g3
    cases E with
    | outgrown => exact g4.elim
    | panicked ch => exact g4.elim
    | returned v =>
      have hvv : v = .bool true := RV.bool_inv g4
      subst hvv
      refine ⟨.returned (.bool true), w', fr, ⟨rfl, g6.size, fun b hb => g6.keep b hb (fun ⟨id, base, ⟨k, hk, _⟩, _⟩ => ?_), g6.os⟩, g1, hfn, hlv⟩
      rw [show M0.h.get id = none from get_nil id] at hk
      cases hk
end Go.Proofs.YtbknpfckdnladaaGreat
