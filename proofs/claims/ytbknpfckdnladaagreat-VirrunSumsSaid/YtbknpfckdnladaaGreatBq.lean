/- A law whose arguments lie in memory that nothing writes. No condition. -/
import Derived.Test.YtbknpfckdnladaaGreatBo
set_option linter.unusedVariables false
set_option maxHeartbeats 4000000
namespace Go.Proofs.YtbknpfckdnladaaGreat
/-- All that is there, as it is. -/
def Gw (w : World) : Gh := ⟨fun _ => none, fun b i => w.cell? ⟨b, i, none⟩, fun _ => none, fun _ => 0⟩
theorem stw (w : World) : St (Gw w) w M0 := by
  refine ⟨fun id k b base h => ?_, fun id id' b base base' _ _ h => ?_, fun id b base h => ?_, fun id b base h => ?_, fun b i v h => h, fun b v h => ?_, fun id b base i _ h => ?_, fun id b base _ h => ?_⟩
  · rw [show M0.h.get id = none from get_nil id] at h; cases h
  all_goals cases h
open Go.RowKit in
theorem law_walkG {X : Cx} (hP : POk X.P) (hC : CtOK X) {n f : Nat} {args : List AV} {vs : Array Value} {w : World} (hv : RVs (Gw w) vs args) (h : law X n f args = 0) : Calls X.P f vs w fun e w' => e = .returned (.bool true) ∧ Below w.heap.size w w' := by
  intro cs
  unfold law at h
  rcases all_ok hP hC (fun c => Nat.succ c) n (.call f args false .run M0 lawK) with ⟨c, hc⟩ | ⟨e, bl, M', hc, hS⟩
  · rw [hc] at h; cases h
  · have hc : runJ X (fun c => Nat.succ c) n (.call f args false .run M0 lawK) = lawK e bl M' := hc
    rw [hc] at h
    have he : e = .ret (.bool true) := by
      cases e with
      | pan l => cases h
      | ret v =>
        cases v with
        | bool b =>
          cases b with
          | true => rfl
          | false => cases h
        | _ => cases h
    subst he
    obtain ⟨_, _, hG⟩ := (show CallS X.P f args false .run M0 _ bl M' from hS)
    obtain ⟨G', w', cs', E, m', g1, g2, g3, g4, g5, g6, g7⟩ := hG (Gw w) w vs cs cs (stw w) wf0 hv rfl
    have g2 : cs' = cs := g2
    subst g2
    obtain ⟨fr, rfl, hfn, hlv⟩ := g3
    cases E with
    | outgrown => exact g4.elim
    | panicked ch => exact g4.elim
    | returned v =>
      have hvv : v = .bool true := RV.bool_inv g4
      subst hvv
      exact ⟨.returned (.bool true), w', fr, ⟨rfl, g6.os.1, g6.os.2.1, g6.os.2.2, g6.size, fun b hb => g6.keep b hb (fun ⟨id, base, ⟨k, hk, _⟩, _⟩ => by rw [show M0.h.get id = none from get_nil id] at hk; cases hk)⟩, g1, hfn, hlv⟩
def gzz (z : Nat → Int) (i : Nat) : List AV := [.int .i64 (z i)]
/-- A slice of numbers that came in. -/
theorem rv_ints {w : World} {b o len cap : Nat} {zs : List Int} (hl : len ≤ cap) (hz : len ≤ zs.length) (hc : ∀ i, i < zs.length → w.cell? ((⟨b, o, none⟩ : Addr).add i) = some (.int .i64 (zs.getD i 0))) : RV (Gw w) (.slice (some ⟨b, o, none⟩) len cap) (.lst false false len (gzz fun i => zs.getD i 0)) := by
  refine RV.lst (sz := 1) (fun i _ => .int .i64 (zs.getD i 0)) hl (fun h => by cases h) (fun i _ => rfl) (fun i j a hi h => ?_) (fun i j a hi h => ?_)
  · cases j with
    | zero =>
      show w.cell? ⟨b, o + (i * 1 + 0), none⟩ = _
      have := hc i (by omega)
      unfold Addr.add at this
      by_cases e : i = 0
      · rw [if_pos e] at this
        subst e
        simpa using this
      · rw [if_neg e] at this
        simpa using this
    | succ j => simp [gzz] at h
  · cases j with
    | zero =>
      have : a = .int .i64 (zs.getD i 0) := by simpa [gzz] using h.symm
      rw [this]
      exact .int _ _
    | succ j => simp [gzz] at h
theorem spot_of {P : Program} {w : World} {r : Reach} {base : Nat} {t e : TypeId} {x : Addr} {l c : Nat} (hu : P.underlying t = some (.slice e)) (h : Value.okWide P w r base t (.slice (some x) l c)) : x.spot = none := by
  unfold Value.okWide at h
  rw [hu] at h
  unfold Cell.okWide at h
  rw [hu] at h
  unfold Cell.ok at h
  rw [hu] at h
  exact h.2.2.2.1
end Go.Proofs.YtbknpfckdnladaaGreat
