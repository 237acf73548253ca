/- Several texts joined. No condition. -/
import Derived.Test.YtpflobodmglmaaaGreatMi
set_option linter.unusedVariables false
set_option maxHeartbeats 1000000
namespace Go.Proofs.YtpflobodmglmaaaGreat
theorem alive13 : CtE XV.P 12 [] [] tT [] := run_ct (X := X0 Tryz.prog) pok (ct0 _) (n := 100000) rfl (by kernel_rfl)
open Go.RowKit in
theorem law_cte {f : Nat} {args : List AV} {vs : Array Value} {w : World} (hv : RVs (Gw w) vs args) (h : CtE XV.P f args [] tT []) : Calls Tryz.prog f vs w fun e w' => e = .returned (.bool true) ∧ Below w.heap.size w w' := by
  intro cs
  obtain ⟨_, _, hG⟩ := h .run .run
  obtain ⟨G', w', cs', E, m', g1, g2, g3, g4, g5, g6, g7⟩ := hG (Gw w) w vs cs cs (stw w) wf0 hv rfl
  have g2 : cs' = cs := g2
  subst g2
  obtain ⟨fr, rfl, hfn, hlv⟩ := g3
  cases E with
  | outgrown => exact g4.elim
  | panicked ch => exact g4.elim
  | returned v =>
    have hvv : v = .bool true := RV.bool_inv g4
    subst hvv
    exact ⟨.returned (.bool true), w', fr, ⟨rfl, g6.os.1, g6.os.2.1, g6.os.2.2, g6.size, fun b hb => g6.keep b hb (fun ⟨id, base, ⟨k, hk, _⟩, _⟩ => by rw [show (clM []).h.get id = none from get_nil id] at hk; cases hk)⟩, g1, hfn, hlv⟩
def IsRw (w : World) (a : Option Addr) (len cap : Nat) (zs : List Int) : Prop :=
  (a = none ∧ len = 0 ∧ cap = 0 ∧ zs = []) ∨ ∃ x, a = some x ∧ x.spot = none ∧ len ≤ cap ∧ cap ≤ maxLen ∧ zs.length = cap ∧ (∀ i, i < zs.length → w.cell? (x.add i) = some (.int .i64 (zs.getD i 0))) ∧ ∀ n ∈ zs, (Lit.int .i64 n).wf = true
/-- A slice of numbers that came in. -/
theorem isrw_rv {w : World} {a : Option Addr} {len cap : Nat} {zs : List Int} (h : IsRw w a len cap zs) : ∃ nb f, RV (Gw w) (.slice a len cap) (.lst nb f len (fun i => [iV (zs.getD i 0)])) := by
  rcases h with ⟨rfl, rfl, rfl, rfl⟩ | ⟨x, rfl, hs, hl, hm, hz, hc, _⟩
  · exact ⟨true, true, .lstn⟩
  · obtain ⟨b, o, s⟩ := x
    have hs : s = none := hs
    subst hs
    exact ⟨false, false, rv_ints hl (by omega) hc⟩
inductive Rl (G : Gh) : List Value → List AV → Prop
  | nil : Rl G [] []
  | cons {v : Value} {a : AV} {l : List Value} {r : List AV} (h : RV G v a) (t : Rl G l r) : Rl G (v :: l) (a :: r)
theorem Rl.at' {G : Gh} {l : List Value} {r : List AV} (h : Rl G l r) : l.length = r.length ∧ ∀ (j : Nat) (v : Value) (a : AV), l[j]? = some v → r[j]? = some a → RV G v a := by
  induction h with
  | nil => exact ⟨rfl, fun j v a e => by simp at e⟩
  | cons h t ih =>
    refine ⟨by simp [ih.1], fun j v a e f => ?_⟩
    cases j with
    | zero => cases e; cases f; exact h
    | succ j => exact ih.2 j v a (by simpa using e) (by simpa using f)
theorem Rl.ok {G : Gh} {l : List Value} {r : List AV} (h : Rl G l r) : RVs G l.toArray r := ⟨by rw [List.size_toArray]; exact h.at'.1, fun j v a e f => h.at'.2 j v a (by simpa using e) f⟩
end Go.Proofs.YtpflobodmglmaaaGreat
