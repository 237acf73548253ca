/- A range over a function whose rounds may panic: walks that know the function whose activation they are in. -/
import Derived.RangeFuncIn
import Derived.RangeFuncLeaves
import Derived.RangeFuncSeq
import Derived.RangeFuncRecord
import Derived.RecoverIn
namespace Go.Proofs.Ytocloacbbbhkcaa
open Go
variable {P : Program} {f : FuncId} {ro : Option Nat}

/-- A walk within an activation of one function (in a round of a loop, or not). -/
def wpAt (P : Program) (f : FuncId) (ro : Option Nat) (c : Code) (Q : Exit → Act → World → Prop) (a : Act) (w : World) : Prop :=
  ∀ (b : Frame) (k : List Item) (cs : List Frame), b.roundOf = ro → b.fn = f →
    ∃ e a' w', Q e a' w' ∧ ArrivesIn (Machine.fenced P Fence.wide) P (lone (b.atR a (.code c :: k)) cs w) b k cs e a' w'

theorem wide_all (m : Machine) : m.fenced P Fence.wide := fenced_wide P m
theorem wpAt_of_wp {c : Code} {Q : Exit → Act → World → Prop} {a : Act} {w : World} (h : c.wp P Q a w) : wpAt P f none c Q a w :=
  fun b k cs hro _ => (wpIn_wide (n := 0)).2 h b k cs hro trivial (room_wide _)
theorem wpAt_of_in {c : Code} {Q : Exit → Act → World → Prop} {a : Act} {w : World} {l n : Nat} (h : c.wpIn (Fence.wide.inRound l) n P Q a w) : wpAt P f (some l) c Q a w :=
  fun b k cs hro _ => h b k cs hro trivial (room_wide _)
theorem wpAt_of_wide {c : Code} {Q : Exit → Act → World → Prop} {a : Act} {w : World} {n : Nat} (h : c.wpIn Fence.wide n P Q a w) : wpAt P f none c Q a w :=
  fun b k cs hro _ => h b k cs hro trivial (room_wide _)
theorem wpAt_mono {c : Code} {Q Q' : Exit → Act → World → Prop} {a : Act} {w : World} (h : wpAt P f ro c Q a w) (hq : ∀ e a w, Q e a w → Q' e a w) : wpAt P f ro c Q' a w :=
  fun b k cs hro hb => let ⟨e, a', w', q, r⟩ := h b k cs hro hb; ⟨e, a', w', hq _ _ _ q, r⟩
theorem wpAt_seq {x y : Code} {Q : Exit → Act → World → Prop} {a : Act} {w : World} (h : wpAt P f ro x (Exit.then (fun a w => wpAt P f ro y Q a w) Q) a w) : wpAt P f ro (.seq x y) Q a w := by
  intro b k cs hro hb
  obtain ⟨e, a₁, w₁, hq, harr⟩ := h b (.code y :: k) cs hro hb
  cases e with
  | normal =>
    obtain ⟨e₂, a₂, w₂, hq₂, harr₂⟩ := hq b k cs hro hb
    exact ⟨e₂, a₂, w₂, hq₂, .of_steps (.head (wide_all _) stepR_seq harr) harr₂⟩
  | exit id => exact ⟨_, a₁, w₁, hq, .of_steps (.one (wide_all _) stepR_seq) (.pass (x := .code y) rfl (fun _ _ => .inl (by simp)) harr)⟩
  | goto l => exact ⟨_, a₁, w₁, hq, .of_steps (.one (wide_all _) stepR_seq) (.pass (x := .code y) rfl (fun _ _ => .inl (by simp)) harr)⟩
  | ret => exact ⟨_, a₁, w₁, hq, .of_steps (.one (wide_all _) stepR_seq) (.pass (x := .code y) rfl (fun _ _ => .inl (by simp)) harr)⟩
  | panic ch => exact ⟨_, a₁, w₁, hq, .of_steps (.one (wide_all _) stepR_seq) (.pass (x := .code y) rfl (fun _ _ => .inl (by simp)) harr)⟩
  | outgrown => exact ⟨_, a₁, w₁, hq, .of_steps (.one (wide_all _) stepR_seq) (.pass (x := .code y) rfl (fun _ _ => .inl (by simp)) harr)⟩
theorem wpAt_cond {c : Operand} {x y : Code} {t : Bool} {Q : Exit → Act → World → Prop} {a : Act} {w : World} (hc : a.eval c = .bool t) (h : wpAt P f ro (if t then x else y) Q a w) : wpAt P f ro (.cond c x y) Q a w :=
  fun b k cs hro hb => let ⟨e, a', w', q, r⟩ := h b k cs hro hb; ⟨e, a', w', q, .of_steps (.one (wide_all _) (stepR_cond hc)) r⟩
theorem wpAt_block {id : Nat} {c : Code} {Q : Exit → Act → World → Prop} {a : Act} {w : World} (h : wpAt P f ro c (Exit.inBlock id Q) a w) : wpAt P f ro (.block id c) Q a w := by
  intro b k cs hro hb
  obtain ⟨e, a₁, w₁, hq, harr⟩ := h b (.inBlock id :: k) cs hro hb
  cases e with
  | normal => exact ⟨.normal, a₁, w₁, hq, .head (wide_all _) stepR_block (StepsIn.trans harr (.one (wide_all _) stepR_inBlock))⟩
  | exit id' =>
    by_cases hid : id' = id
    · simp only [Exit.inBlock, hid, if_true] at hq
      exact ⟨.normal, a₁, w₁, hq, .head (wide_all _) stepR_block (harr.1 k (by simp [exitTo, hid]))⟩
    · simp only [Exit.inBlock, hid, if_false] at hq
      have this : (id == id') = false := by simp; exact fun h => hid h.symm
      have hx : exitTo id' (.inBlock id :: k) = exitTo id' k := by simp [exitTo, this]
      exact ⟨.exit id', a₁, w₁, hq, fun k' hk => .head (wide_all _) stepR_block (harr.1 k' (by rw [hx]; exact hk)),
        fun hr' hk => let ⟨k₁, h1, h2⟩ := harr.2 hr' (by rw [hx]; exact hk); ⟨k₁, h1, .head (wide_all _) stepR_block h2⟩⟩
  | goto l =>
    have hx : gotoIn l (.inBlock id :: k) = gotoIn l k := by simp [gotoIn]
    exact ⟨_, a₁, w₁, hq, fun k' hk => .head (wide_all _) stepR_block (harr.1 k' (by rw [hx]; exact hk)),
      fun hr' hk => let ⟨k₁, h1, h2⟩ := harr.2 hr' (by rw [hx]; exact hk); ⟨k₁, h1, .head (wide_all _) stepR_block h2⟩⟩
  | ret => exact ⟨_, a₁, w₁, hq, .of_steps (.one (wide_all _) stepR_block) harr⟩
  | panic ch => exact ⟨_, a₁, w₁, hq, .of_steps (.one (wide_all _) stepR_block) harr⟩
  | outgrown => exact ⟨_, a₁, w₁, hq, .of_steps (.one (wide_all _) stepR_block) harr⟩

/-- What is asked at a round's end. -/
def roundEnd (l : Nat) (rec : LoopState → Option Code → Loop) (R : Ending → World → Prop) : Exit → Act → World → Prop
  | .normal, _, w => ∃ st pe, w.heap[l]? = some (.loop (rec st pe)) ∧ R (.returned (.bool true)) (w.putObj l (.loop (rec .ready none)))
  | .ret, _, w => ∃ st pe, w.heap[l]? = some (.loop (rec st pe)) ∧ R (.returned (.bool false)) (w.putObj l (.loop (rec .done (some .ret))))
  | .exit id, _, w => ∃ st pe, w.heap[l]? = some (.loop (rec st pe)) ∧ R (.returned (.bool false)) (w.putObj l (.loop (rec .done (some (.exit id)))))
  | .panic chain, a, w => a.defers = [] ∧ R (.panicked chain) w
  | _, _, _ => False

/-- The record of a loop. -/
def recOf (f : FuncId) (tmps : Array Value) (params : Array Tmp) (assign body : Code) (defers : Nat) (st : LoopState) (pe : Option Code) : Loop := { state := st, pending := pe, fn := f, tmps, params, assign, body, defers }

/-- A call of yield, out of the round's walk: the assignments, then the body. -/
theorem yieldAt_of {fnc : Func} (hf : P.funcs[f]? = some fnc) {l : Nat} {tmps : Array Value} {params : Array Tmp} {assign body : Code} {D m : Nat} {args : Array Value} {w : World} {R : Ending → World → Prop}
    (hl : w.heap[l]? = some (.loop (recOf f tmps params assign body D .ready none))) (hs : args.size = params.size)
    (h : wpAt P f (some l) assign (Exit.then (fun a₁ w₁ => w₁.heap[l]? = some (.loop (recOf f tmps params assign body D .ready none)) ∧
        wpAt P f (some l) body (roundEnd l (recOf f tmps params assign body D) R) a₁ (w₁.putObj l (.loop (recOf f tmps params assign body D .busy none)))) (fun _ _ _ => False))
      { tmps := (params.zip args).foldl (fun tmps (t, a) => tmps.setIfInBounds t a) tmps, defers := [] } w) :
    YieldAt Fence.wide m P l args w R := by
  refine ⟨_, _, _, _, run_yield hl hs, trivial, fun c cs _ => ?_⟩
  simp only [recOf]
  let b : Frame := { (default : Frame) with fn := f, kind := .normal, roundOf := some l }
  have hb0 : ∀ tm, Frame.round l f tm assign body .normal = b.atR { tmps := tm, defers := [] } [.code assign, .beginRound, .code body] := fun tm => by
    simp [Frame.round, Frame.atR, b]
  obtain ⟨e, a₁, w₁, hq, harr⟩ := h b [.beginRound, .code body] (c :: cs) rfl rfl
  rw [← hb0] at harr
  cases e with
  | normal =>
    obtain ⟨hl1, hbody⟩ := hq
    have hbr := run_beginRound (P := P) hl1 rfl
    have s1 : StepsIn (Machine.fenced P Fence.wide) P (lone (b.atR a₁ [.beginRound, .code body]) (c :: cs) w₁) (lone (b.atR a₁ [.code body]) (c :: cs) _) :=
      .one (wide_all _) (stepR_beginRound rfl hbr)
    obtain ⟨e₂, a₂, w₃, hq₂, harr₂⟩ := hbody b [] (c :: cs) rfl rfl
    cases e₂ with
    | normal =>
      obtain ⟨st, pe, hl3, hR⟩ := hq₂
      have hend := run_endRound (P := P) none hl3
      exact ⟨.returned (.bool true), _, hR, (StepsIn.trans harr s1).trans (StepsIn.trans harr₂ (.one (wide_all _) (stepR_round_end rfl rfl hend)))⟩
    | ret =>
      obtain ⟨st, pe, hl3, hR⟩ := hq₂
      have hend := run_endRound (P := P) (some .ret) hl3
      obtain ⟨k₁, hs⟩ := harr₂.2 rfl
      exact ⟨.returned (.bool false), _, hR, (StepsIn.trans harr s1).trans (StepsIn.trans hs (.one (wide_all _) (stepR_round_ret rfl rfl hend)))⟩
    | exit id =>
      obtain ⟨st, pe, hl3, hR⟩ := hq₂
      have hend := run_endRound (P := P) (some (.exit id)) hl3
      obtain ⟨k₁, hk, hs⟩ := harr₂.2 rfl rfl
      exact ⟨.returned (.bool false), _, hR, (StepsIn.trans harr s1).trans (StepsIn.trans hs (.one (wide_all _) (stepR_round_exit rfl rfl hk hend)))⟩
    | goto t => exact hq₂.elim
    | panic chain =>
      obtain ⟨hd, hR⟩ := hq₂
      obtain ⟨todo, hs⟩ := harr₂
      have hlv : ({ b.atR a₂ todo with mode := .panicking chain } : Frame).leaving P w₃ (.panicked chain) := ⟨rfl, hd, fnc, hf⟩
      exact ⟨.panicked chain, w₃, hR, (StepsIn.trans harr s1).trans (StepsIn.trans hs (.one (wide_all _) (step_leave_panicked hlv)))⟩
    | outgrown => exact hq₂.elim
  | exit id => exact hq.elim
  | goto t => exact hq.elim
  | ret => exact hq.elim
  | panic chain => exact hq.elim
  | outgrown => exact hq.elim

/-- What is asked when the function that is ranged over has ended. -/
def rangeEnd (P : Program) (f : FuncId) (ro : Option Nat) (l : Nat) (rec : LoopState → Option Code → Loop) (Q : Exit → Act → World → Prop) (a' : Act) : Ending → World → Prop
  | .returned _, w => ∃ st pe, w.heap[l]? = some (.loop (rec st pe)) ∧ st ≠ .busy ∧ (match pe with
      | none => Q .normal a' (w.putObj l (.loop (rec .exhausted pe)))
      | some c => wpAt P f ro c Q a' (w.putObj l (.loop (rec .exhausted pe))))
  | .panicked chain, w => Q (.panic chain) a' w
  | .outgrown, _ => False

/-- The statement, outside every round. -/
theorem wpAt_range {g : Operand} {ps : Array Tmp} {assign body : Code} {Q : Exit → Act → World → Prop} {a : Act} {w : World} {gf n : Nat} {lb : Array Value} (hg : a.eval g = .func (.func gf) #[] lb)
    (eg : ∀ args w, (callFunc gf args).run P w = .ok (.enter gf args) w)
    (h : CallsIn Fence.wide n P gf (#[.func (.yield (w.heap.size + 1)) #[] #[]] ++ lb)
      ((w.alloc (.deferred (some []))).alloc (.loop (recOf f a.tmps ps assign body w.heap.size .ready none)))
      (rangeEnd P f none (w.heap.size + 1) (recOf f a.tmps ps assign body w.heap.size) Q { a with defers := { target := .collected w.heap.size, args := #[] } :: a.defers })) :
    wpAt P f none (.rangeFunc g ps assign body) Q a w := by
  intro b k cs hro hb
  subst hb
  have he := run_enterLoop_outer (P := P) (w := w) b.fn a.tmps ps assign body
  have hres : (resolve a.eval (rangeCall g (w.heap.size + 1)) 0).run P ((w.alloc (.deferred (some []))).alloc (.loop (recOf b.fn a.tmps ps assign body w.heap.size .ready none))) = .ok { target := .fn (.func gf) lb, args := #[.func (.yield (w.heap.size + 1)) #[] #[]] } ((w.alloc (.deferred (some []))).alloc (.loop (recOf b.fn a.tmps ps assign body w.heap.size .ready none))) := by
    simp only [resolve, hg]; simp [go_sem]
  have hinv : (invoke (.fn (.func gf) lb) #[.func (.yield (w.heap.size + 1)) #[] #[]]).run P ((w.alloc (.deferred (some []))).alloc (.loop (recOf b.fn a.tmps ps assign body w.heap.size .ready none))) = .ok (.enter gf (#[.func (.yield (w.heap.size + 1)) #[] #[]] ++ lb)) ((w.alloc (.deferred (some []))).alloc (.loop (recOf b.fn a.tmps ps assign body w.heap.size .ready none))) := by
    simp [invoke, go_sem, eg]
  rw [← hro] at he
  have henter := stepR_rangeFunc (P := P) (b := b) (a := a) (k := k) (cs := cs) (w := w) he hres hinv
  obtain ⟨e, w₃, fr, hR, hsteps, hfn, hleave⟩ := h.2 (b.atR { a with defers := [{ target := .collected w.heap.size, args := #[] }] ++ a.defers } (.inRangeFunc (w.heap.size + 1) :: k) :: cs) (room_wide _)
  cases e with
  | outgrown => exact hR.elim
  | returned v =>
    obtain ⟨st, pe, hl3, hst, hj⟩ := hR
    have hend := run_endLoop (P := P) hl3 hst
    have sback : StepsIn (Machine.fenced P Fence.wide) P (lone (b.atR a (.code (.rangeFunc g ps assign body) :: k)) cs w) (lone (b.atR { a with defers := [{ target := .collected w.heap.size, args := #[] }] ++ a.defers } ((pe.map Item.code).toList ++ k)) cs (w₃.putObj (w.heap.size + 1) (.loop (recOf b.fn a.tmps ps assign body w.heap.size .exhausted pe)))) := by
      refine .head (wide_all _) henter (StepsIn.trans hsteps (.head (wide_all _) ?_ (.one (wide_all _) (stepR_endRangeFunc hend))))
      rw [← finish_atR_inRangeFunc (w.heap.size + 1) v]; exact step_leave_returned hleave
    cases pe with
    | none => exact ⟨.normal, _, _, hj, sback⟩
    | some c =>
      obtain ⟨e', a'', w₅, hq, harr⟩ := hj b k cs hro rfl
      exact ⟨e', a'', w₅, hq, .of_steps sback harr⟩
  | panicked chain =>
    refine ⟨.panic chain, _, w₃, hR, .inRangeFunc (w.heap.size + 1) :: k, .head (wide_all _) henter (StepsIn.trans hsteps (.one (wide_all _) ?_))⟩
    rw [← Frame.raise_atR]; exact step_leave_panicked hleave

/-- A function's contract out of its walk, deferred calls, marks and all. -/
theorem calls_of_wpAt {fnc : Func} {c : Code} {args : Array Value} {w : World} {R : Ending → World → Prop} (hf : P.funcs[f]? = some fnc) (hb : fnc.body = some c)
    (h : wpAt P f none c (bodyPostM Fence.wide 1 P fnc R) { tmps := args ++ Array.replicate (fnc.ntmps - args.size) undef, defers := [] } w) : Calls P f args w R := by
  refine (callsIn_wide (n := 1)).1 ⟨trivial, fun cs hr => ?_⟩
  let b : Frame := { (default : Frame) with fn := f, kind := .normal, roundOf := none }
  have henter : Frame.enter P f args .normal = b.atR { tmps := args ++ Array.replicate (fnc.ntmps - args.size) undef, defers := [] } [.code c] := by
    simp [Frame.enter, Frame.atR, hf, hb, b]
  obtain ⟨e, a', w', hq, harr⟩ := h b [] cs rfl rfl
  rw [← henter] at harr
  cases e with
  | normal =>
    obtain ⟨e', w'', fr', hR, hs, hfn, hl⟩ := leaves_stepsInM a'.defers .returning w' { b.atR a' [] with mode := .returning } cs rfl rfl rfl hf rfl trivial hr hq
    exact ⟨e', w'', fr', hR, ComesIn.of_steps (StepsIn.trans harr (.one (wide_all _) (stepR_end rfl))) hs, hfn, hl⟩
  | ret =>
    obtain ⟨todo, hs₀⟩ := harr.1 rfl
    obtain ⟨e', w'', fr', hR, hs, hfn, hl⟩ := leaves_stepsInM a'.defers .returning w' { b.atR a' todo with mode := .returning } cs rfl rfl rfl hf rfl trivial hr hq
    exact ⟨e', w'', fr', hR, ComesIn.of_steps hs₀ hs, hfn, hl⟩
  | panic chain =>
    obtain ⟨todo, hs₀⟩ := harr
    obtain ⟨e', w'', fr', hR, hs, hfn, hl⟩ := leaves_stepsInM a'.defers (.panicking chain) w' { b.atR a' todo with mode := .panicking chain } cs rfl rfl rfl hf rfl trivial hr hq
    exact ⟨e', w'', fr', hR, ComesIn.of_steps hs₀ hs, hfn, hl⟩
  | exit id => exact hq.elim
  | goto l => exact hq.elim
  | outgrown => exact ⟨.outgrown, w', b, hq, harr.resolve_left (by simp [b]), rfl, trivial⟩
end Go.Proofs.Ytocloacbbbhkcaa
