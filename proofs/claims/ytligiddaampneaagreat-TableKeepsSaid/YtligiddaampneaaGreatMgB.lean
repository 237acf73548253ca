/- A part of the proof, joined of several texts: the registers' places of a whole description; iterators. No condition. -/
import Derived.RangeFuncIn
import Derived.RangeFuncLeaves
import Derived.RangeFuncSeq
import Derived.RangeFuncRecord
import Derived.RecoverIn
import Derived.Test.YtligiddaampneaaGreatMgA
import Derived.RangeFuncBound
import Derived.Shelf.Abstract
import Derived.OwnWalkIn
import Derived.TacticsInMore
import Derived.LoopNIn
import Derived.LoopIn
import Derived.RangeFuncCalls
import Derived.WalkHide
set_option maxRecDepth 100000
set_option maxHeartbeats 2000000
section
namespace Go.Proofs.YtligiddaampneaaGreat
open Go
variable {P : Program} {f : FuncId} {ro : Option Nat}
def wpAt (P:Program) (f:FuncId) (ro:Option Nat) (c:Code) (Q:Exit→Act→World→Prop) (a:Act) (w:World):Prop :=
 ∀ (b:Frame) (k:List Item) (cs:List Frame),b.roundOf=ro→b.fn=f →
  ∃ e a' w',Q e a' w'∧ArrivesIn (Machine.fenced P Fence.wide) P (lone (b.atR a (.code c :: k)) cs w) b k cs e a' w'
theorem wide_all (m:Machine):m.fenced P Fence.wide:=fenced_wide P m
theorem wpAt_of_wp {c:Code} {Q:Exit→Act→World→Prop} {a:Act} {w:World} (h:c.wp P Q a w):wpAt P f none c Q a w :=
 fun b k cs hro _=>(wpIn_wide (n:=0)).2 h b k cs hro trivial (room_wide _)
theorem wpAt_of_in {c:Code} {Q:Exit→Act→World→Prop} {a:Act} {w:World} {l n:Nat} (h:c.wpIn (Fence.wide.inRound l) n P Q a w):wpAt P f (some l) c Q a w :=
 fun b k cs hro _=>h b k cs hro trivial (room_wide _)
theorem wpAt_mono {c:Code} {Q Q':Exit→Act→World→Prop} {a:Act} {w:World} (h:wpAt P f ro c Q a w) (hq:∀ e a w,Q e a w→Q' e a w):wpAt P f ro c Q' a w :=
 fun b k cs hro hb=>let ⟨e,a',w',q,r⟩:=h b k cs hro hb;⟨e,a',w',hq _ _ _ q,r⟩
theorem wpAt_seq {x y:Code} {Q:Exit→Act→World→Prop} {a:Act} {w:World} (h:wpAt P f ro x (Exit.then (fun a w=>wpAt P f ro y Q a w) Q) a w):wpAt P f ro (.seq x y) Q a w:=by
 intro b k cs hro hb
 obtain ⟨e,a₁,w₁,hq,harr⟩:=h b (.code y :: k) cs hro hb
 cases e with
 | normal =>
  obtain ⟨e₂,a₂,w₂,hq₂,harr₂⟩:=hq b k cs hro hb
  exact ⟨e₂,a₂,w₂,hq₂,.of_steps (.head (wide_all _) stepR_seq harr) harr₂⟩
 | exit id=>exact ⟨_,a₁,w₁,hq,.of_steps (.one (wide_all _) stepR_seq) (.pass (x:=.code y) rfl (fun _ _=>.inl (by simp)) harr)⟩
 | goto l=>exact ⟨_,a₁,w₁,hq,.of_steps (.one (wide_all _) stepR_seq) (.pass (x:=.code y) rfl (fun _ _=>.inl (by simp)) harr)⟩
 | ret=>exact ⟨_,a₁,w₁,hq,.of_steps (.one (wide_all _) stepR_seq) (.pass (x:=.code y) rfl (fun _ _=>.inl (by simp)) harr)⟩
 | panic ch=>exact ⟨_,a₁,w₁,hq,.of_steps (.one (wide_all _) stepR_seq) (.pass (x:=.code y) rfl (fun _ _=>.inl (by simp)) harr)⟩
 | outgrown=>exact ⟨_,a₁,w₁,hq,.of_steps (.one (wide_all _) stepR_seq) (.pass (x:=.code y) rfl (fun _ _=>.inl (by simp)) harr)⟩
theorem wpAt_block {id:Nat} {c:Code} {Q:Exit→Act→World→Prop} {a:Act} {w:World} (h:wpAt P f ro c (Exit.inBlock id Q) a w):wpAt P f ro (.block id c) Q a w:=by
 intro b k cs hro hb
 obtain ⟨e,a₁,w₁,hq,harr⟩:=h b (.inBlock id :: k) cs hro hb
 cases e with
 | normal=>exact ⟨.normal,a₁,w₁,hq,.head (wide_all _) stepR_block (StepsIn.trans harr (.one (wide_all _) stepR_inBlock))⟩
 | exit id' =>
  by_cases hid:id'=id
  ·simp only [Exit.inBlock,hid,if_true] at hq
   exact ⟨.normal,a₁,w₁,hq,.head (wide_all _) stepR_block (harr.1 k (by simp [exitTo,hid]))⟩
  ·simp only [Exit.inBlock,hid,if_false] at hq
   have this:(id == id')=false:=by simp;exact fun h=>hid h.symm
   have hx:exitTo id' (.inBlock id :: k)=exitTo id' k:=by simp [exitTo,this]
   exact ⟨.exit id',a₁,w₁,hq,fun k' hk=>.head (wide_all _) stepR_block (harr.1 k' (by rw [hx];exact hk)),
    fun hr' hk=>let ⟨k₁,h1,h2⟩:=harr.2 hr' (by rw [hx];exact hk);⟨k₁,h1,.head (wide_all _) stepR_block h2⟩⟩
 | goto l =>
  have hx:gotoIn l (.inBlock id :: k)=gotoIn l k:=by simp [gotoIn]
  exact ⟨_,a₁,w₁,hq,fun k' hk=>.head (wide_all _) stepR_block (harr.1 k' (by rw [hx];exact hk)),
   fun hr' hk=>let ⟨k₁,h1,h2⟩:=harr.2 hr' (by rw [hx];exact hk);⟨k₁,h1,.head (wide_all _) stepR_block h2⟩⟩
 | ret=>exact ⟨_,a₁,w₁,hq,.of_steps (.one (wide_all _) stepR_block) harr⟩
 | panic ch=>exact ⟨_,a₁,w₁,hq,.of_steps (.one (wide_all _) stepR_block) harr⟩
 | outgrown=>exact ⟨_,a₁,w₁,hq,.of_steps (.one (wide_all _) stepR_block) harr⟩
def roundEnd (l:Nat) (rec:LoopState→Option Code→Loop) (R:Ending→World→Prop):Exit→Act→World→Prop
 | .normal,_,w=>∃ st pe,w.heap[l]?=some (.loop (rec st pe))∧R (.returned (.bool true)) (w.putObj l (.loop (rec .ready none)))
 | .ret,_,w=>∃ st pe,w.heap[l]?=some (.loop (rec st pe))∧R (.returned (.bool false)) (w.putObj l (.loop (rec .done (some .ret))))
 | .exit id,_,w=>∃ st pe,w.heap[l]?=some (.loop (rec st pe))∧R (.returned (.bool false)) (w.putObj l (.loop (rec .done (some (.exit id)))))
 | .panic chain,a,w=>a.defers=[]∧R (.panicked chain) w
 | _,_,_=>False
def recOf (f:FuncId) (tmps:Array Value) (params:Array Tmp) (assign body:Code) (defers:Nat) (st:LoopState) (pe:Option Code):Loop := { state:=st,pending:=pe,fn:=f,tmps,params,assign,body,defers }
theorem yieldAt_of {fnc:Func} (hf:P.funcs[f]?=some fnc) {l:Nat} {tmps:Array Value} {params:Array Tmp} {assign body:Code} {D m:Nat} {args:Array Value} {w:World} {R:Ending→World→Prop}
    (hl:w.heap[l]?=some (.loop (recOf f tmps params assign body D .ready none))) (hs:args.size=params.size)
    (h:wpAt P f (some l) assign (Exit.then (fun a₁ w₁=>w₁.heap[l]?=some (.loop (recOf f tmps params assign body D .ready none)) ∧
        wpAt P f (some l) body (roundEnd l (recOf f tmps params assign body D) R) a₁ (w₁.putObj l (.loop (recOf f tmps params assign body D .busy none)))) (fun _ _ _=>False))
      { tmps:=(params.zip args).foldl (fun tmps (t,a)=>tmps.setIfInBounds t a) tmps,defers:=[] } w) :
    YieldAt Fence.wide m P l args w R:=by
  refine ⟨_,_,_,_,run_yield hl hs,trivial,fun c cs _=>?_⟩
  simp only [recOf]
  let b:Frame := { (default:Frame) with fn:=f,kind:=.normal,roundOf:=some l }
  have hb0:∀ tm,Frame.round l f tm assign body .normal=b.atR { tmps:=tm,defers:=[] } [.code assign,.beginRound,.code body]:=fun tm=>by
    simp [Frame.round,Frame.atR,b]
  obtain ⟨e,a₁,w₁,hq,harr⟩:=h b [.beginRound,.code body] (c :: cs) rfl rfl
  rw [← hb0] at harr
  cases e with
  | normal =>
    obtain ⟨hl1,hbody⟩:=hq
    have hbr:=run_beginRound (P:=P) hl1 rfl
    have s1:StepsIn (Machine.fenced P Fence.wide) P (lone (b.atR a₁ [.beginRound,.code body]) (c :: cs) w₁) (lone (b.atR a₁ [.code body]) (c :: cs) _) :=
      .one (wide_all _) (stepR_beginRound rfl hbr)
    obtain ⟨e₂,a₂,w₃,hq₂,harr₂⟩:=hbody b [] (c :: cs) rfl rfl
    cases e₂ with
    | normal =>
      obtain ⟨st,pe,hl3,hR⟩:=hq₂
      have hend:=run_endRound (P:=P) none hl3
      exact ⟨.returned (.bool true),_,hR,(StepsIn.trans harr s1).trans (StepsIn.trans harr₂ (.one (wide_all _) (stepR_round_end rfl rfl hend)))⟩
    | ret =>
      obtain ⟨st,pe,hl3,hR⟩:=hq₂
      have hend:=run_endRound (P:=P) (some .ret) hl3
      obtain ⟨k₁,hs⟩:=harr₂.2 rfl
      exact ⟨.returned (.bool false),_,hR,(StepsIn.trans harr s1).trans (StepsIn.trans hs (.one (wide_all _) (stepR_round_ret rfl rfl hend)))⟩
    | exit id =>
      obtain ⟨st,pe,hl3,hR⟩:=hq₂
      have hend:=run_endRound (P:=P) (some (.exit id)) hl3
      obtain ⟨k₁,hk,hs⟩:=harr₂.2 rfl rfl
      exact ⟨.returned (.bool false),_,hR,(StepsIn.trans harr s1).trans (StepsIn.trans hs (.one (wide_all _) (stepR_round_exit rfl rfl hk hend)))⟩
    | goto t=>exact hq₂.elim
    | panic chain =>
      obtain ⟨hd,hR⟩:=hq₂
      obtain ⟨todo,hs⟩:=harr₂
      have hlv:({ b.atR a₂ todo with mode:=.panicking chain }:Frame).leaving P w₃ (.panicked chain):=⟨rfl,hd,fnc,hf⟩
      exact ⟨.panicked chain,w₃,hR,(StepsIn.trans harr s1).trans (StepsIn.trans hs (.one (wide_all _) (step_leave_panicked hlv)))⟩
    | outgrown=>exact hq₂.elim
  | exit id=>exact hq.elim
  | goto t=>exact hq.elim
  | ret=>exact hq.elim
  | panic chain=>exact hq.elim
  | outgrown=>exact hq.elim
def rangeEnd (P:Program) (f:FuncId) (ro:Option Nat) (l:Nat) (rec:LoopState→Option Code→Loop) (Q:Exit→Act→World→Prop) (a':Act):Ending→World→Prop
 | .returned _,w=>∃ st pe,w.heap[l]?=some (.loop (rec st pe))∧st≠.busy∧(match pe with
   | none=>Q .normal a' (w.putObj l (.loop (rec .exhausted pe)))
   | some c=>wpAt P f ro c Q a' (w.putObj l (.loop (rec .exhausted pe))))
 | .panicked chain,w=>Q (.panic chain) a' w
 | .outgrown,_=>False
theorem wpAt_range {g:Operand} {ps:Array Tmp} {assign body:Code} {Q:Exit→Act→World→Prop} {a:Act} {w:World} {gf n:Nat} {lb:Array Value} (hg:a.eval g=.func (.func gf) #[] lb)
    (eg:∀ args w,(callFunc gf args).run P w=.ok (.enter gf args) w)
    (h:CallsIn Fence.wide n P gf (#[.func (.yield (w.heap.size+1)) #[] #[]] ++ lb)
      ((w.alloc (.deferred (some []))).alloc (.loop (recOf f a.tmps ps assign body w.heap.size .ready none)))
      (rangeEnd P f none (w.heap.size+1) (recOf f a.tmps ps assign body w.heap.size) Q { a with defers := { target:=.collected w.heap.size,args:=#[] } :: a.defers })) :
    wpAt P f none (.rangeFunc g ps assign body) Q a w:=by
  intro b k cs hro hb
  subst hb
  have he:=run_enterLoop_outer (P:=P) (w:=w) b.fn a.tmps ps assign body
  have hres:(resolve a.eval (rangeCall g (w.heap.size+1)) 0).run P ((w.alloc (.deferred (some []))).alloc (.loop (recOf b.fn a.tmps ps assign body w.heap.size .ready none)))=.ok { target:=.fn (.func gf) lb,args:=#[.func (.yield (w.heap.size+1)) #[] #[]] } ((w.alloc (.deferred (some []))).alloc (.loop (recOf b.fn a.tmps ps assign body w.heap.size .ready none))):=by
    simp only [resolve,hg];simp [go_sem]
  have hinv:(invoke (.fn (.func gf) lb) #[.func (.yield (w.heap.size+1)) #[] #[]]).run P ((w.alloc (.deferred (some []))).alloc (.loop (recOf b.fn a.tmps ps assign body w.heap.size .ready none)))=.ok (.enter gf (#[.func (.yield (w.heap.size+1)) #[] #[]] ++ lb)) ((w.alloc (.deferred (some []))).alloc (.loop (recOf b.fn a.tmps ps assign body w.heap.size .ready none))):=by
    simp [invoke,go_sem,eg]
  rw [← hro] at he
  have henter:=stepR_rangeFunc (P:=P) (b:=b) (a:=a) (k:=k) (cs:=cs) (w:=w) he hres hinv
  obtain ⟨e,w₃,fr,hR,hsteps,hfn,hleave⟩:=h.2 (b.atR { a with defers:=[{ target:=.collected w.heap.size,args:=#[] }] ++ a.defers } (.inRangeFunc (w.heap.size+1) :: k) :: cs) (room_wide _)
  cases e with
  | outgrown=>exact hR.elim
  | returned v =>
    obtain ⟨st,pe,hl3,hst,hj⟩:=hR
    have hend:=run_endLoop (P:=P) hl3 hst
    have sback:StepsIn (Machine.fenced P Fence.wide) P (lone (b.atR a (.code (.rangeFunc g ps assign body) :: k)) cs w) (lone (b.atR { a with defers:=[{ target:=.collected w.heap.size,args:=#[] }] ++ a.defers } ((pe.map Item.code).toList ++ k)) cs (w₃.putObj (w.heap.size+1) (.loop (recOf b.fn a.tmps ps assign body w.heap.size .exhausted pe)))):=by
      refine .head (wide_all _) henter (StepsIn.trans hsteps (.head (wide_all _) ?_ (.one (wide_all _) (stepR_endRangeFunc hend))))
      rw [← finish_atR_inRangeFunc (w.heap.size+1) v];exact step_leave_returned hleave
    cases pe with
    | none=>exact ⟨.normal,_,_,hj,sback⟩
    | some c =>
      obtain ⟨e',a'',w₅,hq,harr⟩:=hj b k cs hro rfl
      exact ⟨e',a'',w₅,hq,.of_steps sback harr⟩
  | panicked chain =>
    refine ⟨.panic chain,_,w₃,hR,.inRangeFunc (w.heap.size+1) :: k,.head (wide_all _) henter (StepsIn.trans hsteps (.one (wide_all _) ?_))⟩
    rw [← Frame.raise_atR];exact step_leave_panicked hleave
theorem calls_of_wpAt {fnc:Func} {c:Code} {args:Array Value} {w:World} {R:Ending→World→Prop} (hf:P.funcs[f]?=some fnc) (hb:fnc.body=some c)
  (h:wpAt P f none c (bodyPostM Fence.wide 1 P fnc R) { tmps:=args ++ Array.replicate (fnc.ntmps - args.size) undef,defers:=[] } w):Calls P f args w R:=by
 refine (callsIn_wide (n:=1)).1 ⟨trivial,fun cs hr=>?_⟩
 let b:Frame := { (default:Frame) with fn:=f,kind:=.normal,roundOf:=none }
 have henter:Frame.enter P f args .normal=b.atR { tmps:=args ++ Array.replicate (fnc.ntmps - args.size) undef,defers:=[] } [.code c]:=by
  simp [Frame.enter,Frame.atR,hf,hb,b]
 obtain ⟨e,a',w',hq,harr⟩:=h b [] cs rfl rfl
 rw [← henter] at harr
 cases e with
 | normal =>
  obtain ⟨e',w'',fr',hR,hs,hfn,hl⟩:=leaves_stepsInM a'.defers .returning w' { b.atR a' [] with mode:=.returning } cs rfl rfl rfl hf rfl trivial hr hq
  exact ⟨e',w'',fr',hR,ComesIn.of_steps (StepsIn.trans harr (.one (wide_all _) (stepR_end rfl))) hs,hfn,hl⟩
 | ret =>
  obtain ⟨todo,hs₀⟩:=harr.1 rfl
  obtain ⟨e',w'',fr',hR,hs,hfn,hl⟩:=leaves_stepsInM a'.defers .returning w' { b.atR a' todo with mode:=.returning } cs rfl rfl rfl hf rfl trivial hr hq
  exact ⟨e',w'',fr',hR,ComesIn.of_steps hs₀ hs,hfn,hl⟩
 | panic chain =>
  obtain ⟨todo,hs₀⟩:=harr
  obtain ⟨e',w'',fr',hR,hs,hfn,hl⟩:=leaves_stepsInM a'.defers (.panicking chain) w' { b.atR a' todo with mode:=.panicking chain } cs rfl rfl rfl hf rfl trivial hr hq
  exact ⟨e',w'',fr',hR,ComesIn.of_steps hs₀ hs,hfn,hl⟩
 | exit id=>exact hq.elim
 | goto l=>exact hq.elim
 | outgrown=>exact ⟨.outgrown,w',b,hq,harr.resolve_left (by simp [b]),rfl,trivial⟩
end Go.Proofs.YtligiddaampneaaGreat
end
section
namespace Go.Proofs.YtligiddaampneaaGreat
open Go.RowKit
attribute [local go_sem] Oper.semAt_some
inductive RegT where
 | mk (name:ByteArray) (width beg:Int) (subs:List RegT)
def RegT.name:RegT→ByteArray | .mk n _ _ _=>n
def RegT.width:RegT→Int | .mk _ w _ _=>w
def RegT.beg:RegT→Int | .mk _ _ b _=>b
def RegT.subs:RegT→List RegT | .mk _ _ _ s=>s
def regCells (l:List RegT) (vs:List Value):List Value:=(l.zip vs).flatMap fun x=>[.string x.1.name,.int .i64 x.1.width,.int .i64 x.1.beg,x.2]
theorem regCells_cons (r:RegT) (l:List RegT) (u:Value) (vs:List Value):regCells (r :: l) (u :: vs)=.string r.name :: .int .i64 r.width :: .int .i64 r.beg :: u :: regCells l vs:=by simp [regCells]
theorem regCells_at {l:List RegT} {vs:List Value} {i:Nat} {r:RegT} {u:Value} (hr:l[i]?=some r) (hu:vs[i]?=some u) :
  (regCells l vs)[i * 4]?=some (.string r.name)∧(regCells l vs)[i * 4+1]?=some (.int .i64 r.width)∧(regCells l vs)[i * 4+2]?=some (.int .i64 r.beg)∧(regCells l vs)[i * 4+3]?=some u:=by
 induction i generalizing l vs with
 | zero =>
  cases l with
  | nil=>simp at hr
  | cons a l =>
   cases vs with
   | nil=>simp at hu
   | cons b vs=>simp at hr hu;subst hr;subst hu;simp [regCells_cons]
 | succ i ih =>
  cases l with
  | nil=>simp at hr
  | cons a l =>
   cases vs with
   | nil=>simp at hu
   | cons b vs =>
    have:=ih (l:=l) (vs:=vs) (by simpa using hr) (by simpa using hu)
    rw [regCells_cons,show (i+1) * 4=i * 4+4 by omega]
    simpa using this
def fits64 (n:Int):Prop := -9223372036854775808≤n∧n≤9223372036854775807
inductive RegsIn (W:World) (n0:Nat):Value→List RegT→Prop where
 | mk {v:Value} {l:List RegT} (vs:List Value) (hl:vs.length=l.length) (hrow:Row W 4 v l.length (regCells l vs)) (hb:∀ k,v.ownBlock=some k→l≠[]→k<n0)
   (hw:∀ r∈l,fits64 r.width∧fits64 r.beg) (hs:∀ (i:Nat) (r:RegT) (u:Value),l[i]?=some r→vs[i]?=some u→RegsIn W n0 u r.subs):RegsIn W n0 v l
theorem Row.same {w w':World} {size:Nat} {v:Value} {n:Nat} {xs:List Value} (h:Row w size v n xs) (hk:∀ k,v.ownBlock=some k→w'.heap[k]?=w.heap[k]?):Row w' size v n xs:=by
 refine ⟨h.1,?_⟩
 rcases h.2 with h2 | ⟨a,cap,rfl,h1,h2,hc⟩
 ·exact Or.inl h2
 ·refine Or.inr ⟨a,cap,rfl,h1,h2,fun j u hj=>?_⟩
  have:=hc j u hj
  rw [World.cell?_of_block (w:=w) (hk (a.add j).block (by show some a.block=some (a.add j).block;unfold Addr.add;split <;> rfl))]
  exact this
theorem Row.same0 {w w':World} {size:Nat} {v:Value} {n:Nat} {xs:List Value} (h:Row w size v n xs) (hk:∀ k,v.ownBlock=some k→n≠0→w'.heap[k]?=w.heap[k]?):Row w' size v n xs:=by
 by_cases hn:n=0
 ·refine ⟨h.1,?_⟩
  rcases h.2 with h2 | ⟨a,cap,rfl,h1,h2,hc⟩
  ·exact Or.inl h2
  ·refine Or.inr ⟨a,cap,rfl,h1,h2,fun j u hj=>?_⟩
   have h3:=h.1
   have h4:=(List.getElem?_eq_some_iff.1 hj).1
   rw [h3,hn,Nat.zero_mul] at h4
   exact absurd h4 (Nat.not_lt_zero _)
 ·exact h.same fun k e=>hk k e hn
theorem RegsIn.same {W W':World} {n0:Nat} (hk:∀ k,k<n0→W'.heap[k]?=W.heap[k]?) {v:Value} {l:List RegT} (h:RegsIn W n0 v l):RegsIn W' n0 v l:=by
 induction h with
 | mk vs hl hrow hb hw _ ih=>exact .mk vs hl (hrow.same0 fun k e hn=>hk k (hb k e (fun e2=>hn (by rw [e2];rfl)))) hb hw ih
def stepsS (g:Wk→RegT→Except Int Wk):List RegT→Wk→Except Int Wk
 | [],σ=>.ok σ
 | r :: l,σ=>match g σ r with
  | .ok σ'=>stepsS g l σ'
  | .error x=>.error x
def downS:Nat→Nat→List RegT→Wk→Except Int Wk
 | 0,_,_,σ=>.ok σ
 | k+1,d,l,σ=>stepsS (fun σ r=>match oneS σ r.name r.width r.beg d with
  | .ok σ'=>downS k (d+1) r.subs σ'
  | .error x=>.error x) l σ
def DP (St:(Nat→Prop)→Wk→World→Prop) (ρ:Nat→Prop) (W:World) (d:Nat) (r:Except Int Wk) (e:Ending) (W':World):Prop :=
 Keep ρ W W'∧match r with
  | .error x=>e=stopped x
  | .ok σ'=>e=.returned (.bool true)∧∃ ρ',St ρ' σ' W'∧(∀ k,ρ' k→ρ k∨W.heap.size≤k)∧d≤σ'.ways.length
theorem DP.ok {St:(Nat→Prop)→Wk→World→Prop} {ρ:Nat→Prop} {W W':World} {d:Nat} {σ':Wk} {e:Ending} (h:DP St ρ W d (.ok σ') e W') :
 Keep ρ W W'∧e=.returned (.bool true)∧∃ ρ',St ρ' σ' W'∧(∀ k,ρ' k→ρ k∨W.heap.size≤k)∧d≤σ'.ways.length:=h
theorem DP.err {St:(Nat→Prop)→Wk→World→Prop} {ρ:Nat→Prop} {W W':World} {d:Nat} {x:Int} {e:Ending} (h:DP St ρ W d (.error x) e W'):Keep ρ W W'∧e=stopped x:=h
theorem down_in (L n0:Nat) (St:(Nat→Prop)→Wk→World→Prop) (hext:∀ ρ σ W W',St ρ σ W→Ext W W'→St ρ σ W') (hlt:∀ ρ σ W,St ρ σ W→n0≤W.heap.size∧∀ k,ρ k→n0≤k∧k<W.heap.size)
    (hY:∀ m ρ σ W name width beg ua (un uc d:Nat),St ρ σ W→fits64 width→fits64 beg→1≤d→d≤7→d≤σ.ways.length →
      YieldAt Fence.wide m Tryz.prog L #[.agg #[.string name,.int .i64 width,.int .i64 beg,.slice ua un uc,.int .i64 d]] W (DP St ρ W (d+1) (oneS σ name width beg d)))
    (k:Nat):∀ (d:Nat) (l:List RegT) (v:Value) (ρ:Nat→Prop) (σ:Wk) (W:World) (n:Nat),d+k=8→1≤d→RegsIn W n0 v l→St ρ σ W→d≤σ.ways.length →
      CallsIn Fence.wide n Tryz.prog 137 #[v,.int .i64 d,.func (.yield L) #[] #[]] W (DP St ρ W d (downS k d l σ)):=by
  induction k with
  | zero =>
    intro d l v ρ σ W n hd h1 hr hst hdw
    obtain rfl:d=8:=by omega
    have e:downS 0 8 l σ=.ok σ:=rfl
    rw [e]
    refine callsIn_of_wp Tryz.func137 rfl trivial ?_
    simp only [Tryz.ntmps137,List.size_toArray,List.length_cons,List.length_nil,Nat.reduceAdd,Nat.reduceSub,Array.replicate_succ,Array.replicate_zero,List.push_toArray,List.append_toArray,List.nil_append,List.cons_append]
    have fin:DP St ρ W 8 (.ok σ) (.returned (.bool true)) W:=⟨Keep.refl _ _,rfl,ρ,hst,fun k h=>Or.inl h,hdw⟩
    have FIN:=qh fin
    clear fin hY hext hlt hr hst hdw e
    gi_wp2
    go_ret
    exact FIN.out
  | succ k ih =>
    intro d l v ρ σ W n hd h1 hr hst hdw
    cases hr with
    | mk vs hl hrow hb hw hs =>
    obtain ⟨ad,cap,rfl,hcap,hmx⟩:=hrow.shape
    unfold maxLen at hmx
    have hd7:(d:Int)≤7:=by omega
    have hd0:(1:Int)≤d:=by omega
    have hdd:∀ k:Nat,(Fence.wide.depth.isSome=true→1≤k):=fun k h=>by cases h
    obtain ⟨g,hg⟩:∃ g,g=fun σ r=>match oneS σ (RegT.name r) r.width r.beg d with
      | .ok σ'=>downS k (d+1) r.subs σ'
      | .error x=>.error x:=⟨_,rfl⟩
    have hdn:downS (k+1) d l σ=stepsS g l σ:=by rw [hg];rfl
    have start:Hid (St ρ σ W∧Keep ρ W W∧(∀ k,ρ k→ρ k∨W.heap.size≤k)∧d≤σ.ways.length∧stepsS g (l.drop 0) σ=stepsS g l σ):=qh ⟨hst,Keep.refl _ _,fun _ h=>Or.inl h,hdw,rfl⟩
    have GH:=qh hg
    have HD:=qh hdn
    have HROW:=qh hrow
    have HB:=qh hb
    have HW:=qh hw
    have HS:=qh hs
    have HL:=qh hl
    have HY:=qh hY
    have HE:=qh hext
    have HT:=qh hlt
    have IH:=qh ih
    have hn0:=(hlt _ _ _ hst)
    have HN0:=qh hn0
    have HDD:=qh hdd
    have hF:Fence.wide.fn 137:=trivial
    clear hg hdn hrow hb hw hs hl hY hext hlt ih hst hdw hn0 hdd
    refine callsIn_of_wp Tryz.func137 rfl trivial ?_
    simp only [Tryz.ntmps137,List.size_toArray,List.length_cons,List.length_nil,Nat.reduceAdd,Nat.reduceSub,Array.replicate_succ,Array.replicate_zero,List.push_toArray,List.append_toArray,List.nil_append,List.cons_append]
    gi_wp2_with fail
    gi_loopw [13] (fun i wr=>∃ (j:Nat) (ρj:Nat→Prop) (σj:Wk),j≤l.length∧i=.int .i64 j∧Hid (St ρj σj wr∧Keep ρ W wr∧(∀ k,ρj k→ρ k∨W.heap.size≤k)∧d≤σj.ways.length∧stepsS g (l.drop j) σj=stepsS g l σ)) (fun i _=>l.length - (intOf i).toNat)
    case atStart=>exact ⟨0,ρ,σ,by omega,rfl,start⟩
    case round =>
      clear start
      obtain ⟨j,ρj,σj,hj,rfl,hin⟩:=hrel
      by_cases hlt:j<l.length
      · obtain ⟨r,hr⟩:∃ r,l[j]?=some r:=⟨l[j],lE hlt⟩
        obtain ⟨u,hu⟩:∃ u,vs[j]?=some u:=⟨vs[j]'(by rw [HL.out];exact hlt),lE _⟩
        obtain ⟨ua,uc,rfl⟩:∃ ua uc,u=.slice ua r.subs.length uc:=by
          cases HS.out j r u hr hu with
          | mk _ _ hrow' _ _ _=>obtain ⟨a,c,e,_,_⟩:=hrow'.shape;exact ⟨a,c,e⟩
        obtain ⟨s1,s2,s3,s4,s5⟩:=hin.out
        have hkn:∀ q,q<n0→wr.heap[q]?=W.heap[q]?:=fun q hq=>s2.block q (Nat.lt_of_lt_of_le hq HN0.out.1) (fun h=>by have:=(HN0.out.2 q h).1;omega)
        have hroww:=HROW.out.same0 (w':=wr) (fun q e hn0=>hkn q (HB.out q e (fun e2=>hn0 (by rw [e2];rfl))))
        obtain ⟨b,off,cap',e,_,_,_,hc⟩:=hroww.at (fun e=>by have:=HROW.out.1;rw [e] at this;simp at this;omega)
        cases e
        obtain ⟨e0,e1,e2,e3⟩:=regCells_at hr hu
        have c0:=hc _ _ e0
        have c1:=hc _ _ e1
        have c2:=hc _ _ e2
        have c3:=hc _ _ e3
        rw [← Nat.add_assoc] at c1 c2 c3
        have st1:=HE.out _ _ _ _ s1 (Ext.alloc wr (.cells #[.string r.name,.int .i64 r.width,.int .i64 r.beg,.slice ua r.subs.length uc] 70))
        obtain ⟨hwid,hbeg⟩:=HW.out r (List.mem_of_getElem? hr)
        have hyr:=HY.out (n - 1) ρj σj _ r.name r.width r.beg ua r.subs.length uc d st1 hwid hbeg h1 (by omega) s4
        have hsub:RegsIn wr n0 (.slice ua r.subs.length uc) r.subs:=(HS.out j r _ hr hu).same hkn
        have hsz:=(HT.out _ _ _ s1).1
        have hnob:¬ ρj wr.heap.size:=fun h=>by have:=((HT.out _ _ _ s1).2 _ h).2;omega
        have hdrop:l.drop j=r :: l.drop (j+1):=by
          obtain ⟨hjl,e⟩:=List.getElem?_eq_some_iff.1 hr
          rw [List.drop_eq_getElem_cons hjl,e]
        have hgo:stepsS g (l.drop j) σj=match oneS σj r.name r.width r.beg d with
            | .ok σ1=>(match downS k (d+1) r.subs σ1 with | .ok σ2=>stepsS g (l.drop (j+1)) σ2 | .error x=>.error x)
            | .error x=>.error x:=by
          rw [hdrop];simp only [stepsS];rw [GH.out];simp only []
          cases oneS σj r.name r.width r.beg d with
          | error x=>rfl
          | ok σ1=>simp only []
        have bw1:(wr.alloc (.cells #[.string r.name,.int .i64 r.width,.int .i64 r.beg,.slice ua r.subs.length uc] 70)).cell? ⟨wr.heap.size,3,none⟩=some (.slice ua r.subs.length uc):=cell_new wr _ _ 3
        have SUB:=qh hsub
        have DROP:=qh hgo
        have KN:=qh hkn
        have ST1:=qh st1
        clear hdrop hgo hsub hkn st1 hr hu hc hroww e0 e1 e2 e3 s1 s2 s3 s4 s5
        cases hone:oneS σj r.name r.width r.beg d with
        | error x =>
          rw [hone] at hyr
          obtain ⟨fn,tm,asg,bdy,hy,hR⟩:=hyr
          have hR:=qh hR
          have ONE:=qh hone
          clear hone
          gi_wp2_with ((try refine ⟨trivial,?_⟩);(try refine ⟨HDD.out _,?_⟩);refine hR.out.mono ?_;rintro e W2 h2;obtain ⟨hk2,he⟩:=DP.err h2;unfold stopped at he;subst he)
          refine ⟨rfl,?_⟩
          have hD:=DROP.out
          rw [ONE.out] at hD
          obtain ⟨s1,s2,s3,s4,s5⟩:=hin.out
          rw [HD.out,← s5,hD]
          exact ⟨s2.trans ((Keep.of_ext (Ext.alloc wr _)).trans hk2 (fun _ _ h=>h)) (fun q hq h=>(s3 q h).resolve_right (by omega)),rfl⟩
        | ok σ1 =>
          rw [hone] at hyr
          obtain ⟨fn,tm,asg,bdy,hy,hR⟩:=hyr
          have hR:=qh hR
          have ONE:=qh hone
          clear hone
          have ih':Hid (∀ (ρ':Nat→Prop) (W2:World) (n:Nat),RegsIn W2 n0 (.slice ua r.subs.length uc) r.subs→St ρ' σ1 W2→d+1≤σ1.ways.length→CallsIn Fence.wide n Tryz.prog 137 #[.slice ua r.subs.length uc,.int .i64 ((d:Int)+1),.func (.yield L) #[] #[]] W2 (DP St ρ' W2 (d+1) (downS k (d+1) r.subs σ1))) :=
            qh (fun ρ' W2 n a b c=>IH.out (d+1) r.subs _ ρ' σ1 W2 n (by omega) (by omega) a b c)
          clear IH HY
          cases hdn:downS k (d+1) r.subs σ1 with
          | error x =>
            rw [hdn] at ih'
            have DN:=qh hdn
            clear hdn
            gi_wp2_with (first
              | ((try refine ⟨trivial,?_⟩);(try refine ⟨HDD.out _,?_⟩);gi_at_call 137;refine (ih'.out ρ1 W2 _ REG2.out ST2.out hw2).mono ?_;clear ih';rintro e W3 h3;obtain ⟨hk3,he⟩:=DP.err h3;unfold stopped at he;subst he)
              | ((try refine ⟨trivial,?_⟩);(try refine ⟨HDD.out _,?_⟩);refine hR.out.mono ?_;clear hR;rintro e W2 h2;obtain ⟨hk2,rfl,ρ1,st2,hρ1,hw2⟩:=DP.ok h2;have bx2:=hk2.cell bw1 hnob;have REG2:=qh (SUB.out.same (W':=W2) (fun q hq=>by rw [hk2.block q (by simp;omega) (fun h=>by have:=((HT.out _ _ _ ST1.out).2 q h).1;omega)];exact Below.block (Ext.alloc wr _) q (by omega)));have ST2:=qh st2;have HR1:=qh hρ1;clear st2 hρ1))
            refine ⟨rfl,?_⟩
            have hD:=DROP.out
            rw [ONE.out] at hD
            simp only [DN.out] at hD
            obtain ⟨s1,s2,s3,s4,s5⟩:=hin.out
            rw [HD.out,← s5,hD]
            have kA:=(Keep.of_ext (S:=ρj) (Ext.alloc wr _)).trans hk2 (fun _ _ h=>h)
            have kB:=kA.trans hk3 (fun q hq h=>(HR1.out q h).resolve_right (by simp;omega))
            exact ⟨s2.trans kB (fun q hq h=>(s3 q h).resolve_right (by omega)),rfl⟩
          | ok σ2 =>
            rw [hdn] at ih'
            have DN:=qh hdn
            clear hdn
            gi_wp2_with (first
              | ((try refine ⟨trivial,?_⟩);(try refine ⟨HDD.out _,?_⟩);gi_at_call 137;refine (ih'.out ρ1 W2 _ REG2.out ST2.out hw2).mono ?_;clear ih';rintro e W3 h3;obtain ⟨hk3,rfl,ρ2,st3,hρ2,hw3⟩:=DP.ok h3;have ST3:=qh st3;have HR2:=qh hρ2;clear st3 hρ2)
              | ((try refine ⟨trivial,?_⟩);(try refine ⟨HDD.out _,?_⟩);refine hR.out.mono ?_;clear hR;rintro e W2 h2;obtain ⟨hk2,rfl,ρ1,st2,hρ1,hw2⟩:=DP.ok h2;have bx2:=hk2.cell bw1 hnob;have REG2:=qh (SUB.out.same (W':=W2) (fun q hq=>by rw [hk2.block q (by simp;omega) (fun h=>by have:=((HT.out _ _ _ ST1.out).2 q h).1;omega)];exact Below.block (Ext.alloc wr _) q (by omega)));have ST2:=qh st2;have HR1:=qh hρ1;clear st2 hρ1))
            go_roundw
            case rel =>
              have hD:=DROP.out
              rw [ONE.out] at hD
              simp only [DN.out] at hD
              obtain ⟨s1,s2,s3,s4,s5⟩:=hin.out
              have kA:=(Keep.of_ext (S:=ρj) (Ext.alloc wr _)).trans hk2 (fun _ _ h=>h)
              have kB:=kA.trans hk3 (fun q hq h=>(HR1.out q h).resolve_right (by simp;omega))
              refine ⟨j+1,ρ2,σ2,by omega,by go_num,qh ⟨ST3.out,s2.trans kB (fun q hq h=>(s3 q h).resolve_right (by omega)),fun q h=>?_,by omega,by rw [← s5,hD]⟩⟩
              rcases HR2.out q h with h | h
              · rcases HR1.out q h with h | h
                · exact s3 q h
                · right;have:=s2.size;simp at h;omega
              · right;have:=kA.size;have:=s2.size;omega
            case measure=>simp [intOf];omega
      · gi_wp2_with fail
        go_ret
        obtain ⟨h1',h2',h3',h4',h5'⟩:=hin.out
        rw [HD.out,← h5',List.drop_eq_nil_of_le (by omega)]
        exact ⟨h2',rfl,ρj,h1',h3',h4'⟩
end Go.Proofs.YtligiddaampneaaGreat
end
section
namespace Go.Proofs.YtligiddaampneaaGreat
theorem good_one {σ σ':Wk} {name:ByteArray} {width beg:Int} {d:Nat} (hG:σ.Good) (hd:1≤d) (hdw:d≤σ.ways.length) (h:oneS σ name width beg d=.ok σ'):σ'.Good∧σ'.ways.length=d+1:=by
 unfold oneS at h
 split at h
 ·cases h
 split at h
 ·cases h
 rename_i hn
 split at h
 ·cases h
 split at h
 ·cases h
 rename_i hw
 simp only [Classical.not_not] at hw
 obtain ⟨q,hq⟩:∃ q,σ.ways[d - 1]?=some q:=⟨σ.ways[d - 1]'(by omega),lE _⟩
 obtain ⟨hr,hb⟩:=hG.wy _ _ hq
 obtain ⟨hl,hf⟩:=hG.wi _ _ hq
 have key:∀ p roots,placeS σ d width beg=.ok (p,roots)→(0≤p.root∧p.root≤200)∧(0≤p.beg∧0≤p.width∧p.beg+p.width≤64)∧0≤roots∧roots≤σ.roots+1:=by
  intro p roots hp
  have:=hG.ro
  unfold placeS at hp
  split at hp
  ·split at hp
   ·cases hp;refine ⟨⟨?_,?_⟩,⟨?_,?_,?_⟩,?_,?_⟩ <;> (try simp only []) <;> omega
   ·cases hp
  ·rw [hq] at hp
   simp only [] at hp
   split at hp
   ·cases hp;refine ⟨⟨?_,?_⟩,⟨?_,?_,?_⟩,?_,?_⟩ <;> (try simp only []) <;> omega
   ·cases hp
 cases hp:placeS σ d width beg with
 | error e=>rw [hp] at h;cases h
 | ok pr =>
  obtain ⟨p,roots⟩:=pr
  obtain ⟨k1,k2,k3,k4⟩:=key p roots hp
  rw [hp] at h
  simp only [] at h
  split at h
  ·cases h
  ·cases h
   have:=hG.rn
   have:=hG.ln
   have:=hG.lp
   have ew:(tookS σ name d p roots).ways=σ.ways.take (d - 1) ++ [(q.1,q.2 ++ [p]),(p,[])]:=by simp [tookS,hq]
   have el:(σ.ways.take (d - 1)).length=d - 1:=by rw [List.length_take];omega
   have en:(tookS σ name d p roots).names.length=σ.names.length+1:=by simp [tookS]
   have mem:∀ (j:Nat) (x:Pl × List Pl),(tookS σ name d p roots).ways[j]?=some x→(σ.ways[j]?=some x)∨x=(q.1,q.2 ++ [p])∨x=(p,[]):=by
    intro j x hx
    rw [ew] at hx
    by_cases hj:j<d - 1
    ·rw [List.getElem?_append_left (by omega),List.getElem?_take,if_pos hj] at hx;exact Or.inl hx
    ·rw [List.getElem?_append_right (by omega),el] at hx
     match hjd:j - (d - 1),hx with
     | 0,hx=>simp at hx;exact Or.inr (Or.inl hx.symm)
     | 1,hx=>simp at hx;exact Or.inr (Or.inr hx.symm)
     | n+2,hx=>simp at hx
   refine ⟨⟨by simp [tookS];omega,⟨by simp only [tookS];omega,by simp only [tookS];omega⟩,by rw [en];omega,by rw [en];simp only [tookS];omega,fun j x hx=>?_,fun j x hx=>?_⟩,by rw [ew];simp;omega⟩
   ·rcases mem j x hx with h | h | h
    ·exact hG.wy j x h
    ·subst h;exact ⟨hr,hb⟩
    ·subst h;exact ⟨k1,k2⟩
   ·rcases mem j x hx with h | h | h
    ·have:=hG.wi j x h;exact ⟨by rw [en];omega,this.2⟩
    ·subst h
     refine ⟨by rw [en];simp;omega,fun y hy=>?_⟩
     rcases List.mem_append.1 hy with h | h
     ·exact hf y h
     ·simp at h;subst h;refine ⟨⟨?_,?_⟩,⟨?_,?_⟩,⟨?_,?_⟩⟩ <;> omega
    ·subst h;exact ⟨by simp,fun y hy=>by simp at hy⟩
end Go.Proofs.YtligiddaampneaaGreat
end
section
namespace Go.Proofs.YtligiddaampneaaGreat
open Go.RowKit
attribute [local go_sem] Oper.semAt_some
def findRF:Code→Option (Array Tmp × Code × Code)
 | .rangeFunc _ ps a b=>some (ps,a,b)
 | .seq a b=>match findRF a with
  | some x=>some x
  | none=>findRF b
 | .block _ c=>findRF c
 | .loop c=>findRF c
 | .cond _ a b=>match findRF a with
  | some x=>some x
  | none=>findRF b
 | _=>none
noncomputable def plLoop:Array Tmp × Code × Code:=((Tryz.f77.body.bind findRF).getD (#[],.skip,.skip))
def PSt (L BP bw n0:Nat) (rec:LoopState→Option Code→Loop) (ρ:Nat→Prop) (σ:Wk) (W:World):Prop :=
 ∃ bm vN vP vW ws,WkIn W bw bm vN vP vW ws σ∧σ.Good∧(∀ k,ρ k↔Has (parts bw bm vN vP vW ws) k∨k=L) ∧
  W.heap[L]?=some (.loop (rec .ready none))∧W.heap[BP]?=some (.cells #[.pointer (some ⟨bw,0,none⟩)] 127 (0,0)) ∧
  (∀ k,Has (parts bw bm vN vP vW ws) k→n0≤k)∧n0≤L∧BP≠L∧¬ Has (parts bw bm vN vP vW ws) L∧¬ Has (parts bw bm vN vP vW ws) BP
theorem PSt.ext {L BP bw n0:Nat} {rec:LoopState→Option Code→Loop}:∀ ρ σ W W',PSt L BP bw n0 rec ρ σ W→Ext W W'→PSt L BP bw n0 rec ρ σ W':=by
 rintro ρ σ W W' ⟨bm,vN,vP,vW,ws,h1,h2,h3,h4,h5,h6,h7⟩ x
 exact ⟨bm,vN,vP,vW,ws,h1.ext x,h2,h3,x.block h4,x.block h5,h6,h7⟩
theorem PSt.lt {L BP bw n0:Nat} {rec:LoopState→Option Code→Loop}:∀ ρ σ W,PSt L BP bw n0 rec ρ σ W→n0≤W.heap.size∧∀ k,ρ k→n0≤k∧k<W.heap.size:=by
 rintro ρ σ W ⟨bm,vN,vP,vW,ws,h1,h2,h3,h4,h5,h6,h7,_⟩
 have hL:L<W.heap.size:=(Array.getElem?_eq_some_iff.1 h4).1
 refine ⟨by omega,fun k hk=>?_⟩
 rcases (h3 k).1 hk with h | rfl
 ·exact ⟨h6 k h,h1.lt k h⟩
 ·exact ⟨h7,hL⟩
theorem Keep.mono {S S':Nat→Prop} {w w':World} (h:Keep S w w') (hs:∀ k,S k→S' k):Keep S' w w':=⟨h.os,h.tape,h.output,h.size,fun k hk hn=>h.block k hk (fun x=>hn (hs k x))⟩
theorem Keep.putLoop (S:Nat→Prop) (w:World) (l:Nat) (o:Obj) (h:S l):Keep S w (w.putObj l o):=Keep.putObj S w l o h
theorem WkIn.put {W:World} {bw bm:Nat} {vN vP vW:Value} {ws:List Value} {σ:Wk} (h:WkIn W bw bm vN vP vW ws σ) (l:Nat) (o:Obj) (hn:¬ Has (parts bw bm vN vP vW ws) l):WkIn (W.putObj l o) bw bm vN vP vW ws σ :=
 WkG.same h fun r k hk=>(Keep.putObj (fun q=>q=l) W l o rfl).block k (WkG.lt h r k hk) (fun e=>hn (e ▸ ⟨r,hk⟩))
theorem places_yield (L BP bw n0 D:Nat) (u0 u1 u2 u3 u4 u6 u7 u8 u9 u10 u11 u12 u13 u14 u15 u16 u17 u18 u19 u20 u21 u22 u23 u24 u25 u26:Value):∀ (m:Nat) (ρ:Nat→Prop) (σ:Wk) (W:World) (name:ByteArray) (width beg:Int) (ua:Option Addr) (un uc d:Nat),
  PSt L BP bw n0 (recOf 77 #[u0,u1,u2,u3,u4,.pointer (some ⟨BP,0,none⟩),u6,u7,u8,u9,u10,u11,u12,u13,u14,u15,u16,u17,u18,u19,u20,u21,u22,u23,u24,u25,u26] #[15] plLoop.2.1 plLoop.2.2 D) ρ σ W→fits64 width→fits64 beg→1≤d→d≤7→d≤σ.ways.length →
  YieldAt Fence.wide m Tryz.prog L #[.agg #[.string name,.int .i64 width,.int .i64 beg,.slice ua un uc,.int .i64 d]] W (DP (PSt L BP bw n0 (recOf 77 #[u0,u1,u2,u3,u4,.pointer (some ⟨BP,0,none⟩),u6,u7,u8,u9,u10,u11,u12,u13,u14,u15,u16,u17,u18,u19,u20,u21,u22,u23,u24,u25,u26] #[15] plLoop.2.1 plLoop.2.2 D)) ρ W (d+1) (oneS σ name width beg d)):=by
 intro m ρ σ W name width beg ua un uc d hst hwid hbeg h1 h7 hdw
 have hstP:=qh hst
 obtain ⟨bm,vN,vP,vW,ws,hK,hG,hρ,hL,hBP,hn0,hnL,hBL,hLP,hBPP⟩:=hst
 obtain ⟨bW,capW,rfl,_,_⟩:=(WkG.wy hK).form (by omega)
 obtain ⟨i,rfl⟩:∃ i,d=i+1:=⟨d - 1,by omega⟩
 refine yieldAt_of Tryz.func77 hL (by rfl) ?_
 refine wpAt_of_in (n:=5) ?_
 conv=>arg 4;whnf
 generalize hrec:recOf 77 #[u0,u1,u2,u3,u4,.pointer (some ⟨BP,0,none⟩),u6,u7,u8,u9,u10,u11,u12,u13,u14,u15,u16,u17,u18,u19,u20,u21,u22,u23,u24,u25,u26] #[15] plLoop.2.1 plLoop.2.2 D=rec at *
 refine wpIn_mono (Q:=fun e a' w'=>e=.normal∧a' = { tmps:=#[u0,u1,u2,u3,u4,.pointer (some ⟨BP,0,none⟩),.pointer (some ⟨W.heap.size,0,none⟩),u7,u8,u9,u10,u11,u12,u13,u14,.agg #[.string name,.int .i64 width,.int .i64 beg,.slice ua un uc,.int .i64 ((i:Int)+1)],u16,u17,u18,u19,u20,u21,u22,u23,u24,u25,u26],defers:=[] }∧w'=W.alloc (.cells #[.string name,.int .i64 width,.int .i64 beg,.slice ua un uc,.int .i64 ((i:Int)+1)] 137)) ?_ ?_
 ·clear hK hG hρ hL hBP hn0 hnL hBL hLP hBPP hstP hrec
  gi_wp2
 rintro e a' w' ⟨rfl,rfl,rfl⟩
 have xa:Ext W (W.alloc (.cells #[.string name,.int .i64 width,.int .i64 beg,.slice ua un uc,.int .i64 ((i:Int)+1)] 137)):=Ext.alloc _ _
 refine ⟨xa.block hL,?_⟩
 have k1:Keep (fun q=>q=L) W ((W.alloc (.cells #[.string name,.int .i64 width,.int .i64 beg,.slice ua un uc,.int .i64 ((i:Int)+1)] 137)).putObj L (.loop (rec .busy none))):=(Keep.of_ext xa).trans (Keep.putLoop (fun q=>q=L) _ L _ rfl) (fun _ _ h=>h)
 have lL:L<W.heap.size:=(Array.getElem?_eq_some_iff.1 hL).1
 have K2:=qh ((hK.ext xa).put L (.loop (rec .busy none)) hLP)
 have L2:((W.alloc (.cells #[.string name,.int .i64 width,.int .i64 beg,.slice ua un uc,.int .i64 ((i:Int)+1)] 137)).putObj L (.loop (rec .busy none))).heap[L]?=some (.loop (rec .busy none)):=by
  show (Array.setIfInBounds _ L _)[L]?=_
  rw [Array.getElem?_setIfInBounds,if_pos rfl,if_pos (Nat.lt_of_lt_of_le lL xa.size)]
 have B2:=k1.block BP (Array.getElem?_eq_some_iff.1 hBP).1 hBL
 rw [hBP] at B2
 have bx:((W.alloc (.cells #[.string name,.int .i64 width,.int .i64 beg,.slice ua un uc,.int .i64 ((i:Int)+1)] 137)).putObj L (.loop (rec .busy none))).heap[W.heap.size]?=some (.cells #[.string name,.int .i64 width,.int .i64 beg,.slice ua un uc,.int .i64 ((i:Int)+1)] 137 (0,0)):=by
  have hn:¬ (W.heap.size=L):=by omega
  rw [(Keep.putLoop (fun q=>q=L) _ L (.loop (rec .busy none)) rfl).block W.heap.size (by simp) hn];exact heap_alloc_new W _
 generalize (W.alloc (.cells #[.string name,.int .i64 width,.int .i64 beg,.slice ua un uc,.int .i64 ((i:Int)+1)] 137)).putObj L (.loop (rec .busy none))=W2 at k1 K2 L2 B2 bx ⊢
 have p0:W2.cell? ⟨BP,0,none⟩=some (.pointer (some ⟨bw,0,none⟩)):=by simp [World.cell?,B2]
 have d0:W2.cell? ⟨W.heap.size,0,none⟩=some (.string name):=by simp [World.cell?,bx]
 have d1:W2.cell? ⟨W.heap.size,1,none⟩=some (.int .i64 width):=by simp [World.cell?,bx]
 have d2:W2.cell? ⟨W.heap.size,2,none⟩=some (.int .i64 beg):=by simp [World.cell?,bx]
 have d3:W2.cell? ⟨W.heap.size,3,none⟩=some (.slice ua un uc):=by simp [World.cell?,bx]
 have d4:W2.cell? ⟨W.heap.size,4,none⟩=some (.int .i64 ((i:Int)+1)):=by simp [World.cell?,bx]
 have hcapW:σ.ways.length≤capW:=by
  obtain ⟨_,_,e,h,_⟩:=(Row.of_owns (WkG.wy hK)).shape;cases e;exact h
 have one:=qh (one_any bw bm bW capW vN vP ws σ name width beg (.slice ua un uc) i W2 K2.out (by omega) hcapW hwid hbeg (by omega) hG)
 have kk1:=qh k1
 have HK:=qh hK
 have HG:=qh hG
 have HR:=qh hρ
 have HN:=qh hn0
 have HLP:=qh hLP
 have HBP:=qh hBPP
 have HB:=qh hBP
 have HB2:=qh B2
 have HL2:=qh L2
 clear hK hG hρ hL hBP hn0 hLP hBPP hstP k1 B2 L2 bx xa hrec
 refine wpAt_of_in (n:=5) ?_
 conv=>arg 4;whnf
 cases hone:oneS σ name width beg (i+1) with
 | error x =>
  rw [hone] at one
  gi_wp2_with ((try refine ⟨trivial,?_⟩);(try refine ⟨(fun h=>by cases h),?_⟩);gi_at_call 107;refine (CallsIn.inRound L (callsIn_wide.2 one.out)).mono ?_;clear one;rintro e W3 h3;have k3:=h3.1;have he:=h3.2;simp only [] at he;unfold stopped at he;subst he)
  refine ⟨rfl,?_⟩
  exact ⟨(kk1.out.mono (fun q h=>(HR.out q).2 (Or.inr h))).trans k3 (fun q _ h=>(HR.out q).2 (Or.inl h)),rfl⟩
 | ok σ' =>
  rw [hone] at one
  obtain ⟨hG',hlen'⟩:=good_one HG.out (by omega) hdw hone
  have HG':=qh hG'
  have ONE:=qh hone
  clear hG' hone
  gi_wp2_with ((try refine ⟨trivial,?_⟩);(try refine ⟨(fun h=>by cases h),?_⟩);gi_at_call 107;refine (CallsIn.inRound L (callsIn_wide.2 one.out)).mono ?_;clear one;rintro e W3 h3;obtain ⟨k3,rfl,bm',vN',vP',vW',ws',hK3,hg3⟩:=h3;have HK3:=qh hK3;have HG3:=qh hg3;have kk3:=qh k3;clear hK3 hg3 k3)
  have lL2:L<W2.heap.size:=(Array.getElem?_eq_some_iff.1 HL2.out).1
  have lB2:BP<W2.heap.size:=(Array.getElem?_eq_some_iff.1 HB2.out).1
  have hLP':¬ Has (parts bw bm' vN' vP' vW' ws') L:=fun h=>(HG3.out L h).elim HLP.out (fun h=>by omega)
  have hBPP':¬ Has (parts bw bm' vN' vP' vW' ws') BP:=fun h=>(HG3.out BP h).elim HBP.out (fun h=>by omega)
  have L3:W3.heap[L]?=some (.loop (rec .busy none)):=by rw [kk3.out.block L lL2 HLP.out];exact HL2.out
  have B3:W3.heap[BP]?=some (.cells #[.pointer (some ⟨bw,0,none⟩)] 127 (0,0)):=by rw [kk3.out.block BP lB2 HBP.out];exact HB2.out
  have kA:=(kk1.out.mono (fun q h=>(HR.out q).2 (Or.inr h))).trans kk3.out (fun q _ h=>(HR.out q).2 (Or.inl h))
  refine ⟨_,_,L3,kA.trans (Keep.putLoop ρ W3 L _ ((HR.out L).2 (Or.inr rfl))) (fun _ _ h=>h),rfl,fun k=>Has (parts bw bm' vN' vP' vW' ws') k∨k=L,⟨bm',vN',vP',vW',ws',HK3.out.put L _ hLP',HG'.out,fun k=>Iff.rfl,?_,?_,fun k hk=>?_,hnL,hBL,hLP',hBPP'⟩,fun k hk=>?_,by omega⟩
  ·show (Array.setIfInBounds _ L _)[L]?=_
   rw [Array.getElem?_setIfInBounds,if_pos rfl,if_pos (Array.getElem?_eq_some_iff.1 L3).1]
  ·rw [(Keep.putLoop (fun q=>q=L) W3 L (.loop (rec .ready none)) rfl).block BP (Array.getElem?_eq_some_iff.1 B3).1 hBL];exact B3
  ·rcases HG3.out k hk with h | h
   ·exact HN.out k h
   ·have:=kk1.out.size;omega
  ·rcases hk with h | rfl
   ·rcases HG3.out k h with h | h
    ·exact Or.inl ((HR.out k).2 (Or.inl h))
    ·exact Or.inr (Nat.le_trans kk1.out.size h)
   ·exact Or.inl ((HR.out k).2 (Or.inr rfl))
end Go.Proofs.YtligiddaampneaaGreat
end
section
namespace Go.Proofs.YtligiddaampneaaGreat
open Go.RowKit
attribute [local go_sem] Oper.semAt_some
theorem all_any (v:Value) (hv:v.oneCell'=true) (w:World):Calls Tryz.prog 106 #[v] w fun e w'=>e=.returned (.func (.func 136) #[] #[.pointer (some ⟨w.heap.size,0,none⟩)])∧w'=w.alloc (.cells #[v] 22):=by
 go_enter Tryz.func106,Tryz.ntmps106
 go_wp2
 go_ret
 exact ⟨rfl,rfl⟩
def AP (St:(Nat→Prop)→Wk→World→Prop) (ρ:Nat→Prop) (W:World) (r:Except Int Wk) (e:Ending) (W':World):Prop :=
 Keep ρ W W'∧match r with
  | .error x=>e=stopped x
  | .ok σ'=>e=.returned (.tuple #[])∧∃ ρ',St ρ' σ' W'∧(∀ k,ρ' k→ρ k∨W.heap.size≤k)
theorem all1_in (L n0 B:Nat) (St:(Nat→Prop)→Wk→World→Prop) (hext:∀ ρ σ W W',St ρ σ W→Ext W W'→St ρ σ W') (hlt:∀ ρ σ W,St ρ σ W→n0≤W.heap.size∧∀ k,ρ k→n0≤k∧k<W.heap.size)
    (hY:∀ m ρ σ W name width beg ua (un uc d:Nat),St ρ σ W→fits64 width→fits64 beg→1≤d→d≤7→d≤σ.ways.length →
      YieldAt Fence.wide m Tryz.prog L #[.agg #[.string name,.int .i64 width,.int .i64 beg,.slice ua un uc,.int .i64 d]] W (DP St ρ W (d+1) (oneS σ name width beg d)))
    (l:List RegT) (a:Option Addr) (len cap:Nat) (ρ:Nat→Prop) (σ:Wk) (W:World) (n:Nat) (hB:W.cell? ⟨B,0,none⟩=some (.slice a len cap)) (hr:RegsIn W n0 (.slice a len cap) l) (hst:St ρ σ W) (hw:1≤σ.ways.length) :
    CallsIn Fence.wide n Tryz.prog 136 #[.func (.yield L) #[] #[],.pointer (some ⟨B,0,none⟩)] W (AP St ρ W (downS 7 1 l σ)):=by
  have hd:=qh (down_in L n0 St hext hlt hY 7 1 l (.slice a len cap) ρ σ W (n - 1) rfl (by omega) hr hst hw)
  clear hext hlt hY hr hst hw
  refine callsIn_of_wp Tryz.func136 rfl trivial ?_
  simp only [Tryz.ntmps136,List.size_toArray,List.length_cons,List.length_nil,Nat.reduceAdd,Nat.reduceSub,Array.replicate_succ,Array.replicate_zero,List.push_toArray,List.append_toArray,List.nil_append,List.cons_append]
  cases hdn:downS 7 1 l σ with
  | error x =>
    rw [hdn] at hd
    clear hdn
    gi_wp2_with ((try refine ⟨trivial,?_⟩);(try refine ⟨(fun h=>by cases h),?_⟩);gi_at_call 137;refine hd.out.mono ?_;clear hd;rintro e W3 h3;obtain ⟨k3,he⟩:=DP.err h3;unfold stopped at he;subst he)
    exact ⟨rfl,k3,rfl⟩
  | ok σ' =>
    rw [hdn] at hd
    clear hdn
    gi_wp2_with ((try refine ⟨trivial,?_⟩);(try refine ⟨(fun h=>by cases h),?_⟩);gi_at_call 137;refine hd.out.mono ?_;clear hd;rintro e W3 h3;obtain ⟨k3,rfl,ρ',st3,hρ',_⟩:=DP.ok h3;have ST3:=qh st3;have HR:=qh hρ';clear st3 hρ')
    go_end0
    exact ⟨k3,rfl,ρ',ST3.out,HR.out⟩
theorem places1_ret (b2 b3 b4:Nat) (w:World) (n:Nat) :
  CallsDIn Fence.wide n Tryz.prog 105 #[.pointer (some ⟨b2,0,none⟩),.pointer (some ⟨b3,0,none⟩),.pointer (some ⟨b4,0,none⟩)] .returning w fun e u' w'=>e=.returned (.tuple #[])∧u'=.returning∧w'=w:=by
 refine callsDIn_of_wpSIn Tryz.func105 rfl trivial (fun c₀ cs hu=>?_)
 simp only [Tryz.ntmps105,List.size_toArray,List.length_cons,List.length_nil,Nat.reduceAdd,Nat.reduceSub,Array.replicate_succ,Array.replicate_zero,List.push_toArray,List.append_toArray,List.nil_append,List.cons_append]
 refine wpSIn_seq ?_
 refine wpSIn_region ?_
 simp [wpOpsSIn,go_sem,recoverD,hu]
 show Code.wpSIn _ _ _ _ _ _ _ _
 refine wpSIn_of_wpIn rfl (wpIn_wide.2 ?_)
 go_wp2
 refine ⟨rfl,.returning,?_,_,results_none rfl _ _ _,rfl,rfl,rfl⟩
 cases c₀
 simp only [] at hu
 subst hu
 rfl
theorem places1_rec (b2 b3 b4:Nat) (x:Int) (W:World) (n:Nat) (v2 v3 v4:Value) (c2:W.heap[b2]?=some (.cells #[v2] 25 (0,0))) (c3:W.heap[b3]?=some (.cells #[v3] 45 (0,0))) (c4:W.heap[b4]?=some (.cells #[v4] 65 (0,0)))
  (h23:b2≠b3) (h24:b2≠b4) (h34:b3≠b4) :
  CallsDIn Fence.wide n Tryz.prog 105 #[.pointer (some ⟨b2,0,none⟩),.pointer (some ⟨b3,0,none⟩),.pointer (some ⟨b4,0,none⟩)] (.panicking [{ v:=.iface 125 (.agg #[.int .i64 x]),recovered:=false }]) W
   fun e u' w'=>e=.returned (.tuple #[])∧u'=.panicking [{ v:=.iface 125 (.agg #[.int .i64 x]),recovered:=true }]∧Keep (fun k=>k=b2∨k=b3∨k=b4) W w' ∧
    w'.heap[b2]?=some (.cells #[.slice none 0 0] 25 (0,0))∧w'.heap[b3]?=some (.cells #[.slice none 0 0] 45 (0,0))∧w'.heap[b4]?=some (.cells #[.int .i64 x] 65 (0,0)):=by
 refine callsDIn_of_wpSIn Tryz.func105 rfl trivial (fun c₀ cs hu=>?_)
 simp only [Tryz.ntmps105,List.size_toArray,List.length_cons,List.length_nil,Nat.reduceAdd,Nat.reduceSub,Array.replicate_succ,Array.replicate_zero,List.push_toArray,List.append_toArray,List.nil_append,List.cons_append]
 refine wpSIn_seq ?_
 refine wpSIn_region ?_
 simp [wpOpsSIn,go_sem,recoverD,hu]
 show Code.wpSIn _ _ _ _ _ _ _ _
 refine wpSIn_of_wpIn rfl (wpIn_wide.2 ?_)
 have ta:∀ w:World,(Instr.typeAssert (.iface 125 (.agg #[.int .i64 x])) 20 125 true).run Tryz.prog w=.ok (.tuple #[.agg #[.int .i64 x],.bool true]) w:=fun w=>by kernel_rfl
 go_wp2
 have xa:Ext W (W.alloc (.cells #[.int .i64 x] 125)).drew:=(Ext.alloc W _).trans (Ext.drew _)
 have l2:b2<W.heap.size:=(Array.getElem?_eq_some_iff.1 c2).1
 have l3:b3<W.heap.size:=(Array.getElem?_eq_some_iff.1 c3).1
 have l4:b4<W.heap.size:=(Array.getElem?_eq_some_iff.1 c4).1
 have c2:=xa.block c2
 have c3:=xa.block c3
 have c4:=xa.block c4
 have kx:=Keep.of_ext (S:=fun k=>k=b2∨k=b3∨k=b4) xa
 have cx:(W.alloc (.cells #[.int .i64 x] 125)).drew.cell? ⟨W.heap.size,0,none⟩=some (.int .i64 x):=cell_new W _ _ 0
 refine wp_region_M (fun w'=>w'.cell? ⟨W.heap.size,0,none⟩=some (.int .i64 x)) 4 (by kernel_rfl) cx (fun hS=>?_)
 generalize (W.alloc (.cells #[.int .i64 x] 125)).drew=W1 at xa c2 c3 c4 kx cx hS ⊢
 obtain ⟨bs,hbs⟩:∃ b,W.heap.size=b:=⟨_,rfl⟩
 rw [hbs] at hS cx ⊢
 refine' tk 0 hS ?_ ?_;rotate_left;·intros;go_simp;try rfl
 refine' tk 1 hS ?_ ?_;rotate_left;·intros;go_simp;try rfl
 try simp only [tD]
 refine rc 2 fun K hK=>?_
 have e2:W1.cell? ⟨b2,0,none⟩=some v2:=by simp [World.cell?,c2]
 have f2:W1.frozen? ⟨b2,0,none⟩=false:=by simp [World.frozen?,c2]
 go_simp
 have k2:=Keep.setCell (fun k=>k=b2) W1 ⟨b2,0,none⟩ (.slice none 0 0) rfl
 have s2:(W1.setCell ⟨b2,0,none⟩ (.slice none 0 0)).heap[b2]?=some (.cells #[.slice none 0 0] 25 (0,0)):=heap_set_cells c2 0 _
 have cx2:=k2.cell cx (fun (e:bs=b2)=>by omega)
 refine hK.out _ _ cx2 ?_
 try simp only [tD]
 clear hK K hS e2 f2
 have c3:(W1.setCell ⟨b2,0,none⟩ (.slice none 0 0)).heap[b3]?=some (.cells #[v3] 45 (0,0)):=by rw [k2.block b3 (Array.getElem?_eq_some_iff.1 c3).1 (Ne.symm h23)];exact c3
 have c4:(W1.setCell ⟨b2,0,none⟩ (.slice none 0 0)).heap[b4]?=some (.cells #[v4] 65 (0,0)):=by rw [k2.block b4 (Array.getElem?_eq_some_iff.1 c4).1 (Ne.symm h24)];exact c4
 have kx:=kx.trans k2 (fun k _ h=>Or.inl h)
 generalize W1.setCell ⟨b2,0,none⟩ (.slice none 0 0)=W2 at c3 c4 cx2 s2 kx k2 ⊢
 refine rc 3 fun K hK=>?_
 have e3:W2.cell? ⟨b3,0,none⟩=some v3:=by simp [World.cell?,c3]
 have f3:W2.frozen? ⟨b3,0,none⟩=false:=by simp [World.frozen?,c3]
 go_simp
 have k3:=Keep.setCell (fun k=>k=b3) W2 ⟨b3,0,none⟩ (.slice none 0 0) rfl
 have s3:(W2.setCell ⟨b3,0,none⟩ (.slice none 0 0)).heap[b3]?=some (.cells #[.slice none 0 0] 45 (0,0)):=heap_set_cells c3 0 _
 have cx3:=k3.cell cx2 (fun (e:bs=b3)=>by omega)
 refine hK.out _ _ cx3 ?_
 try simp only [tD]
 clear hK K e3 f3
 have c4:(W2.setCell ⟨b3,0,none⟩ (.slice none 0 0)).heap[b4]?=some (.cells #[v4] 65 (0,0)):=by rw [k3.block b4 (Array.getElem?_eq_some_iff.1 c4).1 (Ne.symm h34)];exact c4
 have s2:(W2.setCell ⟨b3,0,none⟩ (.slice none 0 0)).heap[b2]?=some (.cells #[.slice none 0 0] 25 (0,0)):=by rw [k3.block b2 (Array.getElem?_eq_some_iff.1 s2).1 h23];exact s2
 have kx:=kx.trans k3 (fun k _ h=>Or.inr (Or.inl h))
 generalize W2.setCell ⟨b3,0,none⟩ (.slice none 0 0)=W3 at c4 s2 s3 kx k3 ⊢
 refine rl 4 fun K hK=>?_
 have e4:W3.cell? ⟨b4,0,none⟩=some v4:=by simp [World.cell?,c4]
 have f4:W3.frozen? ⟨b4,0,none⟩=false:=by simp [World.frozen?,c4]
 go_simp
 have k4:=Keep.setCell (fun k=>k=b4) W3 ⟨b4,0,none⟩ (.int .i64 x) rfl
 have s4:(W3.setCell ⟨b4,0,none⟩ (.int .i64 x)).heap[b4]?=some (.cells #[.int .i64 x] 65 (0,0)):=heap_set_cells c4 0 _
 refine hK.out _ _ ?_
 try simp only [tD]
 clear hK K e4 f4
 have s2:(W3.setCell ⟨b4,0,none⟩ (.int .i64 x)).heap[b2]?=some (.cells #[.slice none 0 0] 25 (0,0)):=by rw [k4.block b2 (Array.getElem?_eq_some_iff.1 s2).1 h24];exact s2
 have s3:(W3.setCell ⟨b4,0,none⟩ (.int .i64 x)).heap[b3]?=some (.cells #[.slice none 0 0] 45 (0,0)):=by rw [k4.block b3 (Array.getElem?_eq_some_iff.1 s3).1 h34];exact s3
 have kx:=kx.trans k4 (fun k _ h=>Or.inr (Or.inr h))
 refine wpAnyM_done (by kernel_rfl) ?_ _
 refine ⟨rfl,.panicking [{ v:=.iface 125 (.agg #[.int .i64 x]),recovered:=true }],rfl,_,results_none rfl _ _ _,rfl,rfl,kx,s2,s3,s4⟩
end Go.Proofs.YtligiddaampneaaGreat
end
section
namespace Go.Proofs.YtligiddaampneaaGreat
open Go.RowKit
def wk0:Wk := { names:=[],places:=[],ways:=[(⟨0,0,0⟩,[])],roots:=0 }
def placesS (l:List RegT):Except Int Wk:=downS 7 1 l wk0
def PlacesPost (w:World) (r:Except Int Wk) (e:Ending) (w':World):Prop :=
 Ext w w'∧match r with
  | .error x=>e=.returned (.tuple #[.slice none 0 0,.slice none 0 0,.int .i64 x])
  | .ok σ=>∃ vN vP,e=.returned (.tuple #[vN,vP,.int .i64 0])∧w'.ownsRow 0 9 1 vN σ.names.length (σ.names.map Value.string)∧w'.ownsRow 0 88 3 vP σ.places.length (plCells σ.places)∧σ.Good
def PlacesPost2 (w:World) (r:Except Int Wk) (e:Ending) (w':World):Prop :=
 Ext w w'∧match r with
  | .error x=>e=.returned (.tuple #[.slice none 0 0,.slice none 0 0,.int .i64 x])
  | .ok σ=>∃ vN vP,e=.returned (.tuple #[vN,vP,.int .i64 0])∧w'.ownsRow w.heap.size 9 1 vN σ.names.length (σ.names.map Value.string)∧w'.ownsRow w.heap.size 88 3 vP σ.places.length (plCells σ.places)∧σ.Good
theorem owns_up {w:World} {base b2 size:Nat} {e:TypeId} {v:Value} {n:Nat} {xs:List Value} (h:w.ownsRow base e size v n xs) (hb:∀ k,v.ownBlock=some k→b2≤k):w.ownsRow b2 e size v n xs:=by
 refine ⟨h.1,?_⟩
 rcases h.2 with h2 | ⟨g,cap,cur,rfl,h3,r⟩
 ·exact Or.inl h2
 ·exact Or.inr ⟨g,cap,cur,rfl,hb g rfl,r⟩
theorem owns_down {w:World} {base size:Nat} {e:TypeId} {v:Value} {n:Nat} {xs:List Value} (h:w.ownsRow base e size v n xs):w.ownsRow 0 e size v n xs:=owns_up h (fun _ _=>Nat.zero_le _)
theorem res7 (w:World) (tm:Array Value) (b2 b3 b4:Nat) (a2 a3:Option Addr) (n2 m2 n3 m3:Nat) (x:Int) (h2:tm.getD 2 undef=.pointer (some ⟨b2,0,none⟩)) (h3:tm.getD 3 undef=.pointer (some ⟨b3,0,none⟩)) (h4:tm.getD 4 undef=.pointer (some ⟨b4,0,none⟩))
  (c2:w.cell? ⟨b2,0,none⟩=some (.slice a2 n2 m2)) (c3:w.cell? ⟨b3,0,none⟩=some (.slice a3 n3 m3)) (c4:w.cell? ⟨b4,0,none⟩=some (.int .i64 x)) :
  (results Tryz.f77 tm).run Tryz.prog w=.ok (.tuple #[.slice a2 n2 m2,.slice a3 n3 m3,.int .i64 x]) w:=by
 simp only [Array.getD_eq_getD_getElem?] at h2 h3 h4
 simp [results,Tryz.results77,go_sem,h2,h3,h4,c2,c3,c4]
theorem Ext.keep {S:Nat→Prop} {a b c:World} (h:Ext a b) (k:Keep S b c) (hs:∀ q,S q→a.heap.size≤q):Ext a c :=
 ⟨k.os.trans (Below.os h),k.tape.trans (Below.tape h),k.output.trans (Below.output h),Nat.le_trans (Below.size h) k.size,fun q hq=>(k.block q (Nat.lt_of_lt_of_le hq (Below.size h)) (fun hS=>by have:=hs q hS;omega)).trans (Below.block h q hq)⟩
def noPanic (Q:Exit→Act→World→Prop):Exit→Act→World→Prop
 | .panic _,_,_=>False
 | e,a,w=>Q e a w
theorem wp_noPanic {P:Program} {c:Code} {Q:Exit→Act→World→Prop} {a:Act} {w:World} (h:c.wp P (noPanic Q) a w):c.wp P Q a w :=
 wp_mono h (fun e a w h=>by cases e <;> first | exact h | exact h.elim)
structure Laid (w W:World) (a:Option Addr) (len cap:Nat):Prop where
 ext:Ext w W
 size:W.heap.size=w.heap.size+8
 b0:W.heap[w.heap.size]?=some (.cells #[.slice none 0 0] 25 (0,0))
 b1:W.heap[w.heap.size+1]?=some (.cells #[.slice none 0 0] 45 (0,0))
 b2:W.heap[w.heap.size+2]?=some (.cells #[.int .i64 0] 65 (0,0))
 b3:W.heap[w.heap.size+3]?=some (.map #[] 0)
 b4:W.heap[w.heap.size+4]?=some (.cells #[.int .i64 0,.int .i64 0,.int .i64 0,.slice none 0 0] 129 (0,0))
 b5:W.heap[w.heap.size+5]?=some (.cells #[.slice none 0 0,.slice none 0 0,.map (some (w.heap.size+3)),.slice (some ⟨w.heap.size+4,0,none⟩) 1 1,.int .i64 0] 132 (0,0))
 b6:W.heap[w.heap.size+6]?=some (.cells #[.pointer (some ⟨w.heap.size+5,0,none⟩)] 127 (0,0))
 b7:W.heap[w.heap.size+7]?=some (.cells #[.slice a len cap] 22 (0,0))
theorem new_at (W:World) (o:Obj) (n:Nat) (h:W.heap.size=n):(W.alloc o).heap[n]?=some o:=by subst h;exact heap_alloc_new W o
theorem laid8 (w:World) (a:Option Addr) (len cap:Nat):Laid w ((((((((w.alloc (.cells #[.slice none 0 0] 25)).alloc (.cells #[.slice none 0 0] 45)).alloc (.cells #[.int .i64 0] 65)).alloc (.map #[] 0)).alloc (.cells #[.int .i64 0,.int .i64 0,.int .i64 0,.slice none 0 0] 129)).alloc (.cells #[.slice none 0 0,.slice none 0 0,.map (some (w.heap.size+1+1+1)),.slice (some ⟨w.heap.size+1+1+1+1,0,none⟩) 1 1,.int .i64 0] 132)).alloc (.cells #[.pointer (some ⟨w.heap.size+1+1+1+1+1,0,none⟩)] 127)).alloc (.cells #[.slice a len cap] 22)) a len cap:=by
 refine ⟨?_,by simp,?_,?_,?_,?_,?_,?_,?_,?_⟩
 ·exact (((((((Ext.alloc _ _).trans (Ext.alloc _ _)).trans (Ext.alloc _ _)).trans (Ext.alloc _ _)).trans (Ext.alloc _ _)).trans (Ext.alloc _ _)).trans (Ext.alloc _ _)).trans (Ext.alloc _ _)
 all_goals repeat (first | exact new_at _ _ _ (by simp) | refine (Ext.alloc _ _).block ?_)
theorem start_wk {w W:World} {a:Option Addr} {len cap:Nat} (h:Laid w W a len cap):WkIn W (w.heap.size+5) (w.heap.size+3) (.slice none 0 0) (.slice none 0 0) (.slice (some ⟨w.heap.size+4,0,none⟩) 1 1) [.slice none 0 0] wk0:=by
 refine ⟨h.b5,h.b3,World.ownsRow_nil _ _ _ _,World.ownsRow_nil _ _ _ _,⟨rfl,Or.inr ⟨_,_,_,rfl,Nat.zero_le _,h.b4,by decide,by decide,rfl,rfl⟩⟩,rfl,rfl,?_,?_⟩
 ·intro i x v hx hv
  match i,hx,hv with
  | 0,hx,hv=>simp [wk0] at hx hv;subst hx;subst hv;exact World.ownsRow_nil _ _ _ _
  | i+1,hx,_=>simp [wk0] at hx
 ·have key:∀ r k,parts (w.heap.size+5) (w.heap.size+3) (.slice none 0 0) (.slice none 0 0) (.slice (some ⟨w.heap.size+4,0,none⟩) 1 1) [.slice none 0 0] r=some k→(r=0∧k=w.heap.size+5)∨(r=1∧k=w.heap.size+3)∨(r=4∧k=w.heap.size+4):=by
   intro r k hk
   match r,hk with
   | 0,hk=>cases hk;exact Or.inl ⟨rfl,rfl⟩
   | 1,hk=>cases hk;exact Or.inr (Or.inl ⟨rfl,rfl⟩)
   | 2,hk=>cases hk
   | 3,hk=>cases hk
   | 4,hk=>cases hk;exact Or.inr (Or.inr ⟨rfl,rfl⟩)
   | 5,hk=>cases hk
   | j+6,hk=>simp [parts] at hk
  intro r r' k h1 h2
  rcases key r k h1 with ⟨rfl,e⟩ | ⟨rfl,e⟩ | ⟨rfl,e⟩ <;> rcases key r' k h2 with ⟨rfl,e'⟩ | ⟨rfl,e'⟩ | ⟨rfl,e'⟩ <;> first | rfl | (exfalso;omega)
theorem start_has {n:Nat}:∀ k,Has (parts (n+5) (n+3) (.slice none 0 0) (.slice none 0 0) (.slice (some ⟨n+4,0,none⟩) 1 1) [.slice none 0 0]) k→n+3≤k∧k≤n+5:=by
 rintro k ⟨r,hk⟩
 match r,hk with
 | 0,hk=>cases hk;omega
 | 1,hk=>cases hk;omega
 | 2,hk=>cases hk
 | 3,hk=>cases hk
 | 4,hk=>cases hk;exact ⟨by show n+3≤n+4;omega,by show n+4≤n+5;omega⟩
 | 5,hk=>cases hk
 | j+6,hk=>simp [parts] at hk
theorem start_good:wk0.Good:=by
 refine ⟨rfl,⟨by decide,by decide⟩,by decide,by decide,?_,?_⟩
 ·intro j x hx
  match j,hx with
  | 0,hx=>simp [wk0] at hx;subst hx;exact ⟨by decide,by decide⟩
  | j+1,hx=>simp [wk0] at hx
 ·intro j x hx
  match j,hx with
  | 0,hx=>simp [wk0] at hx;subst hx;exact ⟨by decide,fun q hq=>by simp at hq⟩
  | j+1,hx=>simp [wk0] at hx
theorem places2_any (l:List RegT) (a:Option Addr) (len cap:Nat) (w:World) (hr:RegsIn w w.heap.size (.slice a len cap) l):Calls Tryz.prog 77 #[.slice a len cap] w (PlacesPost2 w (placesS l)):=by
 refine calls_of_wpAt Tryz.func77 rfl ?_
 simp only [Tryz.ntmps77,List.size_toArray,List.length_cons,List.length_nil,Nat.reduceAdd,Nat.reduceSub,Array.replicate_succ,Array.replicate_zero,List.push_toArray,List.append_toArray,List.nil_append,List.cons_append]
 have HR:=qh hr
 clear hr
 have hmm:=@run_makeMap Tryz.prog
 refine wpAt_seq (wpAt_of_wp (wp_hide (fun Q1 hQ1=>?_)))
 go_wp2
 refine wpAt_seq (wpAt_of_wp (wp_hide (fun Q2 hQ2=>?_)))
 go_wp2
 refine wpAt_seq (wpAt_of_wp (wp_hide (fun Q3 hQ3=>?_)))
 go_wp2
 refine wpAt_seq (wpAt_seq (wpAt_of_wp (wp_hide (fun Q4 hQ4=>?_))))
 go_wp2_with (go_at_call 106;refine (all_any _ rfl _).mono ?_;rintro e w' ⟨rfl,rfl⟩)
 refine wpAt_block ?_
 have hld:=laid8 w a len cap
 generalize ((((((((w.alloc (.cells #[.slice none 0 0] 25)).alloc (.cells #[.slice none 0 0] 45)).alloc (.cells #[.int .i64 0] 65)).alloc (.map #[] 0)).alloc (.cells #[.int .i64 0,.int .i64 0,.int .i64 0,.slice none 0 0] 129)).alloc (.cells #[.slice none 0 0,.slice none 0 0,.map (some (w.heap.size+1+1+1)),.slice (some ⟨w.heap.size+1+1+1+1,0,none⟩) 1 1,.int .i64 0] 132)).alloc (.cells #[.pointer (some ⟨w.heap.size+1+1+1+1+1,0,none⟩)] 127)).alloc (.cells #[.slice a len cap] 22))=W8 at hld ⊢
 have hz:=hld.size
 refine wpAt_range (n:=9) (gf:=136) (lb:=#[.pointer (some ⟨w.heap.size+1+1+1+1+1+1+1,0,none⟩)]) rfl (enters_of Tryz.func136 (by kernel_rfl) rfl) ?_
 have hB:W8.cell? ⟨w.heap.size+7,0,none⟩=some (.slice a len cap):=by simp [World.cell?,hld.b7]
 have hy:=places_yield (W8.heap.size+1) (w.heap.size+6) (w.heap.size+5) w.heap.size W8.heap.size (.slice a len cap) undef (.pointer (some ⟨w.heap.size,0,none⟩)) (.pointer (some ⟨w.heap.size+1,0,none⟩)) (.pointer (some ⟨w.heap.size+2,0,none⟩)) undef
  (.func (.func 105) #[] #[.pointer (some ⟨w.heap.size,0,none⟩),.pointer (some ⟨w.heap.size+1,0,none⟩),.pointer (some ⟨w.heap.size+2,0,none⟩)]) (.map (some (w.heap.size+3)))
  (.agg #[.int .i64 0,.int .i64 0,.int .i64 0,.slice none 0 0]) (.slice (some ⟨w.heap.size+4,0,none⟩) 1 1) (.agg #[.slice none 0 0,.slice none 0 0,.map (some (w.heap.size+3)),.slice (some ⟨w.heap.size+4,0,none⟩) 1 1,.int .i64 0])
  (.pointer (some ⟨w.heap.size+5,0,none⟩)) (.slice a len cap) (.func (.func 136) #[] #[.pointer (some ⟨w.heap.size+7,0,none⟩)]) undef undef undef undef undef undef undef undef undef undef undef undef
 generalize hrec:recOf 77 _ #[15] plLoop.2.1 plLoop.2.2 W8.heap.size=rec at hy
 obtain ⟨W10,hW10⟩:∃ W10,(W8.alloc (.deferred (some []))).alloc (.loop (rec .ready none))=W10:=⟨_,rfl⟩
 have x10:Ext W8 W10:=by rw [← hW10];exact (Ext.alloc _ _).trans (Ext.alloc _ _)
 have hD:W10.heap[W8.heap.size]?=some (.deferred (some [])):=by rw [← hW10];exact (Ext.alloc _ _).block (heap_alloc_new W8 _)
 have hL:W10.heap[W8.heap.size+1]?=some (.loop (rec .ready none)):=by rw [← hW10];exact new_at _ _ _ (by simp)
 have hst:PSt (W8.heap.size+1) (w.heap.size+6) (w.heap.size+5) w.heap.size rec (fun k=>Has (parts (w.heap.size+5) (w.heap.size+3) (.slice none 0 0) (.slice none 0 0) (.slice (some ⟨w.heap.size+4,0,none⟩) 1 1) [.slice none 0 0]) k∨k=W8.heap.size+1) wk0 W10 :=
  ⟨_,_,_,_,_,(start_wk hld).ext x10,start_good,fun k=>Iff.rfl,hL,x10.block hld.b6,fun k hk=>by have:=start_has k hk;omega,by omega,by omega,fun hk=>by have:=start_has _ hk;omega,fun hk=>by have:=start_has _ hk;omega⟩
 have main:=all1_in (W8.heap.size+1) w.heap.size (w.heap.size+7) (PSt (W8.heap.size+1) (w.heap.size+6) (w.heap.size+5) w.heap.size rec) PSt.ext PSt.lt hy l a len cap _ wk0 W10 9 (x10.cell hB) (HR.out.same (fun k hk=>(Below.block x10 k (by omega)).trans (Below.block hld.ext k hk))) hst (by decide)
 have HMAIN:=main
 rw [← hW10,← hrec] at main
 refine main.mono ?_
 clear main hy
 intro e W' hAP
 change rangeEnd _ _ _ _ (recOf 77 _ #[15] plLoop.2.1 plLoop.2.2 W8.heap.size) _ _ _ _
 rw [hrec] at hAP ⊢
 rw [hW10] at hAP
 clear hrec
 obtain ⟨kA,hm⟩:=hAP
 have notin:∀ k,k<w.heap.size+3∨k=w.heap.size+6∨k=W8.heap.size→¬ (Has (parts (w.heap.size+5) (w.heap.size+3) (.slice none 0 0) (.slice none 0 0) (.slice (some ⟨w.heap.size+4,0,none⟩) 1 1) [.slice none 0 0]) k∨k=W8.heap.size+1):=by
  rintro k hk (h | h)
  ·have:=start_has k h;omega
  ·omega
 have s10:W8.heap.size+1<W10.heap.size:=(Array.getElem?_eq_some_iff.1 hL).1
 have hD':W'.heap[W8.heap.size]?=some (.deferred (some [])):=by rw [kA.block _ (by omega) (notin _ (Or.inr (Or.inr rfl)))];exact hD
 have c0:W'.heap[w.heap.size]?=some (.cells #[.slice none 0 0] 25 (0,0)):=by rw [kA.block _ (by omega) (notin _ (by omega))];exact x10.block hld.b0
 have c1:W'.heap[w.heap.size+1]?=some (.cells #[.slice none 0 0] 45 (0,0)):=by rw [kA.block _ (by omega) (notin _ (by omega))];exact x10.block hld.b1
 have c2:W'.heap[w.heap.size+2]?=some (.cells #[.int .i64 0] 65 (0,0)):=by rw [kA.block _ (by omega) (notin _ (by omega))];exact x10.block hld.b2
 have ext':Ext w W':=⟨by rw [kA.os,Below.os x10,Below.os hld.ext],by rw [kA.tape,Below.tape x10,Below.tape hld.ext],by rw [kA.output,Below.output x10,Below.output hld.ext],by have:=kA.size;omega,fun k hk=>by
  rw [kA.block k (by omega) (notin _ (by omega)),Below.block x10 k (by omega),Below.block hld.ext k hk]⟩
 have ki:∀ (c:Array Value) (W:World),(invoke (.fn (.func 105) c) #[]).run Tryz.prog W=.ok (.enter 105 (#[] ++ c)) W:=fun c W=>by
  simp [invoke,go_sem]
 cases hp:placesS l with
 | error x =>
  have hm':e=stopped x:=by
   have h:match placesS l with | .error x=>e=stopped x | .ok σ'=>_:=hm
   rw [hp] at h;exact h
  subst hm'
  show LeavesInM Fence.wide 1 Tryz.prog Tryz.f77 _ _ _ _ _
  refine ⟨by simp,Or.inl ⟨W8.heap.size,_,rfl,run_takeDeferred hD',?_⟩⟩
  have kD:=Keep.putLoop (fun k=>k=W8.heap.size) W' W8.heap.size (.deferred none) rfl
  have sW:W8.heap.size<W'.heap.size:=(Array.getElem?_eq_some_iff.1 hD').1
  refine ⟨by simp,Or.inr ⟨fun h=>(by cases h),_,_,105,_,rfl,ki _ _,fun _ _=>trivial,?_⟩⟩
  refine (places1_rec w.heap.size (w.heap.size+1) (w.heap.size+2) x _ _ _ _ _ (by rw [kD.block _ (by omega) (by show ¬ _=_;omega)];exact c0) (by rw [kD.block _ (by omega) (by show ¬ _=_;omega)];exact c1) (by rw [kD.block _ (by omega) (by show ¬ _=_;omega)];exact c2) (by omega) (by omega) (by omega)).mono ?_
  rintro e' u' w'' ⟨rfl,rfl,kR,t0,t1,t2⟩
  refine ⟨_,res7 w'' _ w.heap.size (w.heap.size+1) (w.heap.size+2) _ _ _ _ _ _ _ rfl rfl rfl (cell_of_one t0) (cell_of_one t1) (cell_of_one t2),?_,rfl⟩
  exact (ext'.keep kD (fun q (e:q=W8.heap.size)=>by omega)).keep kR (fun q h=>by rcases h with h | h | h <;> omega)
 | ok σ =>
  have hm':e=.returned (.tuple #[])∧∃ ρ',PSt (W8.heap.size+1) (w.heap.size+6) (w.heap.size+5) w.heap.size rec ρ' σ W'∧∀ k,ρ' k→(Has (parts (w.heap.size+5) (w.heap.size+3) (.slice none 0 0) (.slice none 0 0) (.slice (some ⟨w.heap.size+4,0,none⟩) 1 1) [.slice none 0 0]) k∨k=W8.heap.size+1)∨W10.heap.size≤k:=by
   have h:match placesS l with | .error x=>e=stopped x | .ok σ'=>_:=hm
   rw [hp] at h;exact h
  obtain ⟨rfl,ρ',⟨bm,vN,vP,vW,ws,hK,hG,hρ,hL',hBP',hn0,hnL,hBL,hLP,hBPP⟩,hgr⟩:=hm'
  obtain ⟨aN,nN,cN,rfl⟩:∃ aN nN cN,vN=.slice aN nN cN:=by obtain ⟨a,cap,e,_,_⟩:=(Row.of_owns (WkG.nm hK)).shape;exact ⟨a,_,cap,e⟩
  obtain ⟨aP,nP,cP,rfl⟩:∃ aN nN cN,vP=.slice aN nN cN:=by obtain ⟨a,cap,e,_,_⟩:=(Row.of_owns (WkG.pl hK)).shape;exact ⟨a,_,cap,e⟩
  refine ⟨.ready,none,hL',by simp,?_⟩
  show wpAt _ _ _ _ _ _ _
  have kL:=Keep.putLoop (fun k=>k=W8.heap.size+1) W' (W8.heap.size+1) (.loop (rec .exhausted none)) rfl
  have sW:W8.heap.size+1<W'.heap.size:=(Array.getElem?_eq_some_iff.1 hL').1
  have K2:=qh (hK.put (W8.heap.size+1) (.loop (rec .exhausted none)) hLP)
  have c0:(W'.putObj (W8.heap.size+1) (.loop (rec .exhausted none))).heap[w.heap.size]?=some (.cells #[.slice none 0 0] 25 (0,0)):=by rw [kL.block _ (by omega) (by show ¬ _=_;omega)];exact c0
  have c1:(W'.putObj (W8.heap.size+1) (.loop (rec .exhausted none))).heap[w.heap.size+1]?=some (.cells #[.slice none 0 0] 45 (0,0)):=by rw [kL.block _ (by omega) (by show ¬ _=_;omega)];exact c1
  have c2:(W'.putObj (W8.heap.size+1) (.loop (rec .exhausted none))).heap[w.heap.size+2]?=some (.cells #[.int .i64 0] 65 (0,0)):=by rw [kL.block _ (by omega) (by show ¬ _=_;omega)];exact c2
  have cP6:(W'.putObj (W8.heap.size+1) (.loop (rec .exhausted none))).heap[w.heap.size+6]?=some (.cells #[.pointer (some ⟨w.heap.size+5,0,none⟩)] 127 (0,0)):=by rw [kL.block _ (by omega) (by show ¬ _=_;omega)];exact hBP'
  have hD2:(W'.putObj (W8.heap.size+1) (.loop (rec .exhausted none))).heap[W8.heap.size]?=some (.deferred (some [])):=by rw [kL.block _ (by omega) (by show ¬ _=_;omega)];exact hD'
  have ext2:=ext'.keep kL (fun q (e:q=W8.heap.size+1)=>by omega)
  have nin:∀ k,k<w.heap.size+3∨k=w.heap.size+6∨k=W8.heap.size→¬ Has (parts (w.heap.size+5) bm (.slice aN nN cN) (.slice aP nP cP) vW ws) k:=fun k hk h=>by
   rcases hgr k ((hρ k).2 (Or.inl h)) with h | h
   ·exact notin k hk h
   ·omega
  have x2:=qh ext2
  clear hK hρ hL' hBP' hn0 hnL hBL hLP hBPP hgr kA hm kL ext2 ext' hD' hst HMAIN notin hL hD x10 hld hB s10 sW
  clear hW10
  generalize W'.putObj (W8.heap.size+1) (.loop (rec .exhausted none))=Wa at K2 c0 c1 c2 cP6 hD2 x2 ⊢
  refine wpAt_seq (wpAt_of_wp (wp_noPanic ?_))
  simp only [Nat.add_assoc,Nat.reduceAdd]
  obtain ⟨w0,w1,_,_,_⟩:=K2.out.cells
  refine wp_region_M (fun w'=>w'.cell? ⟨w.heap.size+6,0,none⟩=some (.pointer (some ⟨w.heap.size+5,0,none⟩))∧w'.cell? ⟨w.heap.size+5,0,none⟩=some (.slice aN nN cN)∧w'.cell? ⟨w.heap.size+5,1,none⟩=some (.slice aP nP cP)) 10 (by kernel_rfl) ⟨cell_of_one cP6,w0,w1⟩ (fun hS=>?_)
  have xd:Ext Wa Wa.drew:=Ext.drew Wa
  have K2:=qh (K2.out.ext xd)
  have x2:=qh (x2.out.trans xd)
  have c0:=xd.block c0
  have c1:=xd.block c1
  have c2:=xd.block c2
  have hD2:=xd.block hD2
  generalize Wa.drew=Wb at K2 x2 c0 c1 c2 hD2 hS ⊢
  clear xd w0 w1 cP6
  refine' tk 0 hS ?_ ?_;rotate_left;·intros;go_simp;try rfl
  refine' tk 1 hS ?_ ?_;rotate_left;·intros;go_simp;try rfl
  refine' tk 2 hS ?_ ?_;rotate_left;·intros;go_simp;try rfl
  try simp only [tD]
  refine' tk 3 hS ?_ ?_;rotate_left;·intros;go_simp;try rfl
  refine' tk 4 hS ?_ ?_;rotate_left;·intros;go_simp;try rfl
  refine' tk 5 hS ?_ ?_;rotate_left;·intros;go_simp;try rfl
  try simp only [tD]
  refine' tk 6 hS ?_ ?_;rotate_left;·intros;go_simp;try rfl
  refine' tk 7 hS ?_ ?_;rotate_left;·intros;go_simp;try rfl
  try simp only [tD]
  refine rc 8 fun K hK=>?_
  have e8:=cell_of_one c0
  have f8:=free_of_one c0
  go_simp
  have k8:=Keep.setCell (fun k=>k=w.heap.size) Wb ⟨w.heap.size,0,none⟩ (.slice aN nN cN) rfl
  have t0:(Wb.setCell ⟨w.heap.size,0,none⟩ (.slice aN nN cN)).heap[w.heap.size]?=some (.cells #[.slice aN nN cN] 25 (0,0)):=heap_set_cells c0 0 _
  have K8:=qh (WkG.same K2.out (fun r k hk=>k8.block k (WkG.lt K2.out r k hk) (fun e=>nin k (by omega) ⟨r,hk⟩)))
  have x8:=x2.out.keep k8 (fun q (e:q=w.heap.size)=>by omega)
  have D8:(Wb.setCell ⟨w.heap.size,0,none⟩ (.slice aN nN cN)).heap[W8.heap.size]?=some (.deferred (some [])):=by rw [k8.block _ (Array.getElem?_eq_some_iff.1 hD2).1 (by show ¬ _=_;omega)];exact hD2
  have S8:(fun w'=>w'.cell? ⟨w.heap.size+6,0,none⟩=some (.pointer (some ⟨w.heap.size+5,0,none⟩))∧w'.cell? ⟨w.heap.size+5,0,none⟩=some (.slice aN nN cN)∧w'.cell? ⟨w.heap.size+5,1,none⟩=some (.slice aP nP cP)) (Wb.setCell ⟨w.heap.size,0,none⟩ (.slice aN nN cN)):=⟨k8.cell hS.1 (fun (h:w.heap.size+6=w.heap.size)=>by omega),k8.cell hS.2.1 (fun (h:w.heap.size+5=w.heap.size)=>by omega),k8.cell hS.2.2 (fun (h:w.heap.size+5=w.heap.size)=>by omega)⟩
  refine hK.out _ _ S8 ?_
  try simp only [tD]
  clear hK K e8 f8 hS
  have hS:=S8
  have c1:(Wb.setCell ⟨w.heap.size,0,none⟩ (.slice aN nN cN)).heap[w.heap.size+1]?=some (.cells #[.slice none 0 0] 45 (0,0)):=by rw [k8.block _ (Array.getElem?_eq_some_iff.1 c1).1 (by show ¬ _=_;omega)];exact c1
  have c2:(Wb.setCell ⟨w.heap.size,0,none⟩ (.slice aN nN cN)).heap[w.heap.size+2]?=some (.cells #[.int .i64 0] 65 (0,0)):=by rw [k8.block _ (Array.getElem?_eq_some_iff.1 c2).1 (by show ¬ _=_;omega)];exact c2
  clear K2 x2 hD2
  have K2:=K8
  have x2:=qh x8
  have hD2:=D8
  clear K8 x8 D8
  generalize Wb.setCell ⟨w.heap.size,0,none⟩ (.slice aN nN cN)=Wc at K2 x2 hD2 t0 c1 c2 hS S8 k8 ⊢
  refine rc 9 fun K hK=>?_
  have e9:=cell_of_one c1
  have f9:=free_of_one c1
  go_simp
  have k9:=Keep.setCell (fun k=>k=w.heap.size+1) Wc ⟨w.heap.size+1,0,none⟩ (.slice aP nP cP) rfl
  have t1:(Wc.setCell ⟨w.heap.size+1,0,none⟩ (.slice aP nP cP)).heap[w.heap.size+1]?=some (.cells #[.slice aP nP cP] 45 (0,0)):=heap_set_cells c1 0 _
  have K9:=qh (WkG.same K2.out (fun r k hk=>k9.block k (WkG.lt K2.out r k hk) (fun e=>nin k (by omega) ⟨r,hk⟩)))
  have x9:=x2.out.keep k9 (fun q (e:q=w.heap.size+1)=>by omega)
  have D9:(Wc.setCell ⟨w.heap.size+1,0,none⟩ (.slice aP nP cP)).heap[W8.heap.size]?=some (.deferred (some [])):=by rw [k9.block _ (Array.getElem?_eq_some_iff.1 hD2).1 (by show ¬ _=_;omega)];exact hD2
  have S9:(fun w'=>w'.cell? ⟨w.heap.size+6,0,none⟩=some (.pointer (some ⟨w.heap.size+5,0,none⟩))∧w'.cell? ⟨w.heap.size+5,0,none⟩=some (.slice aN nN cN)∧w'.cell? ⟨w.heap.size+5,1,none⟩=some (.slice aP nP cP)) (Wc.setCell ⟨w.heap.size+1,0,none⟩ (.slice aP nP cP)):=⟨k9.cell hS.1 (fun (h:w.heap.size+6=w.heap.size+1)=>by omega),k9.cell hS.2.1 (fun (h:w.heap.size+5=w.heap.size+1)=>by omega),k9.cell hS.2.2 (fun (h:w.heap.size+5=w.heap.size+1)=>by omega)⟩
  refine hK.out _ _ S9 ?_
  try simp only [tD]
  clear hK K e9 f9 hS
  have hS:=S9
  have t0:(Wc.setCell ⟨w.heap.size+1,0,none⟩ (.slice aP nP cP)).heap[w.heap.size]?=some (.cells #[.slice aN nN cN] 25 (0,0)):=by rw [k9.block _ (Array.getElem?_eq_some_iff.1 t0).1 (by show ¬ _=_;omega)];exact t0
  have c2:(Wc.setCell ⟨w.heap.size+1,0,none⟩ (.slice aP nP cP)).heap[w.heap.size+2]?=some (.cells #[.int .i64 0] 65 (0,0)):=by rw [k9.block _ (Array.getElem?_eq_some_iff.1 c2).1 (by show ¬ _=_;omega)];exact c2
  clear K2 x2 hD2
  have K2:=K9
  have x2:=qh x9
  have hD2:=D9
  clear K9 x9 D9
  generalize Wc.setCell ⟨w.heap.size+1,0,none⟩ (.slice aP nP cP)=Wd at K2 x2 hD2 t1 t0 c2 hS S9 k9 ⊢
  refine rl 10 fun K hK=>?_
  have e10:=cell_of_one c2
  have f10:=free_of_one c2
  go_simp
  have k10:=Keep.setCell (fun k=>k=w.heap.size+2) Wd ⟨w.heap.size+2,0,none⟩ (.int .i64 0) rfl
  have t2:(Wd.setCell ⟨w.heap.size+2,0,none⟩ (.int .i64 0)).heap[w.heap.size+2]?=some (.cells #[.int .i64 0] 65 (0,0)):=heap_set_cells c2 0 _
  have K10:=qh (WkG.same K2.out (fun r k hk=>k10.block k (WkG.lt K2.out r k hk) (fun e=>nin k (by omega) ⟨r,hk⟩)))
  have x10:=x2.out.keep k10 (fun q (e:q=w.heap.size+2)=>by omega)
  have D10:(Wd.setCell ⟨w.heap.size+2,0,none⟩ (.int .i64 0)).heap[W8.heap.size]?=some (.deferred (some [])):=by rw [k10.block _ (Array.getElem?_eq_some_iff.1 hD2).1 (by show ¬ _=_;omega)];exact hD2
  refine hK.out _ _ ?_
  try simp only [tD]
  clear hK K e10 f10
  have t0:(Wd.setCell ⟨w.heap.size+2,0,none⟩ (.int .i64 0)).heap[w.heap.size]?=some (.cells #[.slice aN nN cN] 25 (0,0)):=by rw [k10.block _ (Array.getElem?_eq_some_iff.1 t0).1 (by show ¬ _=_;omega)];exact t0
  have t1:(Wd.setCell ⟨w.heap.size+2,0,none⟩ (.int .i64 0)).heap[w.heap.size+1]?=some (.cells #[.slice aP nP cP] 45 (0,0)):=by rw [k10.block _ (Array.getElem?_eq_some_iff.1 t1).1 (by show ¬ _=_;omega)];exact t1
  clear K2 x2 hD2
  have K2:=K10
  have x2:=qh x10
  have hD2:=D10
  clear K10 x10 D10
  generalize Wd.setCell ⟨w.heap.size+2,0,none⟩ (.int .i64 0)=We at K2 x2 hD2 t2 t0 t1 k10 ⊢
  refine wpAnyM_done (by kernel_rfl) ?_ _
  show wpAt _ _ _ _ _ _ _
  refine wpAt_of_wp (wp_ret ?_)
  rw [hz] at hD2
  show LeavesInM Fence.wide 1 Tryz.prog Tryz.f77 _ _ _ _ _
  refine ⟨by simp,Or.inl ⟨w.heap.size+8,_,rfl,run_takeDeferred hD2,?_⟩⟩
  have kD:=Keep.putLoop (fun k=>k=w.heap.size+8) We (w.heap.size+8) (.deferred none) rfl
  have sW:w.heap.size+8<We.heap.size:=(Array.getElem?_eq_some_iff.1 hD2).1
  refine ⟨by simp,Or.inr ⟨fun h=>(by cases h),_,_,105,_,rfl,ki _ _,fun _ _=>trivial,?_⟩⟩
  refine (places1_ret w.heap.size (w.heap.size+1) (w.heap.size+2) _ _).mono ?_
  rintro e' u' w'' ⟨rfl,rfl,rfl⟩
  refine ⟨_,res7 _ _ w.heap.size (w.heap.size+1) (w.heap.size+2) _ _ _ _ _ _ _ rfl rfl rfl (kD.cell (cell_of_one t0) (fun (h:w.heap.size=w.heap.size+8)=>by omega)) (kD.cell (cell_of_one t1) (fun (h:w.heap.size+1=w.heap.size+8)=>by omega)) (kD.cell (cell_of_one t2) (fun (h:w.heap.size+2=w.heap.size+8)=>by omega)),x2.out.keep kD (fun q (e:q=w.heap.size+8)=>by omega),_,_,rfl,?_,?_,hG⟩
  ·exact owns_up (owns_same (WkG.nm K2.out) (fun k e=>kD.block k (WkG.lt K2.out 2 k e) (fun (h:k=w.heap.size+8)=>nin k (Or.inr (Or.inr (by omega))) ⟨2,e⟩))) (fun k e=>Nat.le_of_not_lt (fun h=>nin k (Or.inl (by omega)) ⟨2,e⟩))
  ·exact owns_up (owns_same (WkG.pl K2.out) (fun k e=>kD.block k (WkG.lt K2.out 3 k e) (fun (h:k=w.heap.size+8)=>nin k (Or.inr (Or.inr (by omega))) ⟨3,e⟩))) (fun k e=>Nat.le_of_not_lt (fun h=>nin k (Or.inl (by omega)) ⟨3,e⟩))
theorem PlacesPost2.post {w:World} {r:Except Int Wk} {e:Ending} {w':World} (h:PlacesPost2 w r e w'):PlacesPost w r e w':=by
 refine ⟨h.1,?_⟩
 have:=h.2
 cases r with
 | error x=>exact this
 | ok σ =>
  obtain ⟨vN,vP,e,a,b,c⟩:=this
  exact ⟨vN,vP,e,owns_down a,owns_down b,c⟩
theorem places_any (l:List RegT) (a:Option Addr) (len cap:Nat) (w:World) (hr:RegsIn w w.heap.size (.slice a len cap) l):Calls Tryz.prog 77 #[.slice a len cap] w (PlacesPost w (placesS l)) :=
 (places2_any l a len cap w hr).mono fun _ _ h=>h.post
end Go.Proofs.YtligiddaampneaaGreat
end
section
namespace Go.Proofs.YtligiddaampneaaGreat
open Go.RowKit
structure Cls where
 name:ByteArray
 regs:List ByteArray
structure Opr where
 cls:ByteArray
 fix:ByteArray
structure Opn where
 name:ByteArray
 dfn:Opr
 uses:List Opr
 tie:Int
 clob:List ByteArray
structure Mach where
 name:ByteArray
 regs:List RegT
 classes:List Cls
 ops:List Opn
 args:List ByteArray
 result:ByteArray
 saved:List ByteArray
 slots:Int
structure Tab (W:World) (n0 size:Nat) (v:Value) (rows:List (List Value)):Prop where
 row:Row W size v rows.length rows.flatten
 len:∀ r∈rows,r.length=size
 blk:∀ k,v.ownBlock=some k→rows≠[]→k<n0
theorem Tab.same {W W':World} {n0 size:Nat} {v:Value} {rows:List (List Value)} (h:Tab W n0 size v rows) (hk:∀ k,k<n0→W'.heap[k]?=W.heap[k]?):Tab W' n0 size v rows :=
 ⟨h.row.same0 fun k e hn=>hk k (h.blk k e (fun e2=>hn (by rw [e2];rfl))),h.len,h.blk⟩
theorem Tab.form {W:World} {n0 size:Nat} {v:Value} {rows:List (List Value)} (h:Tab W n0 size v rows):∃ a cap,v=.slice a rows.length cap∧rows.length≤cap∧cap≤maxLen:=h.row.shape
theorem flatten_at {rows:List (List Value)} {size i j:Nat} {r:List Value} {u:Value} (hl:∀ r∈rows,r.length=size) (hi:rows[i]?=some r) (hj:r[j]?=some u):rows.flatten[i * size+j]?=some u:=by
 induction i generalizing rows with
 | zero =>
  cases rows with
  | nil=>simp at hi
  | cons a rows =>
   simp at hi;subst hi
   have:=(List.getElem?_eq_some_iff.1 hj).1
   simp only [List.flatten_cons,Nat.zero_mul,Nat.zero_add]
   rw [List.getElem?_append_left this];exact hj
 | succ i ih =>
  cases rows with
  | nil=>simp at hi
  | cons a rows =>
   have ha:a.length=size:=hl a (by simp)
   have:=ih (rows:=rows) (fun r hr=>hl r (by simp [hr])) (by simpa using hi)
   simp only [List.flatten_cons]
   rw [List.getElem?_append_right (by rw [ha,Nat.add_mul];omega),ha,show (i+1) * size+j - size=i * size+j by rw [Nat.add_mul];omega]
   exact this
theorem Tab.at {W:World} {n0 size:Nat} {v:Value} {rows:List (List Value)} (h:Tab W n0 size v rows) {i:Nat} {r:List Value} (hi:rows[i]?=some r) (hs:0<size) :
  ∃ b off cap,v=.slice (some ⟨b,off,none⟩) rows.length cap∧rows.length≤cap∧cap≤maxLen∧b<n0∧∀ j u,r[j]?=some u→W.cell? ⟨b,off+(i * size+j),none⟩=some u:=by
 have hne:rows.flatten≠[]:=by
  intro e
  have hlt:=(List.getElem?_eq_some_iff.1 hi).1
  have:=h.row.1
  rw [e,List.length_nil] at this
  have h3:0<rows.length * size:=Nat.mul_pos (by omega) hs
  omega
 obtain ⟨b,off,cap,rfl,h1,h2,hb,hc⟩:=h.row.at hne
 exact ⟨b,off,cap,rfl,h1,h2,h.blk b rfl (fun e=>by rw [e] at hi;simp at hi),fun j u hj=>hc _ _ (flatten_at h.len hi hj)⟩
theorem Tab.up {W:World} {n0 n1 size:Nat} {v:Value} {rows:List (List Value)} (h:Tab W n0 size v rows) (hn:n0≤n1):Tab W n1 size v rows:=⟨h.row,h.len,fun k e hr=>Nat.lt_of_lt_of_le (h.blk k e hr) hn⟩
def StrsIn (W:World) (n0:Nat) (v:Value) (l:List ByteArray):Prop:=Tab W n0 1 v (l.map fun s=>[.string s])
def OprsIn (W:World) (n0:Nat) (v:Value) (l:List Opr):Prop:=Tab W n0 2 v (l.map fun o=>[.string o.cls,.string o.fix])
def PlsIn (W:World) (n0:Nat) (v:Value) (l:List Pl):Prop:=Tab W n0 3 v (l.map Pl.cells)
def ClsIn (W:World) (n0:Nat) (v:Value) (l:List Cls):Prop :=
 ∃ us:List Value,us.length=l.length∧Tab W n0 2 v (List.zipWith (fun c u=>[.string c.name,u]) l us)∧∀ (i:Nat) (c:Cls) (u:Value),l[i]?=some c→us[i]?=some u→StrsIn W n0 u c.regs
def OpsIn (W:World) (n0:Nat) (v:Value) (l:List Opn):Prop :=
 ∃ us:List (Value × Value),us.length=l.length∧Tab W n0 6 v (List.zipWith (fun o u=>[.string o.name,.string o.dfn.cls,.string o.dfn.fix,u.1,.int .i64 o.tie,u.2]) l us) ∧
  ∀ (i:Nat) (o:Opn) (u:Value × Value),l[i]?=some o→us[i]?=some u→OprsIn W n0 u.1 o.uses∧StrsIn W n0 u.2 o.clob∧fits64 o.tie
theorem ClsIn.same {W W':World} {n0:Nat} {v:Value} {l:List Cls} (h:ClsIn W n0 v l) (hk:∀ k,k<n0→W'.heap[k]?=W.heap[k]?):ClsIn W' n0 v l:=by
 obtain ⟨us,h1,h2,h3⟩:=h
 exact ⟨us,h1,h2.same hk,fun i c u hc hu=>Tab.same (h3 i c u hc hu) hk⟩
theorem OpsIn.same {W W':World} {n0:Nat} {v:Value} {l:List Opn} (h:OpsIn W n0 v l) (hk:∀ k,k<n0→W'.heap[k]?=W.heap[k]?):OpsIn W' n0 v l:=by
 obtain ⟨us,h1,h2,h3⟩:=h
 exact ⟨us,h1,h2.same hk,fun i o u ho hu=>⟨Tab.same (h3 i o u ho hu).1 hk,Tab.same (h3 i o u ho hu).2.1 hk,(h3 i o u ho hu).2.2⟩⟩
theorem StrsIn.form {W:World} {n0:Nat} {v:Value} {l:List ByteArray} (h:StrsIn W n0 v l):∃ a cap,v=.slice a l.length cap∧l.length≤cap∧cap≤maxLen:=by
 have:=Tab.form h;simpa using this
theorem OprsIn.form {W:World} {n0:Nat} {v:Value} {l:List Opr} (h:OprsIn W n0 v l):∃ a cap,v=.slice a l.length cap∧l.length≤cap∧cap≤maxLen:=by
 have:=Tab.form h;simpa using this
theorem PlsIn.form {W:World} {n0:Nat} {v:Value} {l:List Pl} (h:PlsIn W n0 v l):∃ a cap,v=.slice a l.length cap∧l.length≤cap∧cap≤maxLen:=by
 have:=Tab.form h;simpa using this
theorem ClsIn.form {W:World} {n0:Nat} {v:Value} {l:List Cls} (h:ClsIn W n0 v l):∃ a cap,v=.slice a l.length cap∧l.length≤cap∧cap≤maxLen:=by
 obtain ⟨us,h1,h2,_⟩:=h
 have:=Tab.form h2;simpa [h1] using this
theorem OpsIn.form {W:World} {n0:Nat} {v:Value} {l:List Opn} (h:OpsIn W n0 v l):∃ a cap,v=.slice a l.length cap∧l.length≤cap∧cap≤maxLen:=by
 obtain ⟨us,h1,h2,_⟩:=h
 have:=Tab.form h2;simpa [h1] using this
theorem StrsIn.at {W:World} {n0:Nat} {v:Value} {l:List ByteArray} (h:StrsIn W n0 v l) {i:Nat} {s:ByteArray} (hi:l[i]?=some s) :
  ∃ b off cap,v=.slice (some ⟨b,off,none⟩) l.length cap∧l.length≤cap∧cap≤maxLen∧b<n0∧W.cell? ⟨b,off+i,none⟩=some (.string s):=by
 obtain ⟨b,off,cap,e,h1,h2,h3,hc⟩:=Tab.at h (i:=i) (r:=[.string s]) (by simp [hi]) (by decide)
 refine ⟨b,off,cap,by simpa using e,by simpa using h1,h2,h3,?_⟩
 have:=hc 0 _ rfl
 simpa using this
theorem OprsIn.at {W:World} {n0:Nat} {v:Value} {l:List Opr} (h:OprsIn W n0 v l) {i:Nat} {o:Opr} (hi:l[i]?=some o) :
  ∃ b off cap,v=.slice (some ⟨b,off,none⟩) l.length cap∧l.length≤cap∧cap≤maxLen∧b<n0∧W.cell? ⟨b,off+i * 2,none⟩=some (.string o.cls)∧W.cell? ⟨b,off+i * 2+1,none⟩=some (.string o.fix):=by
 obtain ⟨b,off,cap,e,h1,h2,h3,hc⟩:=Tab.at h (i:=i) (r:=[.string o.cls,.string o.fix]) (by simp [hi]) (by decide)
 exact ⟨b,off,cap,by simpa using e,by simpa using h1,h2,h3,by simpa using hc 0 _ rfl,by simpa [Nat.add_assoc] using hc 1 _ rfl⟩
theorem PlsIn.at {W:World} {n0:Nat} {v:Value} {l:List Pl} (h:PlsIn W n0 v l) {i:Nat} {p:Pl} (hi:l[i]?=some p) :
  ∃ b off cap,v=.slice (some ⟨b,off,none⟩) l.length cap∧l.length≤cap∧cap≤maxLen∧b<n0∧W.cell? ⟨b,off+i * 3,none⟩=some (.int .i64 p.root)∧W.cell? ⟨b,off+i * 3+1,none⟩=some (.int .i64 p.beg)∧W.cell? ⟨b,off+i * 3+2,none⟩=some (.int .i64 p.width):=by
 obtain ⟨b,off,cap,e,h1,h2,h3,hc⟩:=Tab.at h (i:=i) (r:=p.cells) (by simp [hi]) (by decide)
 exact ⟨b,off,cap,by simpa using e,by simpa using h1,h2,h3,by simpa using hc 0 _ rfl,by simpa [Nat.add_assoc] using hc 1 _ rfl,by simpa [Nat.add_assoc] using hc 2 _ rfl⟩
theorem ClsIn.at {W:World} {n0:Nat} {v:Value} {l:List Cls} (h:ClsIn W n0 v l) {i:Nat} {c:Cls} (hi:l[i]?=some c) :
  ∃ b off cap u,v=.slice (some ⟨b,off,none⟩) l.length cap∧l.length≤cap∧cap≤maxLen∧b<n0∧W.cell? ⟨b,off+i * 2,none⟩=some (.string c.name)∧W.cell? ⟨b,off+i * 2+1,none⟩=some u∧StrsIn W n0 u c.regs:=by
 obtain ⟨us,hl,ht,hs⟩:=h
 have hlt:=(List.getElem?_eq_some_iff.1 hi).1
 obtain ⟨u,hu⟩:∃ u,us[i]?=some u:=⟨us[i]'(by omega),lE _⟩
 obtain ⟨b,off,cap,e,h1,h2,h3,hc⟩:=Tab.at ht (i:=i) (r:=[.string c.name,u]) (by simp [List.getElem?_zipWith,hi,hu]) (by decide)
 exact ⟨b,off,cap,u,by simpa [hl] using e,by simpa [hl] using h1,h2,h3,by simpa using hc 0 _ rfl,by simpa [Nat.add_assoc] using hc 1 _ rfl,hs i c u hi hu⟩
theorem OpsIn.at {W:World} {n0:Nat} {v:Value} {l:List Opn} (h:OpsIn W n0 v l) {i:Nat} {o:Opn} (hi:l[i]?=some o) :
  ∃ b off cap u c,v=.slice (some ⟨b,off,none⟩) l.length cap∧l.length≤cap∧cap≤maxLen∧b<n0∧W.cell? ⟨b,off+i * 6,none⟩=some (.string o.name)∧W.cell? ⟨b,off+i * 6+1,none⟩=some (.string o.dfn.cls)∧W.cell? ⟨b,off+i * 6+2,none⟩=some (.string o.dfn.fix) ∧
   W.cell? ⟨b,off+i * 6+3,none⟩=some u∧W.cell? ⟨b,off+i * 6+4,none⟩=some (.int .i64 o.tie)∧W.cell? ⟨b,off+i * 6+5,none⟩=some c∧OprsIn W n0 u o.uses∧StrsIn W n0 c o.clob∧fits64 o.tie:=by
 obtain ⟨us,hl,ht,hs⟩:=h
 have hlt:=(List.getElem?_eq_some_iff.1 hi).1
 obtain ⟨u,hu⟩:∃ u,us[i]?=some u:=⟨us[i]'(by omega),lE _⟩
 obtain ⟨b,off,cap,e,h1,h2,h3,hc⟩:=Tab.at ht (i:=i) (r:=[.string o.name,.string o.dfn.cls,.string o.dfn.fix,u.1,.int .i64 o.tie,u.2]) (by simp [List.getElem?_zipWith,hi,hu]) (by decide)
 obtain ⟨k1,k2,k3⟩:=hs i o u hi hu
 exact ⟨b,off,cap,u.1,u.2,by simpa [hl] using e,by simpa [hl] using h1,h2,h3,by simpa using hc 0 _ rfl,by simpa [Nat.add_assoc] using hc 1 _ rfl,by simpa [Nat.add_assoc] using hc 2 _ rfl,by simpa [Nat.add_assoc] using hc 3 _ rfl,by simpa [Nat.add_assoc] using hc 4 _ rfl,by simpa [Nat.add_assoc] using hc 5 _ rfl,k1,k2,k3⟩
theorem StrsIn.slice {W:World} {n0:Nat} {v:Value} {l:List ByteArray} (h:StrsIn W n0 v l):SliceStrs W v l:=by
 have:=h.row
 have e:∀ l:List ByteArray,((l.map fun s=>[Value.string s]).flatten)=l.map Value.string:=fun l=>by
  induction l with
  | nil=>rfl
  | cons a l ih=>simp only [List.map_cons,List.flatten_cons,ih,List.cons_append,List.nil_append]
 rw [e] at this
 simpa [SliceStrs] using this
structure MachIn (W:World) (n0:Nat) (vR vC vO vA vS:Value) (M:Mach):Prop where
 regs:RegsIn W n0 vR M.regs
 cls:ClsIn W n0 vC M.classes
 ops:OpsIn W n0 vO M.ops
 args:StrsIn W n0 vA M.args
 saved:StrsIn W n0 vS M.saved
 slots:fits64 M.slots
theorem MachIn.same {W W':World} {n0:Nat} {vR vC vO vA vS:Value} {M:Mach} (h:MachIn W n0 vR vC vO vA vS M) (hk:∀ k,k<n0→W'.heap[k]?=W.heap[k]?):MachIn W' n0 vR vC vO vA vS M :=
 ⟨h.regs.same hk,h.cls.same hk,h.ops.same hk,Tab.same h.args hk,Tab.same h.saved hk,h.slots⟩
def machCells (M:Mach) (vR vC vO vA vS:Value):List Value:=[.string M.name,vR,vC,vO,vA,.string M.result,vS,.int .i64 M.slots]
end Go.Proofs.YtligiddaampneaaGreat
end
