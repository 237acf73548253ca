/- A part of the proof, joined of several texts: the registers' places: one outer register and all within it. No condition. -/
import Derived.WalkKit
import Derived.Lib.Hide
import Derived.Laws.AppendOwnNone
import Derived.Maps.Own
import Derived.Test.YtligiddaampneaaGreatProg
import Derived.WalkSpells
import Derived.WalkLawsBesides
import Derived.PlainAid
import Derived.WalkSmall
import Derived.Deep.AppendLies
import Derived.Deep.RegionHeld
import Derived.Deep.QuietTactic
import Derived.BigQuiet
import Derived.StillTailTactics
import Derived.Deep.RegionHeld3
import Derived.Deep.RegionLaw
import Derived.Deep.DeepCutAuto
import Derived.Deep.LoopGhost
import Derived.Deep.DrawnRows
import Derived.Outline
import Derived.Deep.CutBlock
section
namespace Go.Proofs.YtligiddaampneaaGreat
open Go.RowKit
theorem below1 (w:World) (a:Obj):Below w.heap.size w (w.alloc a):=(Below.refl _ _).alloc (Nat.le_refl _) _
theorem below2 (w:World) (a b:Obj):Below w.heap.size w ((w.alloc a).alloc b):=(below1 w a).alloc (by simp) _
theorem ret_bool {a b:Bool} (h:a=b):Ending.returned (.bool a)=.returned (.bool b):=by rw [h]
def Ext (w w':World):Prop:=Below w.heap.size w w'
theorem Ext.refl (w:World):Ext w w:=Below.refl _ _
theorem Ext.trans {a b c:World} (h:Ext a b) (k:Ext b c):Ext a c:=Below.trans h (Below.mono k (Below.size h))
theorem Ext.alloc (w:World) (o:Obj):Ext w (w.alloc o):=below1 w o
theorem Ext.drew (w:World):Ext w w.drew:=Below.drew (Below.refl _ _)
theorem Ext.size {a b:World} (h:Ext a b):a.heap.size≤b.heap.size:=Below.size h
theorem Ext.cell {a b:World} (h:Ext a b) {p:Addr} {v:Value} (hc:a.cell? p=some v):b.cell? p=some v:=by
 rw [Below.cell h (World.block_lt_of_cell? a _ hc)];exact hc
theorem tD:(∀ (a : Act) (d : Tmp) (v : Value),a.put (some d) v={ a with tmps := a.tmps.setIfInBounds d v })∧(∀ (a : Act) (v : Value),a.put none v=a)∧(∀ (l : List Value) (i : Nat) (a : Value),l.toArray.setIfInBounds i a=(l.set i a).toArray)∧(∀ (x : Value) (xs : List Value) (a : Value),(x :: xs).set 0 a=a :: xs)∧(∀ (x : Value) (xs : List Value) (i : Nat) (a : Value),(x :: xs).set (i+1) a=x :: xs.set i a)∧(∀ (l : List Bool) (i : Nat) (a : Bool),l.toArray.setIfInBounds i a=(l.set i a).toArray)∧(∀ (x : Bool) (xs : List Bool) (a : Bool),(x :: xs).set 0 a=a :: xs)∧(∀ (x : Bool) (xs : List Bool) (i : Nat) (a : Bool),(x :: xs).set (i+1) a=x :: xs.set i a):=⟨fun _ _ _=>rfl,fun _ _=>rfl,fun l i a=>List.setIfInBounds_toArray l i a,fun _ _ _=>rfl,fun _ _ _ _=>rfl,fun l i a=>List.setIfInBounds_toArray l i a,fun _ _ _=>rfl,fun _ _ _ _=>rfl⟩
theorem zL {α : Type} {xs : Array α} {i : Nat} {b : α}:xs[i]?=some b ↔ ∃ h:i<xs.size,xs[i]=b:=Array.getElem?_eq_some_iff
theorem lI {α : Type} {xs : List α} {i : Nat} {b : α}:xs[i]?=some b ↔ ∃ h:i<xs.length,xs[i]=b:=List.getElem?_eq_some_iff
theorem lE {α : Type} {xs : List α} {i : Nat} (h:i<xs.length):xs[i]?=some xs[i]:=List.getElem?_eq_getElem h
theorem qh {p : Prop} (h:p):Hid p:=Lib.hid h
theorem xc {a b : World} (h:Ext a b) {p : Addr} {v : Value} (hc:a.cell? p=some v):b.cell? p=some v:=h.cell hc
theorem Ext.block {a b:World} (h:Ext a b) {k:Nat} {o:Obj} (hc:a.heap[k]?=some o):b.heap[k]?=some o:=by
 rw [Below.block h k (Array.getElem?_eq_some_iff.1 hc).1];exact hc
/-! Short names of three rules, for the printed steps. -/
theorem tA {α:Type} (l:List α) (i:Nat) (a:α):l.toArray.setIfInBounds i a=(l.set i a).toArray:=List.setIfInBounds_toArray l i a
theorem tB {α:Type} {x:α} {xs:List α} {a:α}:(x :: xs).set 0 a=a :: xs:=List.set_cons_zero
theorem tC {α:Type} {x:α} {xs:List α} {i:Nat} {a:α}:(x :: xs).set (i+1) a=x :: xs.set i a:=List.set_cons_succ
end Go.Proofs.YtligiddaampneaaGreat
end
section
namespace Go.Proofs.YtligiddaampneaaGreat
open Go.RowKit
def Row (w:World) (size:Nat) (v:Value) (n:Nat) (xs:List Value):Prop :=
 xs.length=n * size∧((v=.slice none 0 0∧n=0) ∨
  ∃ a cap,v=.slice (some a) n cap∧n≤cap∧cap≤maxLen∧(∀ j u,xs[j]?=some u→w.cell? (a.add j)=some u))
theorem Row.shape {w:World} {size:Nat} {v:Value} {n:Nat} {xs:List Value} (h:Row w size v n xs):∃ a cap,v=.slice a n cap∧n≤cap∧cap≤maxLen:=by
 rcases h.2 with ⟨rfl,rfl⟩ | ⟨a,cap,rfl,h1,h2,_⟩
 ·exact ⟨none,0,rfl,Nat.le_refl _,Nat.zero_le _⟩
 ·exact ⟨some a,cap,rfl,h1,h2⟩
theorem Row.at {w:World} {size:Nat} {v:Value} {n:Nat} {xs:List Value} (h:Row w size v n xs) (hx:xs≠[]) :
  ∃ b off cap,v=.slice (some ⟨b,off,none⟩) n cap∧n≤cap∧cap≤maxLen∧b<w.heap.size∧∀ j u,xs[j]?=some u→w.cell? ⟨b,off+j,none⟩=some u:=by
 obtain ⟨hl,h⟩:=h
 rcases h with ⟨rfl,rfl⟩ | ⟨⟨b,off,spot⟩,cap,rfl,h1,h2,hc⟩
 ·simp at hl;exact absurd hl hx
 ·match xs,hx with
  | x :: xs,_ =>
   have h0:=hc 0 x rfl
   have hs:spot=none:=by
    cases spot with
    | none=>rfl
    | some s=>simp [Addr.add,World.cell?] at h0;split at h0 <;> simp at h0
   subst hs
   refine ⟨b,off,cap,rfl,h1,h2,World.block_lt_of_cell? w _ h0,fun j u hj=>?_⟩
   have:=hc j u hj
   by_cases hj0:j=0
   ·subst hj0;simpa [Addr.add] using this
   ·simpa [Addr.add,hj0] using this
theorem Row.below {w w':World} {size:Nat} {v:Value} {n:Nat} {xs:List Value} (h:Row w size v n xs) (hb:Below w.heap.size w w'):Row w' size v n xs:=by
 refine ⟨h.1,?_⟩
 rcases h.2 with h2 | ⟨a,cap,rfl,h1,h2,hc⟩
 ·exact Or.inl h2
 ·refine Or.inr ⟨a,cap,rfl,h1,h2,fun j u hj=>?_⟩
  have:=hc j u hj
  rw [hb.cell (World.block_lt_of_cell? w _ this)];exact this
theorem Row.of_owns {w:World} {base size:Nat} {e:TypeId} {v:Value} {n:Nat} {xs:List Value} (h:w.ownsRow base e size v n xs):Row w size v n xs:=by
 obtain ⟨hl,h⟩:=h
 refine ⟨hl,?_⟩
 rcases h with h | ⟨g,cap,cur,rfl,_,hg,hn,hm,hcs,hxs⟩
 ·exact Or.inl h
 ·refine Or.inr ⟨_,cap,rfl,hn,hm,fun j u hj=>?_⟩
  have hlt:j<n * size:=by rw [← hl];exact (List.getElem?_eq_some_iff.1 hj).1
  have e1:(Addr.add ⟨g,0,none⟩ j)=⟨g,j,none⟩:=by
   unfold Addr.add;by_cases h0:j=0 <;> simp [h0]
  rw [e1]
  rw [← hxs,List.getElem?_take,if_pos hlt] at hj
  simp only [World.cell?,hg]
  simpa using hj
def SliceInts (w:World) (v:Value) (l:List Int):Prop:=Row w 1 v l.length (l.map (Value.int .i64))
theorem SliceInts.below {w w':World} {v:Value} {l:List Int} (h:SliceInts w v l) (hb:Below w.heap.size w w'):SliceInts w' v l:=Row.below h hb
theorem wpList_append_nil {P:Program} (w:World) {ops:Array Oper} {rest:List Oper} {o:Oper} {a:Act} {Q:Exit→Act→World→Prop} (hgd:o.guard=none) (x:Operand) (t:TypeId)
  (ho:o.op=.call { callee:=.builtin .append,args:=#[.const (.slice none 0 0),x],argTypes:=#[t,t] })
  (e:TypeId) (i:TypeInfo) (z:Value) (size bytes:Nat) (ht:P.underlying t=some (.slice e)) (hi:P.info? e=some i) (hz:i.zero=some z)
  (hsize:i.size=size) (hby:i.bytes=bytes) (hzs:z.cells.size=size) (hsz:0<size)
  (m:Nat) (news:List Value) (v:Value) (hx:a.eval x=v) (hr:Row w size v m news) (h1:∀ u∈news,u.oneCell'=true) (hbytes:m * bytes≤140737488355328)
  (h:∀ v' w',w'.ownsRow w.heap.size e size v' m news→Below w.heap.size w w'→wpList P ops Q rest (a.put o.dst v') w'):wpList P ops Q (o :: rest) a w:=by
 have hown:=World.ownsRow_nil w w.heap.size e size
 rcases hr.2 with ⟨rfl,rfl⟩ | ⟨ad,cap,rfl,h2,h3,hc⟩
 ·refine wpList_append_own_none hgd _ x t ho w.heap.size e i size ht hi _ 0 [] rfl hown hx (h _ _ ?_ (Below.refl _ _))
  have:news=[]:=by have:=hr.1;simpa using this
  subst this;exact hown
 ·refine wpList_append_own w hgd _ x t ho w.heap.size e i z size bytes ht hi hz hsize hby hzs hsz (.slice none 0 0) 0 [] rfl hown ad m cap news hx hr.1 hc h1 (by omega) (by simpa using hbytes) (Nat.le_refl _) ?_
  intro v' w' h4 h5 _
  refine h v' w' (by simpa using h4) ((Below.refl _ _).grown h5 (Nat.le_refl _) ?_)
  intro k hk;simp [Value.ownBlock] at hk
end Go.Proofs.YtligiddaampneaaGreat
end
section
namespace Go.Proofs.YtligiddaampneaaGreat
open Go.RowKit
def entryAt (k:List UInt8):List MapEntry→Option Value
 | []=>none
 | e :: es=>match e.key with
  | .string s=>if s.data.toList == k then some e.val else entryAt k es
  | _=>none
def strKeys:List MapEntry→Bool
 | []=>true
 | e :: es=>(match e.key with | .string _=>true | _=>false) && strKeys es
@[simp] theorem strKeys_nil:strKeys []=true:=by unfold strKeys;simp
@[simp] theorem strKeys_cons (s:ByteArray) (v:Value) (b:Nat) (es:List MapEntry):strKeys ({ key:=.string s,val:=v,born:=b } :: es)=strKeys es:=by rw [strKeys];simp
@[simp] theorem entryAt_nil (k:List UInt8):entryAt k []=none:=by unfold entryAt;simp
@[simp] theorem entryAt_cons (k:List UInt8) (s:ByteArray) (v:Value) (b:Nat) (es:List MapEntry):entryAt k ({ key:=.string s,val:=v,born:=b } :: es)=if s.data.toList == k then some v else entryAt k es:=by rw [entryAt]
theorem bytes_beq (a b:ByteArray):(a == b)=(b.data.toList == a.data.toList):=by
 rw [Bool.eq_iff_iff]
 cases a with | mk a=>cases b with | mk b =>
 have e:((ByteArray.mk a == ByteArray.mk b)=true)↔a=b:=by
  show (a == b)=true↔a=b
  simp
 rw [e]
 simp only [beq_iff_eq,← Array.toList_inj]
 exact eq_comm
theorem run_check_str {P:Program} {K:TypeId} (hK:P.underlying K=some .string) (em:Bool) (k:ByteArray) (w:World):(Instr.checkKey em 10000 K (.string k)).run P w=.ok () w:=by
 rw [show (10000:Nat)=9999+1 from rfl,Instr.checkKey]
 simp [run_underlying hK]
theorem findNow_str (k:ByteArray) (es:List MapEntry) (h:strKeys es=true):∀ i,(entryAt k.data.toList es=none→Instr.findNow .string (.string k) es i=some none) ∧
  (∀ v,entryAt k.data.toList es=some v→∃ j,Instr.findNow .string (.string k) es i=some (some (j,v))):=by
 induction es with
 | nil=>intro i;simp [entryAt,Instr.findNow]
 | cons e es ih =>
  intro i
  obtain ⟨key,val,born⟩:=e
  simp only [strKeys,Bool.and_eq_true] at h
  obtain ⟨h1,h2⟩:=h
  cases key <;> simp at h1
  rename_i s
  have ih':=ih h2 (i+1)
  by_cases hb:(s.data.toList == k.data.toList)=true
  ·simp only [entryAt,hb,if_true,Instr.findNow,Instr.sameNow,bytes_beq k s]
   exact ⟨fun x=>by simp at x,fun v x=>⟨i,by simp at x;rw [x]⟩⟩
  ·have hb':(s.data.toList == k.data.toList)=false:=by simpa using hb
   simp only [entryAt,hb',Instr.findNow,Instr.sameNow,bytes_beq k s]
   exact ih'
theorem set_last (W:World) (o o':Obj):({ heap:=(W.alloc o).heap.setIfInBounds W.heap.size o',tape:=W.tape,drawn:=W.drawn,os:=(W.alloc o).os,output:=(W.alloc o).output }:World)=W.alloc o':=by
 show (World.mk ((W.heap.push o).setIfInBounds W.heap.size o') _ _ _ _)=World.mk (W.heap.push o') _ _ _ _
 congr 1
 apply Array.ext'
 simp [← Array.length_toList]
section
variable {P : Program} (T K E : TypeId) (hT : P.underlying T = some (.map K E)) (hK : P.underlying K = some .string)
include hT hK
theorem run_update_last (W:World) (es:List MapEntry) (c r:Nat) (k:ByteArray) (v:Value) (hr:r=W.heap.size) (hs:strKeys es=true)
  (hn:entryAt k.data.toList es=none) :
  (Instr.mapUpdate T (.map (some r)) (.string k) v).run P (W.alloc (.map es.toArray c))=.ok () (W.alloc (.map (es ++ [({ key:=.string k,val:=v,born:=c }:MapEntry)]).toArray (c+1))):=by
 subst hr
 have hf:=(findNow_str k es hs 0).1 hn
 have hg:(W.alloc (.map es.toArray c)).heap[W.heap.size]?=some (.map es.toArray c):=heap_alloc_new W _
 simp [Instr.mapUpdate,run_underlying hT,run_underlying hK,MapKept.run_getObj_map hg,MapKept.run_setObj_map _ hg,run_check_str hK,Instr.findKey,hf,Result.andThen]
 exact set_last W _ _
end
end Go.Proofs.YtligiddaampneaaGreat
end
section
namespace Go.Proofs.YtligiddaampneaaGreat
open Go.RowKit
def letterB (c:Int):Bool:=(decide (97≤c) && decide (c≤122)) || (decide (65≤c) && decide (c≤90)) || c == 95
def digitB (c:Int):Bool:=decide (48≤c) && decide (c≤57)
set_option maxHeartbeats 400000 in
theorem letter_any (c:Int) (w:World):Calls Tryz.prog 158 #[.int .u8 c] w fun e w'=>e=.returned (.bool (letterB c))∧w=w':=by
  unfold letterB
  cases h1:decide (97≤c) <;> cases h2:decide (c≤122) <;> cases h3:decide (65≤c) <;> cases h4:decide (c≤90) <;> cases h5:c == 95
  all_goals first
    | (exfalso;simp only [decide_eq_true_eq,decide_eq_false_iff_not,beq_iff_eq,beq_eq_false_iff_ne] at h1 h2 h3 h4 h5;omega)
    | (go_enter Tryz.func158,Tryz.ntmps158
       go_wp2
       go_ret
       exact ⟨rfl,rfl⟩)
set_option maxHeartbeats 400000 in
theorem digit_any (c:Int) (w:World):Calls Tryz.prog 159 #[.int .u8 c] w fun e w'=>e=.returned (.bool (digitB c))∧w=w':=by
  unfold digitB
  cases h1:decide (48≤c) <;> cases h2:decide (c≤57)
  all_goals first
    | (exfalso;simp only [decide_eq_true_eq,decide_eq_false_iff_not] at h1 h2;omega)
    | (go_enter Tryz.func159,Tryz.ntmps159
       go_wp2
       go_ret
       exact ⟨rfl,rfl⟩)
def nameB (c:Int):Bool:=letterB c || digitB c
def lexS (s:ByteArray):Bool:=decide (0<s.size) && decide (s.size≤20) && letterB (PlainAid.bt s 0) && (List.range s.size).all (fun i=>nameB (PlainAid.bt s i))
theorem lexS_no {s:ByteArray} {j:Nat} (hj:j<s.size) (h:nameB (PlainAid.bt s j)=false):lexS s=false:=by
 have:(List.range s.size).all (fun i=>nameB (PlainAid.bt s i))=false:=by
  rw [List.all_eq_false];exact ⟨j,by simpa using hj,by simp [h]⟩
 simp [lexS,this]
theorem lexS_yes {s:ByteArray} (h0:0<s.size) (h1:s.size≤20) (h2:letterB (PlainAid.bt s 0)=true) (h:∀ j,j<s.size→nameB (PlainAid.bt s j)=true):lexS s=true:=by
 have:(List.range s.size).all (fun i=>nameB (PlainAid.bt s i))=true:=by
  rw [List.all_eq_true];intro i hi;exact h i (by simpa using hi)
 simp [lexS,this,h0,h1,h2]
set_option maxHeartbeats 400000 in
theorem lexNamed_any (s:ByteArray) (w:World):Calls Tryz.prog 145 #[.string s] w fun e w'=>e=.returned (.bool (lexS s))∧w=w':=by
 by_cases h0:s.size=0
 ·have t0:s.toList.isEmpty=true:=by rw [ByteArray.toList_eq];exact List.isEmpty_iff.2 (List.length_eq_zero_iff.1 (by rw [Array.length_toList];exact h0))
  have e:lexS s=false:=by simp [lexS,h0]
  rw [e];clear e h0
  go_enter Tryz.func145,Tryz.ntmps145
  go_wp2_with fail
  go_ret
  exact ⟨rfl,rfl⟩
 ·have t0:s.toList.isEmpty=false:=by
   rw [ByteArray.toList_eq]
   cases hd:s.data.toList with
   | nil=>exact absurd (show s.data.size=0 by rw [← Array.length_toList,hd];rfl) h0
   | cons _ _=>rfl
  have hp:0<s.size:=by omega
  have hb:=PlainAid.get_bt s
  clear h0
  by_cases h1:(20:Int)<s.size
  ·have e:lexS s=false:=by simp only [lexS];rw [show decide (s.size≤20)=false by simp;omega];simp
   rw [e];clear e
   go_enter Tryz.func145,Tryz.ntmps145
   go_wp2_with fail
   go_ret
   exact ⟨rfl,rfl⟩
  ·cases h2:letterB (PlainAid.bt s 0) with
   | false =>
    have e:lexS s=false:=by simp [lexS,h2]
    rw [e];clear e
    go_enter Tryz.func145,Tryz.ntmps145
    go_wp2_with (go_at_call 158;refine (letter_any _ _).mono ?_;rintro e w' ⟨rfl,rfl⟩)
    go_ret
    exact ⟨rfl,rfl⟩
   | true =>
    go_enter Tryz.func145,Tryz.ntmps145
    go_wp2_with (go_at_call 158;refine (letter_any _ _).mono ?_;rintro e w' ⟨rfl,rfl⟩)
    go_loop [19] (fun i=>∃ k:Nat,k≤s.size∧i=.int .i64 k∧Hid (∀ j,j<k→nameB (PlainAid.bt s j)=true)) (fun i=>s.size - (intOf i).toNat)
    case atStart=>exact ⟨0,by omega,rfl,qh (fun j hj=>by omega)⟩
    case round =>
     obtain ⟨k,hk,rfl,hok⟩:=hrel
     by_cases hlt:k<s.size
     ·cases hn:letterB (PlainAid.bt s k) with
      | true =>
       have hstep:=qh (show ∀ j,j<k+1→nameB (PlainAid.bt s j)=true from fun j hj=>by
        by_cases e:j=k
        ·subst e;simp [nameB,hn]
        ·exact hok.out j (by omega))
       go_wp2_with (go_at_call 158;refine (letter_any _ _).mono ?_;rintro e w' ⟨rfl,rfl⟩)
       go_round
       case rel=>exact ⟨k+1,by omega,by go_num,hstep⟩
       case measure=>simp [intOf];omega
      | false =>
       cases hd:digitB (PlainAid.bt s k) with
       | true =>
        have hstep:=qh (show ∀ j,j<k+1→nameB (PlainAid.bt s j)=true from fun j hj=>by
         by_cases e:j=k
         ·subst e;simp [nameB,hd]
         ·exact hok.out j (by omega))
        go_wp2_with (first | (go_at_call 158;refine (letter_any _ _).mono ?_;rintro e w' ⟨rfl,rfl⟩) | (go_at_call 159;refine (digit_any _ _).mono ?_;rintro e w' ⟨rfl,rfl⟩))
        go_round
        case rel=>exact ⟨k+1,by omega,by go_num,hstep⟩
        case measure=>simp [intOf];omega
       | false =>
        have e:lexS s=false:=lexS_no hlt (by simp [nameB,hn,hd])
        have E:=qh e;clear e
        go_wp2_with (first | (go_at_call 158;refine (letter_any _ _).mono ?_;rintro e w' ⟨rfl,rfl⟩) | (go_at_call 159;refine (digit_any _ _).mono ?_;rintro e w' ⟨rfl,rfl⟩))
        go_ret
        exact ⟨by rw [E.out];rfl,rfl⟩
     ·have e:lexS s=true:=lexS_yes hp (by omega) h2 (fun j hj=>hok.out j (by omega))
      have E:=qh e;clear e
      go_wp2_with fail
      go_ret
      exact ⟨by rw [E.out];rfl,rfl⟩
def SliceStrs (w:World) (v:Value) (l:List ByteArray):Prop:=Row w 1 v l.length (l.map Value.string)
theorem SliceStrs.below {w w':World} {v:Value} {l:List ByteArray} (h:SliceStrs w v l) (hb:Below w.heap.size w w'):SliceStrs w' v l:=Row.below h hb
theorem SliceStrs.lit (w:World) (e:TypeId) (l:List ByteArray) (hm:l.length≤maxLen):SliceStrs (w.alloc (.cells (l.map Value.string).toArray e)) (.slice (some ⟨w.heap.size,0,none⟩) l.length l.length) l:=by
 refine ⟨by simp,Or.inr ⟨_,_,rfl,Nat.le_refl _,hm,fun j u hj=>?_⟩⟩
 have e1:(Addr.add ⟨w.heap.size,0,none⟩ j)=⟨w.heap.size,j,none⟩:=by unfold Addr.add;by_cases h0:j=0 <;> simp [h0]
 rw [e1]
 simp only [World.cell?,heap_alloc_new]
 simpa using hj
def idx (l:List ByteArray) (s:ByteArray):Int:=match l.findIdx? (fun x=>x == s) with | some i=>i | none=>-1
theorem str_beq (a b:ByteArray):(a.toList == b.toList)=(b == a):=by
 rw [ByteArray.toList_eq,ByteArray.toList_eq,Bool.eq_iff_iff]
 cases a with | mk a=>cases b with | mk b =>
 have e:((ByteArray.mk b == ByteArray.mk a)=true)↔b=a:=by
  show (b == a)=true↔b=a
  simp
 rw [e]
 simp only [beq_iff_eq,Array.toList_inj]
 exact eq_comm
set_option maxHeartbeats 400000 in
theorem index_any (v:Value) (l:List ByteArray) (s:ByteArray) (w:World) (hv:SliceStrs w v l) :
  Calls Tryz.prog 128 #[v,.string s] w fun e w'=>e=.returned (.int .i64 (idx l s))∧w=w':=by
 by_cases hl:l=[]
 ·subst hl
  obtain ⟨a,cap,rfl,_,_⟩:=Row.shape hv
  go_enter Tryz.func128,Tryz.ntmps128
  go_wp2
  refine wp_loop_rounds 1 ?_
  rw [rounds_succ]
  go_wp2
  go_ret
  exact ⟨rfl,rfl⟩
 ·obtain ⟨b,off,cap,rfl,hnc,hcm,hb,hc⟩:=Row.at hv (by simpa using hl)
  unfold maxLen at hcm
  go_enter Tryz.func128,Tryz.ntmps128
  go_wp2
  go_loop [8] (fun i=>∃ k:Nat,k≤l.length∧i=.int .i64 k∧Hid (∀ j x,j<k→l[j]?=some x→(x == s)=false)) (fun i=>l.length - (intOf i).toNat)
  case atStart=>exact ⟨0,by omega,rfl,qh (fun j _ hj=>by omega)⟩
  case round =>
   obtain ⟨k,hk,rfl,hok⟩:=hrel
   by_cases hlt:k<l.length
   ·obtain ⟨x,hx⟩:∃ x,l[k]?=some x:=⟨l[k],lE hlt⟩
    have hcell:=hc k (.string x) (by simp [hx])
    have HX:=qh hx
    have HC:=qh hc
    have hbx:=str_beq s x
    clear hx hc
    cases he:(x == s) with
    | true =>
     rw [he] at hbx
     have E:=qh (show idx l s=k by
      unfold idx
      have:l.findIdx? (fun x=>x == s)=some k:=by
       rw [List.findIdx?_eq_some_iff_getElem]
       obtain ⟨h1,h2⟩:=List.getElem?_eq_some_iff.1 HX.out
       exact ⟨h1,by rw [h2];exact he,fun j hj=>by have:=hok.out j l[j] hj (lE (by omega));simp [this]⟩
      rw [this])
     go_wp2
     go_ret
     exact ⟨by rw [E.out];rfl,rfl⟩
    | false =>
     rw [he] at hbx
     have hstep:=qh (show ∀ j y,j<k+1→l[j]?=some y→(y == s)=false from fun j y hj hy=>by
      by_cases e:j=k
      ·subst e;rw [HX.out] at hy;cases hy;exact he
      ·exact hok.out j y (by omega) hy)
     go_wp2
     go_round
     case rel=>exact ⟨k+1,by omega,by go_num,hstep⟩
     case measure=>simp [intOf];omega
   ·have E:=qh (show idx l s = -1 by
     unfold idx
     have:l.findIdx? (fun x=>x == s)=none:=by
      rw [List.findIdx?_eq_none_iff]
      intro x hx
      obtain ⟨j,hj⟩:=List.getElem?_of_mem hx
      exact hok.out j x (by have:=(List.getElem?_eq_some_iff.1 hj).1;omega) hj
     rw [this])
    clear hc
    go_wp2
    go_ret
    exact ⟨by rw [E.out];rfl,rfl⟩
set_option maxHeartbeats 400000 in
theorem contains_any (v:Value) (l:List ByteArray) (s:ByteArray) (w:World) (hv:SliceStrs w v l) :
  Calls Tryz.prog 126 #[v,.string s] w fun e w'=>e=.returned (.bool (decide (0≤idx l s)))∧w=w':=by
 obtain ⟨a,cap,rfl,_,_⟩:=Row.shape hv
 cases h:decide (0≤idx l s)
 all_goals
  go_enter Tryz.func126,Tryz.ntmps126
  go_wp2_with (go_at_call 128;refine (index_any _ l _ _ hv).mono ?_;rintro e w' ⟨rfl,rfl⟩)
  go_ret
  exact ⟨rfl,rfl⟩
def words:List ByteArray:=[⟨#[109,97,99,104,105,110,101]⟩,⟨#[114,101,103]⟩,⟨#[97,116]⟩,⟨#[99,108,97,115,115]⟩,⟨#[111,112]⟩,⟨#[116,105,101]⟩,⟨#[99,108,111,98]⟩,⟨#[97,114,103,115]⟩,⟨#[114,101,115,117,108,116]⟩,⟨#[115,97,118,101,100]⟩,⟨#[115,108,111,116,115]⟩]
def wordS (s:ByteArray):Bool:=decide (0≤idx words s)
set_option maxHeartbeats 400000 in
theorem word_any (s:ByteArray) (w:World):Calls Tryz.prog 146 #[.string s] w fun e w'=>e=.returned (.bool (wordS s))∧Below w.heap.size w w':=by
 have hv:=SliceStrs.lit w 9 words (by decide)
 have key:=contains_any _ words s _ hv
 go_enter Tryz.func146,Tryz.ntmps146
 go_wp2_with fail
 refine key.mono ?_
 rintro e w' ⟨rfl,rfl⟩
 go_wp2_with fail
 go_ret
 exact ⟨rfl,Ext.alloc _ _⟩
def namedS (s:ByteArray):Bool:=lexS s && !wordS s
set_option maxHeartbeats 400000 in
theorem named_any (s:ByteArray) (w:World):Calls Tryz.prog 124 #[.string s] w fun e w'=>e=.returned (.bool (namedS s))∧Below w.heap.size w w':=by
 unfold namedS
 cases h1:lexS s with
 | false =>
  go_enter Tryz.func124,Tryz.ntmps124
  go_wp2_with (go_at_call 145;refine (lexNamed_any _ _).mono ?_;rintro e w' ⟨rfl,rfl⟩)
  go_ret
  exact ⟨rfl,Below.refl _ _⟩
 | true =>
  cases h2:wordS s
  all_goals
   go_enter Tryz.func124,Tryz.ntmps124
   go_wp2_with fail
   refine (lexNamed_any _ _).mono ?_
   rintro e w' ⟨rfl,rfl⟩
   go_wp2_with fail
   refine (word_any _ _).mono ?_
   rintro e w' ⟨rfl,hb⟩
   go_wp2_with fail
   go_ret
   exact ⟨rfl,hb⟩
end Go.Proofs.YtligiddaampneaaGreat
end
section
namespace Go.Proofs.YtligiddaampneaaGreat
open Go.RowKit
structure Pl where
 root:Int
 beg:Int
 width:Int
 deriving DecidableEq
def Pl.cells (p:Pl):List Value:=[.int .i64 p.root,.int .i64 p.beg,.int .i64 p.width]
def Pl.fit (p:Pl):Prop:=(-9223372036854775808≤p.root∧p.root≤9223372036854775807)∧(-9223372036854775808≤p.beg∧p.beg≤9223372036854775807)∧(-9223372036854775808≤p.width∧p.width≤9223372036854775807)
def stopped (e:Int):Ending:=.panicked [{ v:=.iface 125 (.agg #[.int .i64 e]),recovered:=false }]
theorem need_ok (e:Int) (w:World):Calls Tryz.prog 138 #[.bool true,.int .i64 e] w fun r w'=>r=.returned (.tuple #[])∧w=w':=by
 go_enter Tryz.func138,Tryz.ntmps138
 go_wp2
 go_end0
 exact ⟨rfl,rfl⟩
theorem need_no (e:Int) (w:World):Calls Tryz.prog 138 #[.bool false,.int .i64 e] w fun r w'=>r=stopped e∧w=w':=by
 go_enter Tryz.func138,Tryz.ntmps138
 go_wp2
 exact ⟨rfl,rfl,rfl⟩
def lapS (a b:Pl):Bool:=decide (a.root=b.root) && (decide (1≤a.width) && (decide (1≤b.width) && (if b.beg<a.beg then decide (a.beg - b.beg<b.width) else decide (b.beg - a.beg<a.width))))
theorem u64_sub (x y:Int) (h:y≤x) (hx:x - y<18446744073709551616):IntKind.u64.wrap (IntKind.u64.wrap x - IntKind.u64.wrap y)=x - y:=by
 rw [IntKind.wrap_u64,IntKind.wrap_u64,IntKind.wrap_u64];omega
theorem u64_pos (x:Int) (h:0≤x) (hx:x≤9223372036854775807):IntKind.u64.wrap x=x:=by rw [IntKind.wrap_u64];omega
theorem lapS_eq (ar aa aw br ba bw:Int):lapS ⟨ar,aa,aw⟩ ⟨br,ba,bw⟩=(decide (ar=br) && (decide (1≤aw) && (decide (1≤bw) && (if ba<aa then decide (aa - ba<bw) else decide (ba - aa<aw))))):=rfl
set_option maxHeartbeats 1000000 in
theorem lap_any (a b:Pl) (w:World) (ha:a.fit) (hb:b.fit) :
  Calls Tryz.prog 109 #[.agg a.cells.toArray,.agg b.cells.toArray] w fun e w'=>e=.returned (.bool (lapS a b))∧Below w.heap.size w w':=by
 obtain ⟨ar,aa,aw⟩:=a
 obtain ⟨br,ba,bw⟩:=b
 obtain ⟨⟨_,_⟩,⟨a1,a2⟩,⟨a3,a4⟩⟩:=ha
 obtain ⟨⟨_,_⟩,⟨b1,b2⟩,⟨b3,b4⟩⟩:=hb
 rw [lapS_eq]
 simp only [Pl.cells] at *
 by_cases h1:ar=br
 ·have t1:(ar != br)=false:=by simp [h1]
  rw [show decide (ar=br)=true by simp [h1],Bool.true_and]
  clear h1
  by_cases h2:aw<1
  ·rw [show decide (1≤aw)=false by simp;omega,Bool.false_and]
   go_enter Tryz.func109,Tryz.ntmps109
   go_wp2
   go_ret
   exact ⟨rfl,below2 _ _ _⟩
  ·rw [show decide (1≤aw)=true by simp;omega,Bool.true_and]
   by_cases h3:bw<1
   ·rw [show decide (1≤bw)=false by simp;omega,Bool.false_and]
    go_enter Tryz.func109,Tryz.ntmps109
    go_wp2
    go_ret
    exact ⟨rfl,below2 _ _ _⟩
   ·rw [show decide (1≤bw)=true by simp;omega,Bool.true_and]
    by_cases h4:ba<aa
    ·rw [if_pos h4]
     have e1:=u64_sub aa ba (by omega) (by omega)
     have e2:=u64_pos bw (by omega) (by omega)
     cases h5:decide (aa - ba<bw)
     all_goals
      go_enter Tryz.func109,Tryz.ntmps109
      go_wp2
      go_ret
      exact ⟨rfl,below2 _ _ _⟩
    ·rw [if_neg h4]
     have e1:=u64_sub ba aa (by omega) (by omega)
     have e2:=u64_pos aw (by omega) (by omega)
     cases h5:decide (ba - aa<aw)
     all_goals
      go_enter Tryz.func109,Tryz.ntmps109
      go_wp2
      go_ret
      exact ⟨rfl,below2 _ _ _⟩
 ·have t1:(ar != br)=true:=by simp [h1]
  rw [show decide (ar=br)=false by simp [h1],Bool.false_and]
  clear h1
  go_enter Tryz.func109,Tryz.ntmps109
  go_wp2
  go_ret
  exact ⟨rfl,below2 _ _ _⟩
end Go.Proofs.YtligiddaampneaaGreat
end
section
namespace Go.Proofs.YtligiddaampneaaGreat
open Go.RowKit
theorem ba_beq (a b:ByteArray):(a == b)=true↔a=b:=by
 cases a with | mk a=>cases b with | mk b =>
 show (a == b)=true↔_
 simp
def memB (k:ByteArray) (l:List ByteArray):Bool:=l.any (fun x=>x == k)
theorem memB_iff (k:ByteArray) (l:List ByteArray):memB k l=true↔k∈l:=by
 unfold memB
 rw [List.any_eq_true]
 constructor
 ·rintro ⟨x,hx,e⟩;rw [ba_beq] at e;exact e ▸ hx
 ·intro h;exact ⟨k,h,(ba_beq k k).2 rfl⟩
structure Wk where
 names:List ByteArray
 places:List Pl
 ways:List (Pl × List Pl)
 roots:Int
def placeS (σ:Wk) (d:Nat) (width beg:Int):Except Int (Pl × Int) :=
 if d=1 then (if beg=0 then .ok (⟨σ.roots,beg,width⟩,σ.roots+1) else .error 6)
 else match σ.ways[d - 1]? with
  | some q=>if beg≤q.1.width - width then .ok (⟨q.1.root,q.1.beg+beg,width⟩,σ.roots) else .error 6
  | none=>.error 6
def within (σ:Wk) (d:Nat):List Pl:=match σ.ways[d - 1]? with | some q=>q.2 | none=>[]
def tookS (σ:Wk) (name:ByteArray) (d:Nat) (p:Pl) (roots:Int):Wk :=
  { names:=σ.names ++ [name],places:=σ.places ++ [p],roots,
    ways:=match σ.ways[d - 1]? with | some q=>σ.ways.take (d - 1) ++ [(q.1,q.2 ++ [p]),(p,[])] | none=>[] }
def oneS (σ:Wk) (name:ByteArray) (width beg:Int) (d:Nat):Except Int Wk :=
 if 6<d then .error 4
 else if 200≤σ.names.length then .error 2
 else if (namedS name && !(memB name σ.names))=false then .error 5
 else if ¬ (1≤width∧width≤64∧0≤beg) then .error 6
 else match placeS σ d width beg with
  | .error e=>.error e
  | .ok (p,roots)=>if (within σ d).any (lapS p) then .error 7 else .ok (tookS σ name d p roots)
def ents (l:List ByteArray):List MapEntry:=l.zipIdx.map fun x=>{ key:=.string x.1,val:=.int .i64 x.2,born:=x.2 }
theorem ents_snoc (l:List ByteArray) (s:ByteArray):ents (l ++ [s])=ents l ++ [{ key:=.string s,val:=.int .i64 l.length,born:=l.length }]:=by
 simp [ents,List.zipIdx_append]
theorem strKeys_map (l:List (ByteArray × Nat)):strKeys (l.map fun x=>({ key:=.string x.1,val:=.int .i64 x.2,born:=x.2 }:MapEntry))=true:=by
 induction l with
 | nil=>simp
 | cons x l ih=>simpa using ih
theorem ents_str (l:List ByteArray):strKeys (ents l)=true:=strKeys_map _
theorem entryAt_map (k:ByteArray) (l:List (ByteArray × Nat)) (h:∀ x∈l,x.1≠k):entryAt k.data.toList (l.map fun x=>({ key:=.string x.1,val:=.int .i64 x.2,born:=x.2 }:MapEntry))=none:=by
 induction l with
 | nil=>simp
 | cons x l ih =>
  have hx:(x.1.data.toList == k.data.toList)=false:=by
   have:=h x (by simp)
   simp only [beq_eq_false_iff_ne,ne_eq]
   intro e
   exact this ((bytes_eq' e))
  simp only [List.map_cons,entryAt_cons,hx,Bool.false_eq_true,if_false]
  exact ih (fun y hy=>h y (by simp [hy]))
where
 bytes_eq' {a b:ByteArray} (h:a.data.toList=b.data.toList):a=b:=by
  cases a with | mk a=>cases b with | mk b=>simp at h;simp [h]
theorem ents_none (l:List ByteArray) (k:ByteArray) (h:k∉l):entryAt k.data.toList (ents l)=none:=by
 refine entryAt_map k _ fun x hx e=>?_
 have:x.1∈l:=by
  have:=List.mem_zipIdx hx
  simp only [Nat.zero_add,Nat.sub_zero] at this
  rw [this.2.2];exact List.getElem_mem _
 rw [e] at this
 exact h this
theorem entryAt_mem (k:ByteArray) (l:List (ByteArray × Nat)) (h:∃ x∈l,x.1=k):∃ n:Nat,entryAt k.data.toList (l.map fun x=>({ key:=.string x.1,val:=.int .i64 x.2,born:=x.2 }:MapEntry))=some (.int .i64 n):=by
 induction l with
 | nil=>obtain ⟨x,hx,_⟩:=h;simp at hx
 | cons x l ih =>
  simp only [List.map_cons,entryAt_cons]
  by_cases e:(x.1.data.toList == k.data.toList)=true
  ·exact ⟨x.2,by simp [e]⟩
  ·have e':(x.1.data.toList == k.data.toList)=false:=by simpa using e
   rw [e']
   simp only [Bool.false_eq_true,if_false]
   obtain ⟨y,hy,rfl⟩:=h
   rcases List.mem_cons.1 hy with rfl | hy
   ·simp at e
   ·exact ih ⟨y,hy,rfl⟩
theorem ents_some (l:List ByteArray) (k:ByteArray) (hm:k∈l):∃ n:Nat,entryAt k.data.toList (ents l)=some (.int .i64 n):=by
 refine entryAt_mem k _ ?_
 obtain ⟨i,hi⟩:=List.getElem?_of_mem hm
 exact ⟨(k,i),by rw [List.mem_zipIdx_iff_getElem?];exact hi,rfl⟩
section
variable {P : Program} (T K E : TypeId) (hT : P.underlying T = some (.map K E)) (hK : P.underlying K = some .string)
include hT hK
theorem run_lookup_ok (W:World) (es:List MapEntry) (c r:Nat) (k:ByteArray) (v:Value) (hr:W.heap[r]?=some (.map es.toArray c)) (hs:strKeys es=true)
  (hv:entryAt k.data.toList es=some v) :
  (Instr.lookup T (.map (some r)) (.string k) true).run P W=.ok (.tuple #[v,.bool true]) W:=by
 obtain ⟨j,hf⟩:=(findNow_str k es hs 0).2 v hv
 simp [Instr.lookup,run_underlying hT,run_underlying hK,MapKept.run_getObj_map hr,run_check_str hK,Instr.findKey,hf,Result.andThen]
theorem run_lookup_no (W:World) (es:List MapEntry) (c r:Nat) (k:ByteArray) (z:Value) (hr:W.heap[r]?=some (.map es.toArray c)) (hs:strKeys es=true)
  (hv:entryAt k.data.toList es=none) (hz:∀ w:World,(zeroValue E).run P w=.ok z w) :
  (Instr.lookup T (.map (some r)) (.string k) true).run P W=.ok (.tuple #[z,.bool false]) W:=by
 have hf:=(findNow_str k es hs 0).1 hv
 simp [Instr.lookup,run_underlying hT,run_underlying hK,MapKept.run_getObj_map hr,run_check_str hK,Instr.findKey,hf,hz,Result.andThen]
theorem run_update_new (W:World) (es:List MapEntry) (c r:Nat) (k:ByteArray) (v:Value) (hr:W.heap[r]?=some (.map es.toArray c)) (hs:strKeys es=true)
  (hn:entryAt k.data.toList es=none) :
  (Instr.mapUpdate T (.map (some r)) (.string k) v).run P W=.ok () { W with heap:=W.heap.setIfInBounds r (.map (es ++ [({ key:=.string k,val:=v,born:=c }:MapEntry)]).toArray (c+1)) }:=by
 have hf:=(findNow_str k es hs 0).1 hn
 simp [Instr.mapUpdate,run_underlying hT,run_underlying hK,MapKept.run_getObj_map hr,MapKept.run_setObj_map _ hr,run_check_str hK,Instr.findKey,hf,Result.andThen]
end
structure Keep (S:Nat→Prop) (w w':World):Prop where
 os:w'.os=w.os
 tape:w'.tape=w.tape
 output:w'.output=w.output
 size:w.heap.size≤w'.heap.size
 block:∀ k,k<w.heap.size→¬ S k→w'.heap[k]?=w.heap[k]?
theorem Keep.of_ext {S:Nat→Prop} {w w':World} (h:Ext w w'):Keep S w w':=⟨Below.os h,Below.tape h,Below.output h,Below.size h,fun k hk _=>Below.block h k hk⟩
theorem Keep.refl (S:Nat→Prop) (w:World):Keep S w w:=Keep.of_ext (Ext.refl w)
theorem Keep.trans {S S':Nat→Prop} {a b c:World} (h:Keep S a b) (k:Keep S' b c) (hs:∀ i,i<a.heap.size→S' i→S i):Keep S a c :=
  ⟨k.os.trans h.os,k.tape.trans h.tape,k.output.trans h.output,Nat.le_trans h.size k.size,
   fun i hi hn=>(k.block i (Nat.lt_of_lt_of_le hi h.size) (fun x=>hn (hs i hi x))).trans (h.block i hi hn)⟩
theorem Keep.setCell (S:Nat→Prop) (w:World) (a:Addr) (v:Value) (h:S a.block):Keep S w (w.setCell a v) :=
 ⟨rfl,rfl,rfl,by simp [World.setCell],fun k _ hn=>Below.heap_setCell _ _ _ _ (fun e=>hn (e ▸ h))⟩
theorem Keep.grown {S:Nat→Prop} {w w':World} {row:Option Nat} (h:w.grownBy w' row) (hr:∀ k,row=some k→S k):Keep S w w' :=
 ⟨h.os,h.tape,h.output,h.size,fun k hk hn=>h.block k hk (fun e=>hn (hr k e.symm))⟩
theorem Keep.putObj (S:Nat→Prop) (w:World) (r:Nat) (o:Obj) (h:S r):Keep S w { w with heap:=w.heap.setIfInBounds r o } :=
  ⟨rfl,rfl,rfl,by simp,fun k _ hn=>by
    have hne:r≠k:=fun e=>hn (e ▸ h)
    simp only [Array.getElem?_setIfInBounds];rw [if_neg hne]⟩
theorem owns_same {w w':World} {base size:Nat} {e:TypeId} {v:Value} {n:Nat} {xs:List Value} (h:w.ownsRow base e size v n xs) (hk:∀ k,v.ownBlock=some k→w'.heap[k]?=w.heap[k]?):w'.ownsRow base e size v n xs:=by
 refine ⟨h.1,?_⟩
 rcases h.2 with h2 | ⟨g,cap,cur,rfl,hb,hg,r⟩
 ·exact Or.inl h2
 ·exact Or.inr ⟨g,cap,cur,rfl,hb,by rw [hk g rfl];exact hg,r⟩
theorem owns_take {w:World} {base size:Nat} {e:TypeId} {a:Option Addr} {n cap:Nat} {xs:List Value} (h:w.ownsRow base e size (.slice a n cap) n xs) (m:Nat) (hm:m≤n) (h0:0<n):w.ownsRow base e size (.slice a m cap) m (xs.take (m * size)):=by
 obtain ⟨hl,h⟩:=h
 have hle:m * size≤n * size:=Nat.mul_le_mul_right _ hm
 refine ⟨by rw [List.length_take,hl];omega,?_⟩
 rcases h with ⟨_,rfl⟩ | ⟨g,cap',cur,hv,hb,hg,hn,hcm,hcs,hxs⟩
 ·omega
 ·cases hv
  refine Or.inr ⟨g,cap,cur,rfl,hb,hg,by omega,hcm,hcs,?_⟩
  rw [← hxs,List.take_take,Nat.min_eq_left hle]
end Go.Proofs.YtligiddaampneaaGreat
end
section
namespace Go.Proofs.YtligiddaampneaaGreat
open Go.RowKit
def Has (ρ:Nat→Option Nat) (k:Nat):Prop := ∃ r,ρ r=some k
def Apart (ρ:Nat→Option Nat):Prop := ∀ r r' k,ρ r=some k→ρ r'=some k→r=r'
theorem Apart.set {ρ ρ':Nat→Option Nat} (h:Apart ρ) (r0 g:Nat) (hg:ρ r0=some g∨∀ r k,ρ r=some k→k≠g) (h':∀ r,r≠r0→ρ' r=ρ r) (h0:ρ' r0=some g):Apart ρ':=by
 intro r r' k hr hr'
 by_cases e:r=r0
 ·subst e
  by_cases e':r'=r
  ·exact e'.symm
  ·rw [h' r' e'] at hr'
   rw [h0] at hr;cases hr
   rcases hg with hg | hg
   ·exact h _ _ _ hg hr'
   ·exact absurd rfl (hg _ _ hr')
 ·rw [h' r e] at hr
  by_cases e':r'=r0
  ·subst e'
   rw [h0] at hr';cases hr'
   rcases hg with hg | hg
   ·exact h _ _ _ hr hg
   ·exact absurd rfl (hg _ _ hr)
  ·rw [h' r' e'] at hr'
   exact h _ _ _ hr hr'
theorem Apart.sub {ρ ρ':Nat→Option Nat} (h:Apart ρ) (h':∀ r k,ρ' r=some k→ρ r=some k):Apart ρ':=fun r r' k hr hr'=>h r r' k (h' _ _ hr) (h' _ _ hr')
theorem Apart.ne {ρ:Nat→Option Nat} (h:Apart ρ) {r r' k k':Nat} (hr:ρ r=some k) (hr':ρ r'=some k') (hne:r≠r'):k≠k':=fun e=>hne (h r r' k hr (e ▸ hr'))
def wayCells (ways:List (Pl × List Pl)) (cs:List Value):List Value:=(ways.zip cs).flatMap fun x=>x.1.1.cells ++ [x.2]
def plCells (l:List Pl):List Value:=l.flatMap Pl.cells
def parts (bw bm:Nat) (vN vP vW:Value) (ws:List Value):Nat→Option Nat
 | 0=>some bw
 | 1=>some bm
 | 2=>vN.ownBlock
 | 3=>vP.ownBlock
 | 4=>vW.ownBlock
 | j+5=>(ws[j]?).bind Value.ownBlock
structure WkG (W:World) (bw bm:Nat) (cN cP cW:Value) (cs:List Value) (vN vP vW:Value) (ws:List Value) (mn:List ByteArray) (σ:Wk):Prop where
 st:W.heap[bw]?=some (.cells #[cN,cP,.map (some bm),cW,.int .i64 σ.roots] 132 (0,0))
 mp:W.heap[bm]?=some (.map (ents mn).toArray mn.length)
 nm:W.ownsRow 0 9 1 vN σ.names.length (σ.names.map Value.string)
 pl:W.ownsRow 0 88 3 vP σ.places.length (plCells σ.places)
 wy:W.ownsRow 0 129 4 vW σ.ways.length (wayCells σ.ways cs)
 lw:ws.length=σ.ways.length
 lc:cs.length=σ.ways.length
 wi:∀ (i:Nat) (x:Pl × List Pl) (v:Value),σ.ways[i]?=some x→ws[i]?=some v→W.ownsRow 0 88 3 v x.2.length (plCells x.2)
 ap:Apart (parts bw bm vN vP vW ws)
def WkIn (W:World) (bw bm:Nat) (vN vP vW:Value) (ws:List Value) (σ:Wk):Prop:=WkG W bw bm vN vP vW ws vN vP vW ws σ.names σ
section
variable {W W' : World} {bw bm : Nat} {cN cP cW : Value} {cs : List Value} {vN vP vW : Value} {ws : List Value} {mn : List ByteArray} {σ : Wk}
theorem WkG.lt (h:WkG W bw bm cN cP cW cs vN vP vW ws mn σ):∀ r k,parts bw bm vN vP vW ws r=some k→k<W.heap.size:=by
 intro r k hk
 match r,hk with
 | 0,hk=>cases hk;exact (Array.getElem?_eq_some_iff.1 h.st).1
 | 1,hk=>cases hk;exact (Array.getElem?_eq_some_iff.1 h.mp).1
 | 2,hk=>exact (h.nm.lt k hk).2
 | 3,hk=>exact (h.pl.lt k hk).2
 | 4,hk=>exact (h.wy.lt k hk).2
 | j+5,hk =>
  simp only [parts] at hk
  cases hv:ws[j]? with
  | none=>rw [hv] at hk;cases hk
  | some v =>
   rw [hv] at hk
   have hlt:j<σ.ways.length:=by rw [← h.lw];exact (List.getElem?_eq_some_iff.1 hv).1
   exact ((h.wi j σ.ways[j] v (lE hlt) hv).lt k hk).2
theorem wi_kept (h:WkG W bw bm cN cP cW cs vN vP vW ws mn σ) {i:Nat} {x:Pl × List Pl} {v:Value} (hx:σ.ways[i]?=some x) (hv:ws[i]?=some v)
  (hk:∀ k,parts bw bm vN vP vW ws (i+5)=some k→W'.heap[k]?=W.heap[k]?):W'.ownsRow 0 88 3 v x.2.length (plCells x.2) :=
 owns_same (h.wi i x v hx hv) fun k e=>hk k (by simp [parts,hv,e])
theorem WkG.same (h:WkG W bw bm cN cP cW cs vN vP vW ws mn σ) (hk:∀ r k,parts bw bm vN vP vW ws r=some k→W'.heap[k]?=W.heap[k]?):WkG W' bw bm cN cP cW cs vN vP vW ws mn σ where
 st:=by rw [hk 0 bw rfl];exact h.st
 mp:=by rw [hk 1 bm rfl];exact h.mp
 nm:=owns_same h.nm fun k e=>hk 2 k e
 pl:=owns_same h.pl fun k e=>hk 3 k e
 wy:=owns_same h.wy fun k e=>hk 4 k e
 lw:=h.lw
 lc:=h.lc
 wi:=fun i _ _ hx hv=>wi_kept h hx hv fun k e=>hk (i+5) k e
 ap:=h.ap
theorem WkG.ext (h:WkG W bw bm cN cP cW cs vN vP vW ws mn σ) (x:Ext W W'):WkG W' bw bm cN cP cW cs vN vP vW ws mn σ :=
 h.same fun r k hk=>Below.block x k (h.lt r k hk)
theorem WkIn.ext (h:WkIn W bw bm vN vP vW ws σ) (x:Ext W W'):WkIn W' bw bm vN vP vW ws σ:=WkG.ext h x
theorem WkIn.drew (h:WkIn W bw bm vN vP vW ws σ):WkIn W.drew bw bm vN vP vW ws σ:=h.ext (Ext.drew W)
theorem WkIn.lt (h:WkIn W bw bm vN vP vW ws σ):∀ k,Has (parts bw bm vN vP vW ws) k→k<W.heap.size:=fun k ⟨r,hr⟩=>WkG.lt h r k hr
theorem WkG.drew (h:WkG W bw bm cN cP cW cs vN vP vW ws mn σ):WkG W.drew bw bm cN cP cW cs vN vP vW ws mn σ:=h.ext (Ext.drew W)
theorem heap_set_cells {b:Nat} {cs:Array Value} {e:TypeId} {fz:Nat × Nat} (h:W.heap[b]?=some (.cells cs e fz)) (i:Nat) (v:Value) :
  (W.setCell ⟨b,i,none⟩ v).heap[b]?=some (.cells (cs.setIfInBounds i v) e fz):=by
 simp only [World.setCell,Array.getElem?_modify,if_true,h,Option.map_some]
 simp
theorem WkG.field (h:WkG W bw bm cN cP cW cs vN vP vW ws mn σ) {cN' cP' cW':Value} {ro:Int} (i:Nat) (v:Value)
  (he:(#[cN,cP,.map (some bm),cW,.int .i64 σ.roots]:Array Value).setIfInBounds i v=#[cN',cP',.map (some bm),cW',.int .i64 ro]) :
  WkG (W.setCell ⟨bw,i,none⟩ v) bw bm cN' cP' cW' cs vN vP vW ws mn { σ with roots:=ro }:=by
 have oth:∀ r k,r≠0→parts bw bm vN vP vW ws r=some k→(W.setCell ⟨bw,i,none⟩ v).heap[k]?=W.heap[k]?:=fun r k hr hk=>Below.heap_setCell _ _ _ _ (h.ap.ne hk (r':=0) (k':=bw) rfl hr)
 exact ⟨by rw [heap_set_cells h.st,he],by rw [oth 1 bm (by decide) rfl];exact h.mp,owns_same h.nm fun k e=>oth 2 k (by decide) e,owns_same h.pl fun k e=>oth 3 k (by decide) e,
  owns_same h.wy fun k e=>oth 4 k (by decide) e,h.lw,h.lc,fun i _ _ hx hv=>wi_kept h hx hv fun k e=>oth (i+5) k (by omega) e,h.ap⟩
theorem zip_take (ways:List (Pl × List Pl)) (ws:List Value) (d:Nat):wayCells (ways.take d) (ws.take d)=(wayCells ways ws).take (d * 4):=by
 induction d generalizing ways ws with
 | zero=>simp [wayCells]
 | succ d ih =>
  cases ways with
  | nil=>simp [wayCells]
  | cons x ways =>
   cases ws with
   | nil=>simp [wayCells]
   | cons v ws =>
    have e:(d+1) * 4=d * 4+4:=by omega
    simp only [wayCells,List.take_succ_cons,List.zip_cons_cons,List.flatMap_cons] at ih ⊢
    rw [ih ways ws,e]
    obtain ⟨⟨r,b,w⟩,l⟩:=x
    simp [Pl.cells]
theorem WkIn.cut {a:Option Addr} {n cap:Nat} (h:WkIn W bw bm vN vP (.slice a n cap) ws σ) (hn:n=σ.ways.length) (d:Nat) (hd:d≤n) (h0:0<n) :
  WkIn (W.setCell ⟨bw,3,none⟩ (.slice a d cap)) bw bm vN vP (.slice a d cap) (ws.take d) { σ with ways:=σ.ways.take d }:=by
 subst hn
 have hb:(Value.slice a d cap).ownBlock=(Value.slice a σ.ways.length cap).ownBlock:=by cases a <;> rfl
 have g:=WkG.field h (cN':=vN) (cP':=vP) (cW':=.slice a d cap) (ro:=σ.roots) 3 (.slice a d cap) rfl
 refine ⟨g.st,g.mp,g.nm,g.pl,?_,?_,?_,?_,?_⟩
 ·have:=owns_take g.wy d hd h0
  rw [← zip_take] at this
  have hl:(σ.ways.take d).length=d:=by rw [List.length_take];omega
  show World.ownsRow _ _ _ _ _ (σ.ways.take d).length _
  rw [hl];exact this
 ·simp only [List.length_take];rw [h.lw]
 ·simp only [List.length_take];rw [h.lw]
 ·intro i x v hx hv
  simp only [List.getElem?_take] at hx hv
  by_cases hi:i<d
  ·rw [if_pos hi] at hx hv;exact g.wi i x v hx hv
  ·rw [if_neg hi] at hx;cases hx
 ·refine g.ap.sub fun r k hk=>?_
  match r,hk with
  | 0,hk=>exact hk
  | 1,hk=>exact hk
  | 2,hk=>exact hk
  | 3,hk=>exact hk
  | 4,hk=>exact hb.symm.trans hk
  | j+5,hk =>
   simp only [parts,List.getElem?_take] at hk ⊢
   by_cases hj:j<d
   ·rw [if_pos hj] at hk;exact hk
   ·rw [if_neg hj] at hk;cases hk
theorem parts_cut {a:Option Addr} {n d cap:Nat}:∀ k,Has (parts bw bm vN vP (.slice a d cap) (ws.take d)) k→Has (parts bw bm vN vP (.slice a n cap) ws) k:=by
 rintro k ⟨r,hk⟩
 refine ⟨r,?_⟩
 match r,hk with
 | 0,hk=>exact hk
 | 1,hk=>exact hk
 | 2,hk=>exact hk
 | 3,hk=>exact hk
 | 4,hk=>exact (by rw [← hk];cases a <;> rfl)
 | j+5,hk =>
  simp only [parts,List.getElem?_take] at hk ⊢
  by_cases hj:j<d
  ·rw [if_pos hj] at hk;exact hk
  ·rw [if_neg hj] at hk;cases hk
theorem WkIn.root (h:WkIn W bw bm vN vP vW ws σ) (n:Int):WkIn (W.setCell ⟨bw,4,none⟩ (.int .i64 n)) bw bm vN vP vW ws { σ with roots:=n }:=WkG.field h 4 _ rfl
theorem Ext.drewN (w:World) (n:Nat):Ext w (w.drewN n):=below_drewN (Below.refl _ _) n
theorem WkG.cells (h:WkG W bw bm cN cP cW cs vN vP vW ws mn σ) :
  W.cell? ⟨bw,0,none⟩=some cN∧W.cell? ⟨bw,1,none⟩=some cP∧W.cell? ⟨bw,2,none⟩=some (.map (some bm))∧W.cell? ⟨bw,3,none⟩=some cW∧W.cell? ⟨bw,4,none⟩=some (.int .i64 σ.roots):=by
 simp only [World.cell?,h.st]
 refine ⟨rfl,rfl,rfl,rfl,rfl⟩
theorem WkG.free (h:WkG W bw bm cN cP cW cs vN vP vW ws mn σ) (i:Nat):W.frozen? ⟨bw,i,none⟩=false:=by
 simp [World.frozen?,h.st]
theorem WkIn.cells (h:WkIn W bw bm vN vP vW ws σ) :
 W.cell? ⟨bw,0,none⟩=some vN∧W.cell? ⟨bw,1,none⟩=some vP∧W.cell? ⟨bw,2,none⟩=some (.map (some bm))∧W.cell? ⟨bw,3,none⟩=some vW∧W.cell? ⟨bw,4,none⟩=some (.int .i64 σ.roots):=WkG.cells h
theorem WkIn.free (h:WkIn W bw bm vN vP vW ws σ) (i:Nat):W.frozen? ⟨bw,i,none⟩=false:=WkG.free h i
theorem wayCells_cons (y:Pl × List Pl) (ways:List (Pl × List Pl)) (u:Value) (cs:List Value):wayCells (y :: ways) (u :: cs)=.int .i64 y.1.root :: .int .i64 y.1.beg :: .int .i64 y.1.width :: u :: wayCells ways cs:=by
 simp [wayCells,Pl.cells]
theorem wayCells_at {ways:List (Pl × List Pl)} {cs:List Value} {i:Nat} {x:Pl × List Pl} {v:Value} (hx:ways[i]?=some x) (hv:cs[i]?=some v) :
  (wayCells ways cs)[i * 4]?=some (.int .i64 x.1.root)∧(wayCells ways cs)[i * 4+1]?=some (.int .i64 x.1.beg)∧(wayCells ways cs)[i * 4+2]?=some (.int .i64 x.1.width)∧(wayCells ways cs)[i * 4+3]?=some v:=by
 induction i generalizing ways cs with
 | zero =>
  cases ways with
  | nil=>simp at hx
  | cons y ways =>
   cases cs with
   | nil=>simp at hv
   | cons u cs =>
    simp at hx hv;subst hx;subst hv
    simp [wayCells,Pl.cells]
 | succ i ih =>
  cases ways with
  | nil=>simp at hx
  | cons y ways =>
   cases cs with
   | nil=>simp at hv
   | cons u cs =>
    have:=ih (ways:=ways) (cs:=cs) (by simpa using hx) (by simpa using hv)
    rw [wayCells_cons,show (i+1) * 4=i * 4+4 by omega]
    simpa using this
theorem wayCells_set (ways:List (Pl × List Pl)) (cs:List Value) (i:Nat) (l:List Pl) (v:Value) (hc:cs.length=ways.length) (x:Pl × List Pl) (hx:ways[i]?=some x) :
  wayCells (ways.set i (x.1,l)) (cs.set i v)=(wayCells ways cs).set (i * 4+3) v:=by
 induction i generalizing ways cs with
 | zero =>
  cases ways with
  | nil=>simp at hx
  | cons y ways =>
   cases cs with
   | nil=>simp at hc
   | cons u cs =>
    simp at hx;subst hx
    simp [wayCells_cons]
 | succ i ih =>
  cases ways with
  | nil=>simp at hx
  | cons y ways =>
   cases cs with
   | nil=>simp at hc
   | cons u cs =>
    have:=ih ways cs (by simpa using hc) (by simpa using hx)
    rw [show (i+1) * 4+3=i * 4+3+1+1+1+1 by omega]
    simp only [List.set_cons_succ,wayCells_cons,this]
theorem wayCells_set0 (ways:List (Pl × List Pl)) (cs:List Value) (i:Nat) (l:List Pl) (x:Pl × List Pl) (hx:ways[i]?=some x) :
  wayCells (ways.set i (x.1,l)) cs=wayCells ways cs:=by
 induction i generalizing ways cs with
 | zero =>
  cases ways with
  | nil=>simp at hx
  | cons y ways =>
   cases cs with
   | nil=>simp [wayCells]
   | cons u cs=>simp at hx;subst hx;simp [wayCells_cons]
 | succ i ih =>
  cases ways with
  | nil=>simp at hx
  | cons y ways =>
   cases cs with
   | nil=>simp [wayCells]
   | cons u cs=>simp only [List.set_cons_succ,wayCells_cons];rw [ih ways cs (by simpa using hx)]
theorem wayCells_snoc (ways:List (Pl × List Pl)) (cs:List Value) (p:Pl) (l:List Pl) (v:Value) (hc:cs.length=ways.length) :
  wayCells (ways ++ [(p,l)]) (cs ++ [v])=wayCells ways cs ++ (p.cells ++ [v]):=by
 unfold wayCells
 rw [List.zip_append hc.symm,List.flatMap_append]
 simp
theorem plCells_snoc (l:List Pl) (p:Pl):plCells (l ++ [p])=plCells l ++ p.cells:=by simp [plCells]
theorem WkG.around {bW n cap:Nat} (h:WkG W bw bm cN cP cW cs vN vP (.slice (some ⟨bW,0,none⟩) n cap) ws mn σ) {i:Nat} {x:Pl × List Pl} {v:Value} (hx:σ.ways[i]?=some x) (hv:cs[i]?=some v) :
  W.cell? ⟨bW,i * 4,none⟩=some (.int .i64 x.1.root)∧W.cell? ⟨bW,i * 4+1,none⟩=some (.int .i64 x.1.beg)∧W.cell? ⟨bW,i * 4+2,none⟩=some (.int .i64 x.1.width)∧W.cell? ⟨bW,i * 4+3,none⟩=some v∧W.frozen? ⟨bW,i * 4+3,none⟩=false:=by
 obtain ⟨h0,h1,h2,h3⟩:=wayCells_at hx hv
 have hl:=h.wy.1
 rcases h.wy.2 with ⟨e,_⟩ | ⟨g,cap',cur,e,_,hg,_,_,_,hxs⟩
 ·cases e
 ·cases e
  have hlt:i<σ.ways.length:=(List.getElem?_eq_some_iff.1 hx).1
  have at_:∀ j u,j<4→(wayCells σ.ways cs)[i * 4+j]?=some u→W.cell? ⟨bW,i * 4+j,none⟩=some u:=by
   intro j u hj hu
   rw [← hxs,List.getElem?_take,if_pos (by omega)] at hu
   simp only [World.cell?,hg]
   simpa using hu
  refine ⟨at_ 0 _ (by omega) h0,at_ 1 _ (by omega) h1,at_ 2 _ (by omega) h2,at_ 3 _ (by omega) h3,?_⟩
  simp [World.frozen?,hg]
theorem WkG.mapped (h:WkG W bw bm cN cP cW cs vN vP vW ws mn σ) (s:ByteArray) :
  WkG { W with heap:=W.heap.setIfInBounds bm (.map (ents mn ++ [({ key:=.string s,val:=.int .i64 mn.length,born:=mn.length }:MapEntry)]).toArray (mn.length+1)) } bw bm cN cP cW cs vN vP vW ws (mn ++ [s]) σ:=by
 have oth:∀ (o:Obj) r k,r≠1→parts bw bm vN vP vW ws r=some k→(W.heap.setIfInBounds bm o)[k]?=W.heap[k]?:=fun o r k hr hk=>by
  have:bm≠k:=h.ap.ne (r:=1) rfl hk (fun e=>hr e.symm)
  rw [Array.getElem?_setIfInBounds,if_neg this]
 have hbm:=(Array.getElem?_eq_some_iff.1 h.mp).1
 exact ⟨by rw [oth _ 0 bw (by decide) rfl];exact h.st,by simp only [Array.getElem?_setIfInBounds,if_true,hbm];simp [ents_snoc],owns_same h.nm fun k e=>oth _ 2 k (by decide) e,owns_same h.pl fun k e=>oth _ 3 k (by decide) e,
  owns_same h.wy fun k e=>oth _ 4 k (by decide) e,h.lw,h.lc,fun i _ _ hx hv=>wi_kept h hx hv fun k e=>oth _ (i+5) k (by omega) e,h.ap⟩
theorem fresh_of (h:WkG W bw bm cN cP cW cs vN vP vW ws mn σ) {g:Nat} {v:Value} {r0:Nat} (hr:parts bw bm vN vP vW ws r0=v.ownBlock) (hat:v.ownBlock=some g∨W.heap.size≤g) :
  parts bw bm vN vP vW ws r0=some g∨∀ r k,parts bw bm vN vP vW ws r=some k→k≠g:=by
 rcases hat with e | e
 ·exact Or.inl (hr.trans e)
 ·refine Or.inr fun r k hk=>?_
  have:=h.lt r k hk;omega
theorem oth_grown (h:WkG W bw bm cN cP cW cs vN vP vW ws mn σ) {v:Value} {r0:Nat} (hr:parts bw bm vN vP vW ws r0=v.ownBlock) (hg:W.grownBy W' v.ownBlock) :
  ∀ r k,r≠r0→parts bw bm vN vP vW ws r=some k→W'.heap[k]?=W.heap[k]?:=fun r k hne hk =>
 hg.block k (h.lt r k hk) (fun e=>hne (h.ap r r0 k hk (hr.trans e.symm)))
theorem WkG.appN (h:WkG W bw bm cN cP cW cs vN vP vW ws mn σ) {g n cap:Nat} (s:ByteArray) (hg:W.grownBy W' vN.ownBlock) (hat:vN.ownBlock=some g∨W.heap.size≤g)
  (ho:W'.ownsRow 0 9 1 (.slice (some ⟨g,0,none⟩) n cap) (σ.names.length+1) (σ.names.map Value.string ++ [.string s])) :
  WkG W' bw bm cN cP cW cs (.slice (some ⟨g,0,none⟩) n cap) vP vW ws mn { σ with names:=σ.names ++ [s] }:=by
 have oth:=oth_grown h (v:=vN) (r0:=2) rfl hg
 exact ⟨by rw [oth 0 bw (by decide) rfl];exact h.st,by rw [oth 1 bm (by decide) rfl];exact h.mp,by simpa using ho,owns_same h.pl fun k e=>oth 3 k (by decide) e,
  owns_same h.wy fun k e=>oth 4 k (by decide) e,h.lw,h.lc,fun i _ _ hx hv=>wi_kept h hx hv fun k e=>oth (i+5) k (by omega) e,
  h.ap.set 2 g (fresh_of h (v:=vN) rfl hat) (fun r hr=>by match r,hr with | 0,_=>rfl | 1,_=>rfl | 3,_=>rfl | 4,_=>rfl | j+5,_=>rfl) rfl⟩
theorem WkG.appP (h:WkG W bw bm cN cP cW cs vN vP vW ws mn σ) {g n cap:Nat} (p:Pl) (hg:W.grownBy W' vP.ownBlock) (hat:vP.ownBlock=some g∨W.heap.size≤g)
  (ho:W'.ownsRow 0 88 3 (.slice (some ⟨g,0,none⟩) n cap) (σ.places.length+1) (plCells σ.places ++ p.cells)) :
  WkG W' bw bm cN cP cW cs vN (.slice (some ⟨g,0,none⟩) n cap) vW ws mn { σ with places:=σ.places ++ [p] }:=by
 have oth:=oth_grown h (v:=vP) (r0:=3) rfl hg
 exact ⟨by rw [oth 0 bw (by decide) rfl];exact h.st,by rw [oth 1 bm (by decide) rfl];exact h.mp,owns_same h.nm fun k e=>oth 2 k (by decide) e,by simpa [plCells_snoc] using ho,
  owns_same h.wy fun k e=>oth 4 k (by decide) e,h.lw,h.lc,fun i _ _ hx hv=>wi_kept h hx hv fun k e=>oth (i+5) k (by omega) e,
  h.ap.set 3 g (fresh_of h (v:=vP) rfl hat) (fun r hr=>by match r,hr with | 0,_=>rfl | 1,_=>rfl | 2,_=>rfl | 4,_=>rfl | j+5,_=>rfl) rfl⟩
theorem WkG.appW (h:WkG W bw bm cN cP cW cs vN vP vW ws mn σ) {g n cap:Nat} (p:Pl) (hg:W.grownBy W' vW.ownBlock) (hat:vW.ownBlock=some g∨W.heap.size≤g)
  (ho:W'.ownsRow 0 129 4 (.slice (some ⟨g,0,none⟩) n cap) (σ.ways.length+1) (wayCells σ.ways cs ++ (p.cells ++ [.slice none 0 0]))) :
  WkG W' bw bm cN cP cW (cs ++ [.slice none 0 0]) vN vP (.slice (some ⟨g,0,none⟩) n cap) (ws ++ [.slice none 0 0]) mn { σ with ways:=σ.ways ++ [(p,[])] }:=by
 have oth:=oth_grown h (v:=vW) (r0:=4) rfl hg
 have hp:∀ r,parts bw bm vN vP vW (ws ++ [.slice none 0 0]) r=parts bw bm vN vP vW ws r:=by
  intro r
  match r with
  | 0=>rfl
  | 1=>rfl
  | 2=>rfl
  | 3=>rfl
  | 4=>rfl
  | j+5 =>
   simp only [parts]
   by_cases hj:j<ws.length
   ·rw [List.getElem?_append_left hj]
   ·rw [List.getElem?_append_right (by omega),List.getElem?_eq_none (l:=ws) (by omega)]
    by_cases h0:j - ws.length=0
    ·rw [h0];rfl
    ·rw [List.getElem?_eq_none (by simp;omega)]
 refine ⟨by rw [oth 0 bw (by decide) rfl];exact h.st,by rw [oth 1 bm (by decide) rfl];exact h.mp,owns_same h.nm fun k e=>oth 2 k (by decide) e,owns_same h.pl fun k e=>oth 3 k (by decide) e,
  by rw [wayCells_snoc _ _ _ _ _ h.lc];simpa using ho,by simp [h.lw],by simp [h.lc],fun i x v hx hv=>?_,
  h.ap.set 4 g (fresh_of h (v:=vW) rfl hat) (fun r hr=>by rw [← hp r];match r,hr with | 0,_=>rfl | 1,_=>rfl | 2,_=>rfl | 3,_=>rfl | j+5,_=>rfl) rfl⟩
 by_cases hi:i<σ.ways.length
 ·rw [List.getElem?_append_left hi] at hx
  rw [List.getElem?_append_left (by rw [h.lw];exact hi)] at hv
  exact wi_kept h hx hv fun k e=>oth (i+5) k (by omega) e
 ·rw [List.getElem?_append_right (by omega)] at hx
  rw [List.getElem?_append_right (by rw [h.lw];omega),h.lw] at hv
  by_cases h0:i - σ.ways.length=0
  ·rw [h0] at hx hv
   simp at hx hv;subst hx;subst hv
   exact World.ownsRow_nil _ _ _ _
  ·rw [List.getElem?_eq_none (by simp;omega)] at hx;cases hx
theorem WkG.appI (h:WkG W bw bm cN cP cW cs vN vP vW ws mn σ) {g n cap i:Nat} {x:Pl × List Pl} {v:Value} (hx:σ.ways[i]?=some x) (hv:ws[i]?=some v) (p:Pl) (hg:W.grownBy W' v.ownBlock) (hat:v.ownBlock=some g∨W.heap.size≤g)
  (ho:W'.ownsRow 0 88 3 (.slice (some ⟨g,0,none⟩) n cap) (x.2.length+1) (plCells x.2 ++ p.cells)) :
  WkG W' bw bm cN cP cW cs vN vP vW (ws.set i (.slice (some ⟨g,0,none⟩) n cap)) mn { σ with ways:=σ.ways.set i (x.1,x.2 ++ [p]) }:=by
 have hr0:parts bw bm vN vP vW ws (i+5)=v.ownBlock:=by simp [parts,hv]
 have oth:=oth_grown h (v:=v) (r0:=i+5) hr0 hg
 have hil:i<ws.length:=(List.getElem?_eq_some_iff.1 hv).1
 have hil':i<σ.ways.length:=(List.getElem?_eq_some_iff.1 hx).1
 refine ⟨by rw [oth 0 bw (by omega) rfl];exact h.st,by rw [oth 1 bm (by omega) rfl];exact h.mp,owns_same h.nm fun k e=>oth 2 k (by omega) e,owns_same h.pl fun k e=>oth 3 k (by omega) e,
  by rw [wayCells_set0 _ _ _ _ _ hx];simpa using owns_same h.wy fun k e=>oth 4 k (by omega) e,by simp [h.lw],by simp [h.lc],fun j y u hy hu=>?_,
  h.ap.set (i+5) g (fresh_of h (v:=v) hr0 hat) (fun r hr=>?_) (by simp [parts,List.getElem?_set_self hil,Value.ownBlock])⟩
 ·by_cases hj:j=i
  ·subst hj
   rw [List.getElem?_set_self hil'] at hy;rw [List.getElem?_set_self hil] at hu
   cases hy;cases hu
   simpa [plCells_snoc] using ho
  ·rw [List.getElem?_set_ne (Ne.symm hj)] at hy hu
   exact wi_kept h hy hu fun k e=>oth (j+5) k (by omega) e
 ·match r,hr with
  | 0,_=>rfl
  | 1,_=>rfl
  | 2,_=>rfl
  | 3,_=>rfl
  | 4,_=>rfl
  | j+5,hr =>
   simp only [parts]
   rw [List.getElem?_set_ne (by omega)]
theorem WkG.setI {bW n cap:Nat} (h:WkG W bw bm cN cP cW cs vN vP (.slice (some ⟨bW,0,none⟩) n cap) ws mn σ) {i:Nat} (hi:i<σ.ways.length) (v:Value) :
  WkG (W.setCell ⟨bW,i * 4+3,none⟩ v) bw bm cN cP cW (cs.set i v) vN vP (.slice (some ⟨bW,0,none⟩) n cap) ws mn σ:=by
 have oth:∀ r k,r≠4→parts bw bm vN vP (.slice (some ⟨bW,0,none⟩) n cap) ws r=some k→(W.setCell ⟨bW,i * 4+3,none⟩ v).heap[k]?=W.heap[k]?:=fun r k hr hk=>Below.heap_setCell _ _ _ _ (h.ap.ne hk (r':=4) (k':=bW) rfl hr)
 refine ⟨by rw [oth 0 bw (by decide) rfl];exact h.st,by rw [oth 1 bm (by decide) rfl];exact h.mp,owns_same h.nm fun k e=>oth 2 k (by decide) e,owns_same h.pl fun k e=>oth 3 k (by decide) e,?_,h.lw,by simp [h.lc],
  fun i _ _ hx hv=>wi_kept h hx hv fun k e=>oth (i+5) k (by omega) e,h.ap⟩
 have hl:=h.wy.1
 have hw:wayCells σ.ways (cs.set i v)=(wayCells σ.ways cs).set (i * 4+3) v:=by
  have:=wayCells_set σ.ways cs i σ.ways[i].2 v h.lc σ.ways[i] (lE hi)
  rw [← this]
  congr 1
  exact (List.set_getElem_self hi).symm
 rw [hw]
 refine ⟨by rw [List.length_set];exact hl,?_⟩
 rcases h.wy.2 with ⟨e,_⟩ | ⟨g,cap',cur,e,hb,hg,h1,h2,h3,hxs⟩
 ·cases e
 ·cases e
  refine Or.inr ⟨bW,cap,_,rfl,hb,heap_set_cells hg _ _,h1,h2,by simpa using h3,?_⟩
  rw [← hxs]
  simp only [Array.toList_setIfInBounds]
  rw [List.take_set]
def Grew (w:World) (ρ ρ':Nat→Option Nat):Prop := ∀ k,Has ρ' k→Has ρ k∨w.heap.size≤k
theorem Grew.trans {w w':World} {ρ ρ' ρ'':Nat→Option Nat} (h:Grew w ρ ρ') (hs:w.heap.size≤w'.heap.size) (h':Grew w' ρ' ρ''):Grew w ρ ρ'':=fun k hk=>by
 rcases h' k hk with h1 | h1
 ·exact h k h1
 ·exact Or.inr (Nat.le_trans hs h1)
theorem Grew.set {w:World} {ρ ρ':Nat→Option Nat} (r0 g:Nat) (hg:ρ r0=some g∨w.heap.size≤g) (h':∀ r,r≠r0→ρ' r=ρ r) (h0:ρ' r0=some g):Grew w ρ ρ':=by
 rintro k ⟨r,hr⟩
 by_cases e:r=r0
 ·subst e;rw [h0] at hr;cases hr
  rcases hg with h | h
  ·exact Or.inl ⟨r,h⟩
  ·exact Or.inr h
 ·rw [h' r e] at hr;exact Or.inl ⟨r,hr⟩
theorem Keep.ofGrown {S:Nat→Prop} {W1:World} (xa:Ext W W1) {v:Value} (hg:W1.grownBy W' v.ownBlock) (hs:∀ k,v.ownBlock=some k→S k):Keep S W W' :=
 (Keep.of_ext xa).trans (Keep.grown (S:=S) hg hs) (fun _ _ h=>h)
theorem WkIn.within {bW nW cW g n cap i:Nat} {x:Pl × List Pl} {v:Value} {W1:World} (h:WkIn W bw bm vN vP (.slice (some ⟨bW,0,none⟩) nW cW) ws σ) (hx:σ.ways[i]?=some x) (hv:ws[i]?=some v) (p:Pl)
  (xa:Ext W W1) (hg:W1.grownBy W' v.ownBlock) (hat:v.ownBlock=some g∨W1.heap.size≤g)
  (ho:W'.ownsRow 0 88 3 (.slice (some ⟨g,0,none⟩) n cap) (x.2.length+1) (plCells x.2 ++ p.cells)) :
  WkIn (W'.setCell ⟨bW,i * 4+3,none⟩ (.slice (some ⟨g,0,none⟩) n cap)) bw bm vN vP (.slice (some ⟨bW,0,none⟩) nW cW) (ws.set i (.slice (some ⟨g,0,none⟩) n cap)) { σ with ways:=σ.ways.set i (x.1,x.2 ++ [p]) } ∧
  Keep (Has (parts bw bm vN vP (.slice (some ⟨bW,0,none⟩) nW cW) ws)) W (W'.setCell ⟨bW,i * 4+3,none⟩ (.slice (some ⟨g,0,none⟩) n cap)) ∧
  Grew W (parts bw bm vN vP (.slice (some ⟨bW,0,none⟩) nW cW) ws) (parts bw bm vN vP (.slice (some ⟨bW,0,none⟩) nW cW) (ws.set i (.slice (some ⟨g,0,none⟩) n cap))):=by
 have hil:i<ws.length:=(List.getElem?_eq_some_iff.1 hv).1
 have hil':i<σ.ways.length:=(List.getElem?_eq_some_iff.1 hx).1
 have h1:WkG W1 bw bm vN vP (.slice (some ⟨bW,0,none⟩) nW cW) ws vN vP (.slice (some ⟨bW,0,none⟩) nW cW) ws σ.names σ:=WkG.ext h xa
 have h2:=(h1.appI hx hv p hg hat ho).setI (i:=i) (by simpa using hil') (.slice (some ⟨g,0,none⟩) n cap)
 have hr0:parts bw bm vN vP (.slice (some ⟨bW,0,none⟩) nW cW) ws (i+5)=v.ownBlock:=by simp [parts,hv]
 refine ⟨h2,?_,?_⟩
 ·refine (Keep.ofGrown (S:=Has (parts bw bm vN vP (.slice (some ⟨bW,0,none⟩) nW cW) ws)) xa hg (fun k e=>⟨i+5,hr0.trans e⟩)).trans (Keep.setCell (Has (parts bw bm vN vP (.slice (some ⟨bW,0,none⟩) nW cW) ws)) W' _ _ ⟨4,rfl⟩) (fun _ _ h=>h)
 ·refine Grew.set (i+5) g ?_ (fun r hr=>?_) (by simp [parts,List.getElem?_set_self hil,Value.ownBlock])
  ·rcases hat with e | e
   ·exact Or.inl (hr0.trans e)
   ·exact Or.inr (Nat.le_trans xa.size e)
  ·match r,hr with
   | 0,_=>rfl
   | 1,_=>rfl
   | 2,_=>rfl
   | 3,_=>rfl
   | 4,_=>rfl
   | j+5,hr=>simp only [parts];rw [List.getElem?_set_ne (by omega)]
theorem WkIn.way {g n cap:Nat} {W1:World} (h:WkIn W bw bm vN vP vW ws σ) (p:Pl) (xa:Ext W W1) (hg:W1.grownBy W' vW.ownBlock) (hat:vW.ownBlock=some g∨W1.heap.size≤g)
  (ho:W'.ownsRow 0 129 4 (.slice (some ⟨g,0,none⟩) n cap) (σ.ways.length+1) (wayCells σ.ways ws ++ (p.cells ++ [.slice none 0 0]))) :
  WkIn (W'.setCell ⟨bw,3,none⟩ (.slice (some ⟨g,0,none⟩) n cap)) bw bm vN vP (.slice (some ⟨g,0,none⟩) n cap) (ws ++ [.slice none 0 0]) { σ with ways:=σ.ways ++ [(p,[])] } ∧
  Keep (Has (parts bw bm vN vP vW ws)) W (W'.setCell ⟨bw,3,none⟩ (.slice (some ⟨g,0,none⟩) n cap)) ∧
  Grew W (parts bw bm vN vP vW ws) (parts bw bm vN vP (.slice (some ⟨g,0,none⟩) n cap) (ws ++ [.slice none 0 0])):=by
 have h1:WkG W1 bw bm vN vP vW ws vN vP vW ws σ.names σ:=WkG.ext h xa
 have h2:=(h1.appW p hg hat ho).field (cN':=vN) (cP':=vP) (cW':=.slice (some ⟨g,0,none⟩) n cap) (ro:=σ.roots) 3 (.slice (some ⟨g,0,none⟩) n cap) rfl
 refine ⟨h2,?_,?_⟩
 ·exact (Keep.ofGrown (S:=Has (parts bw bm vN vP vW ws)) xa hg (fun k e=>⟨4,e⟩)).trans (Keep.setCell (Has (parts bw bm vN vP vW ws)) W' _ _ ⟨0,rfl⟩) (fun _ _ h=>h)
 ·rintro k ⟨r,hk⟩
  match r,hk with
  | 0,hk=>exact Or.inl ⟨0,hk⟩
  | 1,hk=>exact Or.inl ⟨1,hk⟩
  | 2,hk=>exact Or.inl ⟨2,hk⟩
  | 3,hk=>exact Or.inl ⟨3,hk⟩
  | 4,hk =>
   cases hk
   rcases hat with e | e
   ·exact Or.inl ⟨4,e⟩
   ·exact Or.inr (Nat.le_trans xa.size e)
  | j+5,hk =>
   simp only [parts] at hk
   by_cases hj:j<ws.length
   ·rw [List.getElem?_append_left hj] at hk;exact Or.inl ⟨j+5,hk⟩
   ·rw [List.getElem?_append_right (by omega)] at hk
    by_cases h0:j - ws.length=0
    ·rw [h0] at hk;cases hk
    ·rw [List.getElem?_eq_none (by simp;omega)] at hk;cases hk
end
end Go.Proofs.YtligiddaampneaaGreat
end
section
namespace Go.Proofs.YtligiddaampneaaGreat
open Go
section
variable {P : Program} {ops : Array Oper} {Q : Exit → Act → World → Prop} {md : Region.Mode} {S : World → Prop} {m : Nat}
def wpAnyM (P:Program) (md:Region.Mode) (ops:Array Oper) (Q:Exit→Act→World→Prop) (S:World→Prop) (m:Nat):Nat→Array Bool→Act→World→Prop
 | 0,listed,a,w=>Region.ready md ops listed=[]∧Q .normal a w
 | fuel+1,listed,a,w =>
  (Region.ready md ops listed=[]→Q .normal a w) ∧
  ∀ i∈Region.ready md ops listed,wpOp P ops Q i (fun a' w'=>((listed.setIfInBounds i true).getD m true=false→S w')∧wpAnyM P md ops Q S m fuel (listed.setIfInBounds i true) a' w') a w
theorem wpAny_of_M:∀ (fuel:Nat) (listed:Array Bool) (a:Act) (w:World),wpAnyM P md ops Q S m fuel listed a w→wpAny P md ops Q fuel listed a w
 | 0,_,_,_,h=>h
 | fuel+1,_,_,_,h=>⟨h.1,fun i hi=>wpOp_mono (fun a' w' h'=>wpAny_of_M fuel _ a' w' h'.2) (h.2 i hi)⟩
def reachB (md:Region.Mode) (ops:Array Oper):Nat→Nat→Nat→Bool
 | 0,_,_=>false
 | f+1,k,i=>match ops[k]? with
  | some o=>o.after.any fun e=>Region.binds md e && (e.on == i || (decide (i<e.on) && reachB md ops f e.on i))
  | none=>false
def closedB (md:Region.Mode) (ops:Array Oper) (listed:Array Bool):Bool :=
 (List.range ops.size).all fun k=>!(listed.getD k false) || ((ops[k]?).map (·.after.all fun e=>!Region.binds md e || listed.getD e.on false)).getD true
def Closed (md:Region.Mode) (ops:Array Oper) (listed:Array Bool):Prop := ∀ k o,ops[k]?=some o→listed.getD k false=true→∀ e∈o.after,Region.binds md e=true→listed.getD e.on false=true
theorem closed_of {listed:Array Bool} (h:closedB md ops listed=true):Closed md ops listed:=by
 intro k o ho hk e he hb
 have hlt:k<ops.size:=(Array.getElem?_eq_some_iff.1 ho).1
 have:=List.all_eq_true.1 h k (List.mem_range.2 hlt)
 rw [hk,ho] at this
 simp only [Bool.not_true,Bool.false_or,Option.map_some,Option.getD_some] at this
 have:=Array.all_eq_true'.1 this e he
 rw [hb] at this
 simpa using this
theorem Closed.reach {listed:Array Bool} (h:Closed md ops listed) (i:Nat):∀ f k,listed.getD k false=true→reachB md ops f k i=true→listed.getD i false=true:=by
 intro f
 induction f with
 | zero=>intro k _ hr;cases hr
 | succ f ih =>
  intro k hk hr
  unfold reachB at hr
  split at hr
  ·rename_i o ho
   obtain ⟨e,he,hb⟩:=Array.any_eq_true'.1 hr
   simp only [Bool.and_eq_true,Bool.or_eq_true,beq_iff_eq,decide_eq_true_eq] at hb
   have hl:=h k o ho hk e he hb.1
   rcases hb.2 with e1 | e1
   ·rw [← e1];exact hl
   ·exact ih e.on hl e1.2
  ·cases hr
theorem Closed.set {listed:Array Bool} (h:Closed md ops listed) {j:Nat} (hj:j∈Region.ready md ops listed):Closed md ops (listed.setIfInBounds j true):=by
 obtain ⟨_,oj,hoj,hall⟩:=mem_ready.1 hj
 intro k o ho hk e he hb
 refine getD_set_true ?_
 by_cases hkj:j=k
 ·subst hkj
  rw [hoj] at ho;cases ho
  exact hall e he hb
 ·rw [getD_set_ne false hkj] at hk
  exact h k o ho hk e he hb
theorem wpAnyM_first {i:Nat} {oi:Oper} {v:Value} (hi:ops[i]?=some oi) (f:Nat) (hwait:reachB md ops f m i=true) (him:i≠m) (hsel:∀ (j:Nat) (o:Oper) cs b,ops[j]?=some o→o.op≠.select cs b)
  (hQ:∀ c a w,Q (.panic c) (a.put oi.dst v) w→Q (.panic c) a w) :
  ∀ (fuel:Nat) (listed:Array Bool) (a:Act) (w:World),Closed md ops listed →
   (∀ j oj,ops[j]?=some oj→j≠i→listed.getD j true=false→(∀ e∈oj.after,Region.binds md e=true→e.on≠i)→oi.apart ops oj=true) →
   i∈Region.ready md ops listed→listed.getD m true=false→YieldsIf P ops S oi v a→S w →
   wpAnyM P md ops Q S m fuel (listed.setIfInBounds i true) (a.put oi.dst v) w→wpAnyM P md ops Q S m (fuel+1) listed a w:=by
 intro fuel
 induction fuel with
 | zero =>
  intro listed a w _ _ hr _ hy hS H
  refine ⟨fun h=>(by rw [h] at hr;cases hr),fun j hj=>?_⟩
  by_cases hji:j=i
  ·subst hji;exact hy.wpOp hi hS ⟨fun _=>hS,H⟩
  ·have:=ready_mono hj hji
   rw [H.1] at this
   cases this
 | succ fuel ih =>
  intro listed a w hcl hfree hr hm hy hS H
  refine ⟨fun h=>(by rw [h] at hr;cases hr),fun j hj=>?_⟩
  by_cases hji:j=i
  ·subst hji;exact hy.wpOp hi hS ⟨fun _=>hS,H⟩
  ·have h1:=H.2 j (ready_mono hj hji)
   obtain ⟨hjun,oj,hoj,hall⟩:=mem_ready.1 hj
   have hun:listed.getD i false=true→False:=fun hq=>by
    have h0:=(mem_ready.1 hr).1
    rcases Nat.lt_or_ge i listed.size with h' | h'
    ·simp [h'] at h0 hq;rw [h0] at hq;cases hq
    ·simp [Array.getElem?_eq_none h'] at hq
   have hnot:∀ e∈oj.after,Region.binds md e=true→e.on≠i:=fun e he hb heq=>hun (heq ▸ hall e he hb)
   have hjm:j≠m:=fun e=>by
    subst e
    refine hun ?_
    cases f with
    | zero=>cases hwait
    | succ f =>
     unfold reachB at hwait
     rw [hoj] at hwait
     obtain ⟨e,he,hb⟩:=Array.any_eq_true'.1 hwait
     simp only [Bool.and_eq_true,Bool.or_eq_true,beq_iff_eq,decide_eq_true_eq] at hb
     have hl:=hall e he hb.1
     rcases hb.2 with e1 | e1
     ·rw [← e1];exact hl
     ·exact hcl.reach i f e.on hl e1.2
   have h2:=wpOp_putIf hoj (hfree j oj hoj hji hjun hnot) (fun cs b=>hsel i oi cs b hi) (fun cs b=>hsel j oj cs b hoj) hQ hy h1
   have hfree':∀ k ok,ops[k]?=some ok→k≠i→(listed.setIfInBounds j true).getD k true=false →
     (∀ e∈ok.after,Region.binds md e=true→e.on≠i)→oi.apart ops ok=true:=fun k ok hk hki hun hno=>by
    refine hfree k ok hk hki ?_ hno
    by_cases hjk:j=k
    ·subst hjk;exact hjun
    ·rw [getD_set_ne true hjk] at hun;exact hun
   have hmj:(listed.setIfInBounds j true).getD m true=false:=by rw [getD_set_ne true hjm];exact hm
   have hmij:((listed.setIfInBounds i true).setIfInBounds j true).getD m true=false:=by rw [getD_set_ne true hjm,getD_set_ne true him];exact hm
   refine wpOp_mono (fun a' w' h3=>⟨fun _=>h3.2.1 hmij,ih (listed.setIfInBounds j true) a' w' (hcl.set hj) hfree' (ready_mono hr (Ne.symm hji)) hmj h3.1 (h3.2.1 hmij) ?_⟩) h2
   rw [Array.setIfInBounds_comm _ _ hji]
   exact h3.2.2
def takeB (md:Region.Mode) (ops:Array Oper) (m:Nat) (listed:Array Bool) (i:Nat):Bool :=
 Region.noSelect ops && (Region.free md ops listed i && ((Region.ready md ops listed).contains i && (reachB md ops 20 m i && (i != m && (!(listed.getD m true) && closedB md ops listed)))))
theorem wpAnyM_take {l:List Oper} (i:Nat) {oi:Oper} {v:Value} {fuel:Nat} {listed:Array Bool} {a:Act} {w:World} (hi:l[i]?=some oi) (hs:takeB md l.toArray m listed i=true)
  (hQ:∀ c a w,Q (.panic c) (a.put oi.dst v) w→Q (.panic c) a w) (hS:S w) (hg:Region.wanted oi (yielded l.toArray a.tmps)=true) (hy:∀ w,S w→(execOp a.eval oi).run P w=.ok (.value v) w)
  (h:wpAnyM P md l.toArray Q S m fuel (listed.setIfInBounds i true) (a.put oi.dst v) w):wpAnyM P md l.toArray Q S m (fuel+1) listed a w:=by
 simp only [takeB,Bool.and_eq_true,Bool.not_eq_true',bne_iff_ne,ne_eq] at hs
 obtain ⟨h1,h2,h3,h4,h5,h6,h7⟩:=hs
 have hi':l.toArray[i]?=some oi:=by rw [List.getElem?_toArray];exact hi
 exact wpAnyM_first hi' 20 h4 h5 (Region.noSelect_spec h1) hQ fuel listed a w (closed_of h7) (Region.free_spec hi' h2) (by simpa using h3) h6 (Or.inl ⟨hg,hy⟩) hS h
theorem wpAnyM_firstW {i:Nat} {oi:Oper} {v:Value} (hi:ops[i]?=some oi) (him:i≠m) (hsel:∀ (j:Nat) (o:Oper) cs b,ops[j]?=some o→o.op≠.select cs b)
  (hQ:∀ c a w,Q (.panic c) (a.put oi.dst v) w→Q (.panic c) a w) :
  ∀ (fuel:Nat) (listed:Array Bool) (a:Act) (w:World),
   (∀ j oj,ops[j]?=some oj→j≠i→listed.getD j true=false→(∀ e∈oj.after,Region.binds md e=true→e.on≠i)→oi.apart ops oj=true) →
   i∈Region.ready md ops listed→Yields P ops oi v a→(listed.getD m true=false→S w) →
   wpAnyM P md ops Q S m fuel (listed.setIfInBounds i true) (a.put oi.dst v) w→wpAnyM P md ops Q S m (fuel+1) listed a w:=by
 have hmi:∀ (listed:Array Bool),(listed.setIfInBounds i true).getD m true=listed.getD m true:=fun listed=>getD_set_ne true him
 intro fuel
 induction fuel with
 | zero =>
  intro listed a w _ hr hy hS H
  refine ⟨fun h=>(by rw [h] at hr;cases hr),fun j hj=>?_⟩
  by_cases hji:j=i
  ·subst hji;exact hy.wpOp hi ⟨fun h=>hS (by rw [hmi] at h;exact h),H⟩
  ·have:=ready_mono hj hji
   rw [H.1] at this
   cases this
 | succ fuel ih =>
  intro listed a w hfree hr hy hS H
  refine ⟨fun h=>(by rw [h] at hr;cases hr),fun j hj=>?_⟩
  by_cases hji:j=i
  ·subst hji;exact hy.wpOp hi ⟨fun h=>hS (by rw [hmi] at h;exact h),H⟩
  ·have h1:=H.2 j (ready_mono hj hji)
   obtain ⟨hjun,oj,hoj,hall⟩:=mem_ready.1 hj
   have hun:listed.getD i false=true→False:=fun hq=>by
    have h0:=(mem_ready.1 hr).1
    rcases Nat.lt_or_ge i listed.size with h' | h'
    ·simp [h'] at h0 hq;rw [h0] at hq;cases hq
    ·simp [Array.getElem?_eq_none h'] at hq
   have hnot:∀ e∈oj.after,Region.binds md e=true→e.on≠i:=fun e he hb heq=>hun (heq ▸ hall e he hb)
   have h2:=wpOp_put hoj (hfree j oj hoj hji hjun hnot) (fun cs b=>hsel i oi cs b hi) (fun cs b=>hsel j oj cs b hoj) hQ hy h1
   have hfree':∀ k ok,ops[k]?=some ok→k≠i→(listed.setIfInBounds j true).getD k true=false →
     (∀ e∈ok.after,Region.binds md e=true→e.on≠i)→oi.apart ops ok=true:=fun k ok hk hki hun hno=>by
    refine hfree k ok hk hki ?_ hno
    by_cases hjk:j=k
    ·subst hjk;exact hjun
    ·rw [getD_set_ne true hjk] at hun;exact hun
   have hmij:((listed.setIfInBounds i true).setIfInBounds j true).getD m true=(listed.setIfInBounds j true).getD m true:=by
    rw [Array.setIfInBounds_comm _ _ (Ne.symm hji),hmi]
   rw [hmij] at h2
   refine wpOp_mono (fun a' w' h3=>⟨h3.2.1,ih (listed.setIfInBounds j true) a' w' hfree' (ready_mono hr (Ne.symm hji)) h3.1 h3.2.1 ?_⟩) h2
   rw [Array.setIfInBounds_comm _ _ hji]
   exact h3.2.2
def takeWB (md:Region.Mode) (ops:Array Oper) (m:Nat) (listed:Array Bool) (i:Nat):Bool :=
 Region.noSelect ops && (Region.free md ops listed i && ((Region.ready md ops listed).contains i && i != m))
theorem wpAnyM_takeW {l:List Oper} (i:Nat) {oi:Oper} {v:Value} {fuel:Nat} {listed:Array Bool} {a:Act} {w:World} (hi:l[i]?=some oi) (hs:takeWB md l.toArray m listed i=true)
  (hQ:∀ c a w,Q (.panic c) (a.put oi.dst v) w→Q (.panic c) a w) (hS:listed.getD m true=false→S w) (hg:Region.wanted oi (yielded l.toArray a.tmps)=true) (hy:∀ w,(execOp a.eval oi).run P w=.ok (.value v) w)
  (h:wpAnyM P md l.toArray Q S m fuel (listed.setIfInBounds i true) (a.put oi.dst v) w):wpAnyM P md l.toArray Q S m (fuel+1) listed a w:=by
 simp only [takeWB,Bool.and_eq_true,bne_iff_ne,ne_eq] at hs
 obtain ⟨h1,h2,h3,h4⟩:=hs
 have hi':l.toArray[i]?=some oi:=by rw [List.getElem?_toArray];exact hi
 exact wpAnyM_firstW hi' h4 (Region.noSelect_spec h1) hQ fuel listed a w (Region.free_spec hi' h2) (by simpa using h3) (Or.inl ⟨hg,hy⟩) hS h
theorem wpAnyM_skip {l:List Oper} (i:Nat) {oi:Oper} {fuel:Nat} {listed:Array Bool} {a:Act} {w:World} (hi:l[i]?=some oi) (hs:takeWB md l.toArray m listed i=true)
  (hQ:∀ c a w,Q (.panic c) (a.put oi.dst undef) w→Q (.panic c) a w) (hS:listed.getD m true=false→S w) (hg:Region.wanted oi (yielded l.toArray a.tmps)=false)
  (h:wpAnyM P md l.toArray Q S m fuel (listed.setIfInBounds i true) (a.put oi.dst undef) w):wpAnyM P md l.toArray Q S m (fuel+1) listed a w:=by
 simp only [takeWB,Bool.and_eq_true,bne_iff_ne,ne_eq] at hs
 obtain ⟨h1,h2,h3,h4⟩:=hs
 have hi':l.toArray[i]?=some oi:=by rw [List.getElem?_toArray];exact hi
 exact wpAnyM_firstW hi' h4 (Region.noSelect_spec h1) hQ fuel listed a w (Region.free_spec hi' h2) (by simpa using h3) (Or.inr ⟨hg,rfl⟩) hS h
def AllM (P:Program) (md:Region.Mode) (ops:Array Oper) (Q:Exit→Act→World→Prop) (S:World→Prop) (m fuel:Nat) (listed:Array Bool) (a:Act) (w:World) (rs:List Nat):Prop :=
 ∀ i∈rs,wpOp P ops Q i (fun a' w'=>((listed.setIfInBounds i true).getD m true=false→S w')∧wpAnyM P md ops Q S m fuel (listed.setIfInBounds i true) a' w') a w
theorem AllM.nil {fuel:Nat} {listed:Array Bool} {a:Act} {w:World}:AllM P md ops Q S m fuel listed a w []:=fun _ h=>by cases h
theorem wpOp_plain {i:Nat} {o:Oper} {K:Act→World→Prop} {a:Act} {w:World} (ho:ops[i]?=some o) (hg:Region.wanted o (yielded ops a.tmps)=true) (h:∀ K':Act→World→Prop,(∀ a w,K a w→K' a w)→Oper.wp P o a w K' Q):wpOp P ops Q i K a w :=
 wpOp_step ho fun K' hK=>by rw [if_pos hg];exact h K' hK
theorem AllM.cons {l:List Oper} {fuel:Nat} {listed:Array Bool} {a:Act} {w:World} {i:Nat} {o:Oper} {rs:List Nat} (ho:l[i]?=some o) (hg:Region.wanted o (yielded l.toArray a.tmps)=true)
  (h:∀ K':Act→World→Prop,Shut (∀ a w,S w→wpAnyM P md l.toArray Q S m fuel (listed.setIfInBounds i true) a w→K' a w)→Oper.wp P o a w K' Q)
  (hs:AllM P md l.toArray Q S m fuel listed a w rs):AllM P md l.toArray Q S m fuel listed a w (i :: rs):=fun j hj=>by
 rcases List.mem_cons.1 hj with rfl | hj
 ·exact wpOp_plain (by rw [List.getElem?_toArray];exact ho) hg (fun K' hK=>h K' (fun a w hS hW=>hK a w ⟨fun _=>hS,hW⟩))
 ·exact hs j hj
theorem AllM.late {l:List Oper} {fuel:Nat} {listed:Array Bool} {a:Act} {w:World} {i:Nat} {o:Oper} {rs:List Nat} (ho:l[i]?=some o) (hg:Region.wanted o (yielded l.toArray a.tmps)=true) (hm:(listed.setIfInBounds i true).getD m true=true)
  (h:∀ K':Act→World→Prop,Shut (∀ a w,wpAnyM P md l.toArray Q S m fuel (listed.setIfInBounds i true) a w→K' a w)→Oper.wp P o a w K' Q)
  (hs:AllM P md l.toArray Q S m fuel listed a w rs):AllM P md l.toArray Q S m fuel listed a w (i :: rs):=fun j hj=>by
 rcases List.mem_cons.1 hj with rfl | hj
 ·exact wpOp_plain (by rw [List.getElem?_toArray];exact ho) hg (fun K' hK=>h K' (fun a w hW=>hK a w ⟨(fun e=>by rw [hm] at e;cases e),hW⟩))
 ·exact hs j hj
theorem wpAnyM_ready (rs:List Nat) {fuel:Nat} {listed:Array Bool} {a:Act} {w:World} (hr:Region.ready md ops listed=rs) (hne:rs.isEmpty=false)
 (h:AllM P md ops Q S m fuel listed a w rs):wpAnyM P md ops Q S m (fuel+1) listed a w:=⟨(fun h0=>by rw [hr] at h0;subst h0;cases hne),hr ▸ h⟩
theorem wpAnyM_done {listed:Array Bool} {a:Act} {w:World} (hr:Region.ready md ops listed=[]) (h:Q .normal a w) :
  ∀ fuel,wpAnyM P md ops Q S m fuel listed a w
 | 0=>⟨hr,h⟩
 | _+1=>⟨fun _=>h,by rw [hr];simp⟩
theorem tk {l:List Oper} (i:Nat) {oi:Oper} {v:Value} {fuel:Nat} {listed:Array Bool} {a:Act} {w:World} (hS:S w) (hy:∀ w,S w→(execOp a.eval oi).run P w=.ok (.value v) w) (h:wpAnyM P md l.toArray Q S m fuel (listed.setIfInBounds i true) (a.put oi.dst v) w)
 (hi:l[i]?=some oi:=by rfl) (hs:takeB md l.toArray m listed i=true:=by kernel_rfl) (hQ:∀ c a w,Q (.panic c) (a.put oi.dst v) w→Q (.panic c) a w:=by exact (fun _ _ _ h=>h)) (hg:Region.wanted oi (yielded l.toArray a.tmps)=true:=by rfl):wpAnyM P md l.toArray Q S m (fuel+1) listed a w:=wpAnyM_take i hi hs hQ hS hg hy h
theorem tw {l:List Oper} (i:Nat) {oi:Oper} {v:Value} {fuel:Nat} {listed:Array Bool} {a:Act} {w:World} (hy:∀ w,(execOp a.eval oi).run P w=.ok (.value v) w) (h:wpAnyM P md l.toArray Q S m fuel (listed.setIfInBounds i true) (a.put oi.dst v) w)
 (hi:l[i]?=some oi:=by rfl) (hs:takeWB md l.toArray m listed i=true:=by kernel_rfl) (hQ:∀ c a w,Q (.panic c) (a.put oi.dst v) w→Q (.panic c) a w:=by exact (fun _ _ _ h=>h)) (hS:listed.getD m true=false→S w:=by first | (intro h;cases h;done) | (intro _;assumption)) (hg:Region.wanted oi (yielded l.toArray a.tmps)=true:=by rfl):wpAnyM P md l.toArray Q S m (fuel+1) listed a w:=wpAnyM_takeW i hi hs hQ hS hg hy h
theorem sk {l:List Oper} (i:Nat) {oi:Oper} {fuel:Nat} {listed:Array Bool} {a:Act} {w:World} (hS:S w) (h:wpAnyM P md l.toArray Q S m fuel (listed.setIfInBounds i true) (a.put oi.dst undef) w)
 (hi:l[i]?=some oi:=by rfl) (hs:takeWB md l.toArray m listed i=true:=by kernel_rfl) (hQ:∀ c a w,Q (.panic c) (a.put oi.dst undef) w→Q (.panic c) a w:=by exact (fun _ _ _ h=>h)) (hg:Region.wanted oi (yielded l.toArray a.tmps)=false:=by rfl):wpAnyM P md l.toArray Q S m (fuel+1) listed a w:=wpAnyM_skip i hi hs hQ (fun _=>hS) hg h
theorem rc {l:List Oper} (i:Nat) {o:Oper} {fuel:Nat} {listed:Array Bool} {a:Act} {w:World} (h:∀ K':Act→World→Prop,Shut (∀ a w,S w→wpAnyM P md l.toArray Q S m fuel (listed.setIfInBounds i true) a w→K' a w)→Oper.wp P o a w K' Q)
 (ho:l[i]?=some o:=by rfl) (hr:Region.ready md l.toArray listed=[i]:=by kernel_rfl) (hg:Region.wanted o (yielded l.toArray a.tmps)=true:=by rfl):wpAnyM P md l.toArray Q S m (fuel+1) listed a w:=wpAnyM_ready [i] hr rfl (AllM.cons ho hg h AllM.nil)
theorem rl {l:List Oper} (i:Nat) {o:Oper} {fuel:Nat} {listed:Array Bool} {a:Act} {w:World} (h:∀ K':Act→World→Prop,Shut (∀ a w,wpAnyM P md l.toArray Q S m fuel (listed.setIfInBounds i true) a w→K' a w)→Oper.wp P o a w K' Q)
 (ho:l[i]?=some o:=by rfl) (hr:Region.ready md l.toArray listed=[i]:=by kernel_rfl) (hg:Region.wanted o (yielded l.toArray a.tmps)=true:=by rfl) (hm:(listed.setIfInBounds i true).getD m true=true:=by kernel_rfl):wpAnyM P md l.toArray Q S m (fuel+1) listed a w:=wpAnyM_ready [i] hr rfl (AllM.late ho hg hm h AllM.nil)
theorem wp_region_M {id:Nat} {a:Act} {w:World} (S:World→Prop) (m:Nat) (hm:P.follows .mixedOrders=true) (hS:S w.drew)
  (h:S w.drew→wpAnyM P .any ops Q S m ops.size (Array.replicate ops.size false) a w.drew):(Code.region id ops true).wp P Q a w :=
 wp_region_any hm (wpAny_of_M _ _ _ _ (h hS))
end
end Go.Proofs.YtligiddaampneaaGreat
end
section
namespace Go.Proofs.YtligiddaampneaaGreat
open Go.RowKit
attribute [local go_sem ↓] Go.wp_at_zero Go.wp_at_succ
theorem cell_new (w:World) (cs:Array Value) (e:TypeId) (i:Nat):(w.alloc (.cells cs e)).cell? ⟨w.heap.size,i,none⟩=cs[i]?:=by
 simp only [World.cell?,heap_alloc_new];rfl
def OnePost (w:World) (bw:Nat) (ρ:Nat→Option Nat) (r:Except Int Wk) (e:Ending) (w':World):Prop :=
 Keep (Has ρ) w w'∧match r with
  | .error x=>e=stopped x
  | .ok σ'=>e=.returned (.tuple #[])∧∃ bm vN vP vW ws,WkIn w' bw bm vN vP vW ws σ'∧Grew w ρ (parts bw bm vN vP vW ws)
theorem onePost_no {w w':World} {bw:Nat} {ρ:Nat→Option Nat} {r:Except Int Wk} {x:Int} (hr:r=.error x) (hk:Keep (Has ρ) w w'):OnePost w bw ρ r (stopped x) w':=by
 subst hr;exact ⟨hk,rfl⟩
theorem OnePost.trans {w W w':World} {bw:Nat} {ρ0 ρ:Nat→Option Nat} {r:Except Int Wk} {e:Ending} (hk:Keep (Has ρ0) w W) (hg:∀ k,Has ρ k→Has ρ0 k∨w.heap.size≤k) (h:OnePost W bw ρ r e w'):OnePost w bw ρ0 r e w':=by
 refine ⟨hk.trans h.1 fun i hi hs=>?_,?_⟩
 ·rcases hg i hs with h | h
  ·exact h
  ·omega
 ·cases r with
  | error x=>exact h.2
  | ok σ' =>
   obtain ⟨he,bm,vN,vP,vW,ws,h1,h2⟩:=h.2
   refine ⟨he,bm,vN,vP,vW,ws,h1,fun k hk'=>?_⟩
   rcases h2 k hk' with h | h
   ·exact hg k h
   ·exact Or.inr (Nat.le_trans hk.size h)
theorem Keep.cell {S:Nat→Prop} {w w':World} (h:Keep S w w') {a:Addr} {v:Value} (hc:w.cell? a=some v) (hn:¬ S a.block):w'.cell? a=some v:=by
 rw [World.cell?_of_block (w:=w) (h.block a.block (World.block_lt_of_cell? w _ hc) hn)];exact hc
theorem Keep.drew {S:Nat→Prop} {w w':World} (h:Keep S w w'):Keep S w w'.drew:=⟨h.os,h.tape,h.output,h.size,h.block⟩
def dropS:Nat→Code→Code
 | n+1,.seq _ b=>dropS n b
 | _,c=>c
theorem infoPl:(Tryz.prog.info? 88).map (fun i=>(i.zero,i.size,i.bytes))=some (some (.agg #[.int .i64 0,.int .i64 0,.int .i64 0]),3,24):=by kernel_rfl
theorem infoStr:(Tryz.prog.info? 9).map (fun i=>(i.zero,i.size,i.bytes))=some (some (.string ByteArray.empty),1,16):=by kernel_rfl
theorem infoAr:(Tryz.prog.info? 129).map (fun i=>(i.zero,i.size,i.bytes))=some (some (.agg #[.int .i64 0,.int .i64 0,.int .i64 0,.slice none 0 0]),4,48):=by kernel_rfl
theorem Pl.one (p:Pl):∀ u∈p.cells,u.oneCell'=true:=by
 intro u hu;simp only [Pl.cells,List.mem_cons,List.not_mem_nil,or_false] at hu;rcases hu with rfl | rfl | rfl <;> rfl
theorem way_one (p:Pl):∀ u∈p.cells ++ [Value.slice none 0 0],u.oneCell'=true:=by
 intro u hu
 rcases List.mem_append.1 hu with h | h
 ·exact p.one u h
 ·simp only [List.mem_cons,List.not_mem_nil,or_false] at h;subst h;rfl
noncomputable def oneLast:Code:=dropS 14 (Tryz.f107.body.getD .skip)
set_option maxRecDepth 100000 in
set_option maxHeartbeats 4000000 in
theorem one_last (bw bm br bp:Nat) (q6:Value) (vN vP vW:Value) (ws:List Value) (σ:Wk) (p:Pl) (W:World) (R:Ending→World→Prop)
  (hK:WkIn W bw bm vN vP vW ws σ) (hwl:σ.ways.length≤6)
  (hp:W.heap[bp]?=some (.cells p.cells.toArray 88 (0,0))) (hbp:¬ Has (parts bw bm vN vP vW ws) bp)
  (hR:∀ w' vW' ws',WkIn w' bw bm vN vP vW' ws' { σ with ways:=σ.ways ++ [(p,[])] }→Keep (Has (parts bw bm vN vP vW ws)) W w'→Grew W (parts bw bm vN vP vW ws) (parts bw bm vN vP vW' ws')→R (.returned (.tuple #[])) w')
  (u1 u2 u4 u5 u8 u9 u10 u11 u12 u13 u14 u15 u16 u17 u18 u19 u20 u21 u22 u23 u24 u25 u26 u27 u28 u29 u30 u31 u32 u33 u34 u35 u36 u37 u38 u39 u40 u41 u42 u43 u44 u45 u46 u47 u48 u49 u50 u51 u52 u53 u54 u55 u56 u57 u58 u59 u60 u61 u62 u63 u64 u65 u66 u67 u68 u69 u70 u71 u72 u73 u74 u75 u76 u77 u78 u79 u80 u81 u82 u83 u84 u85 u86 u87 u88 u89 u90 u91 u92 u93 u94 u95 u96 u97 u98 u99 u100 u101 u102 u103 u104 u105 u106 u107 u108 u109 u110 u111 u112 u113 u114 u115 u116 u117 u118 u119 u120 u121 u122 u123 u124 u125 u126 u127 u128 u129 u130 u131 u132 u133 u134 u135 u136 u137 u138 u139 u140 u141 u142 u143 u144 u145 u146 u147 u148 u149 u150 u151 u152 u153 u154 u155 u156 u157 u158 u159 u160 u161 u162 u163 u164 u165 u166 u167 u168 u169 u170 u171 u172 u173 u174 u175 u176 u177 u178 u179 u180 u181 u182 u183 u184 u185 u186 u187 u188 u189 u190 u191 u192 u193 u194 u195 u196 u197 u198 u199 u200 u201:Value) :
  Code.wp Tryz.prog oneLast (bodyPost Tryz.prog Tryz.f107 R) { tmps:=#[.pointer (some ⟨bw,0,none⟩),u1,u2,.pointer (some ⟨br,0,none⟩),u4,u5,q6,.pointer (some ⟨bp,0,none⟩),u8,u9,u10,u11,u12,u13,u14,u15,u16,u17,u18,u19,u20,u21,u22,u23,u24,u25,u26,u27,u28,u29,u30,u31,u32,u33,u34,u35,u36,u37,u38,u39,u40,u41,u42,u43,u44,u45,u46,u47,u48,u49,u50,u51,u52,u53,u54,u55,u56,u57,u58,u59,u60,u61,u62,u63,u64,u65,u66,u67,u68,u69,u70,u71,u72,u73,u74,u75,u76,u77,u78,u79,u80,u81,u82,u83,u84,u85,u86,u87,u88,u89,u90,u91,u92,u93,u94,u95,u96,u97,u98,u99,u100,u101,u102,u103,u104,u105,u106,u107,u108,u109,u110,u111,u112,u113,u114,u115,u116,u117,u118,u119,u120,u121,u122,u123,u124,u125,u126,u127,u128,u129,u130,u131,u132,u133,u134,u135,u136,u137,u138,u139,u140,u141,u142,u143,u144,u145,u146,u147,u148,u149,u150,u151,u152,u153,u154,u155,u156,u157,u158,u159,u160,u161,u162,u163,u164,u165,u166,u167,u168,u169,u170,u171,u172,u173,u174,u175,u176,u177,u178,u179,u180,u181,u182,u183,u184,u185,u186,u187,u188,u189,u190,u191,u192,u193,u194,u195,u196,u197,u198,u199,u200,u201],defers:=[] } W:=by
 obtain ⟨iA,hiA,zA0,zA1,zA2⟩:=info_parts infoAr
 obtain ⟨aW,cW,rfl⟩:∃ aN cN,vW=.slice aN σ.ways.length cN:=by
  obtain ⟨a,cap,e,_,_⟩:=(Row.of_owns (WkG.wy hK)).shape;exact ⟨a,cap,e⟩
 obtain ⟨_,_,_,c3,_⟩:=WkIn.cells hK
 have f3:=WkIn.free hK 3
 have hrow:=qh (WkG.wy hK)
 have hap:=qh (WkG.ap hK)
 have lbw:bw<W.heap.size:=WkG.lt hK 0 bw rfl
 have lbp:bp<W.heap.size:=(Array.getElem?_eq_some_iff.1 hp).1
 have p0:W.cell? ⟨bp,0,none⟩=some (.int .i64 p.root):=by simp [World.cell?,hp,Pl.cells]
 have p1:W.cell? ⟨bp,1,none⟩=some (.int .i64 p.beg):=by simp [World.cell?,hp,Pl.cells]
 have p2:W.cell? ⟨bp,2,none⟩=some (.int .i64 p.width):=by simp [World.cell?,hp,Pl.cells]
 have nW:(Value.slice aW σ.ways.length cW).ownBlock≠some bw:=fun e=>by
  have:=hap.out 4 0 bw e rfl;omega
 have np:(Value.slice aW σ.ways.length cW).ownBlock≠some bp:=fun e=>hbp ⟨4,e⟩
 have hKh:=qh hK
 have hRh:=qh hR
 clear hK hR hp hbp
 conv=>arg 2;whnf
 go_wp2_with fail
 refine wp_region_M (fun w'=>w'.cell? ⟨bw,3,none⟩=some (.slice aW σ.ways.length cW)∧w'.cell? ⟨bp,0,none⟩=some (.int .i64 p.root)∧w'.cell? ⟨bp,1,none⟩=some (.int .i64 p.beg)∧w'.cell? ⟨bp,2,none⟩=some (.int .i64 p.width)) 11 (by kernel_rfl) ⟨c3,p0,p1,p2⟩ (fun hS=>?_)
 refine' tk 0 hS ?_ ?_;rotate_left;·intros;go_simp;try rfl
 refine' tk 1 hS ?_ ?_;rotate_left;·intros;go_simp;try rfl
 refine' tk 2 hS ?_ ?_;rotate_left;·intros;go_simp;try rfl
 try simp only [tD]
 refine' tk 3 hS ?_ ?_;rotate_left;·intros;go_simp;try rfl
 refine' tk 4 hS ?_ ?_;rotate_left;·intros;go_simp;try rfl
 refine' tk 5 hS ?_ ?_;rotate_left;·intros;go_simp;try rfl
 try simp only [tD]
 refine' tk 6 hS ?_ ?_;rotate_left;·intros;go_simp;try rfl
 try simp only [tD]
 refine rc 7 fun K hK=>?_
 go_simp
 have xa:Ext W (W.alloc (.cells #[.int .i64 p.root,.int .i64 p.beg,.int .i64 p.width,.slice none 0 0] 129)).drew:=(Ext.alloc W _).trans (Ext.drew _)
 refine hK.out _ _ ⟨xa.cell c3,xa.cell p0,xa.cell p1,xa.cell p2⟩ ?_
 try simp only [tD]
 clear hK K
 refine rc 8 fun K hK=>?_
 refine wp_append_lies _ _ _ _ rfl 0 129 iA _ 4 48 Tryz.underlying130 hiA zA0 zA1 zA2 rfl (by omega) (.slice aW σ.ways.length cW) σ.ways.length (wayCells σ.ways ws) rfl ((hrow.out.alloc _).drew) ⟨W.heap.size,0,none⟩ 1 1 (p.cells ++ [.slice none 0 0]) rfl rfl (World.news_of_block (cs:=#[.int .i64 p.root,.int .i64 p.beg,.int .i64 p.width,.slice none 0 0]) (t:=129) (fr:=(0,0)) (heap_alloc_new W _)) (way_one p) (by omega) (by unfold maxLen;omega) (by omega) (by simp) (W.heap.size+1) (by simp) ?_
 intro gg cap w1 hown1 hgrow hat hlt
 have k1:Keep (fun k=>some k=(Value.slice aW σ.ways.length cW).ownBlock) W w1:=Keep.ofGrown xa hgrow (fun k e=>e.symm)
 have c3':=k1.cell c3 (Ne.symm nW)
 have f3':w1.frozen? ⟨bw,3,none⟩=false:=by rw [World.frozen?_of_block (w:=W) (k1.block bw lbw (Ne.symm nW))];exact f3
 have hS':w1.cell? ⟨bw,3,none⟩=some (.slice aW σ.ways.length cW)∧w1.cell? ⟨bp,0,none⟩=some (.int .i64 p.root)∧w1.cell? ⟨bp,1,none⟩=some (.int .i64 p.beg)∧w1.cell? ⟨bp,2,none⟩=some (.int .i64 p.width):=⟨c3',k1.cell p0 (Ne.symm np),k1.cell p1 (Ne.symm np),k1.cell p2 (Ne.symm np)⟩
 refine hK.out _ _ hS' ?_
 try simp only [tD]
 clear hK K hS
 have hS:=hS'
 refine' tk 9 hS ?_ ?_;rotate_left;·intros;go_simp;try rfl
 refine' tk 10 hS ?_ ?_;rotate_left;·intros;go_simp;try rfl
 try simp only [tD]
 refine rl 11 fun K hK=>?_
 go_simp
 refine hK.out _ _ ?_
 try simp only [tD]
 clear hK K hS
 refine wpAnyM_done (by kernel_rfl) ?_ _
 obtain ⟨K2,k2,g2⟩:=hKh.out.way p xa hgrow (hat.imp id (fun e=>by rw [e];simp)) hown1
 have fin:=hRh.out _ _ _ K2 k2 g2
 clear hKh hRh hrow hap k1 c3' f3' hS' hown1 hgrow K2 k2 g2
 go_wp2_with fail
 go_end0
 exact fin
end Go.Proofs.YtligiddaampneaaGreat
end
section
namespace Go.Proofs.YtligiddaampneaaGreat
open Go.RowKit
attribute [local go_sem ↓] Go.wp_at_zero Go.wp_at_succ
noncomputable def oneTail:Code:=dropS 11 (Tryz.f107.body.getD .skip)
def Six (bw br bp:Nat) (vN vP:Value) (name:ByteArray) (p:Pl) (w:World):Prop :=
 w.cell? ⟨bw,0,none⟩=some vN∧w.cell? ⟨bw,1,none⟩=some vP∧w.cell? ⟨br,0,none⟩=some (.string name)∧w.cell? ⟨bp,0,none⟩=some (.int .i64 p.root)∧w.cell? ⟨bp,1,none⟩=some (.int .i64 p.beg)∧w.cell? ⟨bp,2,none⟩=some (.int .i64 p.width)
theorem Six.ext {bw br bp:Nat} {vN vP:Value} {name:ByteArray} {p:Pl} {w w':World} (h:Six bw br bp vN vP name p w) (x:Ext w w'):Six bw br bp vN vP name p w' :=
 ⟨x.cell h.1,x.cell h.2.1,x.cell h.2.2.1,x.cell h.2.2.2.1,x.cell h.2.2.2.2.1,x.cell h.2.2.2.2.2⟩
theorem Six.grown {bw br bp bm:Nat} {vN vP cW uN uP uW:Value} {cs ws:List Value} {mn:List ByteArray} {σ:Wk} {name:ByteArray} {p:Pl} {w w':World} {row:Option Nat} (h:Six bw br bp vN vP name p w) (k:WkG w' bw bm vN vP cW cs uN uP uW ws mn σ) (hg:w.grownBy w' row) (h1:row≠some br) (h2:row≠some bp):Six bw br bp vN vP name p w':=by
 have kk:Keep (fun k=>row=some k) w w':=Keep.grown hg (fun _ e=>e)
 exact ⟨k.cells.1,k.cells.2.1,kk.cell h.2.2.1 h1,kk.cell h.2.2.2.1 h2,kk.cell h.2.2.2.2.1 h2,kk.cell h.2.2.2.2.2 h2⟩
theorem grew2 {W:World} {ρ:Nat→Option Nat} {bw bm gN gP n c n' c':Nat} {vN vP vW:Value} {ws:List Value} (h:Grew W ρ (parts bw bm vN vP vW ws)) (eN:vN.ownBlock=some gN∨W.heap.size≤gN) (eP:vP.ownBlock=some gP∨W.heap.size≤gP) :
  Grew W ρ (parts bw bm (.slice (some ⟨gN,0,none⟩) n c) (.slice (some ⟨gP,0,none⟩) n' c') vW ws):=by
 have h1:Grew W (parts bw bm vN vP vW ws) (parts bw bm (.slice (some ⟨gN,0,none⟩) n c) vP vW ws):=Grew.set 2 gN eN (fun r hr=>by match r,hr with | 0,_=>rfl | 1,_=>rfl | 3,_=>rfl | 4,_=>rfl | j+5,_=>rfl) rfl
 have h2:Grew W (parts bw bm (.slice (some ⟨gN,0,none⟩) n c) vP vW ws) (parts bw bm (.slice (some ⟨gN,0,none⟩) n c) (.slice (some ⟨gP,0,none⟩) n' c') vW ws):=Grew.set 3 gP eP (fun r hr=>by match r,hr with | 0,_=>rfl | 1,_=>rfl | 2,_=>rfl | 4,_=>rfl | j+5,_=>rfl) rfl
 exact (h.trans (Nat.le_refl _) h1).trans (Nat.le_refl _) h2
theorem one_r22 (bw bm br bp:Nat) (q6:Value) (vN vP vW:Value) (ws:List Value) (σ:Wk) (p:Pl) (W WB:World) (R:Ending→World→Prop) (ρ:Nat→Option Nat)
  (hk:Keep (Has ρ) W WB) (hg:Grew W ρ (parts bw bm vN vP vW ws)) (hp:W.heap[bp]?=some (.cells p.cells.toArray 88 (0,0))) (hbp:¬ Has ρ bp)
  (hK:WkIn WB bw bm vN vP vW ws σ) (hwl:σ.ways.length≤6)
  (hR:∀ w',OnePost W bw ρ (.ok { σ with ways:=σ.ways ++ [(p,[])] }) (.returned (.tuple #[])) w'→R (.returned (.tuple #[])) w')
  (u1 u2 u4 u5 u8 u9 u10 u11 u12 u13 u14 u15 u16 u17 u18 u19 u20 u21 u22 u23 u24 u25 u26 u27 u28 u29 u30 u31 u32 u33 u34 u35 u36 u37 u38 u39 u40 u41 u42 u43 u44 u45 u46 u47 u48 u49 u50 u51 u52 u53 u54 u55 u56 u57 u58 u59 u60 u61 u62 u63 u64 u65 u66 u67 u68 u69 u70 u71 u72 u73 u74 u75 u76 u77 u78 u79 u80 u81 u82 u83 u84 u85 u86 u87 u88 u89 u90 u91 u92 u93 u94 u95 u96 u97 u98 u99 u100 u101 u102 u103 u104 u105 u106 u107 u108 u109 u110 u111 u112 u113 u114 u115 u116 u117 u118 u119 u120 u121 u122 u123 u124 u125 u126 u127 u128 u129 u130 u131 u132 u133 u134 u135 u136 u137 u138 u139 u140 u141 u142 u143 u144 u145 u146 u147 u148 u149 u150 u151 u152 u153 u154 u155 u156 u157 u158 u159 u160 u161 u162 u163 u164 u165 u166 u167 u168 u169 u170 u171 u172 u173 u174 u175 u176 u177 u178 u179 u180 u181 u182 u183 u184 u185 u186 u187 u188 u189 u190 u191 u192 u193 u194 u195 u196 u197 u198 u199 u200 u201:Value) :
  Code.wp Tryz.prog oneLast (bodyPost Tryz.prog Tryz.f107 R) { tmps:=#[.pointer (some ⟨bw,0,none⟩),u1,u2,.pointer (some ⟨br,0,none⟩),u4,u5,q6,.pointer (some ⟨bp,0,none⟩),u8,u9,u10,u11,u12,u13,u14,u15,u16,u17,u18,u19,u20,u21,u22,u23,u24,u25,u26,u27,u28,u29,u30,u31,u32,u33,u34,u35,u36,u37,u38,u39,u40,u41,u42,u43,u44,u45,u46,u47,u48,u49,u50,u51,u52,u53,u54,u55,u56,u57,u58,u59,u60,u61,u62,u63,u64,u65,u66,u67,u68,u69,u70,u71,u72,u73,u74,u75,u76,u77,u78,u79,u80,u81,u82,u83,u84,u85,u86,u87,u88,u89,u90,u91,u92,u93,u94,u95,u96,u97,u98,u99,u100,u101,u102,u103,u104,u105,u106,u107,u108,u109,u110,u111,u112,u113,u114,u115,u116,u117,u118,u119,u120,u121,u122,u123,u124,u125,u126,u127,u128,u129,u130,u131,u132,u133,u134,u135,u136,u137,u138,u139,u140,u141,u142,u143,u144,u145,u146,u147,u148,u149,u150,u151,u152,u153,u154,u155,u156,u157,u158,u159,u160,u161,u162,u163,u164,u165,u166,u167,u168,u169,u170,u171,u172,u173,u174,u175,u176,u177,u178,u179,u180,u181,u182,u183,u184,u185,u186,u187,u188,u189,u190,u191,u192,u193,u194,u195,u196,u197,u198,u199,u200,u201],defers:=[] } WB:=by
 have lbp:bp<W.heap.size:=(Array.getElem?_eq_some_iff.1 hp).1
 refine one_last bw bm br bp q6 vN vP vW ws σ p WB R hK hwl (by rw [hk.block bp lbp hbp];exact hp) (fun h=>?_) (fun w' vW' ws' h1 h2 h3=>hR w' ⟨hk.trans h2 (fun i hi h=>?_),rfl,bm,vN,vP,vW',ws',h1,hg.trans hk.size h3⟩) u1 u2 u4 u5 u8 u9 u10 u11 u12 u13 u14 u15 u16 u17 u18 u19 u20 u21 u22 u23 u24 u25 u26 u27 u28 u29 u30 u31 u32 u33 u34 u35 u36 u37 u38 u39 u40 u41 u42 u43 u44 u45 u46 u47 u48 u49 u50 u51 u52 u53 u54 u55 u56 u57 u58 u59 u60 u61 u62 u63 u64 u65 u66 u67 u68 u69 u70 u71 u72 u73 u74 u75 u76 u77 u78 u79 u80 u81 u82 u83 u84 u85 u86 u87 u88 u89 u90 u91 u92 u93 u94 u95 u96 u97 u98 u99 u100 u101 u102 u103 u104 u105 u106 u107 u108 u109 u110 u111 u112 u113 u114 u115 u116 u117 u118 u119 u120 u121 u122 u123 u124 u125 u126 u127 u128 u129 u130 u131 u132 u133 u134 u135 u136 u137 u138 u139 u140 u141 u142 u143 u144 u145 u146 u147 u148 u149 u150 u151 u152 u153 u154 u155 u156 u157 u158 u159 u160 u161 u162 u163 u164 u165 u166 u167 u168 u169 u170 u171 u172 u173 u174 u175 u176 u177 u178 u179 u180 u181 u182 u183 u184 u185 u186 u187 u188 u189 u190 u191 u192 u193 u194 u195 u196 u197 u198 u199 u200 u201
 ·rcases hg bp h with h | h
  ·exact hbp h
  ·omega
 ·rcases hg i h with h | h
  ·exact h
  ·omega
set_option maxRecDepth 100000 in
set_option maxHeartbeats 4000000 in
theorem one_took (bw bm br bW capW bp i cO mO:Nat) (aO:Option Addr) (vN vP:Value) (ws:List Value) (σ:Wk) (name:ByteArray) (p:Pl) (x:Pl × List Pl) (W:World) (R:Ending→World→Prop)
  (hK:WkIn W bw bm vN vP (.slice (some ⟨bW,0,none⟩) (i+1) capW) ws σ) (hwl:σ.ways.length=i+1) (hx:σ.ways[i]?=some x) (hv:ws[i]?=some (.slice aO mO cO)) (hmO:mO=x.2.length)
  (hp:W.heap[bp]?=some (.cells p.cells.toArray 88 (0,0))) (hbp:¬ Has (parts bw bm vN vP (.slice (some ⟨bW,0,none⟩) (i+1) capW) ws) bp)
  (hr:W.cell? ⟨br,0,none⟩=some (.string name)) (hbr:¬ Has (parts bw bm vN vP (.slice (some ⟨bW,0,none⟩) (i+1) capW) ws) br)
  (hn:σ.names.length<200) (hpl:σ.places.length<200) (hi6:i<6) (hm2:mO<200) (hme:memB name σ.names=false)
  (hR:∀ w',OnePost W bw (parts bw bm vN vP (.slice (some ⟨bW,0,none⟩) (i+1) capW) ws) (.ok { names:=σ.names ++ [name],places:=σ.places ++ [p],ways:=σ.ways.set i (x.1,x.2 ++ [p]) ++ [(p,[])],roots:=σ.roots }) (.returned (.tuple #[])) w'→R (.returned (.tuple #[])) w')
  (u1 u2 u4 u5 u8 u9 u10 u11 u12 u13 u14 u15 u16 u17 u18 u19 u20 u21 u22 u23 u24 u25 u26 u27 u28 u29 u30 u31 u32 u33 u34 u35 u36 u37 u38 u39 u40 u41 u42 u43 u44 u45 u46 u47 u48 u49 u50 u51 u52 u53 u54 u55 u56 u57 u58 u59 u60 u61 u62 u63 u64 u65 u66 u67 u68 u69 u70 u71 u72 u73 u74 u75 u76 u77 u78 u79 u80 u81 u82 u83 u84 u85 u86 u87 u88 u89 u90 u91 u92 u93 u94 u95 u96 u97 u98 u99 u100 u101 u102 u103 u104 u105 u106 u107 u108 u109 u110 u111 u112 u113 u114 u115 u116 u117 u118 u119 u120 u121 u122 u123 u124 u125 u126 u127 u128 u129 u130 u131 u132 u133 u134 u135 u136 u137 u138 u139 u140 u141 u142 u143 u144 u145 u146 u147 u148 u149 u150 u151 u152 u153 u154 u155 u156 u157 u158 u159 u160 u161 u162 u163 u164 u165 u166 u167 u168 u169 u170 u171 u172 u173 u174 u175 u176 u177 u178 u179 u180 u181 u182 u183 u184 u185 u186 u187 u188 u189 u190 u191 u192 u193 u194 u195 u196 u197 u198 u199 u200 u201:Value) :
  Code.wp Tryz.prog oneTail (bodyPost Tryz.prog Tryz.f107 R) { tmps:=#[.pointer (some ⟨bw,0,none⟩),u1,u2,.pointer (some ⟨br,0,none⟩),u4,u5,.pointer (some ⟨bW,i * 4,none⟩),.pointer (some ⟨bp,0,none⟩),u8,u9,u10,u11,u12,u13,u14,u15,u16,u17,u18,u19,u20,u21,u22,u23,u24,u25,u26,u27,u28,u29,u30,u31,u32,u33,u34,u35,u36,u37,u38,u39,u40,u41,u42,u43,u44,u45,u46,u47,u48,u49,u50,u51,u52,u53,u54,u55,u56,u57,u58,u59,u60,u61,u62,u63,u64,u65,u66,u67,u68,u69,u70,u71,u72,u73,u74,u75,u76,u77,u78,u79,u80,u81,u82,u83,u84,u85,u86,u87,u88,u89,u90,u91,u92,u93,u94,u95,u96,u97,u98,u99,u100,u101,u102,u103,u104,u105,u106,u107,u108,u109,u110,u111,u112,u113,u114,u115,u116,u117,u118,u119,u120,u121,u122,u123,u124,u125,u126,u127,u128,u129,u130,u131,u132,u133,u134,u135,u136,u137,u138,u139,u140,u141,u142,u143,u144,u145,u146,u147,u148,u149,u150,u151,u152,u153,u154,u155,u156,u157,u158,u159,u160,u161,u162,u163,u164,u165,u166,u167,u168,u169,u170,u171,u172,u173,u174,u175,u176,u177,u178,u179,u180,u181,u182,u183,u184,u185,u186,u187,u188,u189,u190,u191,u192,u193,u194,u195,u196,u197,u198,u199,u200,u201],defers:=[] } W:=by
 obtain ⟨iP,hiP,zP0,zP1,zP2⟩:=info_parts infoPl
 obtain ⟨iS,hiS,zS0,zS1,zS2⟩:=info_parts infoStr
 obtain ⟨iA,hiA,zA0,zA1,zA2⟩:=info_parts infoAr
 obtain ⟨aN,cN,rfl⟩:∃ aN cN,vN=.slice aN σ.names.length cN:=by
  obtain ⟨a,cap,e,_,_⟩:=(Row.of_owns (WkG.nm hK)).shape;exact ⟨a,cap,e⟩
 obtain ⟨aP,cP,rfl⟩:∃ aP cP,vP=.slice aP σ.places.length cP:=by
  obtain ⟨a,cap,e,_,_⟩:=(Row.of_owns (WkG.pl hK)).shape;exact ⟨a,cap,e⟩
 obtain ⟨o0,o1,o2,o3,fo3⟩:=WkG.around hK hx hv
 have hrow:=WkG.wi hK i x _ hx hv
 have hap:=WkG.ap hK
 have hprt:=qh (show parts bw bm (.slice aN σ.names.length cN) (.slice aP σ.places.length cP) (.slice (some ⟨bW,0,none⟩) (i+1) capW) ws (i+5)=(Value.slice aO mO cO).ownBlock by simp [parts,hv])
 have hlt:=WkG.lt hK
 have lbW:bW<W.heap.size:=hlt 4 bW rfl
 have lbp:bp<W.heap.size:=(Array.getElem?_eq_some_iff.1 hp).1
 have p0:W.cell? ⟨bp,0,none⟩=some (.int .i64 p.root):=by simp [World.cell?,hp,Pl.cells]
 have p1:W.cell? ⟨bp,1,none⟩=some (.int .i64 p.beg):=by simp [World.cell?,hp,Pl.cells]
 have p2:W.cell? ⟨bp,2,none⟩=some (.int .i64 p.width):=by simp [World.cell?,hp,Pl.cells]
 have nW:(Value.slice aO mO cO).ownBlock≠some bW:=fun e=>by
  have:=hap (i+5) 4 bW (hprt.out.trans e) rfl;omega
 have np:(Value.slice aO mO cO).ownBlock≠some bp:=fun e=>hbp ⟨i+5,hprt.out.trans e⟩
 have hKh:=qh hK
 have hRh:=qh hR
 have hxh:=qh hx
 have hvh:=qh hv
 have hph:=qh hp
 have hwh:=qh hwl
 have hmh:=qh hmO
 have haph:=qh hap
 have hlth:=qh hlt
 have hmeh:=qh hme
 have hbph:=qh hbp
 have hbrh:=qh hbr
 have hrowh:=qh hrow
 clear hK hR hx hv hp hwl hmO hap hlt hme hbp hbr hrow
 conv=>arg 2;whnf
 go_wp2_with fail
 refine wp_region_M (fun w'=>w'.cell? ⟨bW,i * 4+3,none⟩=some (.slice aO mO cO)∧w'.cell? ⟨bp,0,none⟩=some (.int .i64 p.root)∧w'.cell? ⟨bp,1,none⟩=some (.int .i64 p.beg)∧w'.cell? ⟨bp,2,none⟩=some (.int .i64 p.width)) 10 (by kernel_rfl) ⟨o3,p0,p1,p2⟩ (fun hS=>?_)
 refine' tk 0 hS ?_ ?_;rotate_left;·intros;go_simp;try rfl
 refine' tk 1 hS ?_ ?_;rotate_left;·intros;go_simp;try rfl
 refine' tk 2 hS ?_ ?_;rotate_left;·intros;go_simp;try rfl
 try simp only [tD]
 refine' tk 3 hS ?_ ?_;rotate_left;·intros;go_simp;try rfl
 refine' tk 4 hS ?_ ?_;rotate_left;·intros;go_simp;try rfl
 refine' tk 5 hS ?_ ?_;rotate_left;·intros;go_simp;try rfl
 try simp only [tD]
 refine rc 6 fun K hK=>?_
 go_simp
 have xa:Ext W (W.alloc (.cells #[.int .i64 p.root,.int .i64 p.beg,.int .i64 p.width] 88)).drew:=(Ext.alloc W _).trans (Ext.drew _)
 refine hK.out _ _ ⟨xa.cell o3,xa.cell p0,xa.cell p1,xa.cell p2⟩ ?_
 try simp only [tD]
 clear hK K
 refine rc 7 fun K hK=>?_
 refine wp_append_lies _ _ _ _ rfl 0 88 iP _ 3 24 Tryz.underlying45 hiP zP0 zP1 zP2 rfl (by omega) (.slice aO mO cO) mO (plCells x.2) rfl (by have:=hrowh.out;rw [← hmh.out] at this;exact (this.alloc _).drew) ⟨W.heap.size,0,none⟩ 1 1 p.cells rfl rfl (World.news_of_block (cs:=p.cells.toArray) (t:=88) (fr:=(0,0)) (heap_alloc_new W _)) p.one (by omega) (by unfold maxLen;omega) (by omega) (by simp) (W.heap.size+1) (by simp) ?_
 intro gg cap w1 hown1 hgrow hat hlt
 have k1:Keep (fun k=>some k=(Value.slice aO mO cO).ownBlock) W w1:=(Keep.of_ext xa).trans (Keep.grown (S:=fun k=>some k=(Value.slice aO mO cO).ownBlock) hgrow (fun k e=>e.symm)) (fun _ _ h=>h)
 have o3':=k1.cell o3 (Ne.symm nW)
 have fo3':w1.frozen? ⟨bW,i * 4+3,none⟩=false:=by rw [World.frozen?_of_block (w:=W) (k1.block bW lbW (Ne.symm nW))];exact fo3
 refine hK.out _ _ ⟨o3',k1.cell p0 (Ne.symm np),k1.cell p1 (Ne.symm np),k1.cell p2 (Ne.symm np)⟩ ?_
 try simp only [tD]
 clear hK K hS
 have hS:w1.cell? ⟨bW,i * 4+3,none⟩=some (.slice aO mO cO)∧w1.cell? ⟨bp,0,none⟩=some (.int .i64 p.root)∧w1.cell? ⟨bp,1,none⟩=some (.int .i64 p.beg)∧w1.cell? ⟨bp,2,none⟩=some (.int .i64 p.width):=⟨o3',k1.cell p0 (Ne.symm np),k1.cell p1 (Ne.symm np),k1.cell p2 (Ne.symm np)⟩
 refine' tk 8 hS ?_ ?_;rotate_left;·intros;go_simp;try rfl
 refine' tk 9 hS ?_ ?_;rotate_left;·intros;go_simp;try rfl
 try simp only [tD]
 refine rl 10 fun K hK=>?_
 go_simp
 refine hK.out _ _ ?_
 try simp only [tD]
 clear hK K hS
 refine wpAnyM_done (by kernel_rfl) ?_ _
 obtain ⟨K2,k2,g2⟩:=hKh.out.within hxh.out hvh.out p xa hgrow (hat.imp id (fun e=>by rw [e];simp)) (by rw [← hmh.out];exact hown1)
 have q0:=k2.cell p0 hbph.out
 have q1:=k2.cell p1 hbph.out
 have q2:=k2.cell p2 hbph.out
 have hp2:(w1.setCell ⟨bW,i * 4+3,none⟩ (.slice (some ⟨gg,0,none⟩) (mO+1) cap)).heap[bp]?=some (.cells p.cells.toArray 88 (0,0)):=by rw [k2.block bp lbp hbph.out];exact hph.out
 have rr:=k2.cell hr hbrh.out
 clear o0 o1 o2 o3 fo3 hprt lbW p0 p1 p2 nW np xa hown1 hgrow hlt k1 o3' fo3'
 have hbp2:¬ Has (parts bw bm (.slice aN σ.names.length cN) (.slice aP σ.places.length cP) (.slice (some ⟨bW,0,none⟩) (i+1) capW) (ws.set i (.slice (some ⟨gg,0,none⟩) (mO+1) cap))) bp:=fun h=>by
  rcases g2 bp h with h | h
  ·exact hbph.out h
  ·omega
 have lbr:br<W.heap.size:=World.block_lt_of_cell? W _ hr
 have hbr2:¬ Has (parts bw bm (.slice aN σ.names.length cN) (.slice aP σ.places.length cP) (.slice (some ⟨bW,0,none⟩) (i+1) capW) (ws.set i (.slice (some ⟨gg,0,none⟩) (mO+1) cap))) br:=fun h=>by
  rcases g2 br h with h | h
  ·exact hbrh.out h
  ·omega
 generalize hv2:Value.slice (some ⟨gg,0,none⟩) (mO+1) cap=vI at K2 k2 g2 q0 q1 q2 rr hbp2 hbr2 hp2 ⊢
 clear hv2 hat
 generalize w1.setCell ⟨bW,i * 4+3,none⟩ vI=W2 at K2 k2 q0 q1 q2 rr hp2 ⊢
 clear w1
 generalize hws:ws.set i vI=ws2 at K2 g2 hbp2 hbr2
 clear hws
 obtain ⟨c0,c1,c2,c3,c4⟩:=K2.cells
 have K2h:=qh K2
 have k2h:=qh k2
 have g2h:=qh g2
 have hbp2h:=qh hbp2
 have hbr2h:=qh hbr2
 have hp2h:=qh hp2
 clear K2 k2 g2 hbp2 hbr2 hp2 hr
 go_wp2_with fail
 refine wp_region_M (fun w'=>w'.cell? ⟨bw,0,none⟩=some (.slice aN σ.names.length cN)∧w'.cell? ⟨bw,2,none⟩=some (.map (some bm))∧w'.cell? ⟨br,0,none⟩=some (.string name)) 12 (by kernel_rfl) ⟨c0,c2,rr⟩ (fun hS=>?_)
 refine' tk 0 hS ?_ ?_;rotate_left;·intros;go_simp;try rfl
 refine' tk 1 hS ?_ ?_;rotate_left;·intros;go_simp;try rfl
 refine' tk 2 hS ?_ ?_;rotate_left;·intros;go_simp;try rfl
 try simp only [tD]
 refine' tk 3 hS ?_ ?_;rotate_left;·intros;go_simp;try rfl
 refine' tk 4 hS ?_ ?_;rotate_left;·intros;go_simp;try rfl
 refine' tk 5 hS ?_ ?_;rotate_left;·intros;go_simp;try rfl
 try simp only [tD]
 refine' tk 6 hS ?_ ?_;rotate_left;·intros;go_simp;try rfl
 refine' tk 7 hS ?_ ?_;rotate_left;·intros;go_simp;try rfl
 refine' tk 8 hS ?_ ?_;rotate_left;·intros;go_simp;try rfl
 try simp only [tD]
 refine' tk 9 hS ?_ ?_;rotate_left;·intros;go_simp;try rfl
 refine' tk 10 hS ?_ ?_;rotate_left;·intros;go_simp;try rfl
 refine' tk 11 hS ?_ ?_;rotate_left;·intros;go_simp;try rfl
 try simp only [tD]
 refine rl 12 fun K hK=>?_
 have hup:=run_update_new (P:=Tryz.prog) 79 9 3 Tryz.underlying79 Tryz.underlying9 W2.drew (ents σ.names) σ.names.length bm name (.int .i64 σ.names.length) (WkG.mp (WkG.drew K2h.out)) (ents_str _) (ents_none _ _ (fun x=>by have:=hmeh.out;rw [(memB_iff _ _).2 x] at this;cases this))
 go_simp
 refine hK.out _ _ ?_
 try simp only [tD]
 clear hK K hS hup
 refine wpAnyM_done (by kernel_rfl) ?_ _
 have K3:WkG { heap:=W2.drew.heap.setIfInBounds bm (.map (ents σ.names ++ [({ key:=.string name,val:=.int .i64 σ.names.length,born:=σ.names.length }:MapEntry)]).toArray (σ.names.length+1)),tape:=W2.tape,drawn:=W2.drawn+1,os:=W2.drew.os,output:=W2.drew.output } bw bm (.slice aN σ.names.length cN) (.slice aP σ.places.length cP) (.slice (some ⟨bW,0,none⟩) (i+1) capW) ws2 (.slice aN σ.names.length cN) (.slice aP σ.places.length cP) (.slice (some ⟨bW,0,none⟩) (i+1) capW) ws2 (σ.names ++ [name]) { σ with ways:=σ.ways.set i (x.1,x.2 ++ [p]) }:=(WkG.drew K2h.out).mapped name
 have k3:Keep (Has (parts bw bm (.slice aN σ.names.length cN) (.slice aP σ.places.length cP) (.slice (some ⟨bW,0,none⟩) (i+1) capW) ws2)) W2 { heap:=W2.drew.heap.setIfInBounds bm (.map (ents σ.names ++ [({ key:=.string name,val:=.int .i64 σ.names.length,born:=σ.names.length }:MapEntry)]).toArray (σ.names.length+1)),tape:=W2.tape,drawn:=W2.drawn+1,os:=W2.drew.os,output:=W2.drew.output }:=(Keep.of_ext (Ext.drew W2)).trans (Keep.putObj (Has (parts bw bm (.slice aN σ.names.length cN) (.slice aP σ.places.length cP) (.slice (some ⟨bW,0,none⟩) (i+1) capW) ws2)) W2.drew bm _ ⟨1,rfl⟩) (fun _ _ h=>h)
 generalize ({ heap:=W2.drew.heap.setIfInBounds bm (.map (ents σ.names ++ [({ key:=.string name,val:=.int .i64 σ.names.length,born:=σ.names.length }:MapEntry)]).toArray (σ.names.length+1)),tape:=W2.tape,drawn:=W2.drawn+1,os:=W2.drew.os,output:=W2.drew.output }:World)=W3 at K3 k3 ⊢
 have S4:Six bw br bp (.slice aN σ.names.length cN) (.slice aP σ.places.length cP) name p W3.drew:=⟨(WkG.cells K3).1,(WkG.cells K3).2.1,k3.cell rr hbr2h.out,k3.cell q0 hbp2h.out,k3.cell q1 hbp2h.out,k3.cell q2 hbp2h.out⟩
 have k4:=qh ((k2h.out.trans (Keep.trans k3 (Keep.of_ext (S:=fun _=>False) (Ext.drew W3)) (fun _ _ h=>h.elim)) (fun k hk h=>by
  rcases g2h.out k h with h1 | h1
  ·exact h1
  ·omega)))
 have K4:=qh (WkG.drew K3)
 generalize hW4:W3.drew=W4 at S4 k4 K4
 clear K3 k3 c0 c1 c2 c3 c4 q0 q1 q2 rr
 obtain ⟨ρ,hρ⟩:∃ ρ,parts bw bm (.slice aN σ.names.length cN) (.slice aP σ.places.length cP) (.slice (some ⟨bW,0,none⟩) (i+1) capW) ws=ρ:=⟨_,rfl⟩
 have r0:Hid (Has ρ bw):=qh (hρ ▸ ⟨0,rfl⟩)
 have r2:Hid (∀ k,(Value.slice aN σ.names.length cN).ownBlock=some k→Has ρ k):=qh (fun k e=>hρ ▸ ⟨2,e⟩)
 have r3:Hid (∀ k,(Value.slice aP σ.places.length cP).ownBlock=some k→Has ρ k):=qh (fun k e=>hρ ▸ ⟨3,e⟩)
 rw [hρ] at k4 g2h hbph hRh
 have nNr:(Value.slice aN σ.names.length cN).ownBlock≠some br:=fun e=>hbr2h.out ⟨2,e⟩
 have nNp:(Value.slice aN σ.names.length cN).ownBlock≠some bp:=fun e=>hbp2h.out ⟨2,e⟩
 have nPr:(Value.slice aP σ.places.length cP).ownBlock≠some br:=fun e=>hbr2h.out ⟨3,e⟩
 have nPp:(Value.slice aP σ.places.length cP).ownBlock≠some bp:=fun e=>hbp2h.out ⟨3,e⟩
 have lN:Hid (∀ k,(Value.slice aN σ.names.length cN).ownBlock=some k→k<W4.heap.size):=qh (fun k e=>WkG.lt K4.out 2 k e)
 have zW:W.heap.size≤W4.heap.size:=k4.out.size
 have z4:W4.heap.size≤W4.heap.size:=Nat.le_refl _
 clear hρ hp2h hbrh k2h K2h
 go_wp2_with fail
 rename_i Kn hKn
 refine wp_region_M (Six bw br bp (.slice aN σ.names.length cN) (.slice aP σ.places.length cP) name p) 18 (by kernel_rfl) (hW4 ▸ S4) (fun _=>?_)
 rw [hW4]
 clear hW4
 have hS:=S4
 refine' tk 0 hS ?_ ?_;rotate_left;·intro w hSw;obtain ⟨s0,s1,s2,s3,s4,s5⟩:=hSw;go_simp;try rfl
 try simp only [tD]
 refine' tw 1 ?_ ?_;rotate_left;·intros;go_simp;try rfl
 refine' tk 2 hS ?_ ?_;rotate_left;·intro w hSw;obtain ⟨s0,s1,s2,s3,s4,s5⟩:=hSw;go_simp;try rfl
 refine' tk 3 hS ?_ ?_;rotate_left;·intro w hSw;obtain ⟨s0,s1,s2,s3,s4,s5⟩:=hSw;go_simp;try rfl
 try simp only [tD]
 refine' tk 4 hS ?_ ?_;rotate_left;·intro w hSw;obtain ⟨s0,s1,s2,s3,s4,s5⟩:=hSw;go_simp;try rfl
 refine' tk 5 hS ?_ ?_;rotate_left;·intro w hSw;obtain ⟨s0,s1,s2,s3,s4,s5⟩:=hSw;go_simp;try rfl
 refine' tk 6 hS ?_ ?_;rotate_left;·intro w hSw;obtain ⟨s0,s1,s2,s3,s4,s5⟩:=hSw;go_simp;try rfl
 try simp only [tD]
 refine' tk 7 hS ?_ ?_;rotate_left;·intro w hSw;obtain ⟨s0,s1,s2,s3,s4,s5⟩:=hSw;go_simp;try rfl
 refine' tk 8 hS ?_ ?_;rotate_left;·intro w hSw;obtain ⟨s0,s1,s2,s3,s4,s5⟩:=hSw;go_simp;try rfl
 refine' tk 11 hS ?_ ?_;rotate_left;·intro w hSw;obtain ⟨s0,s1,s2,s3,s4,s5⟩:=hSw;go_simp;try rfl
 try simp only [tD]
 refine' tk 12 hS ?_ ?_;rotate_left;·intro w hSw;obtain ⟨s0,s1,s2,s3,s4,s5⟩:=hSw;go_simp;try rfl
 refine' tk 13 hS ?_ ?_;rotate_left;·intro w hSw;obtain ⟨s0,s1,s2,s3,s4,s5⟩:=hSw;go_simp;try rfl
 refine' tk 14 hS ?_ ?_;rotate_left;·intro w hSw;obtain ⟨s0,s1,s2,s3,s4,s5⟩:=hSw;go_simp;try rfl
 try simp only [tD]
 refine' tk 15 hS ?_ ?_;rotate_left;·intro w hSw;obtain ⟨s0,s1,s2,s3,s4,s5⟩:=hSw;go_simp;try rfl
 try simp only [tD]
 refine wpAnyM_ready [9,16] (by kernel_rfl) rfl ?_
 refine AllM.cons rfl rfl (fun K hK=>?_) (AllM.cons rfl rfl (fun K hK=>?_) AllM.nil)
 ·-- 9 first
  go_simp
  have xa:Ext W4 (W4.alloc (.cells #[.string name] 9)):=Ext.alloc _ _
  have K5:=qh (K4.out.ext xa)
  have S5:=S4.ext xa
  have n9:(W4.alloc (.cells #[.string name] 9)).heap[W4.heap.size]?=some (.cells #[.string name] 9 (0,0)):=heap_alloc_new W4 _
  have k5:=qh (k4.out.trans (Keep.of_ext (S:=fun _=>False) xa) (fun _ _ h=>h.elim))
  have z5:W4.heap.size≤(W4.alloc (.cells #[.string name] 9)).heap.size:=Nat.le_trans z4 xa.size
  refine hK.out _ _ S5 ?_
  try simp only [tD]
  clear hK K xa
  generalize W4.alloc (.cells #[.string name] 9)=W5 at K5 S5 n9 k5 z5 ⊢
  obtain ⟨b9,hb9⟩:∃ b,W4.heap.size=b:=⟨_,rfl⟩
  rw [hb9] at n9 ⊢
  have y9:W4.heap.size≤b9:=by rw [← hb9];exact z4
  clear hb9
  have hS:=S5
  refine wpAnyM_ready [10,16] (by kernel_rfl) rfl ?_
  refine AllM.cons rfl rfl (fun K hK=>?_) (AllM.cons rfl rfl (fun K hK=>?_) AllM.nil)
  ·-- 10, 16, 17
   have nmc:=K5.out.nm
   refine wp_append_lies _ _ _ _ rfl 0 9 iS _ 1 16 Tryz.underlying25 hiS zS0 zS1 zS2 rfl (by omega) (.slice aN σ.names.length cN) σ.names.length (σ.names.map Value.string) rfl nmc ⟨b9,0,none⟩ 1 1 [.string name] rfl rfl (World.news_of_block (cs:=#[.string name]) n9) (by simp [Value.oneCell']) (by omega) (by unfold maxLen;omega) (by omega) (Nat.zero_le _) _ rfl ?_
   intro gN capN W6 ownN hgN hatN hltN
   have K6:=qh (K5.out.appN name hgN (hatN.imp id (fun e=>Nat.le_of_eq e.symm)) ownN)
   have S6:=S5.grown K6.out hgN nNr nNp
   have k6:=qh (k5.out.trans (Keep.grown (S:=fun k=>Has ρ k) hgN r2.out) (fun _ _ h=>h))
   have z6:W4.heap.size≤W6.heap.size:=Nat.le_trans z5 hgN.size
   have eN:(Value.slice aN σ.names.length cN).ownBlock=some gN∨W4.heap.size≤gN:=hatN.imp id (fun e=>by rw [e];exact z5)
   refine hK.out _ _ S6 ?_
   try simp only [tD]
   have hS:=S6
   clear hK K ownN hgN hatN hltN nmc
   refine rc 16 fun K hK=>?_
   go_simp
   have xa:Ext W6 (W6.alloc (.cells #[.int .i64 p.root,.int .i64 p.beg,.int .i64 p.width] 88)):=Ext.alloc _ _
   have K7:=qh (K6.out.ext xa)
   have S7:=S6.ext xa
   have n16:(W6.alloc (.cells #[.int .i64 p.root,.int .i64 p.beg,.int .i64 p.width] 88)).heap[W6.heap.size]?=some (.cells #[.int .i64 p.root,.int .i64 p.beg,.int .i64 p.width] 88 (0,0)):=heap_alloc_new W6 _
   have k7:=qh (k6.out.trans (Keep.of_ext (S:=fun _=>False) xa) (fun _ _ h=>h.elim))
   have z7:W4.heap.size≤(W6.alloc (.cells #[.int .i64 p.root,.int .i64 p.beg,.int .i64 p.width] 88)).heap.size:=Nat.le_trans z6 xa.size
   refine hK.out _ _ S7 ?_
   try simp only [tD]
   clear hK K xa
   generalize W6.alloc (.cells #[.int .i64 p.root,.int .i64 p.beg,.int .i64 p.width] 88)=W7 at K7 S7 n16 k7 z7 ⊢
   obtain ⟨b16,hb16⟩:∃ b,W6.heap.size=b:=⟨_,rfl⟩
   rw [hb16] at n16 ⊢
   have y16:W4.heap.size≤b16:=by rw [← hb16];exact z6
   clear hb16
   have hS:=S7
   refine rc 17 fun K hK=>?_
   have plc:=K7.out.pl
   refine wp_append_lies _ _ _ _ rfl 0 88 iP _ 3 24 Tryz.underlying45 hiP zP0 zP1 zP2 rfl (by omega) (.slice aP σ.places.length cP) σ.places.length (plCells σ.places) rfl plc ⟨b16,0,none⟩ 1 1 p.cells rfl rfl (World.news_of_block (cs:=p.cells.toArray) n16) p.one (by omega) (by unfold maxLen;omega) (by omega) (Nat.zero_le _) _ rfl ?_
   intro gP capP W8 ownP hgP hatP hltP
   have K8:=qh (K7.out.appP p hgP (hatP.imp id (fun e=>Nat.le_of_eq e.symm)) ownP)
   have S8:=S7.grown K8.out hgP nPr nPp
   have k8:=qh (k7.out.trans (Keep.grown (S:=fun k=>Has ρ k) hgP r3.out) (fun _ _ h=>h))
   have eP:(Value.slice aP σ.places.length cP).ownBlock=some gP∨W4.heap.size≤gP:=hatP.imp id (fun e=>by rw [e];exact z7)
   refine hK.out _ _ S8 ?_
   try simp only [tD]
   clear hK K hS ownP hgP hatP hltP plc
   have eN':=eN.imp id (Nat.le_trans zW)
   have eP':=eP.imp id (Nat.le_trans zW)
   have f0:=WkG.free K8.out 0
   have c0:=(WkG.cells K8.out).1
   refine rl 18 fun K hK=>?_
   go_simp
   refine hK.out _ _ ?_
   try simp only [tD]
   clear hK K
   refine rl 19 fun K hK=>?_
   go_simp
   refine hK.out _ _ ?_
   try simp only [tD]
   clear hK K
   refine rl 20 fun K hK=>?_
   go_simp
   refine hK.out _ _ ?_
   try simp only [tD]
   clear hK K f0 c0
   have KA:=qh (K8.out.field (cN':=.slice (some ⟨gN,0,none⟩) (σ.names.length+1) capN) (cP':=.slice aP σ.places.length cP) (cW':=.slice (some ⟨bW,0,none⟩) (i+1) capW) (ro:=σ.roots) 0 (.slice (some ⟨gN,0,none⟩) (σ.names.length+1) capN) rfl)
   have kA:=qh (k8.out.trans (Keep.setCell (fun k=>Has ρ k) W8 ⟨bw,0,none⟩ (.slice (some ⟨gN,0,none⟩) (σ.names.length+1) capN) r0.out) (fun _ _ h=>h))
   generalize W8.setCell ⟨bw,0,none⟩ (.slice (some ⟨gN,0,none⟩) (σ.names.length+1) capN)=WA at KA kA ⊢
   have f1:=WkG.free KA.out 1
   have c1:=(WkG.cells KA.out).2.1
   refine rl 21 fun K hK=>?_
   go_simp
   refine hK.out _ _ ?_
   try simp only [tD]
   clear hK K
   refine rl 22 fun K hK=>?_
   go_simp
   refine hK.out _ _ ?_
   try simp only [tD]
   clear hK K
   refine rl 23 fun K hK=>?_
   go_simp
   refine hK.out _ _ ?_
   try simp only [tD]
   clear hK K f1 c1
   have KB:=qh (KA.out.field (cN':=.slice (some ⟨gN,0,none⟩) (σ.names.length+1) capN) (cP':=.slice (some ⟨gP,0,none⟩) (σ.places.length+1) capP) (cW':=.slice (some ⟨bW,0,none⟩) (i+1) capW) (ro:=σ.roots) 1 (.slice (some ⟨gP,0,none⟩) (σ.places.length+1) capP) rfl)
   have kB:=qh (kA.out.trans (Keep.setCell (fun k=>Has ρ k) WA ⟨bw,1,none⟩ (.slice (some ⟨gP,0,none⟩) (σ.places.length+1) capP) r0.out) (fun _ _ h=>h))
   generalize WA.setCell ⟨bw,1,none⟩ (.slice (some ⟨gP,0,none⟩) (σ.places.length+1) capP)=WB at KB kB ⊢
   refine wpAnyM_done (by kernel_rfl) ?_ _
   exact hKn _ _ (one_r22 bw bm br bp _ _ _ _ ws2 { names:=σ.names ++ [name],places:=σ.places ++ [p],ways:=σ.ways.set i (x.1,x.2 ++ [p]),roots:=σ.roots } p W WB R ρ kB.out (grew2 g2h.out eN' eP') hph.out hbph.out KB.out (by have:=hwh.out;simp;omega) hRh.out _ _ _ _ _ _ _ _ _ _ _ _ _ _ _ _ _ _ _ _ _ _ _ _ _ _ _ _ _ _ _ _ _ _ _ _ _ _ _ _ _ _ _ _ _ _ _ _ _ _ _ _ _ _ _ _ _ _ _ _ _ _ _ _ _ _ _ _ _ _ _ _ _ _ _ _ _ _ _ _ _ _ _ _ _ _ _ _ _ _ _ _ _ _ _ _ _ _ _ _ _ _ _ _ _ _ _ _ _ _ _ _ _ _ _ _ _ _ _ _ _ _ _ _ _ _ _ _ _ _ _ _ _ _ _ _ _ _ _ _ _ _ _ _ _ _ _ _ _ _ _ _ _ _ _ _ _ _ _ _ _ _ _ _ _ _ _ _ _ _ _ _ _ _ _ _ _ _ _ _ _ _ _ _ _ _ _ _ _ _ _ _ _ _ _ _ _ _)
  ·-- 16, 10, 17
   go_simp
   have xa:Ext W5 (W5.alloc (.cells #[.int .i64 p.root,.int .i64 p.beg,.int .i64 p.width] 88)):=Ext.alloc _ _
   have K6:=qh (K5.out.ext xa)
   have S6:=S5.ext xa
   have n16:(W5.alloc (.cells #[.int .i64 p.root,.int .i64 p.beg,.int .i64 p.width] 88)).heap[W5.heap.size]?=some (.cells #[.int .i64 p.root,.int .i64 p.beg,.int .i64 p.width] 88 (0,0)):=heap_alloc_new W5 _
   have k6:=qh (k5.out.trans (Keep.of_ext (S:=fun _=>False) xa) (fun _ _ h=>h.elim))
   have z6:W4.heap.size≤(W5.alloc (.cells #[.int .i64 p.root,.int .i64 p.beg,.int .i64 p.width] 88)).heap.size:=Nat.le_trans z5 xa.size
   have n9:=xa.block n9
   refine hK.out _ _ S6 ?_
   try simp only [tD]
   clear hK K xa
   generalize W5.alloc (.cells #[.int .i64 p.root,.int .i64 p.beg,.int .i64 p.width] 88)=W6 at K6 S6 n16 k6 z6 n9 ⊢
   obtain ⟨b16,hb16⟩:∃ b,W5.heap.size=b:=⟨_,rfl⟩
   rw [hb16] at n16 ⊢
   have y16:W4.heap.size≤b16:=by rw [← hb16];exact z5
   clear hb16
   have hS:=S6
   refine rc 10 fun K hK=>?_
   have nmc:=K6.out.nm
   refine wp_append_lies _ _ _ _ rfl 0 9 iS _ 1 16 Tryz.underlying25 hiS zS0 zS1 zS2 rfl (by omega) (.slice aN σ.names.length cN) σ.names.length (σ.names.map Value.string) rfl nmc ⟨b9,0,none⟩ 1 1 [.string name] rfl rfl (World.news_of_block (cs:=#[.string name]) n9) (by simp [Value.oneCell']) (by omega) (by unfold maxLen;omega) (by omega) (Nat.zero_le _) _ rfl ?_
   intro gN capN W7 ownN hgN hatN hltN
   have K7:=qh (K6.out.appN name hgN (hatN.imp id (fun e=>Nat.le_of_eq e.symm)) ownN)
   have S7:=S6.grown K7.out hgN nNr nNp
   have k7:=qh (k6.out.trans (Keep.grown (S:=fun k=>Has ρ k) hgN r2.out) (fun _ _ h=>h))
   have z7:W4.heap.size≤W7.heap.size:=Nat.le_trans z6 hgN.size
   have eN:(Value.slice aN σ.names.length cN).ownBlock=some gN∨W4.heap.size≤gN:=hatN.imp id (fun e=>by rw [e];exact z6)
   have n16:W7.heap[b16]?=some (.cells #[.int .i64 p.root,.int .i64 p.beg,.int .i64 p.width] 88 (0,0)):=by rw [hgN.block b16 (Array.getElem?_eq_some_iff.1 n16).1 (fun e=>by have:=lN.out b16 e.symm;omega)];exact n16
   refine hK.out _ _ S7 ?_
   try simp only [tD]
   have hS:=S7
   clear hK K ownN hgN hatN hltN nmc
   refine rc 17 fun K hK=>?_
   have plc:=K7.out.pl
   refine wp_append_lies _ _ _ _ rfl 0 88 iP _ 3 24 Tryz.underlying45 hiP zP0 zP1 zP2 rfl (by omega) (.slice aP σ.places.length cP) σ.places.length (plCells σ.places) rfl plc ⟨b16,0,none⟩ 1 1 p.cells rfl rfl (World.news_of_block (cs:=p.cells.toArray) n16) p.one (by omega) (by unfold maxLen;omega) (by omega) (Nat.zero_le _) _ rfl ?_
   intro gP capP W8 ownP hgP hatP hltP
   have K8:=qh (K7.out.appP p hgP (hatP.imp id (fun e=>Nat.le_of_eq e.symm)) ownP)
   have S8:=S7.grown K8.out hgP nPr nPp
   have k8:=qh (k7.out.trans (Keep.grown (S:=fun k=>Has ρ k) hgP r3.out) (fun _ _ h=>h))
   have eP:(Value.slice aP σ.places.length cP).ownBlock=some gP∨W4.heap.size≤gP:=hatP.imp id (fun e=>by rw [e];exact z7)
   refine hK.out _ _ S8 ?_
   try simp only [tD]
   clear hK K hS ownP hgP hatP hltP plc
   have eN':=eN.imp id (Nat.le_trans zW)
   have eP':=eP.imp id (Nat.le_trans zW)
   have f0:=WkG.free K8.out 0
   have c0:=(WkG.cells K8.out).1
   refine rl 18 fun K hK=>?_
   go_simp
   refine hK.out _ _ ?_
   try simp only [tD]
   clear hK K
   refine rl 19 fun K hK=>?_
   go_simp
   refine hK.out _ _ ?_
   try simp only [tD]
   clear hK K
   refine rl 20 fun K hK=>?_
   go_simp
   refine hK.out _ _ ?_
   try simp only [tD]
   clear hK K f0 c0
   have KA:=qh (K8.out.field (cN':=.slice (some ⟨gN,0,none⟩) (σ.names.length+1) capN) (cP':=.slice aP σ.places.length cP) (cW':=.slice (some ⟨bW,0,none⟩) (i+1) capW) (ro:=σ.roots) 0 (.slice (some ⟨gN,0,none⟩) (σ.names.length+1) capN) rfl)
   have kA:=qh (k8.out.trans (Keep.setCell (fun k=>Has ρ k) W8 ⟨bw,0,none⟩ (.slice (some ⟨gN,0,none⟩) (σ.names.length+1) capN) r0.out) (fun _ _ h=>h))
   generalize W8.setCell ⟨bw,0,none⟩ (.slice (some ⟨gN,0,none⟩) (σ.names.length+1) capN)=WA at KA kA ⊢
   have f1:=WkG.free KA.out 1
   have c1:=(WkG.cells KA.out).2.1
   refine rl 21 fun K hK=>?_
   go_simp
   refine hK.out _ _ ?_
   try simp only [tD]
   clear hK K
   refine rl 22 fun K hK=>?_
   go_simp
   refine hK.out _ _ ?_
   try simp only [tD]
   clear hK K
   refine rl 23 fun K hK=>?_
   go_simp
   refine hK.out _ _ ?_
   try simp only [tD]
   clear hK K f1 c1
   have KB:=qh (KA.out.field (cN':=.slice (some ⟨gN,0,none⟩) (σ.names.length+1) capN) (cP':=.slice (some ⟨gP,0,none⟩) (σ.places.length+1) capP) (cW':=.slice (some ⟨bW,0,none⟩) (i+1) capW) (ro:=σ.roots) 1 (.slice (some ⟨gP,0,none⟩) (σ.places.length+1) capP) rfl)
   have kB:=qh (kA.out.trans (Keep.setCell (fun k=>Has ρ k) WA ⟨bw,1,none⟩ (.slice (some ⟨gP,0,none⟩) (σ.places.length+1) capP) r0.out) (fun _ _ h=>h))
   generalize WA.setCell ⟨bw,1,none⟩ (.slice (some ⟨gP,0,none⟩) (σ.places.length+1) capP)=WB at KB kB ⊢
   refine wpAnyM_done (by kernel_rfl) ?_ _
   exact hKn _ _ (one_r22 bw bm br bp _ _ _ _ ws2 { names:=σ.names ++ [name],places:=σ.places ++ [p],ways:=σ.ways.set i (x.1,x.2 ++ [p]),roots:=σ.roots } p W WB R ρ kB.out (grew2 g2h.out eN' eP') hph.out hbph.out KB.out (by have:=hwh.out;simp;omega) hRh.out _ _ _ _ _ _ _ _ _ _ _ _ _ _ _ _ _ _ _ _ _ _ _ _ _ _ _ _ _ _ _ _ _ _ _ _ _ _ _ _ _ _ _ _ _ _ _ _ _ _ _ _ _ _ _ _ _ _ _ _ _ _ _ _ _ _ _ _ _ _ _ _ _ _ _ _ _ _ _ _ _ _ _ _ _ _ _ _ _ _ _ _ _ _ _ _ _ _ _ _ _ _ _ _ _ _ _ _ _ _ _ _ _ _ _ _ _ _ _ _ _ _ _ _ _ _ _ _ _ _ _ _ _ _ _ _ _ _ _ _ _ _ _ _ _ _ _ _ _ _ _ _ _ _ _ _ _ _ _ _ _ _ _ _ _ _ _ _ _ _ _ _ _ _ _ _ _ _ _ _ _ _ _ _ _ _ _ _ _ _ _ _ _ _ _ _ _ _)
 ·-- 16, 9, 10, 17
  go_simp
  have xa:Ext W4 (W4.alloc (.cells #[.int .i64 p.root,.int .i64 p.beg,.int .i64 p.width] 88)):=Ext.alloc _ _
  have K5:=qh (K4.out.ext xa)
  have S5:=S4.ext xa
  have n16:(W4.alloc (.cells #[.int .i64 p.root,.int .i64 p.beg,.int .i64 p.width] 88)).heap[W4.heap.size]?=some (.cells #[.int .i64 p.root,.int .i64 p.beg,.int .i64 p.width] 88 (0,0)):=heap_alloc_new W4 _
  have k5:=qh (k4.out.trans (Keep.of_ext (S:=fun _=>False) xa) (fun _ _ h=>h.elim))
  have z5:W4.heap.size≤(W4.alloc (.cells #[.int .i64 p.root,.int .i64 p.beg,.int .i64 p.width] 88)).heap.size:=Nat.le_trans z4 xa.size
  refine hK.out _ _ S5 ?_
  try simp only [tD]
  clear hK K xa
  generalize W4.alloc (.cells #[.int .i64 p.root,.int .i64 p.beg,.int .i64 p.width] 88)=W5 at K5 S5 n16 k5 z5 ⊢
  obtain ⟨b16,hb16⟩:∃ b,W4.heap.size=b:=⟨_,rfl⟩
  rw [hb16] at n16 ⊢
  have y16:W4.heap.size≤b16:=by rw [← hb16];exact z4
  clear hb16
  have hS:=S5
  refine rc 9 fun K hK=>?_
  go_simp
  have xa:Ext W5 (W5.alloc (.cells #[.string name] 9)):=Ext.alloc _ _
  have K6:=qh (K5.out.ext xa)
  have S6:=S5.ext xa
  have n9:(W5.alloc (.cells #[.string name] 9)).heap[W5.heap.size]?=some (.cells #[.string name] 9 (0,0)):=heap_alloc_new W5 _
  have k6:=qh (k5.out.trans (Keep.of_ext (S:=fun _=>False) xa) (fun _ _ h=>h.elim))
  have z6:W4.heap.size≤(W5.alloc (.cells #[.string name] 9)).heap.size:=Nat.le_trans z5 xa.size
  have n16:=xa.block n16
  refine hK.out _ _ S6 ?_
  try simp only [tD]
  clear hK K xa
  generalize W5.alloc (.cells #[.string name] 9)=W6 at K6 S6 n9 k6 z6 n16 ⊢
  obtain ⟨b9,hb9⟩:∃ b,W5.heap.size=b:=⟨_,rfl⟩
  rw [hb9] at n9 ⊢
  have y9:W4.heap.size≤b9:=by rw [← hb9];exact z5
  clear hb9
  have hS:=S6
  refine rc 10 fun K hK=>?_
  have nmc:=K6.out.nm
  refine wp_append_lies _ _ _ _ rfl 0 9 iS _ 1 16 Tryz.underlying25 hiS zS0 zS1 zS2 rfl (by omega) (.slice aN σ.names.length cN) σ.names.length (σ.names.map Value.string) rfl nmc ⟨b9,0,none⟩ 1 1 [.string name] rfl rfl (World.news_of_block (cs:=#[.string name]) n9) (by simp [Value.oneCell']) (by omega) (by unfold maxLen;omega) (by omega) (Nat.zero_le _) _ rfl ?_
  intro gN capN W7 ownN hgN hatN hltN
  have K7:=qh (K6.out.appN name hgN (hatN.imp id (fun e=>Nat.le_of_eq e.symm)) ownN)
  have S7:=S6.grown K7.out hgN nNr nNp
  have k7:=qh (k6.out.trans (Keep.grown (S:=fun k=>Has ρ k) hgN r2.out) (fun _ _ h=>h))
  have z7:W4.heap.size≤W7.heap.size:=Nat.le_trans z6 hgN.size
  have eN:(Value.slice aN σ.names.length cN).ownBlock=some gN∨W4.heap.size≤gN:=hatN.imp id (fun e=>by rw [e];exact z6)
  have n16:W7.heap[b16]?=some (.cells #[.int .i64 p.root,.int .i64 p.beg,.int .i64 p.width] 88 (0,0)):=by rw [hgN.block b16 (Array.getElem?_eq_some_iff.1 n16).1 (fun e=>by have:=lN.out b16 e.symm;omega)];exact n16
  refine hK.out _ _ S7 ?_
  try simp only [tD]
  have hS:=S7
  clear hK K ownN hgN hatN hltN nmc
  refine rc 17 fun K hK=>?_
  have plc:=K7.out.pl
  refine wp_append_lies _ _ _ _ rfl 0 88 iP _ 3 24 Tryz.underlying45 hiP zP0 zP1 zP2 rfl (by omega) (.slice aP σ.places.length cP) σ.places.length (plCells σ.places) rfl plc ⟨b16,0,none⟩ 1 1 p.cells rfl rfl (World.news_of_block (cs:=p.cells.toArray) n16) p.one (by omega) (by unfold maxLen;omega) (by omega) (Nat.zero_le _) _ rfl ?_
  intro gP capP W8 ownP hgP hatP hltP
  have K8:=qh (K7.out.appP p hgP (hatP.imp id (fun e=>Nat.le_of_eq e.symm)) ownP)
  have S8:=S7.grown K8.out hgP nPr nPp
  have k8:=qh (k7.out.trans (Keep.grown (S:=fun k=>Has ρ k) hgP r3.out) (fun _ _ h=>h))
  have eP:(Value.slice aP σ.places.length cP).ownBlock=some gP∨W4.heap.size≤gP:=hatP.imp id (fun e=>by rw [e];exact z7)
  refine hK.out _ _ S8 ?_
  try simp only [tD]
  clear hK K hS ownP hgP hatP hltP plc
  have eN':=eN.imp id (Nat.le_trans zW)
  have eP':=eP.imp id (Nat.le_trans zW)
  have f0:=WkG.free K8.out 0
  have c0:=(WkG.cells K8.out).1
  refine rl 18 fun K hK=>?_
  go_simp
  refine hK.out _ _ ?_
  try simp only [tD]
  clear hK K
  refine rl 19 fun K hK=>?_
  go_simp
  refine hK.out _ _ ?_
  try simp only [tD]
  clear hK K
  refine rl 20 fun K hK=>?_
  go_simp
  refine hK.out _ _ ?_
  try simp only [tD]
  clear hK K f0 c0
  have KA:=qh (K8.out.field (cN':=.slice (some ⟨gN,0,none⟩) (σ.names.length+1) capN) (cP':=.slice aP σ.places.length cP) (cW':=.slice (some ⟨bW,0,none⟩) (i+1) capW) (ro:=σ.roots) 0 (.slice (some ⟨gN,0,none⟩) (σ.names.length+1) capN) rfl)
  have kA:=qh (k8.out.trans (Keep.setCell (fun k=>Has ρ k) W8 ⟨bw,0,none⟩ (.slice (some ⟨gN,0,none⟩) (σ.names.length+1) capN) r0.out) (fun _ _ h=>h))
  generalize W8.setCell ⟨bw,0,none⟩ (.slice (some ⟨gN,0,none⟩) (σ.names.length+1) capN)=WA at KA kA ⊢
  have f1:=WkG.free KA.out 1
  have c1:=(WkG.cells KA.out).2.1
  refine rl 21 fun K hK=>?_
  go_simp
  refine hK.out _ _ ?_
  try simp only [tD]
  clear hK K
  refine rl 22 fun K hK=>?_
  go_simp
  refine hK.out _ _ ?_
  try simp only [tD]
  clear hK K
  refine rl 23 fun K hK=>?_
  go_simp
  refine hK.out _ _ ?_
  try simp only [tD]
  clear hK K f1 c1
  have KB:=qh (KA.out.field (cN':=.slice (some ⟨gN,0,none⟩) (σ.names.length+1) capN) (cP':=.slice (some ⟨gP,0,none⟩) (σ.places.length+1) capP) (cW':=.slice (some ⟨bW,0,none⟩) (i+1) capW) (ro:=σ.roots) 1 (.slice (some ⟨gP,0,none⟩) (σ.places.length+1) capP) rfl)
  have kB:=qh (kA.out.trans (Keep.setCell (fun k=>Has ρ k) WA ⟨bw,1,none⟩ (.slice (some ⟨gP,0,none⟩) (σ.places.length+1) capP) r0.out) (fun _ _ h=>h))
  generalize WA.setCell ⟨bw,1,none⟩ (.slice (some ⟨gP,0,none⟩) (σ.places.length+1) capP)=WB at KB kB ⊢
  refine wpAnyM_done (by kernel_rfl) ?_ _
  exact hKn _ _ (one_r22 bw bm br bp _ _ _ _ ws2 { names:=σ.names ++ [name],places:=σ.places ++ [p],ways:=σ.ways.set i (x.1,x.2 ++ [p]),roots:=σ.roots } p W WB R ρ kB.out (grew2 g2h.out eN' eP') hph.out hbph.out KB.out (by have:=hwh.out;simp;omega) hRh.out _ _ _ _ _ _ _ _ _ _ _ _ _ _ _ _ _ _ _ _ _ _ _ _ _ _ _ _ _ _ _ _ _ _ _ _ _ _ _ _ _ _ _ _ _ _ _ _ _ _ _ _ _ _ _ _ _ _ _ _ _ _ _ _ _ _ _ _ _ _ _ _ _ _ _ _ _ _ _ _ _ _ _ _ _ _ _ _ _ _ _ _ _ _ _ _ _ _ _ _ _ _ _ _ _ _ _ _ _ _ _ _ _ _ _ _ _ _ _ _ _ _ _ _ _ _ _ _ _ _ _ _ _ _ _ _ _ _ _ _ _ _ _ _ _ _ _ _ _ _ _ _ _ _ _ _ _ _ _ _ _ _ _ _ _ _ _ _ _ _ _ _ _ _ _ _ _ _ _ _ _ _ _ _ _ _ _ _ _ _ _ _ _ _ _ _ _ _)
end Go.Proofs.YtligiddaampneaaGreat
end
section
namespace Go.Proofs.YtligiddaampneaaGreat
open Go.RowKit
theorem plCells_at {l:List Pl} {k:Nat} {q:Pl} (h:l[k]?=some q):(plCells l)[k * 3]?=some (.int .i64 q.root)∧(plCells l)[k * 3+1]?=some (.int .i64 q.beg)∧(plCells l)[k * 3+2]?=some (.int .i64 q.width):=by
 induction k generalizing l with
 | zero =>
  cases l with
  | nil=>simp at h
  | cons a l=>simp at h;subst h;simp [plCells,Pl.cells]
 | succ k ih =>
  cases l with
  | nil=>simp at h
  | cons a l =>
   have:=ih (l:=l) (by simpa using h)
   have e:plCells (a :: l)=.int .i64 a.root :: .int .i64 a.beg :: .int .i64 a.width :: plCells l:=by simp [plCells,Pl.cells]
   rw [e,show (k+1) * 3=k * 3+3 by omega]
   simpa using this
theorem places_at {w:World} {v:Value} {l:List Pl} {e:TypeId} (h:w.ownsRow 0 e 3 v l.length (plCells l)) {k:Nat} {q:Pl} (hq:l[k]?=some q) :
  ∃ b cap,v=.slice (some ⟨b,0,none⟩) l.length cap∧w.cell? ⟨b,k * 3,none⟩=some (.int .i64 q.root)∧w.cell? ⟨b,k * 3+1,none⟩=some (.int .i64 q.beg)∧w.cell? ⟨b,k * 3+2,none⟩=some (.int .i64 q.width):=by
 have hk:k<l.length:=(List.getElem?_eq_some_iff.1 hq).1
 obtain ⟨g,cap,hv,_,_⟩:=h.form (by omega)
 obtain ⟨h0,h1,h2⟩:=plCells_at hq
 rcases (Row.of_owns h).2 with ⟨e,_⟩ | ⟨a,cap',e,_,_,hc⟩
 ·rw [e] at hv;cases hv
 ·rw [hv] at e;cases e
  have ad:∀ j,(Addr.add ⟨g,0,none⟩ j)=⟨g,j,none⟩:=fun j=>by unfold Addr.add;by_cases h0:j=0 <;> simp [h0]
  have c0:=hc _ _ h0
  have c1:=hc _ _ h1
  have c2:=hc _ _ h2
  rw [ad] at c0 c1 c2
  exact ⟨g,cap,hv,c0,c1,c2⟩
theorem any_no {l:List Pl} {p:Pl} (h:∀ (j:Nat) (q:Pl),l[j]?=some q→lapS p q=false):l.any (lapS p)=false:=by
 rw [List.any_eq_false]
 intro q hq
 obtain ⟨j,hj⟩:=List.getElem?_of_mem hq
 simp [h j q hj]
theorem any_yes {l:List Pl} {p q:Pl} {j:Nat} (h:l[j]?=some q) (hl:lapS p q=true):l.any (lapS p)=true:=by
 rw [List.any_eq_true];exact ⟨q,List.mem_of_getElem? h,hl⟩
noncomputable def oneLoop:Code:=dropS 10 (Tryz.f107.body.getD .skip)
set_option maxRecDepth 100000 in
set_option maxHeartbeats 4000000 in
theorem one_loop (bw bm br bW capW bp i cO mO:Nat) (aO:Option Addr) (vN vP:Value) (ws:List Value) (σ:Wk) (name:ByteArray) (p:Pl) (x:Pl × List Pl) (W:World) (R:Ending→World→Prop)
  (hK:WkIn W bw bm vN vP (.slice (some ⟨bW,0,none⟩) (i+1) capW) ws σ) (hwl:σ.ways.length=i+1) (hx:σ.ways[i]?=some x) (hv:ws[i]?=some (.slice aO mO cO)) (hmO:mO=x.2.length)
  (hp:W.heap[bp]?=some (.cells p.cells.toArray 88 (0,0))) (hbp:¬ Has (parts bw bm vN vP (.slice (some ⟨bW,0,none⟩) (i+1) capW) ws) bp)
  (hr:W.cell? ⟨br,0,none⟩=some (.string name)) (hbr:¬ Has (parts bw bm vN vP (.slice (some ⟨bW,0,none⟩) (i+1) capW) ws) br)
  (hn:σ.names.length<200) (hpl:σ.places.length<200) (hi6:i<6) (hm2:mO<200) (hme:memB name σ.names=false) (hpf:p.fit) (hqf:∀ q∈x.2,q.fit)
  (hR:∀ e w',OnePost W bw (parts bw bm vN vP (.slice (some ⟨bW,0,none⟩) (i+1) capW) ws) (if x.2.any (lapS p) then .error 7 else .ok { names:=σ.names ++ [name],places:=σ.places ++ [p],ways:=σ.ways.set i (x.1,x.2 ++ [p]) ++ [(p,[])],roots:=σ.roots }) e w'→R e w')
  (u1 u2 u4 u5 u8 u9 u10 u11 u12 u13 u14 u15 u16 u17 u18 u19 u20 u21 u22 u23 u24 u25 u26 u27 u28 u29 u30 u31 u32 u33 u34 u35 u36 u37 u38 u39 u40 u41 u42 u43 u44 u45 u46 u47 u48 u49 u50 u51 u52 u53 u54 u55 u56 u57 u58 u59 u60 u61 u62 u63 u64 u65 u66 u67 u68 u69 u70 u71 u72 u73 u74 u75 u76 u77 u78 u79 u80 u81 u82 u83 u84 u85 u86 u87 u88 u89 u90 u91 u92 u93 u94 u95 u96 u97 u98 u99 u100 u101 u102 u103 u104 u105 u106 u107 u108 u109 u110 u111 u112 u113 u114 u115 u116 u117 u118 u119 u120 u121 u122 u123 u124 u125 u126 u127 u128 u129 u130 u131 u132 u133 u134 u135 u136 u137 u138 u139 u140 u141 u142 u143 u144 u145 u146 u147 u148 u149 u150 u151 u152 u153 u154 u155 u156 u157 u158 u159 u160 u161 u162 u163 u164 u165 u166 u167 u168 u169 u170 u171 u172 u173 u174 u175 u176 u177 u178 u179 u180 u181 u182 u183 u184 u185 u186 u187 u188 u189 u190 u191 u192 u193 u194 u195 u196 u197 u198 u199 u200 u201:Value) :
  Code.wp Tryz.prog oneLoop (bodyPost Tryz.prog Tryz.f107 R) { tmps:=#[.pointer (some ⟨bw,0,none⟩),u1,u2,.pointer (some ⟨br,0,none⟩),u4,u5,.pointer (some ⟨bW,i * 4,none⟩),.pointer (some ⟨bp,0,none⟩),u8,u9,u10,u11,u12,u13,u14,u15,u16,u17,u18,u19,u20,u21,u22,u23,u24,u25,u26,u27,u28,u29,u30,u31,u32,u33,u34,u35,u36,u37,u38,u39,u40,u41,u42,u43,u44,u45,u46,u47,u48,u49,u50,u51,u52,u53,u54,u55,u56,u57,u58,u59,u60,u61,u62,u63,u64,u65,u66,u67,u68,u69,u70,u71,u72,u73,u74,u75,u76,u77,u78,u79,u80,u81,u82,u83,u84,u85,u86,u87,u88,u89,u90,u91,u92,u93,u94,u95,u96,u97,u98,u99,u100,u101,u102,u103,u104,u105,u106,u107,u108,u109,u110,u111,u112,u113,u114,u115,u116,u117,u118,u119,u120,u121,u122,u123,u124,u125,u126,u127,u128,u129,u130,u131,u132,u133,u134,u135,u136,u137,u138,u139,u140,u141,u142,u143,u144,u145,u146,u147,u148,u149,u150,u151,u152,u153,u154,u155,u156,u157,u158,u159,u160,u161,u162,u163,u164,u165,u166,u167,u168,u169,u170,u171,u172,u173,u174,u175,u176,u177,u178,u179,u180,u181,u182,u183,u184,u185,u186,u187,u188,u189,u190,u191,u192,u193,u194,u195,u196,u197,u198,u199,u200,u201],defers:=[] } W:=by
 obtain ⟨o0,o1,o2,o3,fo3⟩:=WkG.around hK hx hv
 have hrow:=qh (WkG.wi hK i x _ hx hv)
 have hKh:=qh hK
 have hRh:=qh hR
 have hxh:=qh hx
 have hvh:=qh hv
 have hph:=qh hp
 have hwh:=qh hwl
 have hmh:=qh hmO
 have hmeh:=qh hme
 have hbph:=qh hbp
 have hbrh:=qh hbr
 have hqfh:=qh hqf
 clear hK hR hx hv hp hwl hmO hme hbp hbr hqf
 conv=>arg 2;whnf
 go_upto_block 0 with (fail)
 rename_i K1 hK1
 have hK1h:=qh hK1
 have p0:W.cell? ⟨bp,0,none⟩=some (.int .i64 p.root):=by simp [World.cell?,hph.out,Pl.cells]
 have p1:W.cell? ⟨bp,1,none⟩=some (.int .i64 p.beg):=by simp [World.cell?,hph.out,Pl.cells]
 have p2:W.cell? ⟨bp,2,none⟩=some (.int .i64 p.width):=by simp [World.cell?,hph.out,Pl.cells]
 clear hK1
 go_wp2_with fail
 go_loopw [137] (fun v wr=>∃ k:Nat,k≤mO∧v=.int .i64 k∧Hid (Ext W wr)∧Hid (∀ j q,j<k→x.2[j]?=some q→lapS p q=false)) (fun v _=>mO - (intOf v).toNat)
 case atStart=>exact ⟨0,by omega,rfl,qh (Ext.refl _),qh (fun j q hj=>by omega)⟩
 case round =>
  obtain ⟨k,hk,rfl,hX,hok⟩:=hrel
  by_cases hlt:k<mO
  ·obtain ⟨q,hq⟩:∃ q,x.2[k]?=some q:=⟨x.2[k]'(by rw [← hmh.out];exact hlt),lE _⟩
   obtain ⟨bO,cap,e,a0,a1,a2⟩:=places_at hrow.out hq
   cases e
   have a0:=hX.out.cell a0
   have a1:=hX.out.cell a1
   have a2:=hX.out.cell a2
   have p0:=hX.out.cell p0
   have p1:=hX.out.cell p1
   have p2:=hX.out.cell p2
   have lbp:=World.block_lt_of_cell? wr _ p0
   have hqf:=qh (hqfh.out q (List.mem_of_getElem? hq))
   have hqh:=qh hq
   clear hq
   cases hl:lapS p q with
   | true =>
    go_wp2_with fail
    refine (lap_any p q _ hpf hqf.out).mono ?_
    rintro e w' ⟨rfl,hb⟩
    rw [hl]
    go_wp2_with fail
    (with_reducible refine (need_no _ _).mono ?_)
    rintro e w'' ⟨rfl,rfl⟩
    refine ⟨rfl,hRh.out _ _ (onePost_no (by rw [any_yes hqh.out hl];rfl) (Keep.of_ext ((hX.out.trans (Ext.alloc _ _)).trans hb)))⟩
   | false =>
    go_wp2_with fail
    refine (lap_any p q _ hpf hqf.out).mono ?_
    rintro e w' ⟨rfl,hb⟩
    rw [hl]
    go_wp2_with fail
    (with_reducible refine (need_ok _ _).mono ?_)
    rintro e w'' ⟨rfl,rfl⟩
    go_wp2_with fail
    go_roundw
    case rel=>exact ⟨k+1,by omega,by go_num,qh ((hX.out.trans (Ext.alloc _ _)).trans hb),qh (fun j q' hj hq'=>by
     by_cases ej:j=k
     ·subst ej;rw [hqh.out] at hq';cases hq';exact hl
     ·exact hok.out j q' (by omega) hq')⟩
    case measure=>simp [intOf];omega
  ·go_wp2_with fail
   have hno:x.2.any (lapS p)=false:=any_no (fun j q hj=>hok.out j q (by have:=(List.getElem?_eq_some_iff.1 hj).1;have:=hmh.out;omega) hj)
   refine hK1h.out _ _ ?_
   refine one_took bw bm br bW capW bp i cO mO aO vN vP ws σ name p x wr R (hKh.out.ext hX.out) hwh.out hxh.out hvh.out hmh.out (hX.out.block hph.out) hbph.out (hX.out.cell hr) hbrh.out hn hpl hi6 hm2 hmeh.out (fun w' h=>hRh.out _ _ (OnePost.trans (Keep.of_ext hX.out) (fun k h=>Or.inl h) (by rw [hno];exact h))) _ _ _ _ _ _ _ _ _ _ _ _ _ _ _ _ _ _ _ _ _ _ _ _ _ _ _ _ _ _ _ _ _ _ _ _ _ _ _ _ _ _ _ _ _ _ _ _ _ _ _ _ _ _ _ _ _ _ _ _ _ _ _ _ _ _ _ _ _ _ _ _ _ _ _ _ _ _ _ _ _ _ _ _ _ _ _ _ _ _ _ _ _ _ _ _ _ _ _ _ _ _ _ _ _ _ _ _ _ _ _ _ _ _ _ _ _ _ _ _ _ _ _ _ _ _ _ _ _ _ _ _ _ _ _ _ _ _ _ _ _ _ _ _ _ _ _ _ _ _ _ _ _ _ _ _ _ _ _ _ _ _ _ _ _ _ _ _ _ _ _ _ _ _ _ _ _ _ _ _ _ _ _ _ _ _ _ _ _ _ _ _ _ _ _ _ _ _
end Go.Proofs.YtligiddaampneaaGreat
end
section
namespace Go.Proofs.YtligiddaampneaaGreat
open Go.RowKit
structure Wk.Good (σ:Wk):Prop where
 lp:σ.places.length=σ.names.length
 ro:0≤σ.roots∧σ.roots≤200
 ln:σ.names.length≤200
 rn:σ.roots≤σ.names.length
 wy:∀ (j:Nat) (x:Pl × List Pl),σ.ways[j]?=some x→(0≤x.1.root∧x.1.root≤200)∧(0≤x.1.beg∧0≤x.1.width∧x.1.beg+x.1.width≤64)
 wi:∀ (j:Nat) (x:Pl × List Pl),σ.ways[j]?=some x→x.2.length≤σ.names.length∧∀ q∈x.2,q.fit
theorem ways_took (ways:List (Pl × List Pl)) (i:Nat) (x:Pl × List Pl) (p:Pl) (hx:ways[i]?=some x):(ways.take (i+1)).set i (x.1,x.2 ++ [p]) ++ [(p,[])]=ways.take i ++ [(x.1,x.2 ++ [p]),(p,[])]:=by
 have hi:i<ways.length:=(List.getElem?_eq_some_iff.1 hx).1
 have e:ways.take (i+1)=ways.take i ++ [x]:=by
  rw [List.take_add_one,hx];rfl
 rw [e,List.set_append,if_neg (by simp;omega)]
 simp only [List.length_take,Nat.min_eq_left (Nat.le_of_lt hi),Nat.sub_self,List.set_cons_zero,List.append_assoc,List.cons_append,List.nil_append]
theorem oneS_eq {σ:Wk} {name:ByteArray} {width beg:Int} {i:Nat} {x:Pl × List Pl} {p:Pl} {roots:Int} (g1:(i:Int)+1≤6) (hn:σ.names.length<200) (h1:namedS name=true) (h2:memB name σ.names=false) (hw:1≤width∧width≤64∧0≤beg)
  (hp:placeS σ (i+1) width beg=.ok (p,roots)) (hx:σ.ways[i]?=some x) :
  oneS σ name width beg (i+1)=if x.2.any (lapS p) then .error 7 else .ok { names:=σ.names ++ [name],places:=σ.places ++ [p],ways:=(σ.ways.take (i+1)).set i (x.1,x.2 ++ [p]) ++ [(p,[])],roots:=roots }:=by
 unfold oneS
 rw [if_neg (by omega),if_neg (by omega),if_neg (by rw [h1,h2];simp),if_neg (by simpa using hw),hp]
 have e:within σ (i+1)=x.2:=by simp [within,hx]
 have e2:tookS σ name (i+1) p roots = { names:=σ.names ++ [name],places:=σ.places ++ [p],ways:=(σ.ways.take (i+1)).set i (x.1,x.2 ++ [p]) ++ [(p,[])],roots:=roots }:=by
  rw [ways_took _ _ _ _ hx];simp [tookS,hx]
 simp only [e,e2]
theorem quiet_same {P:Program} {f:FuncId} {args:Array Value} {w:World} {n:Nat} {v:Value} (h:Calls P f args (w.drewN n) fun e w'=>e=.returned v∧w.drewN n=w'):Calls P f args (w.drewN n) fun e w''=>e=.returned v∧∃ m,w''=w.drewN m :=
 h.mono fun _ _ ⟨he,hm⟩=>⟨he,n,hm.symm⟩
theorem zero_int (w:World):(zeroValue 3).run Tryz.prog w=.ok (.int .i64 0) w:=by kernel_rfl
theorem look_any {w:World} {bw bm:Nat} {vN vP vW:Value} {ws:List Value} {σ:Wk} (h:WkIn w bw bm vN vP vW ws σ) (name:ByteArray) :
  ∃ lk:Int,∀ (o:Obj) (n:Nat),Sem.run Tryz.prog (Instr.lookup 79 (.map (some bm)) (.string name) true) ((w.alloc o).drewN n)=.ok (.tuple #[.int .i64 lk,.bool (memB name σ.names)]) ((w.alloc o).drewN n):=by
 have hb:∀ (o:Obj) (n:Nat),((w.alloc o).drewN n).heap[bm]?=some (.map (ents σ.names).toArray σ.names.length):=fun o n=>((h.ext (Ext.alloc w o)).ext (Ext.drewN _ n)).mp
 cases hm:memB name σ.names with
 | false =>
  refine ⟨0,fun o n=>?_⟩
  exact run_lookup_no 79 9 3 Tryz.underlying79 Tryz.underlying9 _ _ _ _ _ _ (hb o n) (ents_str _) (ents_none _ _ (fun x=>by rw [(memB_iff _ _).2 x] at hm;cases hm)) zero_int
 | true =>
  obtain ⟨n0,hn0⟩:=ents_some σ.names name ((memB_iff _ _).1 hm)
  exact ⟨n0,fun o n=>run_lookup_ok 79 9 3 Tryz.underlying79 Tryz.underlying9 _ _ _ _ _ _ (hb o n) (ents_str _) hn0⟩
set_option maxRecDepth 100000 in
set_option maxHeartbeats 2000000 in
theorem one_any (bw bm bW capW:Nat) (vN vP:Value) (ws:List Value) (σ:Wk) (name:ByteArray) (width beg:Int) (vS:Value) (i:Nat) (w:World)
  (hK:WkIn w bw bm vN vP (.slice (some ⟨bW,0,none⟩) σ.ways.length capW) ws σ) (hd2:i<σ.ways.length) (hlc:σ.ways.length≤capW)
  (hw1:-9223372036854775808≤width∧width≤9223372036854775807) (hb1:-9223372036854775808≤beg∧beg≤9223372036854775807) (hd7:i<7) (hG:σ.Good) :
  Calls Tryz.prog 107 #[.pointer (some ⟨bw,0,none⟩),.agg #[.string name,.int .i64 width,.int .i64 beg,vS,.int .i64 ((i:Int)+1)]] w
   (OnePost w bw (parts bw bm vN vP (.slice (some ⟨bW,0,none⟩) σ.ways.length capW) ws) (oneS σ name width beg (i+1))):=by
 obtain ⟨c0,c1,c2,c3,c4⟩:=hK.cells
 have hbw:bw<w.heap.size:=hK.lt bw ⟨0,rfl⟩
 obtain ⟨lk,hlk⟩:=look_any hK name
 have KH:=qh hK
 have HF:=qh hG
 have hro:=hG.ro
 clear hG
 clear hK
 obtain ⟨aN,nN,cN,rfl,hnN⟩:∃ aN nN cN,vN=.slice aN nN cN∧nN=σ.names.length:=by
  obtain ⟨a,cap,e,_,_⟩:=(Row.of_owns KH.out.nm).shape;exact ⟨a,_,cap,e,rfl⟩
 by_cases g1:(i:Int)+1≤6
 case neg =>
  have E:=qh (show oneS σ name width beg (i+1)=.error 4 by unfold oneS;rw [if_pos (by omega)])
  go_enter Tryz.func107,Tryz.ntmps107
  go_wp2_with fail
  (with_reducible refine (need_no _ _).mono ?_)
  rintro e w' ⟨rfl,rfl⟩
  exact ⟨rfl,onePost_no E.out (Keep.of_ext (Ext.alloc _ _))⟩
 go_enter Tryz.func107,Tryz.ntmps107
 go_wp2_with fail
 (with_reducible refine (need_ok _ _).mono ?_)
 rintro e w' ⟨rfl,rfl⟩
 by_cases g2:(nN:Int)<200
 case neg =>
  have E:=qh (show oneS σ name width beg (i+1)=.error 2 by unfold oneS;rw [if_neg (by omega),if_pos (by omega)])
  have t2:decide ((nN:Int)<200)=false:=by simp;omega
  clear hnN
  go_wp2_with fail
  (with_reducible refine (need_no _ _).mono ?_)
  rintro e w' ⟨rfl,rfl⟩
  exact ⟨rfl,onePost_no E.out (Keep.of_ext (Ext.alloc _ _))⟩
 have HN:=qh hnN
 clear hnN
 go_wp2_with fail
 (with_reducible refine (need_ok _ _).mono ?_)
 rintro e w' ⟨rfl,rfl⟩
 go_wp2_with fail
 go_quiet (fail)
 go_wp2_with fail
 refine (named_any _ _).mono ?_
 rintro e w2 ⟨rfl,hb⟩
 have x2:Ext w w2:=((Ext.alloc w _).trans (Ext.drewN _ nq)).trans hb
 have K2:=qh (KH.out.ext x2)
 obtain ⟨d0,d1,d2,d3,d4⟩:=K2.out.cells
 have r0:w2.cell? ⟨w.heap.size,0,none⟩=some (.string name):=xc hb (cell_new w _ _ 0)
 have r1:w2.cell? ⟨w.heap.size,1,none⟩=some (.int .i64 width):=xc hb (cell_new w _ _ 1)
 have r2:w2.cell? ⟨w.heap.size,2,none⟩=some (.int .i64 beg):=xc hb (cell_new w _ _ 2)
 have r4:w2.cell? ⟨w.heap.size,4,none⟩=some (.int .i64 ((i:Int)+1)):=xc hb (cell_new w _ _ 4)
 have g3:=K2.out.free 3
 have g4:=K2.out.free 4
 have hlt2:w.heap.size<w2.heap.size:=by have:=Below.size hb;simp at this;omega
 have HX:=qh x2
 clear c0 c1 c2 c3 c4 hlk hb x2
 by_cases g3':(namedS name && !(memB name σ.names))=true
 case neg =>
  have E:=qh (show oneS σ name width beg (i+1)=.error 5 by
   have:=HN.out
   unfold oneS;rw [if_neg (by omega),if_neg (by omega),if_pos (by simpa using g3')])
  cases hnm:namedS name with
  | false =>
   go_wp2_with fail
   (with_reducible refine (need_no _ _).mono ?_)
   rintro e w' ⟨rfl,rfl⟩
   exact ⟨rfl,onePost_no E.out (Keep.of_ext HX.out)⟩
  | true =>
   have hme:memB name σ.names=true:=by rw [hnm] at g3';simpa using g3'
   clear g3'
   go_wp2_with fail
   (with_reducible refine (need_no _ _).mono ?_)
   rintro e w' ⟨rfl,rfl⟩
   exact ⟨rfl,onePost_no E.out (Keep.of_ext HX.out)⟩
 have hnm:namedS name=true:=by cases h:namedS name <;> simp_all
 have hme:memB name σ.names=false:=by cases h:memB name σ.names <;> simp_all
 clear g3'
 go_wp2_with fail
 (with_reducible refine (need_ok _ _).mono ?_)
 rintro e w' ⟨rfl,rfl⟩
 go_wp2_with fail
 have i1:(0:Int)≤(i:Int)+1:=by omega
 have i2:(i:Int)+1≤(σ.ways.length:Int):=by omega
 have i3:(i:Int)+1≤(capW:Int):=by omega
 have i4:((i:Int)+1).toNat=i+1:=by omega
 have hne:w.heap.size≠bw:=by omega
 go_region
 have K3:=(K2.out.cut rfl (i+1) (by omega) (by omega)).drew
 have X3:Keep (·=bw) w2 (w2.setCell ⟨bw,3,none⟩ (.slice (some ⟨bW,0,none⟩) (i+1) capW)).drew:=(Keep.setCell (·=bw) w2 ⟨bw,3,none⟩ _ rfl).drew
 generalize (w2.setCell ⟨bw,3,none⟩ (.slice (some ⟨bW,0,none⟩) (i+1) capW)).drew=w3 at K3 X3 ⊢
 have r0:=X3.cell r0 hne
 have r1:=X3.cell r1 hne
 have r2:=X3.cell r2 hne
 have r4:=X3.cell r4 hne
 have hlt3:=Nat.lt_of_lt_of_le hlt2 X3.size
 clear d0 d1 d2 d3 d4 g3 g4 hlt2
 obtain ⟨d0,d1,d2,d3,d4⟩:=K3.cells
 have g4:=K3.free 4
 have K3h:=qh K3
 have X3h:=qh X3
 clear K3 X3
 go_wp2_with fail
 go_quiet (fail)
 have X4:Keep (·=bw) w2 (w3.drewN nq):=X3h.out.trans (Keep.of_ext (S:=fun _=>False) (Ext.drewN w3 nq)) (fun _ _ h=>h.elim)
 have K4:=K3h.out.ext (Ext.drewN w3 nq)
 have r0:=(Ext.drewN w3 nq).cell r0
 have r1:=(Ext.drewN w3 nq).cell r1
 have r2:=(Ext.drewN w3 nq).cell r2
 have r4:=(Ext.drewN w3 nq).cell r4
 have hlt4:=Nat.lt_of_lt_of_le hlt3 (Ext.drewN w3 nq).size
 generalize w3.drewN nq=w4 at X4 K4 r0 r1 r2 r4 hlt4 ⊢
 clear d0 d1 d2 d3 d4 g4 hlt3 K3h X3h
 obtain ⟨d0,d1,d2,d3,d4⟩:=K4.cells
 have g4:=K4.free 4
 have hbw4:bw<w4.heap.size:=K4.lt bw ⟨0,rfl⟩
 have K4h:=qh K4
 have X4h:=qh X4
 clear K4 X4
 go_wp2_with fail
 go_region
 have x5:Ext w4 (w4.alloc (.cells #[.int .i64 σ.roots,.int .i64 beg,.int .i64 width] 88)).drew:=(Ext.alloc w4 _).trans (Ext.drew _)
 have K5:=K4h.out.ext x5
 have X5:Keep (·=bw) w2 (w4.alloc (.cells #[.int .i64 σ.roots,.int .i64 beg,.int .i64 width] 88)).drew:=X4h.out.trans (Keep.of_ext (S:=fun _=>False) x5) (fun _ _ h=>h.elim)
 have hp:(w4.alloc (.cells #[.int .i64 σ.roots,.int .i64 beg,.int .i64 width] 88)).drew.heap[w4.heap.size]?=some (.cells #[.int .i64 σ.roots,.int .i64 beg,.int .i64 width] 88 (0,0)):=heap_alloc_new w4 _
 have r0:=x5.cell r0
 have r1:=x5.cell r1
 have r2:=x5.cell r2
 have r4:=x5.cell r4
 have hlt5:=Nat.lt_of_lt_of_le hlt4 x5.size
 have hpn:∀ k,Has (parts bw bm (.slice aN nN cN) vP (.slice (some ⟨bW,0,none⟩) (i+1) capW) (ws.take (i+1))) k→k<w4.heap.size:=K4h.out.lt
 have HPN:=qh hpn
 have h24:w2.heap.size≤w4.heap.size:=X4h.out.size
 clear x5 hpn d0 d1 d2 d3 d4 g4 hbw4 K4h X4h
 generalize (w4.alloc (.cells #[.int .i64 σ.roots,.int .i64 beg,.int .i64 width] 88)).drew=w5 at K5 X5 hp r0 r1 r2 r4 hlt5 ⊢
 generalize w4.heap.size=bp at HPN h24 hp hlt4 ⊢
 obtain ⟨d0,d1,d2,d3,d4⟩:=K5.cells
 have g4:=K5.free 4
 have p0:w5.cell? ⟨bp,0,none⟩=some (.int .i64 σ.roots):=by simp [World.cell?,hp]
 have p1:w5.cell? ⟨bp,1,none⟩=some (.int .i64 beg):=by simp [World.cell?,hp]
 have p2:w5.cell? ⟨bp,2,none⟩=some (.int .i64 width):=by simp [World.cell?,hp]
 have f0:w5.frozen? ⟨bp,0,none⟩=false:=by simp [World.frozen?,hp]
 have f1:w5.frozen? ⟨bp,1,none⟩=false:=by simp [World.frozen?,hp]
 have K5h:=qh K5
 have X5h:=qh X5
 have HP:=qh hp
 clear K5 X5 hp
 have kfin:Hid (Keep (Has (parts bw bm (.slice aN nN cN) vP (.slice (some ⟨bW,0,none⟩) σ.ways.length capW) ws)) w w5):=qh ((Keep.of_ext HX.out).trans X5h.out (fun k hk e=>by subst e;exact ⟨0,rfl⟩))
 by_cases hwb:1≤width∧width≤64∧0≤beg
 case neg =>
  have E:=qh (show oneS σ name width beg (i+1)=.error 6 by
   have:=HN.out
   unfold oneS;rw [if_neg (by omega),if_neg (by omega),if_neg (by rw [hnm,hme];simp),if_pos hwb])
  by_cases q1:1≤width
  ·by_cases q2:width≤64
   ·have q3:decide (0≤beg)=false:=by simp;omega
    clear hwb
    go_wp2_with fail
    (with_reducible refine (need_no _ _).mono ?_)
    rintro e w' ⟨rfl,rfl⟩
    exact ⟨rfl,onePost_no E.out kfin.out⟩
   ·clear hwb
    go_wp2_with fail
    (with_reducible refine (need_no _ _).mono ?_)
    rintro e w' ⟨rfl,rfl⟩
    exact ⟨rfl,onePost_no E.out kfin.out⟩
  ·clear hwb
   go_wp2_with fail
   (with_reducible refine (need_no _ _).mono ?_)
   rintro e w' ⟨rfl,rfl⟩
   exact ⟨rfl,onePost_no E.out kfin.out⟩
 obtain ⟨q1,q2,q3⟩:=hwb
 go_wp2_with fail
 (with_reducible refine (need_ok _ _).mono ?_)
 rintro e w' ⟨rfl,rfl⟩
 obtain ⟨x,hx⟩:∃ x,σ.ways[i]?=some x:=⟨σ.ways[i],lE hd2⟩
 obtain ⟨vO,hvO⟩:∃ v,ws[i]?=some v:=⟨ws[i]'(by rw [KH.out.lw];exact hd2),lE _⟩
 have HX1:=qh hx
 have HV1:=qh hvO
 obtain ⟨o0,o1,o2,o3,fo3⟩:=WkG.around K5h.out (i:=i) (x:=x) (v:=vO) (by simp [hx]) (by simp [hvO])
 have hwo:=WkG.wi K5h.out i x vO (by simp [hx]) (by simp [hvO])
 obtain ⟨aO,mO,cO,rfl,hmO,hmc,hmm⟩:∃ aO mO cO,vO=.slice aO mO cO∧mO=x.2.length∧mO≤cO∧cO≤maxLen:=by
  obtain ⟨a,cap,e,h1,h2⟩:=(Row.of_owns hwo).shape;exact ⟨a,_,cap,e,rfl,h1,h2⟩
 have HM:=qh hmO
 unfold maxLen at hmm
 clear hx hvO hwo hmO
 go_upto_if 89 with (fail)
 rename_i K1 hK1
 have hK1h:=qh hK1
 clear hK1
 have hwi:=HF.out.wi i x HX1.out
 have hm200:mO<200:=by have:=HM.out;have:=HN.out;omega
 have hqf:=qh hwi.2
 have hpl:=HF.out.lp
 have hnn:=HN.out
 obtain ⟨hx0,hx1⟩:=HF.out.wy i x HX1.out
 obtain ⟨x0,x0'⟩:=hx0
 obtain ⟨x1,x2,x2'⟩:=hx1
 clear hwi
 have hlen:(σ.ways.take (i+1)).length=i+1:=by rw [List.length_take];omega
 have HL:=qh hlen
 have HPL:=qh hpl
 clear hlen hpl hnn
 have hbp5:Hid (¬ Has (parts bw bm (.slice aN nN cN) vP (.slice (some ⟨bW,0,none⟩) (i+1) capW) (ws.take (i+1))) bp):=qh (fun h=>by have:=HPN.out bp h;omega)
 have hbr5:Hid (¬ Has (parts bw bm (.slice aN nN cN) vP (.slice (some ⟨bW,0,none⟩) (i+1) capW) (ws.take (i+1))) w.heap.size):=qh (fun h=>by have:=KH.out.lt _ (parts_cut _ h);omega)
 by_cases hi0:i=0
 ·subst hi0
  have tz:((0:Nat):Int)+1=1:=by omega
  by_cases hbz:beg=0
  case neg =>
   have E:=qh (show oneS σ name width beg (0+1)=.error 6 by
    have:=HN.out
    unfold oneS;rw [if_neg (by omega),if_neg (by omega),if_neg (by rw [hnm,hme];simp),if_neg (by omega)]
    simp [placeS,hbz])
   have hb0:(beg == 0)=false:=by simpa using hbz
   clear hbz
   go_wp2_with fail
   (with_reducible refine (need_no _ _).mono ?_)
   rintro e w' ⟨rfl,rfl⟩
   exact ⟨rfl,onePost_no E.out kfin.out⟩
  have hb0:(beg == 0)=true:=by simpa using hbz
  have HB:=qh hbz
  clear hbz
  go_wp2_with fail
  (with_reducible refine (need_ok _ _).mono ?_)
  rintro e w' ⟨rfl,rfl⟩
  have K6:=qh (K5h.out.root (σ.roots+1))
  have k6:Keep (fun k=>k=bw) w5 (w5.setCell ⟨bw,4,none⟩ (.int .i64 (σ.roots+1))):=Keep.setCell _ w5 ⟨bw,4,none⟩ _ rfl
  have hnbp:bp≠bw:=fun e=>hbp5.out (e ▸ ⟨0,rfl⟩)
  go_wp2_with fail
  refine hK1h.out _ _ ?_
  have hres:=oneS_eq (x:=x) (p:=⟨σ.roots,beg,width⟩) (roots:=σ.roots+1) g1 (by have:=HN.out;omega) hnm hme ⟨q1,q2,q3⟩ (by simp [placeS,HB.out]) HX1.out
  refine one_loop bw bm w.heap.size bW capW bp 0 cO mO aO (.slice aN nN cN) vP (ws.take (0+1)) { σ with ways:=σ.ways.take (0+1),roots:=σ.roots+1 } name ⟨σ.roots,beg,width⟩ x _ _ K6.out HL.out (by simp [HX1.out]) (by simp [HV1.out]) HM.out (by rw [k6.block bp (Array.getElem?_eq_some_iff.1 HP.out).1 hnbp];exact HP.out) hbp5.out (k6.cell r0 (fun e=>hbr5.out (e ▸ ⟨0,rfl⟩))) hbr5.out (by have:=HN.out;simp only [];omega) (by have:=HN.out;have:=HPL.out;simp only [];omega) (by omega) hm200 hme (by refine ⟨⟨?_,?_⟩,⟨?_,?_⟩,⟨?_,?_⟩⟩ <;> simp only [] <;> omega) hqf.out (fun e w' h=>?_) _ _ _ _ _ _ _ _ _ _ _ _ _ _ _ _ _ _ _ _ _ _ _ _ _ _ _ _ _ _ _ _ _ _ _ _ _ _ _ _ _ _ _ _ _ _ _ _ _ _ _ _ _ _ _ _ _ _ _ _ _ _ _ _ _ _ _ _ _ _ _ _ _ _ _ _ _ _ _ _ _ _ _ _ _ _ _ _ _ _ _ _ _ _ _ _ _ _ _ _ _ _ _ _ _ _ _ _ _ _ _ _ _ _ _ _ _ _ _ _ _ _ _ _ _ _ _ _ _ _ _ _ _ _ _ _ _ _ _ _ _ _ _ _ _ _ _ _ _ _ _ _ _ _ _ _ _ _ _ _ _ _ _ _ _ _ _ _ _ _ _ _ _ _ _ _ _ _ _ _ _ _ _ _ _ _ _ _ _ _ _ _ _ _ _ _ _ _
  rw [hres]
  exact OnePost.trans (kfin.out.trans k6 (fun k _ e=>e ▸ ⟨0,rfl⟩)) (fun k h=>Or.inl (parts_cut k h)) h
 ·have hi1:((i:Int)+1 == 1)=false:=by rw [beq_eq_false_iff_ne];omega
  have wr:IntKind.i64.wrap (x.1.width - width)=x.1.width - width:=IntWalk.i64_in _ (by omega)
  by_cases hle:beg≤x.1.width - width
  case neg =>
   have tle:decide (beg≤x.1.width - width)=false:=by simpa using hle
   have E:=qh (show oneS σ name width beg (i+1)=.error 6 by
    have:=HN.out
    unfold oneS;rw [if_neg (by omega),if_neg (by omega),if_neg (by rw [hnm,hme];simp),if_neg (by omega)]
    simp [placeS,hi0,HX1.out,hle])
   go_wp2_with fail
   refine wp_region_M (fun w'=>w'.cell? ⟨w.heap.size,2,none⟩=some (.int .i64 beg)∧w'.cell? ⟨w.heap.size,1,none⟩=some (.int .i64 width)∧w'.cell? ⟨bW,i * 4+2,none⟩=some (.int .i64 x.1.width)) 13 (by kernel_rfl) ⟨r2,r1,o2⟩ (fun hS=>?_)
   refine' tk 0 hS ?_ ?_;rotate_left;·intros;go_simp;try rfl
   refine' tk 1 hS ?_ ?_;rotate_left;·intros;go_simp;try rfl
   refine' tk 2 hS ?_ ?_;rotate_left;·intros;go_simp;try rfl
   try simp only [tD]
   refine' tk 3 hS ?_ ?_;rotate_left;·intros;go_simp;try rfl
   refine' tk 4 hS ?_ ?_;rotate_left;·intros;go_simp;try rfl
   refine' tk 5 hS ?_ ?_;rotate_left;·intros;go_simp;try rfl
   try simp only [tD]
   refine' tk 6 hS ?_ ?_;rotate_left;·intros;go_simp;try rfl
   refine' tk 7 hS ?_ ?_;rotate_left;·intros;go_simp;try rfl
   refine' tk 8 hS ?_ ?_;rotate_left;·intros;go_simp;try rfl
   try simp only [tD]
   refine' tk 9 hS ?_ ?_;rotate_left;·intros;go_simp;try rfl
   refine' tk 10 hS ?_ ?_;rotate_left;·intros;go_simp;try rfl
   refine' tk 11 hS ?_ ?_;rotate_left;·intros;go_simp;try rfl
   try simp only [tD]
   refine' tk 12 hS ?_ ?_;rotate_left;·intros;go_simp;try rfl
   try simp only [tD]
   refine rl 13 fun K hK=>?_
   go_simp
   (with_reducible refine (need_no _ _).mono ?_)
   rintro e w' ⟨rfl,rfl⟩
   exact ⟨rfl,onePost_no E.out (kfin.out.trans (Keep.of_ext (S:=fun _=>False) (Ext.drew w5)) (fun _ _ h=>h.elim))⟩
  have tle:decide (beg≤x.1.width - width)=true:=by simpa using hle
  go_wp2_with fail
  go_quiet ((go_at_call 138;exact quiet_same (need_ok _ _)))
  have x6:=Ext.drewN w5 nq
  have wr2:IntKind.i64.wrap (x.1.beg+beg)=x.1.beg+beg:=IntWalk.i64_in _ (by omega)
  have o0:=x6.cell o0
  have o1:=x6.cell o1
  have r2:=x6.cell r2
  have K6:=qh (K5h.out.ext x6)
  have k6:=qh (Keep.of_ext (S:=fun k=>k=bp) x6)
  have HP6:=qh (x6.block HP.out)
  generalize w5.drewN nq=w6 at o0 o1 r2 K6 k6 HP6 ⊢
  clear x6
  have p0:w6.cell? ⟨bp,0,none⟩=some (.int .i64 σ.roots):=by simp [World.cell?,HP6.out]
  have p1:w6.cell? ⟨bp,1,none⟩=some (.int .i64 beg):=by simp [World.cell?,HP6.out]
  have f0:w6.frozen? ⟨bp,0,none⟩=false:=by simp [World.frozen?,HP6.out]
  have f1:w6.frozen? ⟨bp,1,none⟩=false:=by simp [World.frozen?,HP6.out]
  have nbW:bp≠bW:=fun e=>hbp5.out (e ▸ ⟨4,rfl⟩)
  have nbr:w.heap.size≠bp:=by omega
  go_wp2_with fail
  refine wp_region_M (fun w'=>w'.cell? ⟨bW,i * 4,none⟩=some (.int .i64 x.1.root)∧w'.cell? ⟨bW,i * 4+1,none⟩=some (.int .i64 x.1.beg)∧w'.cell? ⟨w.heap.size,2,none⟩=some (.int .i64 beg)) 17 (by kernel_rfl) ⟨o0,o1,r2⟩ (fun hS=>?_)
  refine' tk 0 hS ?_ ?_;rotate_left;·intros;go_simp;try rfl
  refine' tk 1 hS ?_ ?_;rotate_left;·intros;go_simp;try rfl
  refine' tk 2 hS ?_ ?_;rotate_left;·intros;go_simp;try rfl
  try simp only [tD]
  refine' tk 3 hS ?_ ?_;rotate_left;·intros;go_simp;try rfl
  refine' tk 4 hS ?_ ?_;rotate_left;·intros;go_simp;try rfl
  refine' tk 5 hS ?_ ?_;rotate_left;·intros;go_simp;try rfl
  try simp only [tD]
  refine' tk 6 hS ?_ ?_;rotate_left;·intros;go_simp;try rfl
  refine' tk 7 hS ?_ ?_;rotate_left;·intros;go_simp;try rfl
  refine' tk 8 hS ?_ ?_;rotate_left;·intros;go_simp;try rfl
  try simp only [tD]
  refine' tk 9 hS ?_ ?_;rotate_left;·intros;go_simp;try rfl
  refine' tk 10 hS ?_ ?_;rotate_left;·intros;go_simp;try rfl
  refine' tk 11 hS ?_ ?_;rotate_left;·intros;go_simp;try rfl
  try simp only [tD]
  refine' tk 12 hS ?_ ?_;rotate_left;·intros;go_simp;try rfl
  refine' tk 13 hS ?_ ?_;rotate_left;·intros;go_simp;try rfl
  refine' tk 14 hS ?_ ?_;rotate_left;·intros;go_simp;try rfl
  try simp only [tD]
  refine rc 15 fun K hK=>?_
  go_simp
  have k7:Keep (fun k=>k=bp) w6 (w6.setCell ⟨bp,0,none⟩ (.int .i64 x.1.root)).drew:=(Keep.setCell (fun k=>k=bp) w6 ⟨bp,0,none⟩ _ rfl).drew
  have S7:(fun w'=>w'.cell? ⟨bW,i * 4,none⟩=some (.int .i64 x.1.root)∧w'.cell? ⟨bW,i * 4+1,none⟩=some (.int .i64 x.1.beg)∧w'.cell? ⟨w.heap.size,2,none⟩=some (.int .i64 beg)) (w6.setCell ⟨bp,0,none⟩ (.int .i64 x.1.root)).drew:=⟨k7.cell o0 (Ne.symm nbW),k7.cell o1 (Ne.symm nbW),k7.cell r2 nbr⟩
  refine hK.out _ _ S7 ?_
  try simp only [tD]
  clear hK K hS
  have hS:=S7
  refine' tk 16 hS ?_ ?_;rotate_left;·intros;go_simp;try rfl
  try simp only [tD]
  refine rl 17 fun K hK=>?_
  go_simp
  refine hK.out _ _ ?_
  try simp only [tD]
  clear hK K hS S7 k7
  refine wpAnyM_done (by kernel_rfl) ?_ _
  have k8:Keep (fun k=>k=bp) w6 (((w6.setCell ⟨bp,0,none⟩ (.int .i64 x.1.root)).setCell ⟨bp,1,none⟩ (.int .i64 (x.1.beg+beg))).drew):=(((Keep.setCell (fun k=>k=bp) w6 ⟨bp,0,none⟩ (.int .i64 x.1.root) rfl).trans (Keep.setCell (fun k=>k=bp) _ ⟨bp,1,none⟩ (.int .i64 (x.1.beg+beg)) rfl) (fun _ _ h=>h))).drew
  have hp8:((w6.setCell ⟨bp,0,none⟩ (.int .i64 x.1.root)).setCell ⟨bp,1,none⟩ (.int .i64 (x.1.beg+beg))).drew.heap[bp]?=some (.cells #[.int .i64 x.1.root,.int .i64 (x.1.beg+beg),.int .i64 width] 88 (0,0)):=heap_set_cells (heap_set_cells HP6.out 0 (.int .i64 x.1.root)) 1 (.int .i64 (x.1.beg+beg))
  have K8:Hid (WkIn (((w6.setCell ⟨bp,0,none⟩ (.int .i64 x.1.root)).setCell ⟨bp,1,none⟩ (.int .i64 (x.1.beg+beg))).drew) bw bm (.slice aN nN cN) vP (.slice (some ⟨bW,0,none⟩) (i+1) capW) (ws.take (i+1)) { σ with ways:=σ.ways.take (i+1) }):=qh (WkG.same K6.out (fun r k hk=>k8.block k (WkG.lt K6.out r k hk) (fun e=>hbp5.out (e ▸ ⟨r,hk⟩))))
  go_wp2_with fail
  refine hK1h.out _ _ ?_
  have hres:=oneS_eq (x:=x) (p:=⟨x.1.root,x.1.beg+beg,width⟩) (roots:=σ.roots) g1 (by have:=HN.out;omega) hnm hme ⟨q1,q2,q3⟩ (by simp [placeS,hi0,HX1.out,hle]) HX1.out
  refine one_loop bw bm w.heap.size bW capW bp i cO mO aO (.slice aN nN cN) vP (ws.take (i+1)) { σ with ways:=σ.ways.take (i+1) } name ⟨x.1.root,x.1.beg+beg,width⟩ x _ _ K8.out HL.out (by simp [HX1.out]) (by simp [HV1.out]) HM.out hp8 hbp5.out (k8.cell (k6.out.cell r0 nbr) nbr) hbr5.out (by have:=HN.out;simp only [];omega) (by have:=HN.out;have:=HPL.out;simp only [];omega) (by omega) hm200 hme (by refine ⟨⟨?_,?_⟩,⟨?_,?_⟩,⟨?_,?_⟩⟩ <;> simp only [] <;> omega) hqf.out (fun e w' h=>?_) _ _ _ _ _ _ _ _ _ _ _ _ _ _ _ _ _ _ _ _ _ _ _ _ _ _ _ _ _ _ _ _ _ _ _ _ _ _ _ _ _ _ _ _ _ _ _ _ _ _ _ _ _ _ _ _ _ _ _ _ _ _ _ _ _ _ _ _ _ _ _ _ _ _ _ _ _ _ _ _ _ _ _ _ _ _ _ _ _ _ _ _ _ _ _ _ _ _ _ _ _ _ _ _ _ _ _ _ _ _ _ _ _ _ _ _ _ _ _ _ _ _ _ _ _ _ _ _ _ _ _ _ _ _ _ _ _ _ _ _ _ _ _ _ _ _ _ _ _ _ _ _ _ _ _ _ _ _ _ _ _ _ _ _ _ _ _ _ _ _ _ _ _ _ _ _ _ _ _ _ _ _ _ _ _ _ _ _ _ _ _ _ _ _ _ _ _ _
  rw [hres]
  refine OnePost.trans (kfin.out.trans (k6.out.trans k8 (fun _ _ h=>h)) (fun k hk e=>?_)) (fun k h=>Or.inl (parts_cut k h)) h
  exact absurd e (by omega)
end Go.Proofs.YtligiddaampneaaGreat
end
