/- An evaluator over abstract memory: the definitions. No condition. -/
import Derived.Calls
import Derived.KernelRfl
set_option linter.unusedVariables false
namespace Go.Proofs.YtbknpfckdnladaaGreat
noncomputable section
/-! Tries: a key is a path. -/
inductive Pa where
  | e
  | o (p : Pa)
  | i (p : Pa)
  deriving DecidableEq
def paF : Nat → Nat → Pa
  | 0, _ => .e
  | n + 1, k => bif Nat.beq k 0 then .e else bif Nat.beq (Nat.mod k 2) 1 then .o (paF n (Nat.div k 2)) else .i (paF n (Nat.pred (Nat.div k 2)))
def pa (k : Nat) : Pa := paF (Nat.succ k) k
inductive Tr (α : Type) where
  | nil
  | node (l : Tr α) (v : Option α) (r : Tr α)
def Tr.getP {α : Type} (p : Pa) : Tr α → Option α := Pa.rec (motive := fun _ => Tr α → Option α)
  (fun t => Tr.casesOn t none (fun _ v _ => v)) (fun _ ih t => Tr.casesOn t none (fun l _ _ => ih l)) (fun _ ih t => Tr.casesOn t none (fun _ _ r => ih r)) p
def Tr.setP {α : Type} (p : Pa) (x : α) : Tr α → Tr α := Pa.rec (motive := fun _ => Tr α → Tr α)
  (fun t => Tr.casesOn t (.node .nil (some x) .nil) (fun l _ r => .node l (some x) r))
  (fun _ ih t => Tr.casesOn t (.node (ih .nil) none .nil) (fun l v r => .node (ih l) v r))
  (fun _ ih t => Tr.casesOn t (.node .nil none (ih .nil)) (fun l v r => .node l v (ih r))) p
def Tr.get {α : Type} (t : Tr α) (k : Nat) : Option α := Tr.getP (pa k) t
def Tr.set {α : Type} (t : Tr α) (k : Nat) (x : α) : Tr α := Tr.setP (pa k) x t

/-- Abstract values: scalars; pointers into abstract memory (block, element, element's size, cell), to constant cells; slices: constant ones (nil or not, capacity = length or not), rows of abstract memory; maps; functions. -/
inductive AV where
  | undef | top
  | bool (b : Bool) | int (k : IntKind) (n : Int) | str (s : ByteArray)
  | nilp | nilm | nilf | nili
  | ptr (id ix sz off : Nat)
  | cp (cs : List AV)
  | lst (nil full : Bool) (n : Nat) (g : Nat → List AV)
  | sl (id off len : Nat) (full : Bool) (sz : Nat)
  | map (id : Nat)
  | cmap (es : List (AV × AV))
  | agg (cs : List AV)
  | tup (vs : List AV)
  | fn (f : Nat) (first captured : List AV)
  | yld (l : Nat)
  | ifc (t : Nat) (v : AV)
inductive Blk where
  | gone
  | var (cs : List AV)
  | row (sz n : Nat) (g : Nat → List AV)
  | map (es : List (AV × AV))
  | mpi (kk kv : IntKind) (l : List (Int × Int))
  | loop (fn sz : Nat) (tm : Tr AV) (ps : Array Nat) (as body : Code) (dfr : Nat) (st : LoopState) (pend : Option Code)
  | dfr
structure Mem where
  h : Tr Blk
  nx : Nat
  lg : List Nat

def nilS : AV := .lst true true 0 (fun _ => [])
def ofVal1 : Value → AV
  | .bool b => .bool b
  | .int k n => .int k n
  | .string s => .str s
  | .pointer none => .nilp
  | .slice none 0 0 => nilS
  | .map none => .nilm
  | .nilFunc => .nilf
  | .nilIface => .nili
  | .tuple ⟨[]⟩ => .undef
  | .func (.func f) ⟨[]⟩ ⟨[]⟩ => .fn f [] []
  | _ => .top
def ofVal : Value → AV
  | .agg ⟨cs⟩ => .agg (cs.map ofVal1)
  | v => ofVal1 v
def evA (tm : Tr AV) : Operand → AV
  | .tmp t => (tm.get t).getD .undef
  | .const v => ofVal v
  | .func f => .fn f [] []
  | .global _ => .top
def cell1 (v : AV) : Bool := match v with | .undef => false | .top => false | .agg _ => false | .tup _ => false | _ => true
def AV.cells : AV → Option (List AV)
  | .agg cs => bif cs.all cell1 then some cs else none
  | .top => none
  | .undef => none
  | .tup _ => none
  | v => some [v]
def nth {α : Type} (l : List α) : Nat → Option α := List.rec (motive := fun _ => Nat → Option α) (fun _ => none) (fun a _ ih n => Nat.rec (motive := fun _ => Option α) (some a) (fun m _ => ih m) n) l
def infoB (P : Program) (t : TypeId) : Option TypeInfo := nth P.types.toList t
def undB1 (P : Program) (i : TypeInfo) : Option TypeDesc := match i.desc with
  | .named _ u => (match infoB P u with | some j => some j.desc | none => none)
  | d => some d
def undB (P : Program) (t : TypeId) : Option TypeDesc := match infoB P t with | some i => undB1 P i | none => none
def dAgg (d : TypeDesc) : Bool := match d with | .struct _ => true | .array _ _ => true | _ => false
def isAggB (P : Program) (t : TypeId) : Option Bool := match undB P t with | some d => some (dAgg d) | none => none
def szB (P : Program) (t : TypeId) : Nat := match infoB P t with | some i => i.size | none => 0
def bytB (P : Program) (t : TypeId) : Nat := match infoB P t with | some i => i.bytes | none => 0
def zeroB (P : Program) (t : TypeId) : Option AV := match infoB P t with | some i => (match i.zero with | some v => some (ofVal v) | none => none) | none => none
def zeroC (P : Program) (t : TypeId) : Option (List AV) := match zeroB P t with | some v => v.cells | none => none
def pack1 (cs : List AV) : Option AV := match cs with | [v] => some v | _ => none
def pack (b : Option Bool) (cs : List AV) : Option AV := match b with | some b => (bif b then some (.agg cs) else pack1 cs) | none => none

inductive AR where
  | val (v : AV) (M : Mem)
  | panic (v : AV)
  | no (why : Nat)

def beqU : List UInt8 → List UInt8 → Bool
  | [], [] => true
  | a :: x, b :: y => Nat.beq a.toNat b.toNat && beqU x y
  | _, _ => false
def ltU : List UInt8 → List UInt8 → Bool
  | _, [] => false
  | [], _ :: _ => true
  | a :: x, b :: y => Nat.blt a.toNat b.toNat || (Nat.beq a.toNat b.toNat && ltU x y)
def ltI : Int → Int → Bool
  | .ofNat a, .ofNat b => Nat.blt a b
  | .ofNat _, .negSucc _ => false
  | .negSucc _, .ofNat _ => true
  | .negSucc a, .negSucc b => Nat.blt b a
def leI (a b : Int) : Bool := !ltI b a
def eqI : Int → Int → Bool
  | .ofNat a, .ofNat b => Nat.beq a b
  | .negSucc a, .negSucc b => Nat.beq a b
  | _, _ => false
def inI (n : Int) (len : Nat) : Bool := match n with | .ofNat a => Nat.blt a len | .negSucc _ => false
def wr (k : IntKind) (n : Int) : Int := match k, n with
  | .i64, .ofNat a => bif Nat.blt a 9223372036854775808 then .ofNat a else IntKind.i64.wrap (.ofNat a)
  | k, n => k.wrap n

def kI (k : IntKind) : Nat := IntKind.rec 0 1 2 3 4 5 6 7 k
def kEq (a b : IntKind) : Bool := Nat.beq (kI a) (kI b)
/-! What a type is. -/
def dBool (d : Option TypeDesc) : Bool := match d with | some .bool => true | _ => false
def dInt (d : Option TypeDesc) : Bool := match d with | some (.int _) => true | _ => false
def dStr (d : Option TypeDesc) : Bool := match d with | some .string => true | _ => false
def dPtr (d : Option TypeDesc) : Bool := match d with | some (.pointer _) => true | _ => false
def dFun (d : Option TypeDesc) : Bool := match d with | some (.func _ _ _) => true | _ => false
def dMap (d : Option TypeDesc) : Bool := match d with | some (.map _ _) => true | _ => false
def dSli (d : Option TypeDesc) : Bool := match d with | some (.slice _) => true | _ => false
def dIfc (d : Option TypeDesc) : Bool := match d with | some (.interface ms) => (match ms.toList with | [] => true | _ => false) | _ => false
/-! Equality. -/
abbrev HE := Option TypeDesc → AV → Option Bool
def gd (b : Bool) (x : Option Bool) : Option Bool := bif b then x else none
def eNo : HE := fun _ _ => none
def eBool (a : Bool) : HE := fun d y => match y with | .bool b => gd (dBool d) (some (a == b)) | _ => none
def eInt (k : IntKind) (a : Int) : HE := fun _ y => match y with | .int k' b => gd (kEq k k') (some (eqI a b)) | _ => none
def eStr (a : ByteArray) : HE := fun _ y => match y with | .str b => some (beqU a.data.toList b.data.toList) | _ => none
def eNilp : HE := fun d y => match y with | .nilp => gd (dPtr d) (some true) | .ptr .. => gd (dPtr d) (some false) | .cp _ => gd (dPtr d) (some false) | _ => none
def ePtr : HE := fun d y => match y with | .nilp => gd (dPtr d) (some false) | _ => none
def eNilm : HE := fun d y => match y with | .nilm => gd (dMap d) (some true) | .map _ => gd (dMap d) (some false) | .cmap _ => gd (dMap d) (some false) | _ => none
def eMap : HE := fun d y => match y with | .nilm => gd (dMap d) (some false) | _ => none
def eNilf : HE := fun d y => match y with | .nilf => gd (dFun d) (some true) | .fn .. => gd (dFun d) (some false) | _ => none
def eFn : HE := fun d y => match y with | .nilf => gd (dFun d) (some false) | _ => none
def eNili : HE := fun d y => match y with | .nili => gd (dIfc d) (some true) | .ifc .. => gd (dIfc d) (some false) | _ => none
def eIfc : HE := fun d y => match y with | .nili => gd (dIfc d) (some false) | _ => none
def eLst (a : Bool) : HE := fun d y => match y with | .lst true _ _ _ => gd (dSli d) (some a) | _ => none
def eSl : HE := fun d y => match y with | .lst true _ _ _ => gd (dSli d) (some false) | _ => none
def eqA (x : AV) : HE := AV.casesOn (motive_1 := fun _ => HE) x eNo eNo eBool eInt eStr eNilp eNilm eNilf eNili (fun _ _ _ _ => ePtr) (fun _ => ePtr) (fun a _ _ _ => eLst a) (fun _ _ _ _ _ => eSl) (fun _ => eMap) (fun _ => eMap) (fun _ => eNo) (fun _ => eNo) (fun _ _ _ => eFn) (fun _ => eNo) (fun _ _ => eIfc)

/-! Binary operations: what is to hold, and the answer. -/
abbrev HB := Option TypeDesc → AV → AV → Option (Bool × AV)
abbrev HI := IntKind → Int → Int → Option (Bool × AV)
def bInt (f : HI) : HB := fun _ x y => match x with
  | .int k a => match y with | .int k' b => (bif kEq k k' then f k a b else none) | _ => none
  | _ => none
def bShift (f : HI) : HB := fun _ x y => match x with
  | .int k a => match y with | .int _ b => f k a b | _ => none
  | _ => none
def bArith (f : Int → Int → Int) : HI := fun k a b => some (true, .int k (wr k (f a b)))
def bCmp (f : Int → Int → Bool) : HI := fun _ a b => some (true, .bool (f a b))
def bBits (f : (n : Nat) → BitVec n → BitVec n → BitVec n) : HI := fun k a b => some (true, .int k (wr k (Int.ofNat (f k.bits (BitVec.ofInt k.bits a) (BitVec.ofInt k.bits b)).toNat)))
def bShl : HI := fun k a b => some (!ltI b 0, .int k (wr k (a * 2 ^ (min b.toNat k.bits))))
def bShr : HI := fun k a b => some (!ltI b 0, .int k (a.fdiv (2 ^ (min b.toNat k.bits))))
def bQuo : HI := fun k a b => some (!eqI b 0, .int k (wr k (a.tdiv b)))
def bRem : HI := fun k a b => some (!eqI b 0, .int k (a.tmod b))
def bAddS (a : ByteArray) : AV → Option (Bool × AV) := fun y => match y with
  | .str b => some (Nat.ble (a.data.toList.length + b.data.toList.length) 16777216, .str ⟨(a.data.toList ++ b.data.toList).toArray⟩)
  | _ => none
def bAdd : HB := fun d x y => match x with
  | .str a => bAddS a y
  | _ => bInt (bArith fun a b => a + b) d x y
def bLssS (a : ByteArray) : AV → Option (Bool × AV) := fun y => match y with
  | .str b => some (true, .bool (ltU a.data.toList b.data.toList))
  | _ => none
def bLss : HB := fun d x y => match x with
  | .str a => bLssS a y
  | _ => bInt (bCmp fun a b => ltI a b) d x y
def bEql : HB := fun d x y => match eqA x d y with | some b => some (true, .bool b) | none => none
def bNeq : HB := fun d x y => match eqA x d y with | some b => some (true, .bool !b) | none => none
def binA (op : BinOp) : HB := BinOp.casesOn (motive := fun _ => HB) op bAdd (bInt (bArith fun a b => a - b)) (bInt (bArith fun a b => a * b)) (bInt bQuo) (bInt bRem) (bInt (bBits fun _ a b => a &&& b)) (bInt (bBits fun _ a b => a ||| b)) (bInt (bBits fun _ a b => a ^^^ b)) (bShift bShl) (bShift bShr) (bInt (bBits fun _ a b => a &&& ~~~b)) bEql bNeq bLss (bInt (bCmp fun a b => !ltI b a)) (bInt (bCmp fun a b => ltI b a)) (bInt (bCmp fun a b => !ltI a b))

/-! Maps, by what their keys are. -/
def kyBool (a : Bool) : HE := fun d y => match y with | .bool b => gd (dBool d) (some (a == b)) | _ => none
def kyInt (k : IntKind) (a : Int) : HE := fun d y => match y with | .int k' b => gd (dInt d && kEq k k') (some (eqI a b)) | _ => none
def kyStr (a : ByteArray) : HE := fun d y => match y with | .str b => gd (dStr d) (some (beqU a.data.toList b.data.toList)) | _ => none
def keyEq (x : AV) : HE := match x with
  | .bool a => kyBool a
  | .int k a => kyInt k a
  | .str a => kyStr a
  | _ => eNo
def keyOk (d : Option TypeDesc) (x : AV) : Bool := match x with
  | .bool a => dBool d
  | .int k a => dInt d
  | .str a => dStr d
  | _ => false
def findE (d : Option TypeDesc) (k : AV) : List (AV × AV) → Option (Option AV)
  | [] => bif keyOk d k then some none else none
  | (a, v) :: es => match keyEq k d a with | some true => some (some v) | some false => findE d k es | none => none
def putE (d : Option TypeDesc) (k v : AV) : List (AV × AV) → Option (List (AV × AV))
  | [] => bif keyOk d k then some [(k, v)] else none
  | (a, u) :: es => match keyEq k d a with | some true => some ((k, v) :: es) | some false => (match putE d k v es with | some l => some ((a, u) :: l) | none => none) | none => none

/-! Maps of numbers, whose keys may be unknown: all that was put into them, the last first. -/
def lkV (l : List (Int × Int)) (n : Int) : Int := List.rec (motive := fun _ => Int) 0 (fun p _ ih => bif eqI n p.1 then p.2 else ih) l
def lkB (l : List (Int × Int)) (n : Int) : Bool := List.rec (motive := fun _ => Bool) false (fun p _ ih => bif eqI n p.1 then true else ih) l
def mkMB2 (a b : Option TypeDesc) : Blk := match a, b with
  | some (.int kk), some (.int kv) => .mpi kk kv []
  | _, _ => .map []
def mkMB (P : Program) (t : Nat) : Blk := match undB P t with
  | some (.map k e) => mkMB2 (undB P k) (undB P e)
  | _ => .map []

/-! Memory. -/
def setL : List AV → Nat → List AV → List AV
  | l, _, [] => l
  | l, o, v :: vs => setL (l.set o v) (o + 1) vs
def peekB (b : Option Blk) (s ix sz off : Nat) : Option (Bool × List AV) := match b with
  | some (.var cs) => some (Nat.beq sz 0 && Nat.ble (off + s) cs.length, (cs.drop off).take s)
  | some (.row sz' n g) => some (Nat.beq sz sz' && Nat.blt ix n && Nat.ble (off + s) sz', ((g ix).drop off).take s)
  | _ => none
def peek (M : Mem) (s : Nat) (p : AV) : Option (Bool × List AV) := match p with
  | .ptr id ix sz off => peekB (M.h.get id) s ix sz off
  | .cp cs => some (Nat.ble s cs.length, cs.take s)
  | _ => none
/-- A row of which one element is written anew: a number stays to be seen as one. -/
def updI (k : IntKind) (x : Int) (ix : Nat) (g : Nat → List AV) : Nat → List AV := fun j => match g j with
  | [.int k' v] => bif kEq k k' then [.int k (bif Nat.beq j ix then x else v)] else bif Nat.beq j ix then [.int k x] else [.int k' v]
  | l => bif Nat.beq j ix then setL l 0 [.int k x] else l
def updG (g : Nat → List AV) (ix off : Nat) (vs : List AV) : Nat → List AV := match vs, off with
  | [.int k x], 0 => updI k x ix g
  | _, _ => fun j => bif Nat.beq j ix then setL (g ix) off vs else g j
def pokeB (b : Option Blk) (vs : List AV) (M : Mem) (id ix sz off : Nat) : Option (Bool × Mem) := match b with
  | some (.var cs) => some (Nat.beq sz 0 && Nat.ble (off + vs.length) cs.length, ⟨M.h.set id (.var (setL cs off vs)), M.nx, id :: M.lg⟩)
  | some (.row sz' n g) => some (Nat.beq sz sz' && Nat.blt ix n && Nat.ble (off + vs.length) sz', ⟨M.h.set id (.row sz' n (fun j => bif Nat.beq j ix then setL (g ix) off vs else g j)), M.nx, id :: M.lg⟩)
  | _ => none
def poke (M : Mem) (vs : List AV) (p : AV) : Option (Bool × Mem) := match p with
  | .ptr id ix sz off => pokeB (M.h.get id) vs M id ix sz off
  | _ => none
def newB (M : Mem) (fid : Nat) (b : Blk) : Mem := ⟨M.h.set fid b, M.nx, M.lg⟩

def fieldOff (P : Program) (s : TypeId) (f : Nat) : Option (Nat × TypeId) :=
  match undB P s with
  | some (.struct fs) => match nth fs.toList f with | some x => some (x.offset, x.type) | none => none
  | _ => none
def fillA (place : Nat → Option (Nat × Nat)) : List AV → List (Nat × AV) → Option (List AV)
  | cs, [] => some cs
  | cs, (i, v) :: rest => match place i, v.cells with
    | some (off, size), some vs => bif Nat.beq vs.length size && Nat.ble (off + size) cs.length then fillA place (setL cs off vs) rest else none
    | _, _ => none
/-- The cells of a literal's elements, by index; none: a part of the wrong size. -/
def rowOf (zero : List AV) : List (Nat × AV) → Nat → List AV
  | [], _ => zero
  | (i, v) :: rest, j => bif Nat.beq j i then (match v.cells with | some c => c | none => []) else rowOf zero rest j
def partsOk (sz len : Nat) : List (Nat × AV) → Bool
  | [] => true
  | (i, v) :: rest => (match v.cells with | some c => Nat.beq c.length sz | none => false) && (Nat.blt i len && (rest.all (fun p => !Nat.beq p.1 i) && partsOk sz len rest))
def getSl (M : Mem) (x : AV) : Option (Nat × (Nat → List AV)) := match x with
  | .lst _ _ n g => some (n, g)
  | .sl id off len _ sz => (match M.h.get id with | some (.row sz' n g) => bif Nat.beq sz sz' && Nat.ble (off + len) n then some (len, fun i => g (off + i)) else none | _ => none)
  | .str s => some (s.data.toList.length, fun i => [.int .u8 (Int.ofNat (s.data.toList.getD i 0).toNat)])
  | _ => none
def asI (v : AV) : Option Int := match v with
  | .int _ n => some n
  | _ => none
def optI (d : Int) (v : Option AV) : Option Int := match v with | some v => asI v | none => some d
/-- The bounds of a slice expression: do they hold; from where, how many, capacity = length. -/
def slA3 (l h : Int) (len : Nat) (hi : Option AV) (m : Option Int) : Option (Bool × Nat × Nat × Bool) := match hi, m with
  | some _, some m => some (leI 0 l && (leI l h && (eqI h m && leI m (.ofNat len))), l.toNat, (h - l).toNat, true)
  | _, _ => none
def slA (len : Nat) (lo hi mx : Option AV) : Option (Bool × Nat × Nat × Bool) :=
  match optI 0 lo, optI (Int.ofNat len) hi with
  | some l, some h => (match mx with
    | none => some (leI 0 l && (leI l h && leI h (.ofNat len)), l.toNat, (h - l).toNat, false)
    | some m => slA3 l h len hi (asI m))
  | _, _ => none

/-! Operations. -/
def aok (M : Mem) (r : Option (Bool × AV)) : AR := match r with
  | some (b, v) => bif b then .val v M else .no 1
  | none => .no 2
def pickV (t : Bool) (a b : AV) : AV := match a, b with
  | .int k x, .int k' y => bif kEq k k' then .int k (bif t then x else y) else bif t then .int k x else .int k' y
  | .bool x, .bool y => .bool (bif t then x else y)
  | a, b => bif t then a else b
def oPick (c a b : AV) (M : Mem) : AR := match c with | .bool t => .val (pickV t a b) M | _ => .no 3
def oNewVar (c : Option (List AV)) (fid : Nat) (M : Mem) : AR := match c with | some cs => .val (.ptr fid 0 0 0) (newB M fid (.var cs)) | none => .no 4
def oBuild1 (M : Mem) (r : Option (List AV)) : AR := match r with | some cs => .val (.agg cs) M | none => .no 7
def placesB (P : Program) : List Field → Option (List (Nat × Nat))
  | [] => some []
  | f :: fs => match infoB P f.type, placesB P fs with | some i, some l => some ((f.offset, i.size) :: l) | _, _ => none
def oBuildP (z : List AV) (parts : List (Nat × AV)) (M : Mem) (ps : Option (List (Nat × Nat))) : AR := match ps with
  | some ps => oBuild1 M (fillA (fun i => nth ps i) z parts)
  | none => .no 8
def oBuildA (z : List AV) (parts : List (Nat × AV)) (M : Mem) (i : Option TypeInfo) : AR := match i with
  | some e => oBuild1 M (fillA (fun i => some (i * e.size, e.size)) z parts)
  | none => .no 8
def oBuild (P : Program) (d : Option TypeDesc) (z : Option (List AV)) (parts : List (Nat × AV)) (M : Mem) : AR := match z, d with
  | some z, some (.struct fs) => oBuildP z parts M (placesB P fs.toList)
  | some z, some (.array _ e) => oBuildA z parts M (infoB P e)
  | _, _ => .no 9
def oBuildSlice (P : Program) (d : Option TypeDesc) (len : Nat) (parts : List (Nat × AV)) (M : Mem) (fid : Nat) : AR := match d with
  | some (.slice e) => match zeroC P e with
    | some z => bif partsOk (szB P e) len parts && (Nat.beq z.length (szB P e) && (Nat.ble (len * szB P e) 16777216 && Nat.blt 0 (szB P e))) then .val (.sl fid 0 len true (szB P e)) (newB M fid (.row (szB P e) len (rowOf z parts))) else .no 12
    | none => .no 10
  | _ => .no 11
def vPack1 (v : Option AV) (c : Bool) (M : Mem) : AR := match v with
  | some v => bif c then .val v M else .no 12
  | none => .no 12
def vPack (b : Option Bool) (c : Bool) (cs : List AV) (M : Mem) : AR := vPack1 (pack b cs) c M
def oLoad (b : Option Bool) (r : Option (Bool × List AV)) (M : Mem) : AR := match r with
  | some (c, cs) => vPack b c cs M
  | none => .no 13
def oStore1 (r : Option (Bool × Mem)) : AR := match r with
  | some (b, M') => bif b then .val .undef M' else .no 14
  | none => .no 15
def oStore (s : Nat) (a : AV) (vs : Option (List AV)) (M : Mem) : AR := match vs with
  | some vs => bif Nat.beq vs.length s && Nat.blt 0 s then oStore1 (poke M vs a) else .no 17
  | none => .no 16
def oNil (x : AV) (M : Mem) : AR := match x with
  | .ptr id ix sz off => .val (.ptr id ix sz off) M
  | .cp cs => .val (.cp cs) M
  | .fn f a b => .val (.fn f a b) M
  | .yld l => .val (.yld l) M
  | _ => .no 17
def oUn (op : UnOp) (x : AV) (M : Mem) : AR := match op, x with
  | .not, .bool b => .val (.bool !b) M
  | .neg, .int k n => .val (.int k (wr k (0 - n))) M
  | .xor, .int k n => .val (.int k (wr k (Int.ofNat (BitVec.ofInt k.bits (if k.signed then -1 else k.max) ^^^ BitVec.ofInt k.bits n).toNat))) M
  | _, _ => .no 18
def oConv (d : Option TypeDesc) (x : AV) (M : Mem) : AR := match d, x with
  | some (.int k), .int _ n => .val (.int k (wr k n)) M
  | some .string, .str s => .val (.str s) M
  | _, _ => .no 19
def oMakeSlice (P : Program) (d : Option TypeDesc) (l c : AV) (M : Mem) (fid : Nat) : AR := match d, l, c with
  | some (.slice e), .int .i64 n, .int .i64 m => match zeroC P e with
    | some z => bif leI 0 n && (eqI n m && (leI n 16777216 && (Nat.beq z.length (szB P e) && (Nat.blt 0 (szB P e) && Nat.ble (bytB P e) 65536)))) then .val (.sl fid 0 n.toNat true (szB P e)) (newB M fid (.row (szB P e) n.toNat (fun _ => z))) else .no 20
    | none => .no 21
  | _, _, _ => .no 22
def oSliceStr (s : ByteArray) (M : Mem) (r : Option (Bool × Nat × Nat × Bool)) (mx : Option AV) : AR := match r, mx with
  | some (b, l, n, _), none => bif b then .val (.str ⟨((s.data.toList.drop l).take n).toArray⟩) M else .no 23
  | _, _ => .no 24
def oSliceLst (sz : Nat) (nl : Bool) (g : Nat → List AV) (M : Mem) (r : Option (Bool × Nat × Nat × Bool)) : AR := match r with
  | some (b, l, m, f) => bif b && (Nat.blt 0 sz && (Nat.beq m 0 || Nat.beq (g l).length sz)) then .val (.lst nl (f || nl) m (fun i => g (l + i))) M else .no 25
  | none => .no 26
def oSliceSl (s : Nat) (id off len : Nat) (full : Bool) (sz : Nat) (M : Mem) (r : Option (Bool × Nat × Nat × Bool)) : AR := match r with
  | some (b, l, m, f) => bif b && (Nat.blt 0 s && Nat.beq s sz) then .val (.sl id (off + l) m (f || (full && Nat.beq (l + m) len)) sz) M else .no 27
  | none => .no 28
def sliceSz (P : Program) (d : Option TypeDesc) : Nat := match d with | some (.slice e) => szB P e | _ => 0
def oSlice (P : Program) (d : Option TypeDesc) (x : AV) (lo hi mx : Option AV) (M : Mem) : AR := match x with
  | .str s => bif dStr d then oSliceStr s M (slA s.data.toList.length lo hi none) mx else .no 29
  | .lst nl _ n g => bif dSli d then oSliceLst (sliceSz P d) nl g M (slA n lo hi mx) else .no 29
  | .sl id off len full sz => bif dSli d then oSliceSl (sliceSz P d) id off len full sz M (slA len lo hi mx) else .no 29
  | _ => .no 29
def oFieldAddr (P : Program) (d : Option (Nat × TypeId)) (x : AV) (M : Mem) : AR := match d with
  | some (off, ft) => bif Nat.beq (szB P ft) 0 then .no 30 else (match x with
    | .ptr id ix sz o => .val (.ptr id ix sz (o + off)) M
    | .cp cs => .val (.cp (cs.drop off)) M
    | _ => .no 31)
  | none => .no 32
def oField (P : Program) (d : Option (Nat × TypeId)) (x : AV) (M : Mem) : AR := match d, x with
  | some (off, ft), .agg cs => vPack (isAggB P ft) (Nat.ble (off + szB P ft) cs.length && Nat.blt 0 (szB P ft)) ((cs.drop off).take (szB P ft)) M
  | _, _ => .no 32
def ixA (i : AV) (k : Int → AR) : AR := match i with | .int _ n => k n | _ => .no 36
def ixSl (P : Program) (d : Option TypeDesc) (id off len sz : Nat) (n : Int) (M : Mem) : AR := match d with
  | some (.slice e) => bif inI n len && (Nat.beq sz (szB P e) && Nat.blt 0 sz) then .val (.ptr id (off + n.toNat) sz 0) M else .no 33
  | _ => .no 36
def ixLst (P : Program) (d : Option TypeDesc) (len : Nat) (g : Nat → List AV) (n : Int) (M : Mem) : AR := match d with
  | some (.slice e) => bif inI n len && (Nat.blt 0 (szB P e) && Nat.beq (g n.toNat).length (szB P e)) then .val (.cp (g n.toNat)) M else .no 34
  | _ => .no 36
def ixPtr (P : Program) (d : Option TypeDesc) (id ix sz o : Nat) (n : Int) (M : Mem) : AR := match d with
  | some (.array len e) => bif inI n len && Nat.blt 0 (szB P e) then .val (.ptr id ix sz (o + n.toNat * szB P e)) M else .no 35
  | _ => .no 36
def oIndexAddr (P : Program) (d : Option TypeDesc) (x i : AV) (M : Mem) : AR := match x with
  | .sl id off len _ sz => ixA i fun n => ixSl P d id off len sz n M
  | .lst _ _ len g => ixA i fun n => ixLst P d len g n M
  | .ptr id ix sz o => ixA i fun n => ixPtr P d id ix sz o n M
  | _ => .no 36
def ixStr (s : ByteArray) (n : Int) (M : Mem) : AR := bif inI n s.data.toList.length then .val (.int .u8 (Int.ofNat (s.data.toList.getD n.toNat 0).toNat)) M else .no 37
def ixAgg (P : Program) (d : Option TypeDesc) (cs : List AV) (n : Int) (M : Mem) : AR := match d with
  | some (.array len e) => vPack (isAggB P e) (inI n len && (Nat.ble (n.toNat * szB P e + szB P e) cs.length && Nat.blt 0 (szB P e))) ((cs.drop (n.toNat * szB P e)).take (szB P e)) M
  | _ => .no 39
def oIndex (P : Program) (d : Option TypeDesc) (x i : AV) (M : Mem) : AR := match x with
  | .str s => (match d with | some .string => ixA i fun n => ixStr s n M | _ => .no 39)
  | .agg cs => ixA i fun n => ixAgg P d cs n M
  | _ => .no 39
def oLook1 (z : Option AV) (ok : Bool) (M : Mem) (r : Option (Option AV)) : AR := match r, z with
  | some (some v), _ => .val (bif ok then .tup [v, .bool true] else v) M
  | some none, some z => .val (bif ok then .tup [z, .bool false] else z) M
  | _, _ => .no 40
def oLookI (d : Option TypeDesc) (z : Option AV) (k : AV) (ok : Bool) (M : Mem) (kk kv : IntKind) (l : List (Int × Int)) : AR := match k, z with
  | .int k' n, some (.int kz n0) => bif dInt d && (kEq k' kk && (kEq kz kv && eqI n0 0)) then .val (bif ok then .tup [.int kv (lkV l n), .bool (lkB l n)] else .int kv (lkV l n)) M else .no 75
  | _, _ => .no 76
def oLookup (d : Option TypeDesc) (z : Option AV) (m k : AV) (ok : Bool) (M : Mem) : AR := match m with
  | .map id => (match M.h.get id with | some (.map es) => oLook1 z ok M (findE d k es) | some (.mpi kk kv l) => oLookI d z k ok M kk kv l | _ => .no 41)
  | .cmap es => oLook1 z ok M (findE d k es)
  | .nilm => oLook1 z ok M (findE d k [])
  | _ => .no 42
def oMapUp1 (id : Nat) (M : Mem) (r : Option (List (AV × AV))) : AR := match r with
  | some es => .val .undef ⟨M.h.set id (.map es), M.nx, id :: M.lg⟩
  | none => .no 43
def oMapUpI (d : Option TypeDesc) (id : Nat) (k x : AV) (M : Mem) (kk kv : IntKind) (l : List (Int × Int)) : AR := match k, x with
  | .int k' n, .int kz v => bif dInt d && (kEq k' kk && kEq kz kv) then .val .undef ⟨M.h.set id (.mpi kk kv ((n, v) :: l)), M.nx, id :: M.lg⟩ else .no 77
  | _, _ => .no 78
def oMapUp (d : Option TypeDesc) (m k x : AV) (M : Mem) : AR := match m with
  | .map id => (match M.h.get id with | some (.map es) => oMapUp1 id M (putE d k x es) | some (.mpi kk kv l) => oMapUpI d id k x M kk kv l | _ => .no 44)
  | _ => .no 45
def isIfcD (d : Option TypeDesc) : Bool := match d with | some (.interface _) => true | none => true | _ => false
def oAssert2 (z : Option AV) (ok : Bool) (M : Mem) : AR := match z with
  | some z => bif ok then .val (.tup [z, .bool false]) M else .no 47
  | none => .no 47
def oAssert1 (z : Option AV) (t u : Nat) (v : AV) (ok : Bool) (M : Mem) : AR :=
  bif Nat.beq u t then .val (bif ok then .tup [v, .bool true] else v) M else oAssert2 z ok M
def oAssert (z : Option AV) (d : Bool) (t : Nat) (x : AV) (ok : Bool) (M : Mem) : AR := match x with
  | .ifc u v => bif d then .no 46 else oAssert1 z t u v ok M
  | _ => .no 48
def oExtract (x : AV) (i : Nat) (M : Mem) : AR := match x with
  | .tup vs => match nth vs i with | some v => .val v M | none => .no 49
  | _ => .no 50
def vInt (b : Bool) (n : Nat) (M : Mem) : AR := bif b then .val (.int .i64 (.ofNat n)) M else .no 53
def oLen (d : Option TypeDesc) (x : AV) (M : Mem) : AR := match x with
  | .str s => vInt (dStr d) s.data.toList.length M
  | .lst _ _ n _ => vInt (dSli d) n M
  | .sl _ _ n _ _ => vInt (dSli d) n M
  | .nilm => vInt (dMap d) 0 M
  | .map id => (match M.h.get id with | some (.map es) => vInt (dMap d) es.length M | _ => .no 52)
  | _ => .no 53
def appRow (n k : Nat) (g gx : Nat → List AV) : Nat → List AV := fun j => bif Nat.blt j n then g j else gx (j - n)
def allOne (k : Nat) (g : Nat → List AV) : Bool := (List.range k).all fun i => (g i).all cell1
def oAppSl (id off n : Nat) (full : Bool) (sz : Nat) (s : AV) (k : Nat) (gx : Nat → List AV) (b : Option Blk) (M : Mem) (fid : Nat) : AR := match b with
  | some (.row sz' n0 g) => bif Nat.beq sz sz' && (Nat.ble (n + k) 16777216 && (Nat.ble (off + n) n0 && (Nat.blt 0 sz && (Nat.beq k 0 || (Nat.beq (gx 0).length sz && (full || allOne k gx)))))) then
      (bif Nat.beq k 0 then .val s M else .val (.sl fid 0 (n + k) false sz) ⟨(bif full then M.h else M.h.set id .gone).set fid (.row sz (n + k) (appRow n k (fun j => g (off + j)) gx)), M.nx, fid :: (bif full then M.lg else id :: M.lg)⟩) else .no 55
  | _ => .no 56
def oAppend (sz : Nat) (s : AV) (x : Option (Nat × (Nat → List AV))) (M : Mem) (fid : Nat) : AR := match x with
  | some (k, gx) => (match s with
    | .lst nl full n g => bif full && (Nat.ble (n + k) 16777216 && (Nat.blt 0 sz && ((Nat.beq n 0 || Nat.beq (g 0).length sz) && (Nat.beq k 0 || Nat.beq (gx 0).length sz)))) then
        (bif Nat.beq k 0 then .val s M else .val (.sl fid 0 (n + k) false sz) ⟨M.h.set fid (.row sz (n + k) (appRow n k g gx)), M.nx, fid :: M.lg⟩) else .no 54
    | .sl id off n full sz' => bif Nat.beq sz sz' then oAppSl id off n full sz s k gx (M.h.get id) M fid else .no 59
    | _ => .no 57)
  | _ => .no 58
def zlOk (z : Option (List AV)) (n : Nat) : Bool := match z with | some z => Nat.beq z.length n | none => false
def byOk (P : Program) (d : Option TypeDesc) : Bool := match d with | some (.slice e) => Nat.ble (bytB P e) 65536 && zlOk (zeroC P e) (szB P e) | _ => false
def notInt (d : Option TypeDesc) : Bool := match d with | some (.int _) => false | some _ => true | none => false
/-- What is made and appended to a slice that is nil. -/
def oAppMk (P : Program) (d : Option TypeDesc) (s x : AV) (M : Mem) (fid : Nat) : AR := match d, s, x with
  | some (.slice e), .lst true _ 0 _, .int _ (.ofNat k) => (match zeroC P e with
    | some z => oAppend (szB P e) nilS (some (k, fun _ => z)) M fid
    | none => .no 71)
  | _, _, _ => .no 72
def oCap (d : Option TypeDesc) (x : AV) (M : Mem) : AR := match x with
  | .lst true _ _ _ => bif dSli d then .val (.int .i64 (.ofNat 0)) M else .no 73
  | _ => .no 74
def oBuiltin (P : Program) (b : Builtin) (ts : List TypeId) (as : List AV) (M : Mem) (fid : Nat) : AR := match b, ts, as with
  | .len, t :: _, [x] => oLen (undB P t) x M
  | .max, _, [.int k x, .int _ y] => .val (.int k (bif ltI x y then y else x)) M
  | .min, _, [.int k x, .int _ y] => .val (.int k (bif ltI y x then y else x)) M
  | .append, [t0, t1], [s, x] => bif byOk P (undB P t0) && notInt (undB P t1) then oAppend (sliceSz P (undB P t0)) s (getSl M x) M fid else (bif byOk P (undB P t0) && dInt (undB P t1) then oAppMk P (undB P t0) s x M fid else .no 60)
  | .cap, t :: _, [x] => oCap (undB P t) x M
  | _, _, _ => .no 60
def oPanic (x : AV) : AR := match x with | .ifc t v => .panic (.ifc t v) | _ => .no 51
def oCall (P : Program) (c : Call) (ev : Operand → AV) (M : Mem) (fid : Nat) : AR := match c.callee with
  | .builtin b => oBuiltin P b c.argTypes.toList (c.args.toList.map ev) M fid
  | _ => .no 62
abbrev HO := Program → (Operand → AV) → Mem → Nat → AR
def evP (ev : Operand → AV) (l : List (Nat × Operand)) : List (Nat × AV) := l.map fun p => (p.1, ev p.2)
def hMove (x : Operand) : HO := fun _ ev M _ => .val (ev x) M
def hPick (c a b : Operand) : HO := fun _ ev M _ => oPick (ev c) (ev a) (ev b) M
def hAlloc (t : Nat) : HO := fun P _ M fid => oNewVar (zeroC P t) fid M
def hBox (_ : Nat) (x : Operand) : HO := fun _ ev M fid => oNewVar (ev x).cells fid M
def hBuild (t : Nat) (parts : Array (Nat × Operand)) : HO := fun P ev M _ => oBuild P (undB P t) (zeroC P t) (evP ev parts.toList) M
def hBuildSlice (t len : Nat) (parts : Array (Nat × Operand)) : HO := fun P ev M fid => oBuildSlice P (undB P t) len (evP ev parts.toList) M fid
def hLoad (t : Nat) (a : Operand) : HO := fun P ev M _ => oLoad (isAggB P t) (peek M (szB P t) (ev a)) M
def hStore (t : Nat) (a x : Operand) : HO := fun P ev M _ => oStore (szB P t) (ev a) (ev x).cells M
def hNil (x : Operand) : HO := fun _ ev M _ => oNil (ev x) M
def hBin (op : BinOp) (t : Nat) (x y : Operand) (_ : Nat) : HO := fun P ev M _ => aok M (binA op (undB P t) (ev x) (ev y))
def hUn (op : UnOp) (_ : Nat) (x : Operand) : HO := fun _ ev M _ => oUn op (ev x) M
def hConv (s d : Nat) (x : Operand) : HO := fun P ev M _ => match undB P s with | some _ => oConv (undB P d) (ev x) M | none => .no 19
def hMkI (t : Nat) (x : Operand) : HO := fun P ev M _ => bif isIfcD (undB P t) then .no 64 else .val (.ifc t (ev x)) M
def oMkF (fn : Fn) (a b : List AV) (M : Mem) : AR := match fn with | .func f => .val (.fn f a b) M | _ => .no 63
def hMkF (fn : Fn) (first captured : Array Operand) : HO := fun _ ev M _ => oMkF fn (first.toList.map ev) (captured.toList.map ev) M
def hMkM (t : Nat) (r : Option Operand) : HO := fun P _ M fid => match r with | none => .val (.map fid) (newB M fid (mkMB P t)) | some _ => .no 65
def hMkS (t : Nat) (l c : Operand) : HO := fun P ev M fid => oMakeSlice P (undB P t) (ev l) (ev c) M fid
def hSlice (t : Nat) (x : Operand) (lo hi mx : Option Operand) : HO := fun P ev M _ => oSlice P (undB P t) (ev x) (lo.map ev) (hi.map ev) (mx.map ev) M
def hFieldAddr (s : Nat) (x : Operand) (f : Nat) : HO := fun P ev M _ => oFieldAddr P (fieldOff P s f) (ev x) M
def hField (s : Nat) (x : Operand) (f : Nat) : HO := fun P ev M _ => oField P (fieldOff P s f) (ev x) M
def hIndexAddr (t : Nat) (x i : Operand) : HO := fun P ev M _ => oIndexAddr P (undB P t) (ev x) (ev i) M
def hIndex (t : Nat) (x i : Operand) : HO := fun P ev M _ => oIndex P (undB P t) (ev x) (ev i) M
def mapZ (P : Program) (t : Nat) : Option AV := match undB P t with | some (.map _ e) => zeroB P e | _ => none
def mapK (P : Program) (t : Nat) : Option TypeDesc := match undB P t with | some (.map k _) => undB P k | _ => none
def hLookup (t : Nat) (m k : Operand) (ok : Bool) : HO := fun P ev M _ => oLookup (mapK P t) (mapZ P t) (ev m) (ev k) ok M
def hMapUp (t : Nat) (m k x : Operand) : HO := fun P ev M _ => oMapUp (mapK P t) (ev m) (ev k) (ev x) M
def hAssert (x : Operand) (_ t : Nat) (ok : Bool) : HO := fun P ev M _ => oAssert (zeroB P t) (isIfcD (undB P t)) t (ev x) ok M
def hExtract (x : Operand) (i : Nat) : HO := fun _ ev M _ => oExtract (ev x) i M
def hPanic (x : Operand) : HO := fun _ ev _ _ => oPanic (ev x)
def hCall (c : Call) : HO := fun P ev M fid => oCall P c ev M fid
def hNo : HO := fun _ _ _ _ => .no 61
def opA (op : Op) : HO := Op.casesOn (motive := fun _ => HO) op hMove hMove hPick hAlloc hBox hBuild hBuildSlice hMapUp hLoad hStore (fun _ => hNo) (fun _ => hNo) hNil hBin hUn hConv (fun _ _ => hNo) hMkI hMkF hMkM (fun _ _ => hNo) hMkS hSlice hFieldAddr hField hIndexAddr hIndex hLookup hMapUp (fun _ _ _ => hNo) (fun _ _ _ _ => hNo) (fun _ _ => hNo) (fun _ _ => hNo) (fun _ => hNo) hAssert hExtract hCall (fun _ => hNo) (fun _ => hNo) hPanic (fun _ _ => hNo) (fun _ _ _ => hNo) (fun _ _ => hNo)

/-! Operations whose check may be of unknown numbers. -/
inductive AQ where
  | plain (r : AR)
  | chk (c : Bool) (v : AV) (M : Mem) (why : Nat)
abbrev HQ := Program → (Operand → AV) → Mem → Nat → AQ
def qBin1 (M : Mem) (r : Option (Bool × AV)) : AQ := match r with
  | some (b, v) => .chk b v M 1
  | none => .plain (.no 2)
def qBin (op : BinOp) (t : Nat) (x y : Operand) (_ : Nat) : HQ := fun P ev M _ => qBin1 M (binA op (undB P t) (ev x) (ev y))
def qLoad2 (v : Option AV) (c : Bool) (M : Mem) : AQ := match v with
  | some v => .chk c v M 12
  | none => .plain (.no 12)
def qLoad1 (b : Option Bool) (r : Option (Bool × List AV)) (M : Mem) : AQ := match r with
  | some (c, cs) => qLoad2 (pack b cs) c M
  | none => .plain (.no 13)
def qLoad (t : Nat) (a : Operand) : HQ := fun P ev M _ => qLoad1 (isAggB P t) (peek M (szB P t) (ev a)) M
def qStore1 (r : Option (Bool × Mem)) : AQ := match r with
  | some (b, M') => .chk b .undef M' 14
  | none => .plain (.no 15)
def qStore2 (s : Nat) (a : AV) (vs : Option (List AV)) (M : Mem) : AQ := match vs with
  | some vs => bif Nat.beq vs.length s && Nat.blt 0 s then qStore1 (poke M vs a) else .plain (.no 17)
  | none => .plain (.no 16)
def qStore (t : Nat) (a x : Operand) : HQ := fun P ev M _ => qStore2 (szB P t) (ev a) (ev x).cells M
def pokeBS (b : Option Blk) (vs : List AV) (M : Mem) (id ix sz off : Nat) : Option (Bool × Mem) := match b with
  | some (.var cs) => some (Nat.beq sz 0 && Nat.ble (off + vs.length) cs.length, ⟨M.h.set id (.var (setL cs off vs)), M.nx, id :: M.lg⟩)
  | some (.row sz' n g) => some (Nat.beq sz sz' && Nat.blt ix n && Nat.ble (off + vs.length) sz', ⟨M.h.set id (.row sz' n (updG g ix off vs)), M.nx, id :: M.lg⟩)
  | _ => none
def pokeS (M : Mem) (vs : List AV) (p : AV) : Option (Bool × Mem) := match p with
  | .ptr id ix sz off => pokeBS (M.h.get id) vs M id ix sz off
  | _ => none
def qStore2S (s : Nat) (a : AV) (vs : Option (List AV)) (M : Mem) : AQ := match vs with
  | some vs => bif Nat.beq vs.length s && Nat.blt 0 s then qStore1 (pokeS M vs a) else .plain (.no 17)
  | none => .plain (.no 16)
def qStoreS (t : Nat) (a x : Operand) : HQ := fun P ev M _ => qStore2S (szB P t) (ev a) (ev x).cells M
def qMkS1 (P : Program) (d : Option TypeDesc) (l c : AV) (M : Mem) (fid : Nat) : AQ := match d, l, c with
  | some (.slice e), .int .i64 n, .int .i64 m => match zeroC P e with
    | some z => .chk (leI 0 n && (eqI n m && (leI n 16777216 && (Nat.beq z.length (szB P e) && (Nat.blt 0 (szB P e) && Nat.ble (bytB P e) 65536))))) (.sl fid 0 n.toNat true (szB P e)) (newB M fid (.row (szB P e) n.toNat (fun _ => z))) 20
    | none => .plain (.no 21)
  | _, _, _ => .plain (.no 22)
def qMkS (t : Nat) (l c : Operand) : HQ := fun P ev M fid => qMkS1 P (undB P t) (ev l) (ev c) M fid
def qxA (i : AV) (k : Int → AQ) : AQ := match i with | .int _ n => k n | _ => .plain (.no 36)
def qxSl (P : Program) (d : Option TypeDesc) (id off len sz : Nat) (n : Int) (M : Mem) : AQ := match d with
  | some (.slice e) => .chk (inI n len && (Nat.beq sz (szB P e) && Nat.blt 0 sz)) (.ptr id (off + n.toNat) sz 0) M 33
  | _ => .plain (.no 36)
def qxLst (P : Program) (d : Option TypeDesc) (len : Nat) (g : Nat → List AV) (n : Int) (M : Mem) : AQ := match d with
  | some (.slice e) => .chk (inI n len && (Nat.blt 0 (szB P e) && Nat.beq (g n.toNat).length (szB P e))) (.cp (g n.toNat)) M 34
  | _ => .plain (.no 36)
def qxPtr (P : Program) (d : Option TypeDesc) (id ix sz o : Nat) (n : Int) (M : Mem) : AQ := match d with
  | some (.array len e) => .chk (inI n len && Nat.blt 0 (szB P e)) (.ptr id ix sz (o + n.toNat * szB P e)) M 35
  | _ => .plain (.no 36)
def qIx1 (P : Program) (d : Option TypeDesc) (x i : AV) (M : Mem) : AQ := match x with
  | .sl id off len _ sz => qxA i fun n => qxSl P d id off len sz n M
  | .lst _ _ len g => qxA i fun n => qxLst P d len g n M
  | .ptr id ix sz o => qxA i fun n => qxPtr P d id ix sz o n M
  | _ => .plain (.no 36)
def qIx (t : Nat) (x i : Operand) : HQ := fun P ev M _ => qIx1 P (undB P t) (ev x) (ev i) M
def qP (h : HO) : HQ := fun P ev M fid => .plain (h P ev M fid)
def opR (op : Op) : HQ := Op.casesOn (motive := fun _ => HQ) op (fun x => qP (hMove x)) (fun x => qP (hMove x)) (fun c a b => qP (hPick c a b)) (fun t => qP (hAlloc t)) (fun t x => qP (hBox t x)) (fun t ps => qP (hBuild t ps)) (fun t n ps => qP (hBuildSlice t n ps)) (fun t m k x => qP (hMapUp t m k x)) qLoad qStore (fun _ => qP hNo) (fun _ => qP hNo) (fun x => qP (hNil x)) qBin (fun o t x => qP (hUn o t x)) (fun s d x => qP (hConv s d x)) (fun _ _ => qP hNo) (fun t x => qP (hMkI t x)) (fun f a b => qP (hMkF f a b)) (fun t r => qP (hMkM t r)) (fun _ _ => qP hNo) qMkS (fun t x lo hi mx => qP (hSlice t x lo hi mx)) (fun s x f => qP (hFieldAddr s x f)) (fun s x f => qP (hField s x f)) qIx (fun t x i => qP (hIndex t x i)) (fun t m k ok => qP (hLookup t m k ok)) (fun t m k x => qP (hMapUp t m k x)) (fun _ _ _ => qP hNo) (fun _ _ _ _ => qP hNo) (fun _ _ => qP hNo) (fun _ _ => qP hNo) (fun _ => qP hNo) (fun x t0 t ok => qP (hAssert x t0 t ok)) (fun x i => qP (hExtract x i)) (fun c => qP (hCall c)) (fun _ => qP hNo) (fun _ => qP hNo) (fun x => qP (hPanic x)) (fun _ _ => qP hNo) (fun _ _ _ => qP hNo) (fun _ _ => qP hNo)
def opS (op : Op) : HQ := match op with
  | .store t a x => qStoreS t a x
  | op => opR op
def opX (b : Bool) (op : Op) : HQ := bif b then opS op else opR op

/-! Frames. -/
structure AE where
  v : AV
  rcv : Bool
inductive AMode where
  | run | ret
  | pan (l : List AE)
inductive AD where
  | coll (id : Nat)
  | call (f : Nat) (args : List AV)
structure Fr where
  fn : Nat
  dfd : Bool
  sz : Nat
  tm : Tr AV
  todo : List Item
  ds : List AD
  ro : Option Nat
inductive AEnd where
  | ret (v : AV)
  | pan (l : List AE)
def settleA (m : AMode) : AMode := match m with
  | .pan (⟨_, true⟩ :: _) => .ret
  | m => m
def raisedA (m : AMode) (l : List AE) : AMode := match m with
  | .pan old => .pan (l ++ old)
  | _ => .pan l
def enterT (args : List AV) : Nat → Tr AV → Tr AV := List.rec (motive := fun _ => Nat → Tr AV → Tr AV) (fun _ t => t) (fun a _ ih i t => ih (Nat.succ i) (t.set i a)) args
def setT (sz : Nat) (tm : Tr AV) (d : Nat) (v : AV) : Tr AV := bif Nat.blt d sz then tm.set d v else tm
def setPs (sz : Nat) : List Nat → List AV → Tr AV → Tr AV
  | p :: ps, a :: as, t => setPs sz ps as (setT sz t p a)
  | _, _, t => t
def resA2 (c : Bool) (v : Option AV) (l : List AV) : Option (List AV) := match v with
  | some v => bif c then some (v :: l) else none
  | none => none
def resA1 (b : Option Bool) (r : Option (Bool × List AV)) (l : Option (List AV)) : Option (List AV) := match r, l with
  | some (c, cs), some l => resA2 c (pack b cs) l
  | _, _ => none
def resA (P : Program) (tm : Tr AV) (M : Mem) : List ResultVar → Option (List AV)
  | [] => some []
  | .tmp t :: rs => (match resA P tm M rs with | some l => some ((tm.get t).getD .undef :: l) | none => none)
  | .cell a t :: rs => resA1 (isAggB P t) (peek M (szB P t) ((tm.get a).getD .undef)) (resA P tm M rs)
def resV (l : List AV) : AV := match l with
  | [v] => v
  | l => .tup l
/-! What an operation reads and makes, and whether it writes. -/
def idOf (v : AV) : List Nat := match v with | .ptr id _ _ _ => [id] | .map id => [id] | _ => []
def readsOf (op : Op) (ev : Operand → AV) (fid : Nat) : List Nat := match op with
  | .load _ a => idOf (ev a)
  | .lookup _ m _ _ => idOf (ev m)
  | .call ⟨.builtin .len, args, _⟩ => (match args.toList with | [x] => idOf (ev x) | _ => [])
  | .alloc _ => [fid]
  | .box _ _ => [fid]
  | .buildSlice _ _ _ => [fid]
  | .makeMap _ _ => [fid]
  | .makeSlice _ _ _ => [fid]
  | _ => []
def isW (op : Op) : Bool := match op with
  | .store _ _ _ => true
  | .mapUpdate _ _ _ _ => true
  | .insert _ _ _ _ => true
  | .call ⟨.builtin .len, _, _⟩ => false
  | .call ⟨.builtin .max, _, _⟩ => false
  | .call ⟨.builtin .min, _, _⟩ => false
  | .call _ => true
  | .defer _ => true
  | .panic _ => true
  | _ => false
structure Rec where
  i : Nat
  w : Bool
  rd : List Nat
  wr : List Nat
  nxb : Nat
def apartB (r : List Nat) (wr : List Nat) (nxb : Nat) : Bool := r.all fun x => Nat.blt x nxb && wr.all fun y => !Nat.beq x y
def okPair (bef : Nat) (r q : Rec) : Bool := bif q.w then (bef.testBit q.i || (!r.w && apartB r.rd q.wr q.nxb)) else bif r.w then (bef.testBit q.i || apartB q.rd r.wr r.nxb) else true
def okOrder (bef : Nat) (r : Rec) (l : List Rec) : Bool := List.rec (motive := fun _ => Bool) true (fun q _ ih => okPair bef r q && ih) l
def befT (acc : List Nat) : List Edge → Nat
  | [] => 0
  | e :: es => bif Region.binds .any e then (2 ^ e.on ||| acc.getD e.on 0) ||| befT acc es else befT acc es
def befL (acc : List Nat) : List Oper → List Nat
  | [] => []
  | o :: os => befT acc o.after.toList :: befL (acc ++ [befT acc o.after.toList]) os

/-! The temporaries that an operation looks at; whether unordered operations are apart in them. -/
def oT (x : Operand) : List Nat := match x with | .tmp t => [t] | _ => []
def oTs (l : List Operand) : List Nat := l.flatMap oT
def oTo (x : Option Operand) : List Nat := match x with | some x => oT x | none => []
def oTp (l : List (Nat × Operand)) : List Nat := l.flatMap fun p => oT p.2
def oTc (c : Call) : List Nat := match c with | ⟨.value g, args, _⟩ => oT g ++ oTs args.toList | ⟨_, args, _⟩ => oTs args.toList
def opTmps (op : Op) : List Nat := match op with
  | .move x => oT x
  | .assign x => oT x
  | .pick c a b => oTs [c, a, b]
  | .box _ x => oT x
  | .build _ ps => oTp ps.toList
  | .buildSlice _ _ ps => oTp ps.toList
  | .insert _ m k x => oTs [m, k, x]
  | .load _ a => oT a
  | .store _ a x => oTs [a, x]
  | .nilCheck x => oT x
  | .binOp _ _ x y _ => oTs [x, y]
  | .unOp _ _ x => oT x
  | .convert _ _ x => oT x
  | .makeInterface _ x => oT x
  | .makeFunc _ a b => oTs a.toList ++ oTs b.toList
  | .makeSlice _ l c => oTs [l, c]
  | .slice _ x lo hi mx => oT x ++ (oTo lo ++ (oTo hi ++ oTo mx))
  | .fieldAddr _ x _ => oT x
  | .field _ x _ => oT x
  | .indexAddr _ x i => oTs [x, i]
  | .index _ x i => oTs [x, i]
  | .lookup _ m k _ => oTs [m, k]
  | .mapUpdate _ m k x => oTs [m, k, x]
  | .typeAssert x _ _ _ => oT x
  | .extract x _ => oT x
  | .call c => oTc c
  | .panic x => oT x
  | _ => []
def gdst (ops : List Oper) (j : Nat) : Option Nat := match nth ops j with | some o => o.dst | none => none
def looks (ops : List Oper) (o : Oper) : List Nat := match o.guard with
  | some (g, _) => (match gdst ops g with | some d => d :: opTmps o.op | none => opTmps o.op)
  | none => opTmps o.op
def notIn (d : Option Nat) (l : List Nat) : Bool := match d with | some d => l.all fun x => !Nat.beq x d | none => true
def neD (d e : Option Nat) : Bool := match d, e with | some d, some e => !Nat.beq d e | _, _ => true
def apT (l : List Nat) (d : Option Nat) (l' : List Nat) (d' : Option Nat) : Bool := notIn d l' && (notIn d' l && neD d d')
def apAll (b : Nat) (l : List Nat) (d : Option Nat) : List (Nat × List Nat × Option Nat) → Bool
  | [] => true
  | (j, l', d') :: r => (b.testBit j || apT l d l' d') && apAll b l d r
def regOk (all : List Oper) : List Nat → List (Nat × List Nat × Option Nat) → Nat → List Oper → Bool
  | b :: bs, seen, i, o :: os => (Nat.blt b (2 ^ i) && apAll b (looks all o) o.dst seen) && regOk all bs ((i, looks all o, o.dst) :: seen) (i + 1) os
  | [], _, _, [] => true
  | _, _, _, _ => false
def allBit (i : Nat) (bs : List Nat) : Bool := bs.all fun b => b.testBit i

abbrev K (R : Type) := AEnd → AMode → Mem → R
def setDst (sz : Nat) (tm : Tr AV) (o : Oper) (v : AV) : Tr AV := match o.dst with | some d => setT sz tm d v | none => tm
def topAll (sz : Nat) (ops : List Oper) (tm : Tr AV) : Tr AV := match ops with | [] => tm | o :: os => topAll sz os (setDst sz tm o .top)
structure Dr where
  bef : List Nat
  ops : List Oper
  base : Nat
  seen : List Rec
inductive Job (R : Type) where
  | fr (f : Fr) (bl : AMode) (M : Mem) (k : K R)
  | reg (all : List Oper) (rest : List Oper) (f : Fr) (bl : AMode) (M : Mem) (k : K R)
  | dreg (d : Dr) (i : Nat) (rest : List Oper) (f : Fr) (bl : AMode) (M : Mem) (k : K R)
  | lv (f : Fr) (u : AMode) (bl : AMode) (M : Mem) (k : K R)
  | call (f : Nat) (args : List AV) (dfd : Bool) (bl : AMode) (M : Mem) (k : K R)
  | yld (l : Nat) (args : List AV) (M : Mem) (k : K R)
/-- The program, and what is known of calls. -/
structure Cx where
  P : Program
  ct : (R : Type) → Nat → List AV → Mem → Option ((AEnd → Mem → R) → R)
  mg : Nat → Bool := fun _ => false

section
variable {R : Type} (X : Cx) (er : Nat → R) (run : Job R → R)
def bodyOf (P : Program) (f : Nat) : Option (Code × Nat) := match nth P.funcs.toList f with | some fn => (match fn.body with | some c => some (c, fn.ntmps) | none => none) | none => none
def resOf (P : Program) (f : Nat) : Option (List ResultVar) := match nth P.funcs.toList f with | some fn => some fn.results.toList | none => none
def jEnter (fb : Option (Code × Nat)) (f : Nat) (args : List AV) (dfd : Bool) (bl : AMode) (M : Mem) (k : K R) : R := match fb with
  | some (c, n) => bif Nat.ble args.length n then run (.fr ⟨f, dfd, n, enterT args 0 .nil, [.code c], [], none⟩ bl M k) else er 99
  | none => er 100
def jCall (c : Option ((AEnd → Mem → R) → R)) (f : Nat) (args : List AV) (dfd : Bool) (bl : AMode) (M : Mem) (k : K R) : R := match c with
  | some sp => sp (fun e M' => k e bl M')
  | none => jEnter er run (bodyOf X.P f) f args dfd bl M k
def jCall0 (f : Nat) (args : List AV) (dfd : Bool) (bl : AMode) (M : Mem) (k : K R) : R :=
  bif dfd then jEnter er run (bodyOf X.P f) f args dfd bl M k else jCall X er run (X.ct R f args M) f args dfd bl M k
def jYld (b : Option Blk) (l : Nat) (args : List AV) (M : Mem) (k : K R) : R := match b with
  | some (.loop fn sz tm ps as body d .ready _) => bif Nat.beq args.length ps.toList.length then
      run (.fr ⟨fn, false, sz, setPs sz ps.toList args tm, [.code as, .beginRound, .code body], [], some l⟩ .run M k) else er 101
  | _ => er 102
def jBegin (b : Option Blk) (l : Nat) (f : Fr) (bl : AMode) (M : Mem) (k : K R) : R := match b, M with
  | some (.loop fn sz tm ps as body d .ready pe), ⟨h, nx, lg⟩ => run (.fr f bl ⟨h.set l (.loop fn sz tm ps as body d .busy pe), nx, l :: lg⟩ k)
  | _, _ => er 103
def frTodo (f : Fr) (t : List Item) : Fr := match f with | ⟨fn, dfd, sz, tm, _, ds, ro⟩ => ⟨fn, dfd, sz, tm, t, ds, ro⟩
def frDs (f : Fr) (d : List AD) : Fr := match f with | ⟨fn, dfd, sz, tm, todo, _, ro⟩ => ⟨fn, dfd, sz, tm, todo, d, ro⟩
def frPut (f : Fr) (o : Oper) (v : AV) : Fr := match f with | ⟨fn, dfd, sz, tm, todo, ds, ro⟩ => ⟨fn, dfd, sz, setDst sz tm o v, todo, ds, ro⟩
def frTop (ops : List Oper) (f : Fr) : Fr := match f with | ⟨fn, dfd, sz, tm, todo, ds, ro⟩ => ⟨fn, dfd, sz, topAll sz ops tm, todo, ds, ro⟩
def jCond (v : AV) (a b : Code) (rest : List Item) (f : Fr) (bl : AMode) (M : Mem) (k : K R) : R := match v with
  | .bool t => bif t then run (.fr (frTodo f (.code a :: rest)) bl M k) else run (.fr (frTodo f (.code b :: rest)) bl M k)
  | _ => er 105
def jFin2 (b : Option Blk) (l : Nat) (ds : List AD) (jump : Option Code) (M : Mem) (bl : AMode) (k : K R) : R := match b, ds, M with
  | some (.loop fn sz tm ps as body d _ _), [], ⟨h, nx, lg⟩ =>
    (match jump with
     | none => k (.ret (.bool true)) bl ⟨h.set l (.loop fn sz tm ps as body d .ready none), nx, l :: lg⟩
     | some c => k (.ret (.bool false)) bl ⟨h.set l (.loop fn sz tm ps as body d .done (some c)), nx, l :: lg⟩)
  | _, _, _ => er 122
/-- A frame's end, and the jump that ends it. -/
def jFin (jump : Option Code) (fn : Bool) (f : Fr) (bl : AMode) (M : Mem) (k : K R) : R := match f.ro with
  | none => bif fn then run (.lv f .ret bl M k) else er 120
  | some l => jFin2 er (M.h.get l) l f.ds jump M bl k
def jExit (k' : Option (List Item)) (id : Nat) (f : Fr) (bl : AMode) (M : Mem) (k : K R) : R := match k' with
  | some k' => run (.fr (frTodo f k') bl M k)
  | none => jFin er run (some (.exit id)) false f bl M k
def jRange2 (b : Option Blk) (l : Nat) (rest : List Item) (f : Fr) (bl : AMode) (M : Mem) (k : K R) : R := match b, M with
  | some (.loop fn2 sz2 tm2 ps as body d st pe), ⟨h, nx, lg⟩ => (match st with
    | .busy => er 106
    | _ => run (.fr (frTodo f (match pe with | some c => .code c :: rest | none => rest)) bl ⟨h.set l (.loop fn2 sz2 tm2 ps as body d .exhausted pe), nx, l :: lg⟩ k))
  | _, _ => er 107
def dsRange (ro : Option Nat) (d : Nat) (ds : List AD) : List AD := match ro with | none => .coll d :: ds | some _ => ds
/-- The block for the deferred calls of rounds: an outermost loop's own, or the one of the loop around. -/
def dfrOf (M : Mem) (ro : Option Nat) : Nat := match ro with
  | none => M.nx
  | some l => (match M.h.get l with | some (.loop _ _ _ _ _ _ d _ _) => d | _ => 0)
def roOk (M : Mem) (ro : Option Nat) : Bool := match ro with
  | none => true
  | some l => (match M.h.get l with | some (.loop _ _ _ _ _ _ _ _ _) => true | _ => false)
def jRange (g : AV) (ps : Array Nat) (as body : Code) (rest : List Item) (f : Fr) (bl : AMode) (M : Mem) (k : K R) : R := match g, M, f with
  | .fn gf first cap, ⟨h, nx, lg⟩, ⟨fn, dfd, sz, tm, todo, ds, ro⟩ => bif roOk ⟨h, nx, lg⟩ ro then
    run (.call gf (first ++ .yld (nx + 1) :: cap) false .run ⟨(h.set nx .dfr).set (nx + 1) (.loop fn sz tm ps as body (dfrOf ⟨h, nx, lg⟩ ro) .ready none), nx + 2, lg⟩ fun e _ M2 => match e with
      | .ret _ => jRange2 er run (M2.h.get (nx + 1)) (nx + 1) rest ⟨fn, dfd, sz, tm, todo, dsRange ro nx ds, ro⟩ bl M2 k
      | .pan ch => run (.lv ⟨fn, dfd, sz, tm, todo, dsRange ro nx ds, ro⟩ (.pan ch) bl M2 k)) else er 121
  | _, _, _ => er 108
def memNx (M : Mem) (n : Nat) : Mem := match M with | ⟨h, nx, lg⟩ => ⟨h, nx + n, lg⟩
def jRegD (bef : List Nat) (ops : List Oper) (rest : List Item) (f : Fr) (bl : AMode) (M : Mem) (k : K R) : R :=
  bif regOk ops bef [] 0 ops then run (.dreg ⟨bef, ops, M.nx, []⟩ 0 ops (frTodo f rest) bl (memNx M ops.length) k) else er 128
def jRegion (ops : Array Oper) (draw : Bool) (rest : List Item) (f : Fr) (bl : AMode) (M : Mem) (k : K R) : R :=
  bif draw then jRegD er run (befL [] ops.toList) ops.toList rest f bl M k
  else run (.reg ops.toList ops.toList (frTodo f rest) bl M k)
end
/-! An if whose body only writes temporaries: both ways at once. -/
def quietOp (op : Op) : Bool := match op with
  | .move _ => true
  | .assign _ => true
  | .load _ _ => true
  | .nilCheck _ => true
  | .binOp _ _ _ _ _ => true
  | .unOp _ _ _ => true
  | .convert _ _ _ => true
  | .fieldAddr _ _ _ => true
  | .field _ _ _ => true
  | .indexAddr _ _ _ => true
  | .index _ _ _ => true
  | .extract _ _ => true
  | _ => false
def noGuard (o : Oper) : Bool := match o.guard with | none => true | some _ => false
def spD (P : Program) (base : Nat) (M : Mem) (sz : Nat) : List Nat → List Rec → Nat → List Oper → Tr AV → Option (Tr AV)
  | _, _, _, [], tm => some tm
  | b :: bef, seen, i, o :: rest, tm => bif quietOp o.op && noGuard o then (match opA o.op P (evA tm) ⟨M.h, M.nx, []⟩ (base + i) with
    | .val v _ => bif okOrder b ⟨i, false, readsOf o.op (evA tm) (base + i), [], M.nx⟩ seen then spD P base M sz bef (⟨i, false, readsOf o.op (evA tm) (base + i), [], M.nx⟩ :: seen) (i + 1) rest (setDst sz tm o v) else none
    | _ => none) else none
  | [], _, _, _ :: _, _ => none
def mixV (t : Bool) (a b : AV) : AV := match a, b with
  | .int k x, .int k' y => bif kEq k k' then .int k (bif t then x else y) else .top
  | .bool x, .bool y => .bool (bif t then x else y)
  | _, _ => .top
def mixT (t : Bool) (A B : Tr AV) : List Oper → Tr AV → Tr AV
  | [], T => T
  | o :: os, T => match o.dst with
    | some d => mixT t A B os (T.set d (mixV t ((A.get d).getD .undef) ((B.get d).getD .undef)))
    | none => mixT t A B os T
def mixF (t : Bool) (ops : List Oper) (A : Tr AV) (f : Fr) : Fr := match f with | ⟨fn, dfd, sz, tm, todo, ds, ro⟩ => ⟨fn, dfd, sz, mixT t A tm ops tm, todo, ds, ro⟩
def mergeR (P : Program) (t : Bool) (ops : List Oper) (f : Fr) (M : Mem) : Option (Fr × Mem) :=
  bif regOk ops (befL [] ops) [] 0 ops then (match spD P M.nx (memNx M ops.length) f.sz (befL [] ops) [] 0 ops f.tm with
    | some A => some (mixF t ops A f, memNx M ops.length)
    | none => none) else none
def spR (P : Program) (sz : Nat) : List Oper → Mem → Tr AV → Option (Tr AV × Mem)
  | [], M, tm => some (tm, M)
  | o :: rest, M, tm => bif quietOp o.op && noGuard o then (match opA o.op P (evA tm) (memNx M 1) M.nx with
    | .val v _ => spR P sz rest (memNx M 1) (setDst sz tm o v)
    | _ => none) else none
def mergeN (P : Program) (t : Bool) (ops : List Oper) (f : Fr) (M : Mem) : Option (Fr × Mem) := match spR P f.sz ops M f.tm with
  | some (A, M2) => some (mixF t ops A f, M2)
  | none => none
def mergeC (P : Program) (v : AV) (a b : Code) (f : Fr) (M : Mem) : Option (Fr × Mem) := match v, a, b with
  | .bool t, .region _ ops true, .skip => mergeR P t ops.toList f M
  | .bool t, .region _ ops false, .skip => mergeN P t ops.toList f M
  | _, _, _ => none
def jMerge {R : Type} (m : Option (Fr × Mem)) (run : Job R → R) (rest : List Item) (bl : AMode) (k : K R) (els : R) : R := match m with
  | some (f, M) => run (.fr (frTodo f rest) bl M k)
  | none => els
abbrev HC (R : Type) := Cx → (Nat → R) → (Job R → R) → List Item → Fr → AMode → Mem → K R → R
section
variable {R : Type}
def cSkip : HC R := fun _ _ run rest f bl M k => run (.fr (frTodo f rest) bl M k)
def cSeq (a b : Code) : HC R := fun _ _ run rest f bl M k => run (.fr (frTodo f (.code a :: .code b :: rest)) bl M k)
def cCond (c : Operand) (a b : Code) : HC R := fun X er run rest f bl M k => jMerge (bif X.mg f.fn then mergeC X.P (evA f.tm c) a b f M else none) run rest bl k (jCond er run (evA f.tm c) a b rest f bl M k)
def cBlock (id : Nat) (b : Code) : HC R := fun _ _ run rest f bl M k => run (.fr (frTodo f (.code b :: .inBlock id :: rest)) bl M k)
def cLoop (b : Code) : HC R := fun _ _ run rest f bl M k => run (.fr (frTodo f (.code b :: .inLoop b :: rest)) bl M k)
def cExit (id : Nat) : HC R := fun _ er run rest f bl M k => jExit er run (exitTo id rest) id f bl M k
def cRet : HC R := fun _ er run _ f bl M k => jFin er run (some .ret) true f bl M k
def cRegion (_ : Nat) (ops : Array Oper) (draw : Bool) : HC R := fun _ er run rest f bl M k => jRegion er run ops draw rest f bl M k
def cRange (g : Operand) (ps : Array Nat) (as body : Code) : HC R := fun _ er run rest f bl M k => jRange er run (evA f.tm g) ps as body rest f bl M k
def cNo : HC R := fun _ er _ _ _ _ _ _ => er 109
def jCode (c : Code) : HC R := Code.rec (motive := fun _ => HC R) cSkip cRegion (fun a b _ _ => cSeq a b) (fun c a b _ _ => cCond c a b) (fun i b _ => cBlock i b) (fun b _ => cLoop b) (fun g ps a b _ _ => cRange g ps a b) cExit (fun _ _ => cNo) (fun _ => cNo) (fun _ => cNo) cRet (fun _ => cNo) c
def iBegin : HC R := fun _ er run rest f bl M k => match f.ro with
  | some l => jBegin er run (M.h.get l) l (frTodo f rest) bl M k
  | none => er 104
def jItem (it : Item) : HC R := Item.casesOn (motive := fun _ => HC R) it jCode (fun _ => cSkip) (fun c => cLoop c) (fun _ => cNo) (fun _ _ => cNo) (fun _ => cNo) (fun _ => cNo) iBegin (fun _ _ _ _ => cNo) (fun _ _ => cNo)
def jFr (X : Cx) (er : Nat → R) (run : Job R → R) (f : Fr) (bl : AMode) (M : Mem) (k : K R) : R := match f.todo with
  | [] => jFin er run none true f bl M k
  | it :: rest => jItem it X er run rest f bl M k
def jOp1 (er : Nat → R) (r : AR) (o : Oper) (nxt : AV → Mem → R) (pan : AV → R) : R := match r with
  | .val v M2 => nxt v M2
  | .panic v => pan v
  | .no c => er (1000 * (o.pos.length + 1) + c)
def jOp (er : Nat → R) (r : AQ) (o : Oper) (nxt : AV → Mem → R) (pan : AV → R) : R := match r with
  | .plain r => jOp1 er r o nxt pan
  | .chk c v M2 why => bif c then nxt v M2 else er (1000 * (o.pos.length + 1) + why)
def jCallV (er : Nat → R) (run : Job R → R) (g : AV) (as : List AV) (M : Mem) (nxt : AV → Mem → R) (pan : List AE → Mem → R) : R := match g with
  | .fn gf first cap => run (.call gf (first ++ (as ++ cap)) false .run M fun e _ M2 => match e with | .ret v => nxt v M2 | .pan ch => pan ch M2)
  | .yld l => run (.yld l as M fun e _ M2 => match e with | .ret v => nxt v M2 | .pan ch => pan ch M2)
  | _ => er 113
def jRecover (er : Nat → R) (run : Job R → R) (o : Oper) (all rest : List Oper) (f : Fr) (bl : AMode) (M : Mem) (k : K R) : R := match f.dfd, bl with
  | true, .pan (⟨v, false⟩ :: older) => run (.reg all rest (frPut f o v) (.pan (⟨v, true⟩ :: older)) M k)
  | true, bl => run (.reg all rest (frPut f o .nili) bl M k)
  | false, bl => er 114
def jDefer (er : Nat → R) (run : Job R → R) (g : AV) (as : List AV) (o : Oper) (all rest : List Oper) (f : Fr) (bl : AMode) (M : Mem) (k : K R) : R := match g, f.ro with
  | .fn gf first cap, none => run (.reg all rest (frDs (frPut f o .undef) (.call gf (first ++ (as ++ cap)) :: f.ds)) bl M k)
  | _, _ => er 116
end
abbrev HX (R : Type) := Cx → (Nat → R) → (Job R → R) → Oper → List Oper → List Oper → Fr → AMode → Mem → K R → R
section
variable {R : Type}
def xOp : HX R := fun X er run o all rest f bl M k => jOp er (opX (X.mg f.fn) o.op X.P (evA f.tm) (memNx M 1) M.nx) o (fun v M2 => run (.reg all rest (frPut f o v) bl M2 k)) (fun v => run (.lv f (.pan [⟨v, false⟩]) bl M k))
def xNo : HX R := fun _ er _ _ _ _ _ _ _ _ => er 117
def xCallV (g : Operand) (args : Array Operand) : HX R := fun _ er run o all rest f bl M k => jCallV er run (evA f.tm g) (args.toList.map (evA f.tm)) M (fun v M2 => run (.reg all rest (frPut f o v) bl M2 k)) (fun ch M2 => run (.lv f (.pan ch) bl M2 k))
def xRec : HX R := fun _ er run o all rest f bl M k => jRecover er run o all rest f bl M k
def xBuiltin (b : Builtin) : HX R := match b with | .recover => xRec | _ => xOp
def xCall (c : Call) : HX R := match c with | ⟨.value g, args, _⟩ => xCallV g args | ⟨.builtin b, _, _⟩ => xBuiltin b | ⟨.invoke _ _, _, _⟩ => xNo
def xDefV (g : Operand) (args : Array Operand) : HX R := fun _ er run o all rest f bl M k => jDefer er run (evA f.tm g) (args.toList.map (evA f.tm)) o all rest f bl M k
def xDefer (c : Call) : HX R := match c with | ⟨.value g, args, _⟩ => xDefV g args | ⟨.builtin _, _, _⟩ => xNo | ⟨.invoke _ _, _, _⟩ => xNo
def kX (op : Op) : HX R := Op.casesOn (motive := fun _ => HX R) op (fun _ => xOp) (fun _ => xOp) (fun _ _ _ => xOp) (fun _ => xOp) (fun _ _ => xOp) (fun _ _ => xOp) (fun _ _ _ => xOp) (fun _ _ _ _ => xOp) (fun _ _ => xOp) (fun _ _ _ => xOp) (fun _ => xOp) (fun _ => xOp) (fun _ => xOp) (fun _ _ _ _ _ => xOp) (fun _ _ _ => xOp) (fun _ _ _ => xOp) (fun _ _ => xOp) (fun _ _ => xOp) (fun _ _ _ => xOp) (fun _ _ => xOp) (fun _ _ => xOp) (fun _ _ _ => xOp) (fun _ _ _ _ _ => xOp) (fun _ _ _ => xOp) (fun _ _ _ => xOp) (fun _ _ _ => xOp) (fun _ _ _ => xOp) (fun _ _ _ _ => xOp) (fun _ _ _ _ => xOp) (fun _ _ _ => xOp) (fun _ _ _ _ => xOp) (fun _ _ => xOp) (fun _ _ => xOp) (fun _ => xOp) (fun _ _ _ _ => xOp) (fun _ _ => xOp) xCall (fun _ => xNo) xDefer (fun _ => xOp) (fun _ _ => xOp) (fun _ _ _ => xOp) (fun _ _ => xOp)
/-- What a test tells of a temporary. -/
def frKn (f : Fr) (d : Nat) (b : Bool) : Fr := match f with | ⟨fn, dfd, sz, tm, todo, ds, ro⟩ => ⟨fn, dfd, sz, tm.set d (.bool b), todo, ds, ro⟩
def jGuard (v : Option AV) (d : Nat) (want : Bool) (f : Fr) (yes no : Fr → R) : R := match v with
  | some (.bool b) => bif b then (bif want then yes (frKn f d true) else no (frKn f d true)) else (bif want then no (frKn f d false) else yes (frKn f d false))
  | _ => no f
def gOk (v : Option AV) : Bool := match v with | some .top => false | _ => true
variable (X : Cx) (er : Nat → R) (run : Job R → R)
def jGuard0 (d : Option Nat) (f : Fr) (want : Bool) (yes no : Fr → R) : R := match d with
  | some d => bif gOk (f.tm.get d) then jGuard (f.tm.get d) d want f yes no else er 125
  | none => er 119
def jReg1 (o : Oper) (all rest : List Oper) (f : Fr) (bl : AMode) (M : Mem) (k : K R) : R := match o.guard with
  | none => kX o.op X er run o all rest f bl M k
  | some (j, want) => jGuard0 er (gdst all j) f want (fun f => kX o.op X er run o all rest f bl M k) (fun f => run (.reg all rest (frPut f o .undef) bl M k))
def jReg (all rest : List Oper) (f : Fr) (bl : AMode) (M : Mem) (k : K R) : R := match rest with
  | [] => run (.fr f bl M k)
  | o :: rest => jReg1 X er run o all rest f bl M k
/-- Behind an operation of a region with a drawn order: may it change places? -/
def jNext (d : Dr) (i b : Nat) (o : Oper) (rd : List Nat) (nxb : Nat) (rest : List Oper) (lg : List Nat) (f : Fr) (bl : AMode) (k : K R) (v : AV) (M2 : Mem) : R := match d, M2 with
  | ⟨bef, all, base, seen⟩, ⟨h, nx, lg2⟩ => bif okOrder b ⟨i, isW o.op, rd, lg2, nxb⟩ seen then run (.dreg ⟨bef, all, base, ⟨i, isW o.op, rd, lg2, nxb⟩ :: seen⟩ (i + 1) rest (frPut f o v) bl ⟨h, nx, lg2 ++ lg⟩ k) else er 112
def dPan (d : Dr) (i b : Nat) (lg : List Nat) (f : Fr) (bl : AMode) (k : K R) (ch : List AE) (M2 : Mem) : R := match M2 with
  | ⟨h, nx, lg2⟩ => bif allBit i d.bef && okOrder b ⟨i, true, [], [], nx⟩ d.seen then run (.lv (frTop d.ops f) (.pan ch) bl ⟨h, nx, lg2 ++ lg⟩ k) else er 129
def dCall (c : Call) (o : Oper) (d : Dr) (i b : Nat) (rest : List Oper) (f : Fr) (bl : AMode) (h : Tr Blk) (nx : Nat) (lg : List Nat) (k : K R) (els : R) : R := match c with
  | ⟨.value g, args, _⟩ => jCallV er run (evA f.tm g) (args.toList.map (evA f.tm)) ⟨h, nx, []⟩ (jNext er run d i b o [] nx rest lg f bl k) (dPan er run d i b lg f bl k)
  | ⟨.builtin .recover, _, _⟩ => er 114
  | ⟨.builtin _, _, _⟩ => els
  | ⟨.invoke _ _, _, _⟩ => er 113
def dOp (o : Oper) (d : Dr) (i b : Nat) (rest : List Oper) (f : Fr) (bl : AMode) (h : Tr Blk) (nx : Nat) (lg : List Nat) (k : K R) : R :=
  jOp er (opX (X.mg f.fn) o.op X.P (evA f.tm) ⟨h, nx, []⟩ (d.base + i)) o (jNext er run d i b o (readsOf o.op (evA f.tm) (d.base + i)) nx rest lg f bl k) (fun v => dPan er run d i b lg f bl k [⟨v, false⟩] ⟨h, nx, []⟩)
def dExec (o : Oper) (d : Dr) (i b : Nat) (rest : List Oper) (f : Fr) (bl : AMode) (h : Tr Blk) (nx : Nat) (lg : List Nat) (k : K R) : R := match o.op with
  | .call c => dCall er run c o d i b rest f bl h nx lg k (dOp X er run o d i b rest f bl h nx lg k)
  | .defer _ => er 115
  | _ => dOp X er run o d i b rest f bl h nx lg k
def dReg1 (o : Oper) (d : Dr) (i b : Nat) (rest : List Oper) (f : Fr) (bl : AMode) (h : Tr Blk) (nx : Nat) (lg : List Nat) (k : K R) : R := match o.guard with
  | none => dExec X er run o d i b rest f bl h nx lg k
  | some (j, want) => jGuard0 er (gdst d.ops j) f want (fun f => dExec X er run o d i b rest f bl h nx lg k) (fun f => run (.dreg d (i + 1) rest (frPut f o .undef) bl ⟨h, nx, lg⟩ k))
def jDReg (d : Dr) (i : Nat) (rest : List Oper) (f : Fr) (bl : AMode) (M : Mem) (k : K R) : R := match rest, M, d with
  | [], M, _ => run (.fr f bl M k)
  | o :: rest, ⟨h, nx, lg⟩, ⟨b :: bef, all, base, seen⟩ => dReg1 X er run o ⟨bef, all, base, seen⟩ i b rest f bl h nx lg k
  | _, _, _ => er 118
def jRes (r : Option (List AV)) (bl : AMode) (M : Mem) (k : K R) : R := match r with
  | some l => k (.ret (resV l)) bl M
  | none => er 123
def jLv0 (f : Fr) (u : AMode) (bl : AMode) (M : Mem) (k : K R) : R := match resOf X.P f.fn with
  | some l => (match u with
    | .ret => jRes er (resA X.P f.tm M l) bl M k
    | .pan ch => k (.pan ch) bl M
    | .run => er 125)
  | none => er 124
def jRnd (r : Option (List ResultVar)) (l : List AE) (bl : AMode) (M : Mem) (k : K R) : R := match r with
  | some _ => k (.pan l) bl M
  | none => er 130
def jLv (f : Fr) (u : AMode) (bl : AMode) (M : Mem) (k : K R) : R := match f.ro with
  | some _ => (match u, f.ds with | .pan l, [] => jRnd er (resOf X.P f.fn) l bl M k | _, _ => er 126)
  | none => (match f.ds with
    | [] => jLv0 X er f u bl M k
    | .coll id :: ds => (match M.h.get id with | some .dfr => run (.lv (frDs f ds) u bl ⟨M.h.set id .gone, M.nx, id :: M.lg⟩ k) | _ => er 127)
    | .call g args :: ds => run (.call g args true u M fun e u' M2 => match e with
      | .ret _ => run (.lv (frDs f ds) (settleA u') bl M2 k)
      | .pan ch => run (.lv (frDs f ds) (raisedA u' ch) bl M2 k)))
end
abbrev HJ (R : Type) := Cx → (Nat → R) → (Job R → R) → R
section
variable {R : Type}
def sFr (f : Fr) (bl : AMode) (M : Mem) (k : K R) : HJ R := fun X er run => jFr X er run f bl M k
def sReg (all rest : List Oper) (f : Fr) (bl : AMode) (M : Mem) (k : K R) : HJ R := fun X er run => jReg X er run all rest f bl M k
def sDReg (d : Dr) (i : Nat) (rest : List Oper) (f : Fr) (bl : AMode) (M : Mem) (k : K R) : HJ R := fun X er run => jDReg X er run d i rest f bl M k
def sLv (f : Fr) (u bl : AMode) (M : Mem) (k : K R) : HJ R := fun X er run => jLv X er run f u bl M k
def sCall (f : Nat) (args : List AV) (dfd : Bool) (bl : AMode) (M : Mem) (k : K R) : HJ R := fun X er run => jCall0 X er run f args dfd bl M k
def sYld (l : Nat) (args : List AV) (M : Mem) (k : K R) : HJ R := fun _ er run => jYld er run (M.h.get l) l args M k
def stepJ (X : Cx) (er : Nat → R) (run : Job R → R) (j : Job R) : R := Job.rec (motive := fun _ => HJ R) sFr sReg sDReg sLv sCall sYld j X er run
def runJ (X : Cx) (er : Nat → R) (n : Nat) : Job R → R := Nat.rec (fun _ => er 99) (fun _ ih => stepJ X er ih) n
end
def M0 : Mem := ⟨.nil, 0, []⟩
/-- A law's call: 0: it returns true. -/
def lawK : K Nat := fun e _ _ => match e with | .ret (.bool b) => bif b then 0 else 90 | .ret _ => 91 | .pan _ => 92
def law (X : Cx) (n f : Nat) (args : List AV) : Nat := runJ X (fun c => Nat.succ c) n (.call f args false .run M0 lawK)
end
end Go.Proofs.YtbknpfckdnladaaGreat
