/- The mirror, part 1 of 8: a deterministic evaluator of the code, which the kernel runs, and the proof that what it says of a call, the machine does, in every memory and on every tape. No condition. -/
import GoSem.Step
import Derived.Laws.Sem
import Derived.Laws.World
import Derived.OrdersIn
import Derived.Wp
import Derived.Laws.Cells
import Derived.RangeFuncRecord

/-! THE MIRROR: an evaluator of the model's code over a memory of its own, for the kernel to run: what it answers, the model's run comes to, in every memory and on every tape (proved in the texts behind this one). -/
namespace Go.Mir
noncomputable section

/-! ### Places in a tree -/
inductive Pth where
  | e
  | a (p : Pth)
  | b (p : Pth)
  | c (p : Pth)
  | d (p : Pth)

def dig (r : Nat) (p : Pth) : Pth :=
  match r with
  | 0 => .a p
  | 1 => .b p
  | 2 => .c p
  | _ => .d p
def pthA : Nat → Nat → Pth
  | 0, _ => .e
  | f + 1, n => match n with
    | 0 => .e
    | k + 1 => dig (Nat.mod (k + 1) 4) (pthA f (Nat.div (k + 1) 4))
def pth (n : Nat) : Pth := pthA (n + 1) n

inductive T (α : Type) where
  | leaf
  | node (v : Option α) (a b c d : T α)

/-- What stands at a place (by the recursors themselves: the kernel goes there quickest). -/
def T.get {α : Type} (p : Pth) : T α → Option α :=
  Pth.rec (motive := fun _ => T α → Option α)
    (fun t => T.rec (motive := fun _ => Option α) none (fun v _ _ _ _ _ _ _ _ => v) t)
    (fun _ ih t => T.rec (motive := fun _ => Option α) none (fun _ a _ _ _ _ _ _ _ => ih a) t)
    (fun _ ih t => T.rec (motive := fun _ => Option α) none (fun _ _ b _ _ _ _ _ _ => ih b) t)
    (fun _ ih t => T.rec (motive := fun _ => Option α) none (fun _ _ _ c _ _ _ _ _ => ih c) t)
    (fun _ ih t => T.rec (motive := fun _ => Option α) none (fun _ _ _ _ d _ _ _ _ => ih d) t) p

/-- Lay a value at a place, and go on with the tree. -/
def T.setK {α β : Type} (p : Pth) (x : Option α) : T α → (T α → β) → β :=
  Pth.rec (motive := fun _ => T α → (T α → β) → β)
    (fun t k => T.rec (motive := fun _ => β) (k (.node x .leaf .leaf .leaf .leaf)) (fun _ a b c d _ _ _ _ => k (.node x a b c d)) t)
    (fun _ ih t k => T.rec (motive := fun _ => β) (ih .leaf fun a => k (.node none a .leaf .leaf .leaf)) (fun v a b c d _ _ _ _ => ih a fun a => k (.node v a b c d)) t)
    (fun _ ih t k => T.rec (motive := fun _ => β) (ih .leaf fun b => k (.node none .leaf b .leaf .leaf)) (fun v a b c d _ _ _ _ => ih b fun b => k (.node v a b c d)) t)
    (fun _ ih t k => T.rec (motive := fun _ => β) (ih .leaf fun c => k (.node none .leaf .leaf c .leaf)) (fun v a b c d _ _ _ _ => ih c fun c => k (.node v a b c d)) t)
    (fun _ ih t k => T.rec (motive := fun _ => β) (ih .leaf fun d => k (.node none .leaf .leaf .leaf d)) (fun v a b c d _ _ _ _ => ih d fun d => k (.node v a b c d)) t) p
--ENDT

/-! ### Values -/
inductive MV where
  | bool (b : Bool)
  | int (k : IntKind) (n : Int)
  | str (s : List UInt8)
  | nilp
  | ptr (b off : Nat)
  | nils
  | sl (b off len cap sz : Nat) (ex : Bool)
  | es (b base adv sz : Nat)
  | func (fn : Fn) (first caps : List MV)
  | nilf
  | iface (t : TypeId) (v : MV)
  | nili
  | agg (cs : List MV)
  | tup (vs : List MV)
  | nilm
  | map (b : Nat)
  deriving Inhabited

def MV.cells : MV → List MV
  | .agg cs => cs
  | v => [v]
def MV.one : MV → Bool
  | .agg _ | .tup _ => false
  | _ => true

mutual
def ofC : Value → Option MV
  | .bool b => some (.bool b)
  | .int k n => some (.int k n)
  | .string ⟨⟨l⟩⟩ => some (.str l)
  | .pointer none => some .nilp
  | .slice none 0 0 => some .nils
  | .nilFunc => some .nilf
  | .nilIface => some .nili
  | .map none => some .nilm
  | .iface t v => match ofC v with | some x => some (.iface t x) | none => none
  | .agg ⟨cs⟩ => match ofCs cs with | some x => some (.agg x) | none => none
  | .tuple ⟨cs⟩ => match ofCs cs with | some x => some (.tup x) | none => none
  | .func (.func f) ⟨[]⟩ ⟨[]⟩ => some (.func (.func f) [] [])
  | _ => none
def ofCs : List Value → Option (List MV)
  | [] => some []
  | v :: vs => match ofC v with
    | some x => match ofCs vs with | some xs => some (x :: xs) | none => none
    | none => none
end

/-! ### Memory -/
structure ME where
  key : MV
  val : MV
  born : Nat

/-- What has been laid since the last flush, the newest first. -/
inductive EL where
  | nil
  | cons (i : Nat) (v : MV) (r : EL)
/-- A frame's temporaries: the newest; those kept; how many there are; the mask of those that are kept beyond a region. -/
structure Env where
  l : EL
  t : T MV
  n : Nat
  k : Nat
def keeps (k i : Nat) : Bool := Nat.beq (Nat.land (Nat.shiftRight k i) 1) 1
def EL.find (i : Nat) (l : EL) : Option MV :=
  EL.rec (motive := fun _ => Option MV) none (fun j v _ ih => Bool.rec (motive := fun _ => Option MV) ih (some v) (Nat.beq i j)) l
def Env.get (e : Env) (i : Nat) : Option MV :=
  Option.rec (motive := fun _ => Option MV) (Bool.rec (motive := fun _ => Option MV) none (T.get (pth i) e.t) (keeps e.k i)) (fun v => some v) (EL.find i e.l)
def flushT {β : Type} (k : Nat) (l : EL) : T MV → (T MV → β) → β :=
  EL.rec (motive := fun _ => T MV → (T MV → β) → β) (fun t g => g t)
    (fun i v _ ih t g => ih t fun t => Bool.rec (motive := fun _ => β) (g t) (T.setK (pth i) (some v) t g) (keeps k i)) l
def Env.flushK {β : Type} (e : Env) (g : Env → β) : β :=
  Env.rec (motive := fun _ => β) (fun l t n k => flushT k l t fun t => g ⟨.nil, t, n, k⟩) e
--ENDE

inductive MO where
  | cells (t : T MV) (n : Nat) (elem : TypeId) (ro : Bool) (fz : Nat)
  | dead
  | map (es : List ME) (clock : Nat)
  | siter (s : List UInt8) (pos : Nat)
  | loop (st : LoopState) (pending : Option Code) (env : Env) (params : List Tmp) (assign body : Code) (defers : Nat)
  | dblk (open_ : Bool)

structure Mem where
  t : T MO
  next : Nat

def Mem.get (m : Mem) (b : Nat) : Option MO := T.get (pth b) m.t
def Mem.putK {β : Type} (m : Mem) (b : Nat) (o : MO) (k : Mem → β) : β :=
  Mem.rec (motive := fun _ => β) (fun t nx => T.setK (pth b) (some o) t fun t => k ⟨t, nx⟩) m
def Mem.newK {β : Type} (m : Mem) (o : MO) (k : Mem → β) : β :=
  Mem.rec (motive := fun _ => β) (fun t nx => T.setK (pth nx) (some o) t fun t => Nat.rec (motive := fun _ => β) (k ⟨t, 0⟩) (fun n _ => k ⟨t, n + 1⟩) (nx + 1)) m

/-- A row of cells as a tree. -/
def rowK {β : Type} : List MV → Nat → T MV → (T MV → β) → β
  | [], _, t, k => k t
  | v :: vs, i, t, k => T.setK (pth i) (some v) t fun t => rowK vs (i + 1) t k

def readT (t : T MV) (n off : Nat) : Nat → Option (List MV)
  | 0 => some []
  | c + 1 => match Nat.blt off n with
    | false => none
    | true => match T.get (pth off) t with
      | none => none
      | some v => match readT t n (off + 1) c with
        | none => none
        | some vs => some (v :: vs)

def Mem.read (m : Mem) (b off c : Nat) : Option (List MV) :=
  match c with
  | 0 => some []
  | _ => match m.get b with
    | some (.cells t n _ _ _) => readT t n off c
    | _ => none

def writeTK {β : Type} (n : Nat) : List MV → Nat → T MV → (Option (T MV) → β) → β
  | [], _, t, k => k (some t)
  | v :: vs, off, t, k => match Nat.blt off n && v.one with
    | false => k none
    | true => T.setK (pth off) (some v) t fun t => writeTK n vs (off + 1) t k

def Mem.writeK {β : Type} (m : Mem) (b off : Nat) (vs : List MV) (k : Option Mem → β) : β :=
  match vs with
  | [] => k (some m)
  | _ => match m.get b with
    | some (.cells t n e false fz) => match Nat.ble fz off with
      | true => writeTK n vs off t fun
        | some t => m.putK b (.cells t n e false fz) fun m => k (some m)
        | none => k none
      | false => k none
    | _ => k none

def sameK : IntKind → IntKind → Bool
  | .i8, .i8 | .i16, .i16 | .i32, .i32 | .i64, .i64 | .u8, .u8 | .u16, .u16 | .u32, .u32 | .u64, .u64 => true
  | _, _ => false

/-- Less, equal, on numbers; a number brought into its kind: where it fits it stays. -/
def ltI : Int → Int → Bool
  | .ofNat a, .ofNat b => Nat.blt a b
  | .ofNat _, .negSucc _ => false
  | .negSucc _, .ofNat _ => true
  | .negSucc a, .negSucc b => Nat.blt b a
def eqI : Int → Int → Bool
  | .ofNat a, .ofNat b => Nat.beq a b
  | .negSucc a, .negSucc b => Nat.beq a b
  | _, _ => false
def topOf : IntKind → Nat
  | .i8 => 127
  | .i16 => 32767
  | .i32 => 2147483647
  | .i64 => 9223372036854775807
  | .u8 => 255
  | .u16 => 65535
  | .u32 => 4294967295
  | .u64 => 18446744073709551615
def wrapF (k : IntKind) (n : Int) : Int :=
  match n with
  | .ofNat a => match Nat.ble a (topOf k) with
    | true => .ofNat a
    | false => k.wrap (.ofNat a)
  | .negSucc a => match k with
    | .i64 => match Nat.ble a 9223372036854775807 with
      | true => .negSucc a
      | false => k.wrap (.negSucc a)
    | _ => k.wrap (.negSucc a)
def addI : Int → Int → Int
  | .ofNat a, .ofNat b => .ofNat (Nat.add a b)
  | a, b => a + b
def subI : Int → Int → Int
  | .ofNat a, .ofNat b => match Nat.ble b a with
    | true => .ofNat (Nat.sub a b)
    | false => .negSucc (Nat.sub (Nat.sub b a) 1)
  | a, b => a - b

/-! ### Types -/
section
variable (P : Program)
def sizeT (t : TypeId) : Option Nat := match P.info? t with | some i => some i.size | none => none
def bytesT (t : TypeId) : Option Nat := match P.info? t with | some i => some i.bytes | none => none
def aggT (t : TypeId) : Option Bool := match P.underlying t with
  | some (.struct _) | some (.array _ _) => some true
  | some _ => some false
  | none => none
def zeroT (t : TypeId) : Option MV := match P.info? t with
  | some i => match i.zero with | some v => ofC v | none => none
  | none => none

def partM (t : TypeId) (cs : List MV) (off : Nat) : Option MV :=
  match aggT P t with
  | some true => match sizeT P t with | some s => some (.agg ((cs.drop off).take s)) | none => none
  | some false => cs[off]?
  | none => none

/-- A value's parts laid into a row of cells. -/
def splice (cs : List MV) (off : Nat) (vs : List MV) : List MV := cs.take off ++ vs ++ cs.drop (off + vs.length)
def fillM (place : Nat → Option (Nat × Nat)) : List MV → List (Nat × MV) → Option (List MV)
  | cs, [] => some cs
  | cs, (i, v) :: rest => match place i with
    | none => none
    | some (off, size) => match Nat.beq v.cells.length size && Nat.ble (off + size) cs.length with
      | false => none
      | true => fillM place (splice cs off v.cells) rest

def placesM : List Field → Option (List (Nat × Nat))
  | [] => some []
  | f :: fs => match sizeT P f.type with
    | some s => match placesM fs with | some l => some ((f.offset, s) :: l) | none => none
    | none => none
/-- Where the parts of a struct or an array lie. -/
def buildM (t : TypeId) (cs : List MV) (ps : List (Nat × MV)) : Option (List MV) :=
  match P.underlying t with
  | some (.struct fs) => match placesM P fs.toList with
    | some l => fillM (fun i => l[i]?) cs ps
    | none => none
  | some (.array _ e) => match sizeT P e with
    | some s => fillM (fun i => some (i * s, s)) cs ps
    | none => none
  | _ => none

/-! ### Results of operations -/
inductive OR where
  | val (v : MV) (m : Mem)
  | pan (v : MV) (m : Mem)
  | dfr (fn : FuncId) (args : List MV) (m : Mem)
  | fail

def forceI {β : Type} (n : Int) (k : Int → β) : β :=
  match n with
  | .ofNat 0 => k (.ofNat 0)
  | .ofNat (a + 1) => k (.ofNat (a + 1))
  | .negSucc 0 => k (.negSucc 0)
  | .negSucc (a + 1) => k (.negSucc (a + 1))
def intR (k : IntKind) (n : Int) (m : Mem) : OR := forceI n fun n => .val (.int k n) m

def ops? (env : Env) : Operand → Option MV
  | .tmp t => env.get t
  | .const v => ofC v
  | .global g => match Nat.blt g P.globals.size with | true => some (.ptr g 0) | false => none
  | .func f => some (.func (.func f) [] [])
def opsL (env : Env) : List Operand → Option (List MV)
  | [] => some []
  | x :: xs => match ops? P env x with
    | some v => match opsL env xs with | some vs => some (v :: vs) | none => none
    | none => none
def opsP (env : Env) : List (Nat × Operand) → Option (List (Nat × MV))
  | [] => some []
  | (i, x) :: xs => match ops? P env x with
    | some v => match opsP env xs with | some vs => some ((i, v) :: vs) | none => none
    | none => none

def loadV (m : Mem) (t : TypeId) (b off : Nat) : Option MV :=
  match aggT P t with
  | some true => match sizeT P t with
    | some s => match m.read b off s with | some vs => some (.agg vs) | none => none
    | none => none
  | some false => match m.read b off 1 with | some [v] => some v | _ => none
  | none => none

def newRowK {β : Type} (m : Mem) (e : TypeId) (cs : List MV) (k : Nat → Mem → β) : β :=
  rowK cs 0 .leaf fun t => m.newK (.cells t cs.length e false 0) (k m.next)

def bytesEq : List UInt8 → List UInt8 → Bool
  | [], [] => true
  | a :: x, b :: y => match Nat.beq a.toNat b.toNat with | true => bytesEq x y | false => false
  | _, _ => false
def bytesLt : List UInt8 → List UInt8 → Bool
  | _, [] => false
  | [], _ :: _ => true
  | a :: x, b :: y => match Nat.blt a.toNat b.toNat with
    | true => true
    | false => match Nat.beq a.toNat b.toNat with | true => bytesLt x y | false => false

def eqFs (eq : TypeId → MV → MV → Option Bool) (xs ys : List MV) : List Field → Option Bool
  | [] => some true
  | f :: fs => match decide (f.name = "_") with
    | true => eqFs eq xs ys fs
    | false => match partM P f.type xs f.offset, partM P f.type ys f.offset with
      | some a, some b => match eq f.type a b with
        | some true => eqFs eq xs ys fs
        | some false => some false
        | none => none
      | _, _ => none
def eqB : MV → MV → Option Bool
  | .bool true, .bool b => some b
  | .bool false, .bool b => some (!b)
  | _, _ => none
def eqN : MV → MV → Option Bool
  | .int k a, .int k' b => match sameK k k' with | true => some (eqI a b) | false => none
  | _, _ => none
def eqS : MV → MV → Option Bool
  | .str a, .str b => some (bytesEq a b)
  | _, _ => none
def eqP (e : TypeId) : MV → MV → Option Bool
  | .nilp, .nilp => some true
  | .nilp, .ptr _ _ => some false
  | .ptr _ _, .nilp => some false
  | .ptr a x, .ptr b y => match sizeT P e with
    | some (_ + 1) => match Nat.beq a b with | true => some (Nat.beq x y) | false => none
    | _ => none
  | _, _ => none
def eqL : MV → MV → Option Bool
  | .nils, .nils => some true
  | .nils, .sl .. => some false
  | .nils, .es .. => some false
  | .sl .., .nils => some false
  | .es .., .nils => some false
  | _, _ => none
def eqMp : MV → MV → Option Bool
  | .nilm, .nilm => some true
  | .nilm, .map _ => some false
  | .map _, .nilm => some false
  | _, _ => none
def eqFn : MV → MV → Option Bool
  | .nilf, .nilf => some true
  | .nilf, .func .. => some false
  | .func .., .nilf => some false
  | _, _ => none
def eqIf (eq : TypeId → MV → MV → Option Bool) : MV → MV → Option Bool
  | .nili, .nili => some true
  | .nili, .iface _ _ => some false
  | .iface _ _, .nili => some false
  | .iface tx vx, .iface ty vy => match Nat.beq tx ty with
    | false => some false
    | true => match P.info? tx with
      | some i => match i.comparable with
        | true => eq tx vx vy
        | false => none
      | none => none
  | _, _ => none
def eqSt (eq : TypeId → MV → MV → Option Bool) (t : TypeId) (fs : List Field) : MV → MV → Option Bool
  | .agg xs, .agg ys => match P.stoodInHeld t with
    | true => none
    | false => eqFs P eq xs ys fs
  | _, _ => none
def eqM : Nat → TypeId → MV → MV → Option Bool
  | 0, _, _, _ => none
  | d + 1, t, x, y => match P.underlying t with
    | some .bool => eqB x y
    | some (.int _) => eqN x y
    | some .string => eqS x y
    | some (.pointer e) => eqP P e x y
    | some (.interface _) => eqIf P (eqM d) x y
    | some (.struct fs) => eqSt P (eqM d) t fs.toList x y
    | some (.slice _) => eqL x y
    | some (.map _ _) => eqMp x y
    | some (.func _ _ _) => eqFn x y
    | _ => none

def isCn : Operand → Bool
  | .const _ => true
  | _ => false
def eqGuardM (t : TypeId) (x y : Operand) (a b : MV) : Bool :=
  match a, b with
  | .nili, .nili => isCn x || isCn y || (match P.underlying t with | some (.interface ms) => ms.isEmpty | _ => false)
  | .agg _, .agg _ => !P.eqGuardType P.depth t
  | _, _ => true

/-- An operation that holds two truths. -/
def boolR (b : Bool) (m : Mem) : OR := match b with | true => .val (.bool true) m | false => .val (.bool false) m
def binBits (op : BinOp) (k : IntKind) (a b : Int) (m : Mem) : OR :=
  match op with
  | .and => intR k (k.wrap (BitVec.ofInt k.bits a &&& BitVec.ofInt k.bits b).toNat) m
  | .or => intR k (k.wrap (BitVec.ofInt k.bits a ||| BitVec.ofInt k.bits b).toNat) m
  | .xor => intR k (k.wrap (BitVec.ofInt k.bits a ^^^ BitVec.ofInt k.bits b).toNat) m
  | .andNot => intR k (k.wrap (BitVec.ofInt k.bits a &&& ~~~BitVec.ofInt k.bits b).toNat) m
  | _ => .fail
def divI (op : BinOp) (k : IntKind) (a b : Int) (m : Mem) : OR :=
  match eqI b 0 with
  | true => .fail
  | false => match op with
    | .quo => intR k (wrapF k (a.tdiv b)) m
    | _ => intR k (a.tmod b) m
def shI (op : BinOp) (k : IntKind) (a b : Int) (m : Mem) : OR :=
  match ltI b 0 with
  | true => .fail
  | false => match op with
    | .shl => intR k (wrapF k (a * 2 ^ (min b.toNat k.bits))) m
    | _ => intR k (a.fdiv (2 ^ (min b.toNat k.bits))) m
/-- Two integers of one kind. -/
def binI (op : BinOp) (k : IntKind) (a b : Int) (m : Mem) : OR :=
  match op with
  | .add => intR k (wrapF k (addI a b)) m
  | .sub => intR k (wrapF k (subI a b)) m
  | .mul => intR k (wrapF k (a * b)) m
  | .quo => divI .quo k a b m
  | .rem => divI .rem k a b m
  | .and => binBits .and k a b m
  | .or => binBits .or k a b m
  | .xor => binBits .xor k a b m
  | .andNot => binBits .andNot k a b m
  | .eql => boolR (eqI a b) m
  | .neq => boolR (!eqI a b) m
  | .lss => boolR (ltI a b) m
  | .leq => boolR (!ltI b a) m
  | .gtr => boolR (ltI b a) m
  | .geq => boolR (!ltI a b) m
  | .shl => shI .shl k a b m
  | .shr => shI .shr k a b m
def isSh : BinOp → Bool
  | .shl | .shr => true
  | _ => false
def binS (op : BinOp) (a b : List UInt8) (m : Mem) : OR :=
  match op with
  | .add => match Nat.ble (a.length + b.length) 9223372036854775807 with
    | true => .val (.str (a ++ b)) m
    | false => .fail
  | .eql => boolR (bytesEq a b) m
  | .neq => boolR (!bytesEq a b) m
  | .lss => boolR (bytesLt a b) m
  | .leq => boolR (bytesLt a b || bytesEq a b) m
  | .gtr => boolR (!(bytesLt a b || bytesEq a b)) m
  | .geq => boolR (!bytesLt a b) m
  | _ => .fail
def binE (op : BinOp) (t : TypeId) (x y : Operand) (a b : MV) (m : Mem) : OR :=
  match eqGuardM P t x y a b with
  | false => .fail
  | true => match eqM P Op.maxDepth t a b with
    | some r => match op with
      | .eql => boolR r m
      | .neq => boolR (!r) m
      | _ => .fail
    | none => .fail
def binM (op : BinOp) (t : TypeId) (x y : Operand) (a b : MV) (m : Mem) : OR :=
  match a, b with
  | .int k a, .int k' b => match sameK k k' || isSh op with
    | true => binI op k a b m
    | false => .fail
  | .str a, .str b => binS op a b m
  | a, b => binE P op t x y a b m
def unM (op : UnOp) (x : MV) (m : Mem) : OR :=
  match op, x with
  | .neg, .int k n => intR k (wrapF k (subI 0 n)) m
  | .xor, .int k n => intR k (k.wrap (BitVec.ofInt k.bits (if k.signed then -1 else k.max) ^^^ BitVec.ofInt k.bits n).toNat) m
  | .not, .bool b => .val (.bool (!b)) m
  | _, _ => .fail

/-- The bytes of cells. -/
def bytesOf : List MV → Option (List UInt8)
  | [] => some []
  | .int .u8 n :: vs => match bytesOf vs with | some l => some (UInt8.ofNat n.toNat :: l) | none => none
  | _ :: _ => none
def runesOf : List MV → Option (List Int)
  | [] => some []
  | .int .i32 n :: vs => match runesOf vs with | some l => some (n :: l) | none => none
  | _ :: _ => none
def byteMV (b : UInt8) : MV := .int .u8 (.ofNat b.toNat)

/-- The runes of a text from a place on. -/
def runesM (s : List UInt8) : Nat → Nat → List MV
  | 0, _ => []
  | c + 1, i => match Nat.blt i s.length with
    | false => []
    | true => match Utf8.decode ⟨⟨s⟩⟩ i with
      | (r, w) => .int .i32 (Int.ofNat r) :: runesM s c (i + w)
def convBytes (e : TypeId) (s : List UInt8) (m : Mem) : OR :=
  rowK (s.map byteMV) 0 .leaf fun t => m.newK (.cells t s.length e false 0) fun m' => .val (.sl m.next 0 s.length s.length 1 false) m'
def convRunes (e : TypeId) (rs : List MV) (m : Mem) : OR :=
  rowK rs 0 .leaf fun t => m.newK (.cells t rs.length e false 0) fun m' => .val (.sl m.next 0 rs.length rs.length 1 false) m'
def convToSlice (e : TypeId) (x : MV) (m : Mem) : OR :=
  match x with
  | .str s => match P.underlying e, sizeT P e with
    | some (.int .u8), some 1 => convBytes e s m
    | some (.int .i32), some 1 => convRunes e (runesM s s.length 0) m
    | _, _ => .fail
  | _ => .fail
def convToStr (src : TypeDesc) (x : MV) (m : Mem) : OR :=
  match x with
  | .str s => .val (.str s) m
  | .int _ n => .val (.str (Utf8.encode n).data.toList) m
  | .nils => match src with
    | .slice e => match P.underlying e with
      | some (.int .u8) => .val (.str []) m
      | _ => .fail
    | _ => .fail
  | .es .. => match src with
    | .slice e => match P.underlying e with
      | some (.int .u8) => .val (.str []) m
      | _ => .fail
    | _ => .fail
  | .sl b off len _ _ _ => match src with
    | .slice e => match P.underlying e with
      | some (.int .u8) => match m.read b off len with
        | some vs => match bytesOf vs with | some l => .val (.str l) m | none => .fail
        | none => .fail
      | some (.int .i32) => match m.read b off len with
        | some vs => match runesOf vs with | some l => .val (.str (l.flatMap fun r => (Utf8.encode r).data.toList)) m | none => .fail
        | none => .fail
      | _ => .fail
    | _ => .fail
  | _ => .fail
def convToUns (src : TypeDesc) (x : MV) (m : Mem) : OR :=
  match src, x with
  | .pointer _, .nilp => .val .nilp m
  | .pointer t, .ptr b off => match m.get b, sizeT P t with
    | some (.cells _ n _ _ _), some (_ + 1) => match Nat.blt off n with
      | true => .val (.ptr b off) m
      | false => .fail
    | _, _ => .fail
  | _, _ => .fail
def convToPtr (src : TypeDesc) (u : TypeId) (x : MV) (m : Mem) : OR :=
  match src, x with
  | .unsafePointer, .nilp => .val .nilp m
  | .unsafePointer, .ptr b 0 => match m.get b, sizeT P u with
    | some (.cells _ n e _ _), some (s + 1) => match Nat.beq e u && Nat.ble (s + 1) n with
      | true => .val (.ptr b 0) m
      | false => .fail
    | _, _ => .fail
  | _, _ => .fail
def convM (src dst : TypeId) (x : MV) (m : Mem) : OR :=
  match P.underlying src with
  | none => .fail
  | some ts => match P.underlying dst with
    | some (.int k) => match x with | .int _ n => intR k (wrapF k n) m | _ => .fail
    | some .string => convToStr P ts x m
    | some (.slice e) => match ts with | .string => convToSlice P e x m | _ => .fail
    | some .unsafePointer => convToUns P ts x m
    | some (.pointer u) => convToPtr P ts u x m
    | _ => .fail

/-- The bounds of a slice expression: lo, hi, max. -/
def natO : Option MV → Option (Option Nat)
  | none => some none
  | some (.int _ (.ofNat n)) => some (some n)
  | _ => none
def loM (lo : Option Nat) (h c : Nat) : Option (Nat × Nat × Nat) :=
  match lo with
  | none => some (0, h, c)
  | some l => match Nat.ble l h with | true => some (l, h, c) | false => none
def boundsM (len cap : Nat) (lo hi mx : Option MV) : Option (Nat × Nat × Nat) :=
  match natO lo, natO hi, natO mx with
  | some lo, some hi, some none => match hi with
    | none => loM lo len cap
    | some h => match Nat.ble h cap with | true => loM lo h cap | false => none
  | some lo, some (some h), some (some c) => match Nat.ble h c && Nat.ble c cap with | true => loM lo h c | false => none
  | _, _, _ => none
def forceN {β : Type} (n : Nat) (k : Nat → β) : β := match n with | 0 => k 0 | n + 1 => k (n + 1)

def sliceS (s : Nat) (x : MV) (lo hi mx : Option MV) (m : Mem) : OR :=
  match x with
  | .nils => match boundsM 0 0 lo hi mx with
      | some _ => .val .nils m
      | none => .fail
  | .sl b off len cap sz ex => match Nat.beq s sz with
    | false => .fail
    | true => match boundsM len cap lo hi mx with
      | some (l, h, c) => forceN (Nat.add off (Nat.mul l sz)) fun off' => forceN (Nat.sub h l) fun n' => forceN (Nat.sub c l) fun c' =>
        match ex || mx.isSome with
        | true => match Nat.beq c l with
          | true => .val (.sl b off n' c' sz true) m
          | false => .val (.sl b off' n' c' sz true) m
        | false => match Nat.beq c l with
          | true => .val (.es b off (l * sz) sz) m
          | false => .val (.sl b off' n' c' sz false) m
      | none => .fail
  | .es b base adv sz => match boundsM 0 0 lo hi none, mx with
      | some _, none => .val (.es b base adv sz) m
      | _, _ => .fail
  | _ => .fail
def sliceA (n sz : Nat) (x : MV) (lo hi mx : Option MV) (m : Mem) : OR :=
  match x with
  | .ptr b off => match boundsM n n lo hi mx with
    | some (l, h, c) => forceN (Nat.add off (Nat.mul l sz)) fun off' => forceN (Nat.sub h l) fun n' => forceN (Nat.sub c l) fun c' =>
      match Nat.beq c l with
      | true => .val (.sl b off n' c' sz true) m
      | false => .val (.sl b off' n' c' sz true) m
    | none => .fail
  | _ => .fail
def sliceT (x : MV) (lo hi mx : Option MV) (m : Mem) : OR :=
  match x, mx with
  | .str s, none => match boundsM s.length s.length lo hi none with
    | some (l, h, _) => .val (.str ((s.drop l).take (h - l))) m
    | none => .fail
  | _, _ => .fail
def sliceM (t : TypeId) (x : MV) (lo hi mx : Option MV) (m : Mem) : OR :=
  match P.underlying t with
  | some .string => sliceT x lo hi mx m
  | some (.slice e) => match sizeT P e with | some s => sliceS s x lo hi mx m | none => .fail
  | some (.array n e) => match sizeT P e with | some s => sliceA n s x lo hi mx m | none => .fail
  | _ => .fail

def fieldA (s : TypeId) (x : MV) (i : Nat) (m : Mem) : OR :=
  match P.underlying s, x with
  | some (.struct fs), .ptr b off => match fs[i]? with
    | some f => match sizeT P f.type with
      | some 0 => .fail
      | some _ => forceN (Nat.add off f.offset) fun o => .val (.ptr b o) m
      | none => .fail
    | none => .fail
  | _, _ => .fail
def fieldV (t : TypeId) (x : MV) (i : Nat) (m : Mem) : OR :=
  match P.underlying t, x with
  | some (.struct fs), .agg cs => match fs[i]? with
    | some f => match partM P f.type cs f.offset with | some v => .val v m | none => .fail
    | none => .fail
  | _, _ => .fail
def idxAr (n s : Nat) (x ix : MV) (m : Mem) : OR :=
  match x, ix with
  | .ptr b off, .int _ (.ofNat i) => match Nat.blt i n with
    | true => forceN (Nat.add off (Nat.mul i s)) fun o => .val (.ptr b o) m
    | false => .fail
  | _, _ => .fail
def idxSl (s : Nat) (x ix : MV) (m : Mem) : OR :=
  match x, ix with
  | .sl b off len _ sz _, .int _ (.ofNat i) => match Nat.blt i len && Nat.beq s sz with
    | true => forceN (Nat.add off (Nat.mul i s)) fun o => .val (.ptr b o) m
    | false => .fail
  | _, _ => .fail
def indexA (t : TypeId) (x ix : MV) (m : Mem) : OR :=
  match P.underlying t with
  | some (.array n e) => match sizeT P e with | some s => idxAr n s x ix m | none => .fail
  | some (.slice e) => match sizeT P e with | some s => idxSl s x ix m | none => .fail
  | _ => .fail
def nthB : List UInt8 → Nat → Option UInt8
  | [], _ => none
  | b :: _, 0 => some b
  | _ :: l, i + 1 => nthB l i
def idxAgg (n : Nat) (e : TypeId) (s : Nat) (x ix : MV) (m : Mem) : OR :=
  match x, ix with
  | .agg cs, .int _ (.ofNat i) => match Nat.blt i n with
    | true => match partM P e cs (Nat.mul i s) with | some v => .val v m | none => .fail
    | false => .fail
  | _, _ => .fail
def idxStr (x ix : MV) (m : Mem) : OR :=
  match x, ix with
  | .str s, .int _ (.ofNat i) => match nthB s i with
    | some b => intR .u8 (.ofNat b.toNat) m
    | none => .fail
  | _, _ => .fail
def indexV (t : TypeId) (x ix : MV) (m : Mem) : OR :=
  match P.underlying t with
  | some (.array n e) => match sizeT P e with | some s => idxAgg P n e s x ix m | none => .fail
  | some .string => idxStr x ix m
  | _ => .fail

/-- 'x.(T)' that holds, that does not. -/
def yesM (ok : Bool) (v : MV) (m : Mem) : OR := match ok with | true => .val (.tup [v, .bool true]) m | false => .val v m
def noM (a : TypeId) (ok : Bool) (m : Mem) : OR :=
  match ok with
  | true => match zeroT P a with | some z => .val (.tup [z, .bool false]) m | none => .fail
  | false => .fail
def assertI (want : Array (String × TypeId)) (x : MV) (a : TypeId) (ok : Bool) (m : Mem) : OR :=
  match x with
  | .nili => noM P a ok m
  | .iface t v => match P.info? t with
    | some i => match Instr.missingMethod want i.methods with
      | none => yesM ok (.iface t v) m
      | some _ => noM P a ok m
    | none => .fail
  | _ => .fail
def assertC (x : MV) (a : TypeId) (ok : Bool) (m : Mem) : OR :=
  match x with
  | .nili => noM P a ok m
  | .iface t v => match Nat.beq t a with | true => yesM ok v m | false => noM P a ok m
  | _ => .fail
def assertM (x : MV) (a : TypeId) (ok : Bool) (m : Mem) : OR :=
  match P.underlying a with
  | some (.interface want) => assertI P want x a ok m
  | some _ => assertC P x a ok m
  | none => .fail

def makeSl (t : TypeId) (l c : MV) (m : Mem) : OR :=
  match P.underlying t with
  | some (.slice e) => match l, c with
    | .int _ (.ofNat l), .int _ (.ofNat c) => match sizeT P e, bytesT P e, zeroT P e with
      | some s, some by_, some z => match Nat.ble l c && Nat.ble (by_ * c) 140737488355328 && Nat.ble (c * s) 16777216 && Nat.beq z.cells.length s && Nat.ble c 140737488355328 with
        | true => newRowK m e (List.replicate c z.cells).flatten fun b m' => .val (.sl b 0 l c s true) m'
        | false => .fail
      | _, _, _ => .fail
    | _, _ => .fail
  | _ => .fail

/-- Reading what is to be appended. -/
def srcCells (m : Mem) (sz : Nat) : MV → Option (Nat × List MV)
  | .nils => some (0, [])
  | .es .. => some (0, [])
  | .str s => match Nat.beq sz 1 with | true => some (s.length, s.map byteMV) | false => none
  | .sl b off len _ _ _ => match m.read b off (len * sz) with | some vs => some (len, vs) | none => none
  | _ => none

def allOne : List MV → Bool
  | [] => true
  | v :: vs => match v.one with | true => allOne vs | false => false
/-- A new row of old cells and new ones. -/
def freshM (e : TypeId) (s by_ : Nat) (len n : Nat) (old new : List MV) (m : Mem) : OR :=
  match Nat.blt 0 s && Nat.blt 0 by_ && Nat.ble (Nat.mul (len + n) by_) 140737488355328 with
  | true => newRowK m e (old ++ new) fun b m' => .val (.sl b 0 (len + n) (len + n) s false) m'
  | false => .fail
/-- Does it grow in place, or not? The old block dies; the new name is its own, or a new block's. -/
def ambM (e : TypeId) (s by_ : Nat) (b off len n : Nat) (old new : List MV) (m : Mem) : OR :=
  match m.get b with
  | some (.cells _ _ e0 false 0) => match Nat.beq e0 e && allOne new && Nat.beq off 0 with
    | true => m.putK b .dead (freshM e s by_ len n old new)
    | false => .fail
  | _ => .fail
def appendS (e : TypeId) (s by_ : Nat) (n : Nat) (new : List MV) (x : MV) (m : Mem) : OR :=
  match x with
  | .nils => match n with
    | 0 => .val .nils m
    | _ => freshM e s by_ 0 n [] new m
  | .es b base adv sz => match n with
    | 0 => .val (.es b base adv sz) m
    | _ => match Nat.beq sz s with
      | true => ambM e s by_ b (Nat.add base adv) 0 n [] new m
      | false => .fail
  | .sl b off len cap sz ex => match Nat.beq sz s with
    | false => .fail
    | true => match Nat.ble (len + n) cap with
      | true => m.writeK b (off + len * s) new fun
        | some m' => .val (.sl b off (len + n) cap sz ex) m'
        | none => .fail
      | false => match m.read b off (len * s) with
        | none => .fail
        | some old => match ex with
          | true => freshM e s by_ len n old new m
          | false => ambM e s by_ b off len n old new m
  | _ => .fail
def appendM (t : TypeId) (x : MV) (src : MV) (u : TypeId) (m : Mem) : OR :=
  match P.underlying t with
  | some (.slice e) => match P.underlying u with
    | none => .fail
    | some (.int _) => .fail
    | some _ => match sizeT P e, bytesT P e, zeroT P e with
      | some s, some by_, some z => match Nat.beq z.cells.length s with
        | true => match srcCells m s src with
          | none => .fail
          | some (n, new) => appendS e s by_ n new x m
        | false => .fail
      | _, _, _ => .fail
  | _ => .fail

def lenS (x : MV) (m : Mem) : OR :=
  match x with
  | .nils => .val (.int .i64 0) m
  | .es .. => .val (.int .i64 0) m
  | .sl _ _ n _ _ _ => .val (.int .i64 (.ofNat n)) m
  | _ => .fail
def lenMp (x : MV) (m : Mem) : OR :=
  match x with
  | .nilm => .val (.int .i64 0) m
  | .map b => match m.get b with
    | some (.map es _) => .val (.int .i64 (.ofNat es.length)) m
    | _ => .fail
  | _ => .fail
def lenM (t : TypeId) (x : MV) (m : Mem) : OR :=
  match P.underlying t with
  | some .string => match x with | .str s => intR .i64 (.ofNat s.length) m | _ => .fail
  | some (.array n _) => .val (.int .i64 (.ofNat n)) m
  | some (.slice _) => lenS x m
  | some (.map _ _) => lenMp x m
  | _ => .fail

def copyS (s : Nat) (n : Nat) (cs : List MV) (d : MV) (m : Mem) : OR :=
  match d with
  | .nils => .val (.int .i64 0) m
  | .es .. => .val (.int .i64 0) m
  | .sl b off len _ sz _ => match Nat.beq sz s with
    | false => .fail
    | true => forceN (Nat.min n len) fun k => m.writeK b off (cs.take (k * s)) fun
      | some m' => .val (.int .i64 (.ofNat k)) m'
      | none => .fail
  | _ => .fail
def copyM (t : TypeId) (d src : MV) (m : Mem) : OR :=
  match P.underlying t with
  | some (.slice e) => match sizeT P e with
    | some s => match srcCells m s src with
      | none => .fail
      | some (n, cs) => copyS s n cs d m
    | none => .fail
  | _ => .fail

/-- The bytes at a pointer as a text; they may not be written any more. -/
def strRow (u : TypeId) (b n : Nat) (m : Mem) : OR :=
  match m.get b with
  | some (.cells t k e false _) => match Nat.ble n 9223372036854775807 && Nat.beq e u with
    | true => match readT t k 0 n with
      | some vs => match bytesOf vs with
        | some l => m.putK b .dead fun m => .val (.str l) m
        | none => .fail
      | none => .fail
    | false => .fail
  | _ => .fail
def strAtM (pt : TypeId) (x n : MV) (m : Mem) : OR :=
  match x, n with
  | .nilp, .int .i64 (.ofNat 0) => .val (.str []) m
  | .ptr _ _, .int .i64 (.ofNat 0) => .val (.str []) m
  | .ptr b 0, .int .i64 (.ofNat (n + 1)) => match P.underlying pt with
    | some (.pointer u) => match P.underlying u, sizeT P u with
      | some (.int .u8), some 1 => strRow u b (n + 1) m
      | _, _ => .fail
    | _ => .fail
  | _, _ => .fail

def minM (mx : Bool) : MV → List MV → Option MV
  | v, [] => some v
  | .int k a, .int k' b :: r => match sameK k k' with
    | true => match mx with
      | false => match ltI b a with | true => minM mx (.int k b) r | false => minM mx (.int k a) r
      | true => match ltI a b with | true => minM mx (.int k b) r | false => minM mx (.int k a) r
    | false => none
  | _, _ => none

def findM (kt : TypeId) (k : MV) : List ME → Nat → Option (Option (Nat × MV))
  | [], _ => match P.underlying kt, k with
    | some .string, .str _ => some none
    | some (.int _), .int _ _ => some none
    | _, _ => none
  | e :: es, i => match P.underlying kt, k, e.key with
    | some .string, .str a, .str b => match bytesEq a b with
      | true => some (some (i, e.val))
      | false => findM kt k es (i + 1)
    | some (.int _), .int x a, .int y b => match sameK x y with
      | true => match eqI a b with
        | true => some (some (i, e.val))
        | false => findM kt k es (i + 1)
      | false => none
    | _, _, _ => none
def lookE (kt et : TypeId) (k : MV) (ok : Bool) (es : List ME) (m : Mem) : OR :=
  match findM P kt k es 0 with
  | none => .fail
  | some (some (_, v)) => yesM ok v m
  | some none => match zeroT P et with
    | some z => match ok with | true => .val (.tup [z, .bool false]) m | false => .val z m
    | none => .fail
def lookM (t : TypeId) (x k : MV) (ok : Bool) (m : Mem) : OR :=
  match P.underlying t with
  | some (.map kt et) => match x with
    | .nilm => lookE P kt et k ok [] m
    | .map b => match m.get b with
      | some (.map es _) => lookE P kt et k ok es m
      | _ => .fail
    | _ => .fail
  | _ => .fail
def setAt (es : List ME) (i : Nat) (k v : MV) : List ME :=
  match es, i with
  | [], _ => []
  | e :: es, 0 => { e with key := k, val := v } :: es
  | e :: es, i + 1 => e :: setAt es i k v
def updE (kt : TypeId) (b : Nat) (k v : MV) (es : List ME) (clock : Nat) (m : Mem) : OR :=
  match findM P kt k es 0 with
  | none => .fail
  | some (some (i, _)) => m.putK b (.map (setAt es i k v) clock) fun m' => .val (.tup []) m'
  | some none => m.putK b (.map (es ++ [⟨k, v, clock⟩]) (clock + 1)) fun m' => .val (.tup []) m'
def updM (t : TypeId) (x k v : MV) (m : Mem) : OR :=
  match P.underlying t with
  | some (.map kt _) => match x with
    | .map b => match m.get b with
      | some (.map es clock) => updE P kt b k v es clock m
      | _ => .fail
    | _ => .fail
  | _ => .fail

/-- A method of a dynamic type: the function, and its receiver. -/
def methodM (m : Mem) (t : TypeId) (v : MV) (name : String) : Option (FuncId × MV) :=
  match P.info? t with
  | none => none
  | some i => match i.methods.find? (·.name == name) with
    | none => none
    | some me => match me.path.toList, me.func with
      | [], some (f, p) => match P.underlying t, p with
        | some (.pointer _), true => some (f, v)
        | some (.pointer e), false => match v with
          | .ptr b off => match loadV P m e b off with | some x => some (f, x) | none => none
          | _ => none
        | some _, false => some (f, v)
        | _, _ => none
      | _, _ => none

/-- Hooks: functions without a Go body, by number. -/
abbrev Hook := FuncId → List MV → Mem → Option (MV × Mem)

/-- Results of a call. -/
inductive CRes where
  | ok (v : MV) (m : Mem)
  | pan (v : MV) (m : Mem)
  | fail
def OR.plain : OR → OR
  | .val v m => .val v m
  | _ => .fail
abbrev Caller := FuncId → List MV → Mem → CRes
abbrev Yielder := Nat → List MV → Mem → CRes

def CRes.toOR : CRes → OR
  | .ok v m => .val v m
  | .pan v m => .pan v m
  | .fail => .fail

/-- Call a function by its number. -/
def callN (X : Hook) (call : Caller) (g : FuncId) (args : List MV) (m : Mem) : OR :=
  match X g args m with
  | some (v, m') => .val v m'
  | none => match P.funcs[g]? with
    | none => .fail
    | some fn => match fn.name == "runtime.NumGoroutine" with
      | true => .fail
      | false => match fn.body with
        | some _ => (call g args m).toOR
        | none => .fail
def callV (X : Hook) (call : Caller) (yl : Yielder) (f : MV) (args : List MV) (m : Mem) : OR :=
  match f with
  | .func (.func g) first caps => callN P X call g (first ++ args ++ caps) m
  | .func (.yield l) [] _ => (yl l args m).toOR
  | .func (.method name) [.iface t v] _ => match methodM P m t v name with
    | some (g, r) => callN P X call g (r :: args) m
    | none => .fail
  | _ => .fail

def opMove (env : Env) (x : Operand) (m : Mem) : OR := match ops? P env x with | some v => .val v m | none => .fail
def opPick (env : Env) (c a b : Operand) (m : Mem) : OR :=
  match ops? P env c with
  | some (.bool true) => opMove P env a m
  | some (.bool false) => opMove P env b m
  | _ => .fail
def opAlloc (e : TypeId) (m : Mem) : OR :=
  match zeroT P e with
  | some z => newRowK m e z.cells fun b m' => .val (.ptr b 0) m'
  | none => .fail
def opBox (env : Env) (e : TypeId) (x : Operand) (m : Mem) : OR :=
  match ops? P env x with
  | some v => newRowK m e v.cells fun b m' => .val (.ptr b 0) m'
  | none => .fail
def opBuild (env : Env) (t : TypeId) (ps : List (Nat × Operand)) (m : Mem) : OR :=
  match zeroT P t, opsP P env ps with
  | some z, some ps => match buildM P t z.cells ps with
    | some cs => .val (.agg cs) m
    | none => .fail
  | _, _ => .fail
def opBuildSlice (env : Env) (t : TypeId) (n : Nat) (ps : List (Nat × Operand)) (m : Mem) : OR :=
  match P.underlying t, opsP P env ps with
  | some (.slice e), some ps => match sizeT P e, zeroT P e with
    | some s, some z => match Nat.ble (n * s) 16777216 && Nat.beq z.cells.length s with
      | true => match fillM (fun i => some (i * s, s)) (List.replicate n z.cells).flatten ps with
        | some cs => newRowK m e cs fun b m' => .val (.sl b 0 n n s true) m'
        | none => .fail
      | false => .fail
    | _, _ => .fail
  | _, _ => .fail
def opLoad (env : Env) (t : TypeId) (a : Operand) (m : Mem) : OR :=
  match ops? P env a with
  | some (.ptr b off) => match loadV P m t b off with | some v => .val v m | none => .fail
  | _ => .fail
def opStore (env : Env) (t : TypeId) (a x : Operand) (m : Mem) : OR :=
  match ops? P env a, ops? P env x with
  | some (.ptr b off), some v => match sizeT P t with
    | some s => match Nat.beq v.cells.length s with
      | true => m.writeK b off v.cells fun
        | some m' => .val (.tup []) m'
        | none => .fail
      | false => .fail
    | none => .fail
  | _, _ => .fail
def opNil (env : Env) (x : Operand) (m : Mem) : OR :=
  match ops? P env x with
  | some (.ptr b off) => .val (.ptr b off) m
  | some (.iface t v) => .val (.iface t v) m
  | some (.func (.func f) a c) => .val (.func (.func f) a c) m
  | some (.func (.yield f) a c) => .val (.func (.yield f) a c) m
  | _ => .fail
def opBin (env : Env) (op : BinOp) (t : TypeId) (x y : Operand) (m : Mem) : OR :=
  match ops? P env x, ops? P env y with
  | some a, some b => binM P op t x y a b m
  | _, _ => .fail
def op1 (env : Env) (x : Operand) (k : MV → OR) : OR := match ops? P env x with | some v => k v | none => .fail
def op2 (env : Env) (x y : Operand) (k : MV → MV → OR) : OR := match ops? P env x, ops? P env y with | some v, some w => k v w | _, _ => .fail
def opIface (env : Env) (t : TypeId) (x : Operand) (m : Mem) : OR :=
  match P.underlying t, ops? P env x with
  | some (.interface _), _ => .fail
  | some _, some v => .val (.iface t v) m
  | _, _ => .fail
def opFunc (env : Env) (fn : Fn) (fs cs : List Operand) (m : Mem) : OR :=
  match fn with
  | .func f => match opsL P env fs, opsL P env cs with
    | some a, some b => .val (.func (.func f) a b) m
    | _, _ => .fail
  | .method f => match opsL P env fs, opsL P env cs with
    | some a, some b => .val (.func (.method f) a b) m
    | _, _ => .fail
  | _ => .fail
def opO (env : Env) (y : Option Operand) : Option (Option MV) :=
  match y with
  | none => some none
  | some y => match ops? P env y with | some v => some (some v) | none => none
def opSlice (env : Env) (t : TypeId) (x : Operand) (lo hi mx : Option Operand) (m : Mem) : OR :=
  match ops? P env x, opO P env lo, opO P env hi, opO P env mx with
  | some v, some lo, some hi, some mx => sliceM P t v lo hi mx m
  | _, _, _, _ => .fail
def opUpd (env : Env) (t : TypeId) (x k v : Operand) (m : Mem) : OR :=
  match ops? P env x, ops? P env k, ops? P env v with
  | some x, some k, some v => updM P t x k v m
  | _, _, _ => .fail
def opRange (env : Env) (t : TypeId) (x : Operand) (m : Mem) : OR :=
  match P.underlying t, ops? P env x with
  | some .string, some (.str s) => m.newK (.siter s 0) fun m' => .val (.ptr m.next 0) m'
  | _, _ => .fail
def opNext (env : Env) (it : Operand) (m : Mem) : OR :=
  match ops? P env it with
  | some (.ptr b 0) => match m.get b with
    | some (.siter s pos) => match Nat.blt pos s.length with
      | true => match Utf8.decode ⟨⟨s⟩⟩ pos with
        | (c, w) => forceN (pos + w) fun p => forceN c fun c => m.putK b (.siter s p) fun m' => .val (.tup [.bool true, .int .i64 (.ofNat pos), .int .i32 (.ofNat c)]) m'
      | false => .val (.tup [.bool false]) m
    | _ => .fail
  | _ => .fail
def opExtract (env : Env) (x : Operand) (i : Nat) (m : Mem) : OR :=
  match ops? P env x with
  | some (.tup vs) => match vs[i]? with | some v => .val v m | none => .fail
  | _ => .fail
def sliceDataM (x : MV) (m : Mem) : OR :=
  match x with
  | .nils => .val .nilp m
  | .sl b off _ cap _ _ => match cap with
    | 0 => .fail
    | _ + 1 => .val (.ptr b off) m
  | _ => .fail
def opBuiltin (b : Builtin) (ts : List TypeId) (args : List MV) (m : Mem) : OR :=
  match b, args, ts with
  | .append, [x, y], t :: u :: _ => appendM P t x y u m
  | .len, [x], t :: _ => lenM P t x m
  | .unsafeSliceData, [x], _ => sliceDataM x m
  | .unsafeString, [x, n], t :: _ :: _ => strAtM P t x n m
  | .min, x :: r, _ => match minM false x r with | some v => .val v m | none => .fail
  | .max, x :: r, _ => match minM true x r with | some v => .val v m | none => .fail
  | .copy, [x, y], t :: _ => copyM P t x y m
  | _, _, _ => .fail
def opCall (X : Hook) (call : Caller) (yl : Yielder) (env : Env) (c : Call) (m : Mem) : OR :=
  match opsL P env c.args.toList with
  | none => .fail
  | some args => match c.callee with
    | .value f => match ops? P env f with | some f => callV P X call yl f args m | none => .fail
    | .invoke r name => match ops? P env r with
      | some r => callV P X call yl (.func (.method name) [r] []) args m
      | none => .fail
    | .builtin b => (opBuiltin P b c.argTypes.toList args m).plain
def opDefer (env : Env) (c : Call) (m : Mem) : OR :=
  match opsL P env c.args.toList, c.callee with
  | some args, .value f => match ops? P env f with
    | some (.func (.func g) first caps) => .dfr g (first ++ args ++ caps) m
    | _ => .fail
  | _, _ => .fail
def opPanic (env : Env) (x : Operand) (m : Mem) : OR :=
  match ops? P env x with
  | some (.iface t v) => .pan (.iface t v) m
  | _ => .fail
def evPlain (env : Env) (o : Op) (m : Mem) : OR :=
  match o with
  | .move x => opMove P env x m
  | .assign x => opMove P env x m
  | .pick c a b => opPick P env c a b m
  | .alloc e => opAlloc P e m
  | .box e x => opBox P env e x m
  | .build t ps => opBuild P env t ps.toList m
  | .buildSlice t n ps => opBuildSlice P env t n ps.toList m
  | .load t a => opLoad P env t a m
  | .store t a x => opStore P env t a x m
  | .nilCheck x => opNil P env x m
  | .binOp op t x y _ => opBin P env op t x y m
  | .unOp op _ x => op1 P env x fun v => unM op v m
  | .convert s d x => op1 P env x fun v => convM P s d v m
  | .makeInterface t x => opIface P env t x m
  | .makeFunc fn fs cs => opFunc P env fn fs.toList cs.toList m
  | .makeSlice t l c => op2 P env l c fun l c => makeSl P t l c m
  | .slice t x lo hi mx => opSlice P env t x lo hi mx m
  | .fieldAddr s x i => op1 P env x fun v => fieldA P s v i m
  | .field t x i => op1 P env x fun v => fieldV P t v i m
  | .indexAddr t x i => op2 P env x i fun v j => indexA P t v j m
  | .index t x i => op2 P env x i fun v j => indexV P t v j m
  | .typeAssert x _ a ok => op1 P env x fun v => assertM P v a ok m
  | .extract x i => opExtract P env x i m
  | .makeMap _ none => m.newK (.map [] 0) fun m' => .val (.map m.next) m'
  | .lookup t x k ok => op2 P env x k fun v k => lookM P t v k ok m
  | .mapUpdate t x k v => opUpd P env t x k v m
  | .insert t x k v => opUpd P env t x k v m
  | .range t x => opRange P env t x m
  | .next it true => opNext P env it m
  | _ => .fail
def evOp (X : Hook) (call : Caller) (yl : Yielder) (env : Env) (o : Op) (m : Mem) : OR :=
  match o with
  | .call c => opCall P X call yl env c m
  | .defer c => opDefer P env c m
  | .panic x => opPanic P env x m
  | o => (evPlain P env o m).plain
end
end
end Go.Mir

/-! THE MIRROR, ITS CODE: regions, draws of an order, blocks, loops, calls, ranges over functions, deferred calls. -/
namespace Go.Mir
noncomputable section

inductive EX where
  | normal
  | exit (id : Nat)
  | goto (l : Nat)
  | ret
  | pan (v : MV)
inductive MD where
  | mark (b : Nat)
  | call (f : FuncId) (args : List MV)
inductive CR where
  | ok (x : EX) (e : Env) (ds : List MD) (m : Mem)
  | fail

def Env.putK {β : Type} (e : Env) (d : Option Tmp) (v : MV) (bad : β) (k : Env → β) : β :=
  match d with
  | none => k e
  | some d => Env.rec (motive := fun _ => β) (fun l t n m => Bool.rec (motive := fun _ => β) bad (k ⟨.cons d v l, t, n, m⟩) (Nat.blt d n)) e

def wantM (ops : Array Oper) (e : Env) (o : Oper) : Option Bool :=
  match o.guard with
  | none => some true
  | some (j, w) => match ops[j]? with
    | some oj => match oj.dst with
      | some d => match e.get d with
        | some (.bool b) => some (b == w)
        | some _ => some false
        | none => none
      | none => none
    | none => none

section
variable (P : Program)

/-! ### What an operation does with memory -/
inductive Kd where
  | pure | read | alloc | eff
def kd (o : Op) : Kd :=
  match o with
  | .move _ | .assign _ | .pick .. | .build .. | .extract .. | .field .. | .fieldAddr .. | .indexAddr .. | .index .. | .nilCheck _ | .unOp .. | .binOp .. | .makeInterface .. | .makeFunc .. | .typeAssert .. | .slice .. => .pure
  | .load .. | .lookup .. => .read
  | .alloc _ | .box .. | .buildSlice .. | .makeSlice .. => .alloc
  | .convert s d _ => match P.underlying s, P.underlying d with
    | some (.slice _), _ => .read
    | some (.pointer _), _ => .eff
    | some .unsafePointer, _ => .eff
    | some .string, some (.slice _) => .alloc
    | _, _ => .pure
  | .call { callee := .builtin .len, argTypes, .. } => match argTypes[0]? with
    | some t => match P.underlying t with
      | some (.map _ _) => .read
      | _ => .pure
    | none => .pure
  | .call { callee := .builtin .min, .. } | .call { callee := .builtin .max, .. } | .call { callee := .builtin .unsafeSliceData, .. } => .pure
  | _ => .eff
def isMove : Op → Bool
  | .move _ => true
  | _ => false

/-! ### The static look at a region that draws its order -/
def namesOf (o : Oper) : List Tmp := o.op.operands.toList.filterMap fun | .tmp t => some t | _ => none
/-- i stands before j in the order (masks of what stands before each). -/
def bef (b : Array Nat) (i j : Nat) : Bool := (b.getD j 0).testBit i
def gdst (ops : Array Oper) (o : Oper) : List Tmp := match o.guard with | some (j, _) => ((ops[j]?).bind (·.dst)).toList | none => []
/-- Each writer of a temporary stands in order with each that names it. -/
def tmpOk (ops : Array Oper) (b : Array Nat) : Bool :=
  ops.toList.zipIdx.all fun (o, j) => (o.dst.toList ++ gdst ops o ++ namesOf o).all fun t =>
    ops.toList.zipIdx.all fun (o', i) => o'.dst != some t || Nat.beq i j || bef b (min i j) (max i j)
def edgeOk (ops : Array Oper) : Bool :=
  ops.toList.zipIdx.all fun (o, i) => o.after.all fun e => !Region.binds .any e || Nat.blt e.on i
def regOk (ops : Array Oper) : Bool := edgeOk ops && tmpOk ops (Region.before ops)

/-! ### Sameness of values -/
mutual
def same : MV → MV → Bool
  | .bool a, .bool b => a == b
  | .int k a, .int j b => decide (k = j) && decide (a = b)
  | .str a, .str b => bytesEq a b
  | .nilp, .nilp | .nils, .nils | .nilf, .nilf | .nili, .nili | .nilm, .nilm => true
  | .ptr a x, .ptr b y => Nat.beq a b && Nat.beq x y
  | .sl a x l c s e, .sl b y m d t f => Nat.beq a b && Nat.beq x y && Nat.beq l m && Nat.beq c d && Nat.beq s t && (e == f)
  | .es a x l s, .es b y m t => Nat.beq a b && Nat.beq x y && Nat.beq l m && Nat.beq s t
  | .iface t v, .iface u w => Nat.beq t u && same v w
  | .agg a, .agg b => sames a b
  | .tup a, .tup b => sames a b
  | .map a, .map b => Nat.beq a b
  | .func (.func f) a c, .func (.func g) b d => Nat.beq f g && sames a b && sames c d
  | .func (.yield f) a c, .func (.yield g) b d => Nat.beq f g && sames a b && sames c d
  | .func (.method f) a c, .func (.method g) b d => decide (f = g) && sames a b && sames c d
  | _, _ => false
def sames : List MV → List MV → Bool
  | [], [] => true
  | x :: xs, y :: ys => same x y && sames xs ys
  | _, _ => false
end

/-- Of each function the mask of the temporaries that are kept beyond a region (advice: it may be anything). -/
abbrev Masks := FuncId → Nat
variable (X : Hook) (call : Caller) (yl : Yielder)

/-! ### Regions in the order of the text -/
def evOps (rd : Option Nat) (ops : Array Oper) : List Oper → Env → List MD → Mem → CR
  | [], e, ds, m => e.flushK fun e => .ok .normal e ds m
  | o :: os, e, ds, m => match wantM ops e o with
    | none => .fail
    | some false => e.putK o.dst (.tup []) .fail fun e => evOps rd ops os e ds m
    | some true => match evOp P X call yl e o.op m with
      | .val v m1 => match Nat.ble m.next m1.next with
        | true => e.putK o.dst v .fail fun e => evOps rd ops os e ds m1
        | false => .fail
      | .pan v m1 => match Nat.ble m.next m1.next with
        | true => .ok (.pan v) e ds m1
        | false => .fail
      | .dfr f args m1 => match rd with
        | none => e.putK o.dst (.tup []) .fail fun e => evOps rd ops os e (.call f args :: ds) m1
        | some _ => .fail
      | .fail => .fail

/-! ### Regions that draw their order -/
/-- What one operation came to: skipped, or its value; its environment and the memory ahead of it. -/
structure En where
  i : Nat
  o : Oper
  skip : Bool
  k : Kd
  e : Env
  m : Mem
  v : MV
inductive DR where
  | ok (es : List En) (e : Env) (m : Mem)
  | pan (es : List En) (at_ : En) (m : Mem)
  | fail

/-- The run in the order of the text; what each came to, the last first. -/
def runD (ops : Array Oper) : List Oper → Nat → Env → Mem → List En → DR
  | [], _, e, m, es => .ok es e m
  | o :: os, i, e, m, es => match wantM ops e o with
    | none => .fail
    | some false => e.putK o.dst (.tup []) .fail fun e' => runD ops os (i + 1) e' m (⟨i, o, true, .pure, e, m, .tup []⟩ :: es)
    | some true => match evOp P X call yl e o.op m with
      | .val v m' => match Nat.ble m.next m'.next with
        | true => e.putK o.dst v .fail fun e' => runD ops os (i + 1) e' m' (⟨i, o, false, kd P o.op, e, m, v⟩ :: es)
        | false => .fail
      | .pan v m' => match Nat.ble m.next m'.next with
        | true => .pan es ⟨i, o, false, .eff, e, m, v⟩ m'
        | false => .fail
      | _ => .fail

def En.isEff (x : En) : Bool := match x.k with | .eff => true | _ => false
def En.isAlloc (x : En) : Bool := match x.k with | .alloc => true | _ => false
def En.isRead (x : En) : Bool := match x.k with | .read => true | _ => false

/-- Effects (in their order) stand one behind the other. -/
def chain (b : Array Nat) : List En → Bool
  | x :: y :: l => bef b x.i y.i && chain b (y :: l)
  | _ => true

/-- A read comes to the same wherever it may stand: 'done': effects ahead, 'rest': effects behind, with the memory ahead of each; 'last': the memory behind them all. -/
def readAll (b : Array Nat) (x : En) (last : Mem) : List En → List En → Bool
  | done, rest =>
    let here (m : Mem) : Bool := match evOp P X call yl x.e x.o.op m with | .val v _ => same v x.v | _ => false
    let free : Bool := rest.any (fun y => bef b y.i x.i) || done.any (fun y => bef b x.i y.i)
    match rest with
    | [] => free || here last
    | y :: rest => (free || here y.m) && readAll b x last (y :: done) rest

def drawOk (b : Array Nat) (es : List En) (last : Mem) (pan : Option En) : Bool :=
  let fx := (es.filter (·.isEff)).reverse
  let fx' := fx ++ pan.toList
  chain b fx' && (match fx, es.any (·.isAlloc) with
    | [], false => true
    | _, _ => es.all fun x => !x.isRead || readAll P X call yl b x last [] fx)

/-- Forget what a region writes. -/
def dropK {β : Type} : List Oper → T MV → (T MV → β) → β
  | [], t, k => k t
  | o :: os, t, k => match o.dst with
    | none => dropK os t k
    | some d => T.setK (pth d) none t fun t => dropK os t k

def evDraw (ops : Array Oper) (e : Env) (ds : List MD) (m : Mem) : CR :=
  match regOk ops with
  | false => .fail
  | true =>
    let b := Region.before ops
    match runD P X call yl ops ops.toList 0 e m [] with
    | .ok es e' m' => match drawOk P X call yl b es m' none with
      | true => e'.flushK fun e' => .ok .normal e' ds m'
      | false => .fail
    | .pan es x m' =>
      match drawOk P X call yl b es x.m (some x) && (ops.toList.zipIdx.all fun (_, i) => Nat.ble i x.i || bef b x.i i) with
      | true => e.flushK fun e1 => dropK ops.toList e1.t fun t => .ok (.pan x.v) ⟨.nil, t, e1.n, e1.k⟩ ds m'
      | false => .fail
    | .fail => .fail

/-! ### Code -/
def bindTmps {β : Type} : List Tmp → List MV → Env → β → (Env → β) → β
  | [], [], e, _, k => k e
  | t :: ts, v :: vs, e, bad, k => e.putK (some t) v bad fun e => bindTmps ts vs e bad k
  | _, _, _, bad, _ => bad

/-- Code inside a scope: jumps to its labels. -/
def scopeK (ev : Code → Env → List MD → Mem → CR) (body : Code) : Nat → Code → Env → List MD → Mem → CR
  | 0, _, _, _, _ => .fail
  | n + 1, c, e, ds, m => match ev c e ds m with
    | .ok (.goto l) e ds m => match findLabel body l with
      | some rest => scopeK ev body n rest e ds m
      | none => .ok (.goto l) e ds m
    | r => r

/-- A round of a range over a function. -/
def yieldM (ev : Option Nat → Code → Env → List MD → Mem → CR) (l : Nat) (args : List MV) (m : Mem) : CRes :=
  match m.get l with
  | some (.loop _ _ env ps assign body _) => bindTmps ps args env .fail fun e =>
    match ev (some l) assign e [] m with
    | .ok .normal e [] m => match m.get l with
      | some (.loop .ready pend' env' ps' assign' body' defers') =>
        m.putK l (.loop .busy pend' env' ps' assign' body' defers') fun m =>
        match ev (some l) body e [] m with
        | .ok x _ [] m => match m.get l with
          | some (.loop _ _ env'' ps'' assign'' body'' defers'') =>
            let fin (j : Option Code) : CRes := match j with
              | none => m.putK l (.loop .ready none env'' ps'' assign'' body'' defers'') fun m => .ok (.bool true) m
              | some c => m.putK l (.loop .done (some c) env'' ps'' assign'' body'' defers'') fun m => .ok (.bool false) m
            match x with
            | .normal => fin none
            | .ret => fin (some .ret)
            | .exit id => fin (some (.exit id))
            | .goto t => fin (some (.goto t))
            | .pan _ => .fail
          | _ => .fail
        | _ => .fail
      | _ => .fail
    | _ => .fail
  | _ => .fail

/-- 'for .. := range g { .. }'. -/
def rangeM (ev : Code → Env → List MD → Mem → CR) (rd : Option Nat) (g : Operand) (ps : List Tmp) (assign body : Code) (e : Env) (ds : List MD) (m : Mem) : CR :=
  match ops? P e g with
  | some (.func (.func f) first caps) => match P.funcs[f]? with
    | none => .fail
    | some fd => match fd.name == "runtime.NumGoroutine", fd.body with
      | false, some _ =>
        let go (l : Nat) (ds : List MD) (m : Mem) : CR :=
          match call f (first ++ [.func (.yield l) [] []] ++ caps) m with
          | .ok _ m1 => match Nat.ble m.next m1.next with
            | false => .fail
            | true => match m1.get l with
              | some (.loop st pend env' ps' a' b' df) => match st with
                | .busy => .fail
                | _ => m1.putK l (.loop .exhausted pend env' ps' a' b' df) fun m => match pend with
                  | none => .ok .normal e ds m
                  | some c => ev c e ds m
              | _ => .fail
          | .pan v m1 => match Nat.ble m.next m1.next with
            | false => .fail
            | true => .ok (.pan v) e ds m1
          | .fail => .fail
        match rd with
        | none => m.newK (.dblk true) fun m1 => m1.newK (.loop .ready none e ps assign body m.next) fun m2 => go m1.next (.mark m.next :: ds) m2
        | some r => match m.get r with
          | some (.loop _ _ _ _ _ _ df) => m.newK (.loop .ready none e ps assign body df) fun m2 => go m.next ds m2
          | _ => .fail
      | _, _ => .fail
  | _ => .fail

/-- One step of code, the rest by 'ev'. 'rd': the loop of whose round it is. -/
def evStep (k : Nat) (ev : Option Nat → Code → Env → List MD → Mem → CR) (rd : Option Nat) (c : Code) (e : Env) (ds : List MD) (m : Mem) : CR :=
  match c with
  | .skip | .label _ => .ok .normal e ds m
  | .region _ ops false => evOps P X call yl rd ops ops.toList e ds m
  | .region _ ops true => evDraw P X call yl ops e ds m
  | .seq a b => match ev rd a e ds m with
    | .ok .normal e ds m => ev rd b e ds m
    | r => r
  | .cond c a b => match ops? P e c with
    | some (.bool true) => ev rd a e ds m
    | some (.bool false) => ev rd b e ds m
    | _ => .fail
  | .block id b => match ev rd b e ds m with
    | .ok (.exit i) e ds m => match Nat.beq i id with
      | true => .ok .normal e ds m
      | false => .ok (.exit i) e ds m
    | r => r
  | .loop b => match ev rd b e ds m with
    | .ok .normal e ds m => ev rd (.loop b) e ds m
    | r => r
  | .scope b => scopeK (ev rd) b k b e ds m
  | .exit i => .ok (.exit i) e ds m
  | .goto l => .ok (.goto l) e ds m
  | .ret => .ok .ret e ds m
  | .rangeFunc g ps a b => rangeM P call (ev rd) rd g ps.toList a b e ds m
  | .refuse _ => .fail

/-! ### Leaving a function -/
def results? (fn : Func) (e : Env) (m : Mem) : Option MV :=
  let rec go : List ResultVar → Option (List MV)
    | [] => some []
    | .tmp t :: l => match e.get t with
      | some v => match go l with | some vs => some (v :: vs) | none => none
      | none => none
    | .cell a t :: l => match e.get a with
      | some (.ptr b off) => match loadV P m t b off with
        | some v => match go l with | some vs => some (v :: vs) | none => none
        | none => none
      | _ => none
  match go fn.results.toList with
  | some [v] => some v
  | some vs => some (.tup vs)
  | none => none

/-- How a function is left: by return, or by a panic. -/
inductive LM where
  | ret
  | pan (v : MV)
  | rec_ (v : MV)

/-- Operations of a deferred function: no calls; recover. -/
def dOps (ops : Array Oper) : List Oper → Env → LM → Mem → Option (Env × LM × Mem)
  | [], e, u, m => e.flushK fun e => some (e, u, m)
  | o :: os, e, u, m => match wantM ops e o with
    | none => none
    | some false => e.putK o.dst (.tup []) none fun e => dOps ops os e u m
    | some true => match o.op with
      | .call { callee := .builtin .recover, .. } => match u with
        | .pan v => e.putK o.dst v none fun e => dOps ops os e (.rec_ v) m
        | _ => e.putK o.dst .nili none fun e => dOps ops os e u m
      | .call { callee := .value _, .. } => none
      | .call { callee := .invoke .., .. } => none
      | _ => match evOp P X call yl e o.op m with
        | .val v m1 => match Nat.ble m.next m1.next with
          | true => e.putK o.dst v none fun e => dOps ops os e u m1
          | false => none
        | _ => none
def dCode : Nat → Code → Env → LM → Mem → Option (EX × Env × LM × Mem)
  | 0, _, _, _, _ => none
  | n + 1, c, e, u, m => match c with
    | .skip => some (.normal, e, u, m)
    | .region _ ops false => match dOps P X call yl ops ops.toList e u m with
      | some (e, u, m) => some (.normal, e, u, m)
      | none => none
    | .seq a b => match dCode n a e u m with
      | some (.normal, e, u, m) => dCode n b e u m
      | r => r
    | .cond c a b => match ops? P e c with
      | some (.bool true) => dCode n a e u m
      | some (.bool false) => dCode n b e u m
      | _ => none
    | .ret => some (.ret, e, u, m)
    | _ => none

def envL : List MV → Nat → EL → EL
  | [], _, l => l
  | v :: vs, i, l => envL vs (i + 1) (.cons i v l)
def env0 {β : Type} (n mask : Nat) (args : List MV) (k : Env → β) : β := Env.flushK ⟨envL args 0 .nil, .leaf, n, mask⟩ k

def leave (K : Masks) (fn : Func) (e : Env) : List MD → LM → Mem → CRes
  | [], u, m => match u with
    | .pan v => .pan v m
    | .ret => match results? P fn e m with | some v => .ok v m | none => .fail
    | .rec_ _ => .fail
  | .mark b :: ds, u, m => match m.get b with
    | some (.dblk true) => m.putK b (.dblk false) fun m => leave K fn e ds u m
    | _ => .fail
  | .call f args :: ds, u, m => match P.funcs[f]? with
    | some fd => match fd.name == "runtime.NumGoroutine", fd.body, fd.results.toList with
      | false, some c, [] => env0 (args.length + (fd.ntmps - args.length)) (K f) args fun e' => match dCode P X call yl 1000 c e' u m with
        | some (.normal, _, u, m) => leave K fn e ds (match u with | .rec_ _ => .ret | u => u) m
        | some (.ret, _, u, m) => leave K fn e ds (match u with | .rec_ _ => .ret | u => u) m
        | _ => .fail
      | _, _, _ => .fail
    | none => .fail

def callF (K : Masks) (ev : Option Nat → Code → Env → List MD → Mem → CR) (f : FuncId) (args : List MV) (m : Mem) : CRes :=
  match P.funcs[f]? with
  | none => .fail
  | some fn => match fn.body with
    | none => .fail
    | some c => env0 (args.length + (fn.ntmps - args.length)) (K f) args fun e => match ev none c e [] m with
      | .ok .normal e ds m => leave P X call yl K fn e ds .ret m
      | .ok .ret e ds m => leave P X call yl K fn e ds .ret m
      | .ok (.pan v) e ds m => leave P X call yl K fn e ds (.pan v) m
      | _ => .fail
end

/-- Code, with so much fuel. -/
def ev (P : Program) (X : Hook) (K : Masks) : Nat → Option Nat → Code → Env → List MD → Mem → CR
  | 0 => fun _ _ _ _ _ => .fail
  | n + 1 => fun rd c e ds m =>
    evStep P X (fun f a m => callF P X (fun _ _ _ => .fail) (fun _ _ _ => .fail) K (ev P X K n) f a m) (yieldM (ev P X K n)) n (ev P X K n) rd c e ds m

def evCall (P : Program) (X : Hook) (K : Masks) (n : Nat) (f : FuncId) (args : List MV) (m : Mem) : CRes :=
  callF P X (fun _ _ _ => .fail) (fun _ _ _ => .fail) K (ev P X K n) f args m
end
end Go.Mir

/-! THE MIRROR, LAWS 1: trees, environments. -/
namespace Go.Mir
noncomputable section

/-! ### Places -/
def Pth.val : Pth → Nat
  | .e => 0
  | .a p => 4 * p.val
  | .b p => 4 * p.val + 1
  | .c p => 4 * p.val + 2
  | .d p => 4 * p.val + 3

theorem dig_val (r : Nat) (p : Pth) (h : r < 4) : (dig r p).val = 4 * p.val + r := by
  match r, h with
  | 0, _ => rfl
  | 1, _ => rfl
  | 2, _ => rfl
  | 3, _ => rfl

theorem pthA_val : ∀ (f n : Nat), n < f → (pthA f n).val = n := by
  intro f
  induction f with
  | zero => intro n h; omega
  | succ f ih =>
    intro n h
    cases n with
    | zero => rfl
    | succ k =>
      have h1 : Nat.mod (k + 1) 4 = (k + 1) % 4 := rfl
      have h2 : Nat.div (k + 1) 4 = (k + 1) / 4 := rfl
      simp only [pthA, h1, h2]
      rw [dig_val _ _ (Nat.mod_lt _ (by decide)), ih _ (by omega)]
      omega

theorem pth_val (n : Nat) : (pth n).val = n := pthA_val (n + 1) n (Nat.lt_succ_self n)
theorem pth_inj {m n : Nat} (h : pth m = pth n) : m = n := by rw [← pth_val m, ← pth_val n, h]

/-! ### Trees -/
section
variable {α β : Type}
theorem T.get_leaf (p : Pth) : T.get p (.leaf : T α) = none := by cases p <;> rfl
theorem T.get_e (v : Option α) (a b c d : T α) : T.get .e (.node v a b c d) = v := rfl
theorem T.get_a (p : Pth) (v : Option α) (a b c d : T α) : T.get (.a p) (.node v a b c d) = T.get p a := rfl
theorem T.get_b (p : Pth) (v : Option α) (a b c d : T α) : T.get (.b p) (.node v a b c d) = T.get p b := rfl
theorem T.get_c (p : Pth) (v : Option α) (a b c d : T α) : T.get (.c p) (.node v a b c d) = T.get p c := rfl
theorem T.get_d (p : Pth) (v : Option α) (a b c d : T α) : T.get (.d p) (.node v a b c d) = T.get p d := rfl

def T.set (p : Pth) (x : Option α) (t : T α) : T α := T.setK p x t id

theorem T.setK_eq (x : Option α) : ∀ (p : Pth) (t : T α) (k : T α → β), T.setK p x t k = k (T.set p x t) := by
  have key : ∀ (p : Pth) (t : T α), (∀ (β : Type) (k : T α → β), T.setK p x t k = k (T.set p x t)) := by
    intro p
    induction p with
    | e => intro t β k; cases t <;> rfl
    | a p ih =>
      intro t β k
      cases t with
      | leaf => exact (ih .leaf β _).trans (congrArg k (ih .leaf (T α) fun a => .node none a .leaf .leaf .leaf).symm)
      | node v a b c d => exact (ih a β _).trans (congrArg k (ih a (T α) fun a => .node v a b c d).symm)
    | b p ih =>
      intro t β k
      cases t with
      | leaf => exact (ih .leaf β _).trans (congrArg k (ih .leaf (T α) fun b => .node none .leaf b .leaf .leaf).symm)
      | node v a b c d => exact (ih b β _).trans (congrArg k (ih b (T α) fun b => .node v a b c d).symm)
    | c p ih =>
      intro t β k
      cases t with
      | leaf => exact (ih .leaf β _).trans (congrArg k (ih .leaf (T α) fun c => .node none .leaf .leaf c .leaf).symm)
      | node v a b c d => exact (ih c β _).trans (congrArg k (ih c (T α) fun c => .node v a b c d).symm)
    | d p ih =>
      intro t β k
      cases t with
      | leaf => exact (ih .leaf β _).trans (congrArg k (ih .leaf (T α) fun d => .node none .leaf .leaf .leaf d).symm)
      | node v a b c d => exact (ih d β _).trans (congrArg k (ih d (T α) fun d => .node v a b c d).symm)
  exact fun p t k => key p t β k

theorem T.set_a (p : Pth) (x : Option α) (v : Option α) (a b c d : T α) : T.set (.a p) x (.node v a b c d) = .node v (T.set p x a) b c d := T.setK_eq x p a (fun a => (T.node v a b c d : T α))
theorem T.set_b (p : Pth) (x : Option α) (v : Option α) (a b c d : T α) : T.set (.b p) x (.node v a b c d) = .node v a (T.set p x b) c d := T.setK_eq x p b (fun b => (T.node v a b c d : T α))
theorem T.set_c (p : Pth) (x : Option α) (v : Option α) (a b c d : T α) : T.set (.c p) x (.node v a b c d) = .node v a b (T.set p x c) d := T.setK_eq x p c (fun c => (T.node v a b c d : T α))
theorem T.set_d (p : Pth) (x : Option α) (v : Option α) (a b c d : T α) : T.set (.d p) x (.node v a b c d) = .node v a b c (T.set p x d) := T.setK_eq x p d (fun d => (T.node v a b c d : T α))
theorem T.set_al (p : Pth) (x : Option α) : T.set (.a p) x .leaf = .node none (T.set p x .leaf) .leaf .leaf .leaf := T.setK_eq x p .leaf (fun a => (T.node none a .leaf .leaf .leaf : T α))
theorem T.set_bl (p : Pth) (x : Option α) : T.set (.b p) x .leaf = .node none .leaf (T.set p x .leaf) .leaf .leaf := T.setK_eq x p .leaf (fun b => (T.node none .leaf b .leaf .leaf : T α))
theorem T.set_cl (p : Pth) (x : Option α) : T.set (.c p) x .leaf = .node none .leaf .leaf (T.set p x .leaf) .leaf := T.setK_eq x p .leaf (fun c => (T.node none .leaf .leaf c .leaf : T α))
theorem T.set_dl (p : Pth) (x : Option α) : T.set (.d p) x .leaf = .node none .leaf .leaf .leaf (T.set p x .leaf) := T.setK_eq x p .leaf (fun d => (T.node none .leaf .leaf .leaf d : T α))

theorem T.get_set (x : Option α) : ∀ (p : Pth) (t : T α), T.get p (T.set p x t) = x := by
  intro p
  induction p with
  | e => intro t; cases t <;> rfl
  | a p ih => intro t; cases t <;> simp only [T.set_a, T.set_al, T.get_a, ih]
  | b p ih => intro t; cases t <;> simp only [T.set_b, T.set_bl, T.get_b, ih]
  | c p ih => intro t; cases t <;> simp only [T.set_c, T.set_cl, T.get_c, ih]
  | d p ih => intro t; cases t <;> simp only [T.set_d, T.set_dl, T.get_d, ih]

theorem T.set_el (x : Option α) : T.set .e x .leaf = .node x .leaf .leaf .leaf .leaf := rfl
theorem T.set_e (x v : Option α) (a b c d : T α) : T.set .e x (.node v a b c d) = .node x a b c d := rfl

theorem T.get_set_ne (x : Option α) : ∀ (p q : Pth) (t : T α), p ≠ q → T.get p (T.set q x t) = T.get p t := by
  intro p
  induction p with
  | e =>
    intro q t h
    cases q with
    | e => exact absurd rfl h
    | a q => cases t <;> simp only [T.set_a, T.set_al, T.get_e, T.get_leaf]
    | b q => cases t <;> simp only [T.set_b, T.set_bl, T.get_e, T.get_leaf]
    | c q => cases t <;> simp only [T.set_c, T.set_cl, T.get_e, T.get_leaf]
    | d q => cases t <;> simp only [T.set_d, T.set_dl, T.get_e, T.get_leaf]
  | a p ih =>
    intro q t h
    cases q with
    | e => cases t <;> simp only [T.set_e, T.set_el, T.get_a, T.get_leaf]
    | a q => cases t <;> simp only [T.set_a, T.set_al, T.get_a, ih q _ (fun e => h (e ▸ rfl)), T.get_leaf]
    | b q => cases t <;> simp only [T.set_b, T.set_bl, T.get_a, T.get_leaf]
    | c q => cases t <;> simp only [T.set_c, T.set_cl, T.get_a, T.get_leaf]
    | d q => cases t <;> simp only [T.set_d, T.set_dl, T.get_a, T.get_leaf]
  | b p ih =>
    intro q t h
    cases q with
    | e => cases t <;> simp only [T.set_e, T.set_el, T.get_b, T.get_leaf]
    | a q => cases t <;> simp only [T.set_a, T.set_al, T.get_b, T.get_leaf]
    | b q => cases t <;> simp only [T.set_b, T.set_bl, T.get_b, ih q _ (fun e => h (e ▸ rfl)), T.get_leaf]
    | c q => cases t <;> simp only [T.set_c, T.set_cl, T.get_b, T.get_leaf]
    | d q => cases t <;> simp only [T.set_d, T.set_dl, T.get_b, T.get_leaf]
  | c p ih =>
    intro q t h
    cases q with
    | e => cases t <;> simp only [T.set_e, T.set_el, T.get_c, T.get_leaf]
    | a q => cases t <;> simp only [T.set_a, T.set_al, T.get_c, T.get_leaf]
    | b q => cases t <;> simp only [T.set_b, T.set_bl, T.get_c, T.get_leaf]
    | c q => cases t <;> simp only [T.set_c, T.set_cl, T.get_c, ih q _ (fun e => h (e ▸ rfl)), T.get_leaf]
    | d q => cases t <;> simp only [T.set_d, T.set_dl, T.get_c, T.get_leaf]
  | d p ih =>
    intro q t h
    cases q with
    | e => cases t <;> simp only [T.set_e, T.set_el, T.get_d, T.get_leaf]
    | a q => cases t <;> simp only [T.set_a, T.set_al, T.get_d, T.get_leaf]
    | b q => cases t <;> simp only [T.set_b, T.set_bl, T.get_d, T.get_leaf]
    | c q => cases t <;> simp only [T.set_c, T.set_cl, T.get_d, T.get_leaf]
    | d q => cases t <;> simp only [T.set_d, T.set_dl, T.get_d, ih q _ (fun e => h (e ▸ rfl)), T.get_leaf]

theorem T.get_pth_set (x : Option α) (m n : Nat) (t : T α) : T.get (pth m) (T.set (pth n) x t) = if m = n then x else T.get (pth m) t := by
  by_cases h : m = n
  · rw [h, if_pos rfl, T.get_set]
  · rw [if_neg h, T.get_set_ne _ _ _ _ (fun e => h (pth_inj e))]
end

/-! ### Environments -/
theorem EL.find_nil (i : Nat) : EL.find i .nil = none := rfl
theorem EL.find_cons (i j : Nat) (v : MV) (r : EL) : EL.find i (.cons j v r) = if i = j then some v else EL.find i r := by
  show Bool.rec (motive := fun _ => Option MV) (EL.find i r) (some v) (Nat.beq i j) = _
  by_cases h : i = j
  · subst h; rw [if_pos rfl, Nat.beq_refl]
  · rw [if_neg h, show Nat.beq i j = false from by rw [← Bool.not_eq_true]; exact fun e => h (Nat.eq_of_beq_eq_true e)]

theorem Env.get_def (e : Env) (i : Nat) : e.get i = match EL.find i e.l with | some v => some v | none => if keeps e.k i = true then T.get (pth i) e.t else none := by
  unfold Env.get
  cases EL.find i e.l with
  | some v => rfl
  | none => cases keeps e.k i <;> rfl

theorem flushT_eq {β : Type} (k : Nat) : ∀ (l : EL) (t : T MV) (g : T MV → β), flushT k l t g = g (flushT k l t id) := by
  intro l
  have key : ∀ (t : T MV) (β : Type) (g : T MV → β), flushT k l t g = g (flushT k l t id) := by
    induction l with
    | nil => intro t β g; rfl
    | cons i v r ih =>
      intro t β g
      show flushT k r t (fun t => Bool.rec (motive := fun _ => β) (g t) (T.setK (pth i) (some v) t g) (keeps k i)) =
        g (flushT k r t (fun t => Bool.rec (motive := fun _ => T MV) (id t) (T.setK (pth i) (some v) t id) (keeps k i)))
      rw [ih t β, ih t (T MV) (fun t => Bool.rec (motive := fun _ => T MV) (id t) (T.setK (pth i) (some v) t id) (keeps k i))]
      cases keeps k i with
      | false => rfl
      | true => exact T.setK_eq _ _ _ _
  exact fun t g => key t β g

def Env.flush (e : Env) : Env := ⟨.nil, flushT e.k e.l e.t id, e.n, e.k⟩
theorem Env.flushK_eq {β : Type} (e : Env) (g : Env → β) : e.flushK g = g e.flush := flushT_eq e.k e.l e.t (fun t => g ⟨.nil, t, e.n, e.k⟩)

theorem flushT_get (k : Nat) (j : Nat) : ∀ (l : EL) (t : T MV), T.get (pth j) (flushT k l t id) = if keeps k j = true then (match EL.find j l with | some v => some v | none => T.get (pth j) t) else T.get (pth j) t := by
  intro l
  induction l with
  | nil => intro t; simp [flushT, EL.find]
  | cons i v r ih =>
    intro t
    have h1 : flushT k (.cons i v r) t id = Bool.rec (motive := fun _ => T MV) (flushT k r t id) (T.set (pth i) (some v) (flushT k r t id)) (keeps k i) :=
      flushT_eq k r t (fun t => Bool.rec (motive := fun _ => T MV) (id t) (T.setK (pth i) (some v) t id) (keeps k i))
    rw [h1, EL.find_cons]
    by_cases hji : j = i
    · subst hji
      cases hk : keeps k j with
      | false => simp [ih, hk]
      | true => simp [T.get_set]
    · cases hk : keeps k i with
      | false => simp only [ih, hji, if_false]
      | true => simp only [T.get_pth_set, hji, if_false, ih]

/-- A flush forgets, and turns nothing. -/
theorem Env.flush_get {e : Env} {i : Nat} {v : MV} (h : e.flush.get i = some v) : e.get i = some v := by
  have h1 : e.flush.get i = if keeps e.k i = true then T.get (pth i) (flushT e.k e.l e.t id) else none := by
    rw [Env.get_def]; rfl
  rw [h1] at h
  rw [Env.get_def]
  by_cases hk : keeps e.k i = true
  · rw [if_pos hk, flushT_get, if_pos hk] at h
    cases hf : EL.find i e.l with
    | some u => rw [hf] at h; exact h
    | none => rw [hf] at h; simp only [if_pos hk]; exact h
  · rw [if_neg hk] at h; cases h

theorem Env.get_cons (e : Env) (d : Nat) (v : MV) (i : Nat) : Env.get ⟨.cons d v e.l, e.t, e.n, e.k⟩ i = if i = d then some v else e.get i := by
  rw [Env.get_def, Env.get_def, EL.find_cons]
  by_cases h : i = d
  · simp [h]
  · simp [h]
end
end Go.Mir

/-! THE MIRROR, LAWS 2: how the mirror's memory stands to the machine's. -/
namespace Go.Mir
noncomputable section

/-- Where a block of the mirror lies: the machine's block; the place of its first cell there; how many cells it has; how many lie behind them. -/
structure Pl where
  r : Nat
  sh : Nat
  n : Nat
  ex : Nat
abbrev Mp := Nat → Option Pl

def trFn (μ : Mp) : Fn → Option Fn
  | .func f => some (.func f)
  | .method s => some (.method s)
  | .yield l => match μ l with | some x => some (.yield x.r) | none => none
  | _ => none

mutual
/-- What a value of the mirror stands for. -/
def tr (μ : Mp) : MV → Option Value
  | .bool b => some (.bool b)
  | .int k n => some (.int k n)
  | .str s => some (.string ⟨⟨s⟩⟩)
  | .nilp => some (.pointer none)
  | .ptr b off => match μ b with | some x => some (.pointer (some ⟨x.r, x.sh + off, none⟩)) | none => none
  | .nils => some (.slice none 0 0)
  | .sl b off len cap sz ex => match μ b with
    | some x => match ex with
      | true => if len ≤ cap then some (.slice (some ⟨x.r, x.sh + off, none⟩) len cap) else none
      | false => if len ≤ cap ∧ off + cap * sz = x.n ∧ 0 < sz ∧ x.ex % sz = 0 then some (.slice (some ⟨x.r, x.sh + off, none⟩) len (cap + x.ex / sz)) else none
    | none => none
  | .es b base adv sz => match μ b with
    | some x => if base + adv = x.n ∧ 0 < sz ∧ x.ex % sz = 0 then some (.slice (some ⟨x.r, if x.ex / sz = 0 then x.sh + base else x.sh + (base + adv), none⟩) 0 (x.ex / sz)) else none
    | none => none
  | .func fn first caps => match trFn μ fn, trs μ first, trs μ caps with
    | some f, some a, some c => some (.func f a.toArray c.toArray)
    | _, _, _ => none
  | .nilf => some .nilFunc
  | .iface t v => match tr μ v with | some u => some (.iface t u) | none => none
  | .nili => some .nilIface
  | .agg cs => match trs μ cs with | some l => some (.agg l.toArray) | none => none
  | .tup cs => match trs μ cs with | some l => some (.tuple l.toArray) | none => none
  | .nilm => some (.map none)
  | .map b => match μ b with | some x => some (.map (some x.r)) | none => none
def trs (μ : Mp) : List MV → Option (List Value)
  | [] => some []
  | v :: vs => match tr μ v with
    | some u => match trs μ vs with | some us => some (u :: us) | none => none
    | none => none
end

def Mp.le (μ μ' : Mp) : Prop := ∀ b x, μ b = some x → μ' b = some x
theorem Mp.le_refl (μ : Mp) : μ.le μ := fun _ _ h => h
theorem Mp.le_trans {a b c : Mp} (h : a.le b) (k : b.le c) : a.le c := fun x y e => k x y (h x y e)

theorem trFn_mono {μ μ' : Mp} (h : μ.le μ') {fn f : Fn} (e : trFn μ fn = some f) : trFn μ' fn = some f := by
  cases fn with
  | yield l =>
    simp only [trFn] at e ⊢
    cases hx : μ l with
    | none => rw [hx] at e; cases e
    | some x => rw [hx] at e; rw [h _ _ hx]; exact e
  | _ => exact e

mutual
theorem tr_mono {μ μ' : Mp} (h : μ.le μ') : ∀ {v : MV} {u : Value}, tr μ v = some u → tr μ' v = some u
  | .bool _, _, e => e
  | .int _ _, _, e => e
  | .str _, _, e => e
  | .nilp, _, e => e
  | .nils, _, e => e
  | .nilf, _, e => e
  | .nili, _, e => e
  | .nilm, _, e => e
  | .ptr b off, u, e => by
    simp only [tr] at e ⊢
    cases hx : μ b with
    | none => rw [hx] at e; cases e
    | some x => rw [hx] at e; rw [h _ _ hx]; exact e
  | .sl b off len cap sz ex, u, e => by
    simp only [tr] at e ⊢
    cases hx : μ b with
    | none => rw [hx] at e; cases e
    | some x => rw [hx] at e; rw [h _ _ hx]; exact e
  | .es b base adv sz, u, e => by
    simp only [tr] at e ⊢
    cases hx : μ b with
    | none => rw [hx] at e; cases e
    | some x => rw [hx] at e; rw [h _ _ hx]; exact e
  | .map b, u, e => by
    simp only [tr] at e ⊢
    cases hx : μ b with
    | none => rw [hx] at e; cases e
    | some x => rw [hx] at e; rw [h _ _ hx]; exact e
  | .iface t v, u, e => by
    simp only [tr] at e ⊢
    cases hx : tr μ v with
    | none => rw [hx] at e; cases e
    | some x => rw [hx] at e; rw [tr_mono h hx]; exact e
  | .agg cs, u, e => by
    simp only [tr] at e ⊢
    cases hx : trs μ cs with
    | none => rw [hx] at e; cases e
    | some x => rw [hx] at e; rw [trs_mono h hx]; exact e
  | .tup cs, u, e => by
    simp only [tr] at e ⊢
    cases hx : trs μ cs with
    | none => rw [hx] at e; cases e
    | some x => rw [hx] at e; rw [trs_mono h hx]; exact e
  | .func fn a c, u, e => by
    simp only [tr] at e ⊢
    cases hf : trFn μ fn with
    | none => rw [hf] at e; cases e
    | some f =>
      rw [hf] at e
      rw [trFn_mono h hf]
      cases ha : trs μ a with
      | none => rw [ha] at e; cases e
      | some x =>
        rw [ha] at e
        rw [trs_mono h ha]
        cases hc : trs μ c with
        | none => rw [hc] at e; cases e
        | some y => rw [hc] at e; rw [trs_mono h hc]; exact e
theorem trs_mono {μ μ' : Mp} (h : μ.le μ') : ∀ {v : List MV} {u : List Value}, trs μ v = some u → trs μ' v = some u
  | [], _, e => e
  | v :: vs, u, e => by
    simp only [trs] at e ⊢
    cases hv : tr μ v with
    | none => rw [hv] at e; cases e
    | some x =>
      rw [hv] at e
      rw [tr_mono h hv]
      cases hs : trs μ vs with
      | none => rw [hs] at e; cases e
      | some y => rw [hs] at e; rw [trs_mono h hs]; exact e
end

/-! ### Lists of values -/
theorem trs_cons {μ : Mp} {v : MV} {vs : List MV} {us : List Value} (h : trs μ (v :: vs) = some us) : ∃ u us', us = u :: us' ∧ tr μ v = some u ∧ trs μ vs = some us' := by
  simp only [trs] at h
  cases hv : tr μ v with
  | none => rw [hv] at h; cases h
  | some x =>
    rw [hv] at h
    cases hs : trs μ vs with
    | none => rw [hs] at h; cases h
    | some y => rw [hs] at h; cases h; exact ⟨x, y, rfl, rfl, rfl⟩
theorem trs_nil {μ : Mp} {us : List Value} (h : trs μ [] = some us) : us = [] := by cases h; rfl
theorem trs_mk {μ : Mp} {v : MV} {vs : List MV} {u : Value} {us : List Value} (h : tr μ v = some u) (hs : trs μ vs = some us) : trs μ (v :: vs) = some (u :: us) := by
  simp only [trs, h, hs]
theorem trs_length {μ : Mp} : ∀ {vs : List MV} {us : List Value}, trs μ vs = some us → us.length = vs.length
  | [], _, h => by rw [trs_nil h]; rfl
  | v :: vs, us, h => by obtain ⟨u, us', rfl, _, h'⟩ := trs_cons h; simp [trs_length h']
theorem trs_append {μ : Mp} : ∀ {xs ys : List MV} {us vs : List Value}, trs μ xs = some us → trs μ ys = some vs → trs μ (xs ++ ys) = some (us ++ vs)
  | [], _, _, _, h, k => by rw [trs_nil h]; exact k
  | x :: xs, ys, us, vs, h, k => by obtain ⟨u, us', rfl, h1, h2⟩ := trs_cons h; exact trs_mk h1 (trs_append h2 k)
theorem trs_get {μ : Mp} : ∀ {vs : List MV} {us : List Value} {i : Nat} {v : MV}, trs μ vs = some us → vs[i]? = some v → ∃ u, us[i]? = some u ∧ tr μ v = some u
  | [], _, _, _, _, e => by simp at e
  | x :: xs, us, 0, v, h, e => by
    obtain ⟨u, us', rfl, h1, h2⟩ := trs_cons h
    simp only [List.getElem?_cons_zero, Option.some.injEq] at e
    subst e
    exact ⟨u, rfl, h1⟩
  | x :: xs, us, i + 1, v, h, e => by
    obtain ⟨u, us', rfl, h1, h2⟩ := trs_cons h
    simp only [List.getElem?_cons_succ] at e ⊢
    exact trs_get h2 e
theorem trs_take {μ : Mp} : ∀ {vs : List MV} {us : List Value} (n : Nat), trs μ vs = some us → trs μ (vs.take n) = some (us.take n)
  | _, _, 0, _ => by simp only [List.take_zero]; rfl
  | [], _, n + 1, h => by rw [trs_nil h]; rfl
  | x :: xs, us, n + 1, h => by
    obtain ⟨u, us', rfl, h1, h2⟩ := trs_cons h
    exact trs_mk h1 (trs_take n h2)
theorem trs_drop {μ : Mp} : ∀ {vs : List MV} {us : List Value} (n : Nat), trs μ vs = some us → trs μ (vs.drop n) = some (us.drop n)
  | _, _, 0, h => h
  | [], _, n + 1, h => by rw [trs_nil h]; rfl
  | x :: xs, us, n + 1, h => by
    obtain ⟨u, us', rfl, h1, h2⟩ := trs_cons h
    exact trs_drop n h2

/-- The cells of a value. -/
theorem tr_cells {μ : Mp} {v : MV} {u : Value} (h : tr μ v = some u) : trs μ v.cells = some u.cells.toList := by
  cases v with
  | agg cs =>
    simp only [tr] at h
    cases hx : trs μ cs with
    | none => rw [hx] at h; cases h
    | some l => rw [hx] at h; cases h; simp [MV.cells, Value.cells, hx]
  | _ =>
    simp only [MV.cells]
    refine (trs_mk h (show trs μ [] = some [] from rfl)).trans ?_
    congr 1
    have : u.cells = #[u] := by
      simp only [tr] at h
      (repeat' split at h) <;> first | (cases h; done) | (cases h; rfl)
    rw [this]

theorem tr_one {μ : Mp} {v : MV} {u : Value} (h : tr μ v = some u) (h1 : v.one = true) : u.oneCell = true := by
  cases v with
  | agg cs => simp [MV.one] at h1
  | tup cs => simp [MV.one] at h1
  | _ =>
    simp only [tr] at h
    (repeat' split at h) <;> first | (cases h; done) | (cases h; rfl)

/-! ### Constants -/
mutual
theorem tr_ofC (μ : Mp) : ∀ {u : Value} {v : MV}, ofC u = some v → tr μ v = some u
  | .bool _, _, e => by simp only [ofC, Option.some.injEq] at e; subst e; rfl
  | .int _ _, _, e => by simp only [ofC, Option.some.injEq] at e; subst e; rfl
  | .string ⟨⟨l⟩⟩, _, e => by simp only [ofC, Option.some.injEq] at e; subst e; rfl
  | .pointer none, _, e => by simp only [ofC, Option.some.injEq] at e; subst e; rfl
  | .pointer (some _), _, e => by simp [ofC] at e
  | .slice none 0 0, _, e => by simp only [ofC, Option.some.injEq] at e; subst e; rfl
  | .slice none 0 (_ + 1), _, e => by simp [ofC] at e
  | .slice none (_ + 1) _, _, e => by simp [ofC] at e
  | .slice (some _) _ _, _, e => by simp [ofC] at e
  | .nilFunc, _, e => by simp only [ofC, Option.some.injEq] at e; subst e; rfl
  | .nilIface, _, e => by simp only [ofC, Option.some.injEq] at e; subst e; rfl
  | .map none, _, e => by simp only [ofC, Option.some.injEq] at e; subst e; rfl
  | .map (some _), _, e => by simp [ofC] at e
  | .iface t v, _, e => by
    simp only [ofC] at e
    cases hx : ofC v with
    | none => rw [hx] at e; cases e
    | some x => rw [hx] at e; cases e; simp only [tr, tr_ofC μ hx]
  | .agg ⟨cs⟩, _, e => by
    simp only [ofC] at e
    cases hx : ofCs cs with
    | none => rw [hx] at e; cases e
    | some x => rw [hx] at e; cases e; simp only [tr, trs_ofCs μ hx]
  | .tuple ⟨cs⟩, _, e => by
    simp only [ofC] at e
    cases hx : ofCs cs with
    | none => rw [hx] at e; cases e
    | some x => rw [hx] at e; cases e; simp only [tr, trs_ofCs μ hx]
  | .func (.func f) ⟨[]⟩ ⟨[]⟩, _, e => by simp only [ofC, Option.some.injEq] at e; subst e; rfl
  | .func (.func f) ⟨_ :: _⟩ _, _, e => by simp [ofC] at e
  | .func (.func f) ⟨[]⟩ ⟨_ :: _⟩, _, e => by simp [ofC] at e
  | .func (.method _) _ _, _, e => by simp [ofC] at e
  | .func (.methodOf _ _) _ _, _, e => by simp [ofC] at e
  | .func (.via _ _ _ _) _ _, _, e => by simp [ofC] at e
  | .func (.yield _) _ _, _, e => by simp [ofC] at e
  | .float _ _, _, e => by simp [ofC] at e
  | .complex _ _ _, _, e => by simp [ofC] at e
  | .chan _, _, e => by simp [ofC] at e
theorem trs_ofCs (μ : Mp) : ∀ {us : List Value} {vs : List MV}, ofCs us = some vs → trs μ vs = some us
  | [], _, e => by simp only [ofCs, Option.some.injEq] at e; subst e; rfl
  | u :: us, _, e => by
    simp only [ofCs] at e
    cases hx : ofC u with
    | none => rw [hx] at e; cases e
    | some x =>
      rw [hx] at e
      cases hy : ofCs us with
      | none => rw [hy] at e; cases e
      | some y => rw [hy] at e; cases e; exact trs_mk (tr_ofC μ hx) (trs_ofCs μ hy)
end
end
end Go.Mir

/-! THE MIRROR, LAWS 3: the relation of memories; what a step may turn. -/
namespace Go.Mir
noncomputable section

/-- A frame's temporaries. -/
def EnvR (μ : Mp) (e : Env) (tmps : Array Value) : Prop :=
  e.n ≤ tmps.size ∧ ∀ i v, e.get i = some v → ∃ u, tmps[i]? = some u ∧ tr μ v = some u

def MER (μ : Mp) : List ME → List MapEntry → Prop
  | [], [] => True
  | a :: as, b :: bs => tr μ a.key = some b.key ∧ tr μ a.val = some b.val ∧ a.born = b.born ∧ MER μ as bs
  | _, _ => False

/-- One block. -/
def rel1 (μ : Mp) (o : MO) (x : Pl) (ob : Obj) : Prop :=
  match o with
  | .cells t n e ro fz => n = x.n ∧ ∃ (c : Array Value) (lh : Nat × Nat), ob = .cells c e lh ∧ c.size = x.sh + x.n + x.ex ∧
      (∀ i v, i < n → T.get (pth i) t = some v → ∃ u, c[x.sh + i]? = some u ∧ tr μ v = some u) ∧
      (ro = false → ∀ i, x.sh + fz ≤ i → i < c.size → ¬ (lh.1 ≤ i ∧ i < lh.2))
  | .dead => True
  | .map es clock => x.sh = 0 ∧ ∃ es', ob = .map es'.toArray clock ∧ MER μ es es'
  | .siter s pos => x.sh = 0 ∧ ob = .stringIter ⟨⟨s⟩⟩ pos
  | .loop st pend env ps a b df => x.sh = 0 ∧ ∃ (tmps : Array Value) (fn d : Nat) (y : Pl), ob = .loop { state := st, pending := pend, fn, tmps, params := ps.toArray, assign := a, body := b, defers := d } ∧ EnvR μ env tmps ∧ μ df = some y ∧ y.r = d
  | .dblk o => x.sh = 0 ∧ ob = .deferred (if o then some [] else none)

/-- May a step write to it? -/
def wrO : MO → Bool
  | .cells _ _ _ ro _ => !ro
  | _ => true

structure Rel (P : Program) (μ : Mp) (m : Mem) (w : World) : Prop where
  lt : ∀ b x, μ b = some x → x.r < w.heap.size
  sh0 : ∀ b x, μ b = some x → x.sh = 0
  blk : ∀ b x o, μ b = some x → m.get b = some o → ∃ ob, w.heap[x.r]? = some ob ∧ rel1 μ o x ob
  inj : ∀ b b' x x', μ b = some x → μ b' = some x' → x.r = x'.r → m.get b ≠ some .dead → m.get b' ≠ some .dead → b = b'
  glob : ∀ g, g ≤ P.globals.size → ∃ x, μ g = some x ∧ x.r = g ∧ x.sh = 0
  wf : ∀ b, m.next ≤ b → m.get b = none
  low : P.globals.size < m.next

/-- What a step has turned. -/
structure Ext (μ : Mp) (m : Mem) (w : World) (μ' : Mp) (m' : Mem) (w' : World) : Prop where
  le : μ.le μ'
  new : ∀ b x, μ' b = some x → μ b = none → m.next ≤ b ∧ b < m'.next ∧
    (w.heap.size ≤ x.r ∨ ∃ b0 x0 o0, μ b0 = some x0 ∧ x0.r = x.r ∧ m.get b0 = some o0 ∧ wrO o0 = true)
  nx : m.next ≤ m'.next
  mfr : ∀ b, b < m.next → μ b = none → m'.get b = m.get b
  non : ∀ b, b < m.next → m.get b = none → m'.get b = none
  ro : ∀ b o, m.get b = some o → wrO o = false → m'.get b = some o
  wro : ∀ b o, m.get b = some o → wrO o = true → ∃ o', m'.get b = some o' ∧ wrO o' = true
  fr : ∀ r, r < w.heap.size → (∀ b x o, μ b = some x → x.r = r → m.get b = some o → wrO o = false) → w'.heap[r]? = w.heap[r]?
  sz : w.heap.size ≤ w'.heap.size
  os : w'.os = w.os
  tape : w'.tape = w.tape
  output : w'.output = w.output

/-- No name is taken in a stretch. -/
def Free (μ : Mp) (a b : Nat) : Prop := ∀ k, a ≤ k → k < b → μ k = none

theorem Ext.refl (μ : Mp) (m : Mem) (w : World) : Ext μ m w μ m w where
  le := Mp.le_refl μ
  new := fun b x h k => by rw [h] at k; cases k
  nx := Nat.le_refl _
  mfr := fun _ _ _ => rfl
  non := fun _ _ h => h
  ro := fun _ _ h _ => h
  wro := fun _ o h k => ⟨o, h, k⟩
  fr := fun _ _ _ => rfl
  sz := Nat.le_refl _
  os := rfl
  tape := rfl
  output := rfl

theorem Free.left {μ : Mp} {a b c : Nat} (h : Free μ a c) (hb : b ≤ c) : Free μ a b := fun k h1 h2 => h k h1 (by omega)
theorem Free.right {μ μ' : Mp} {m m' : Mem} {w w' : World} {c : Nat} (h : Free μ m.next c) (k : Ext μ m w μ' m' w') : Free μ' m'.next c := by
  intro b h1 h2
  cases hb : μ' b with
  | none => rfl
  | some x =>
    have h0 : μ b = none := h b (Nat.le_trans k.nx h1) h2
    have := (k.new b x hb h0).2.1
    omega

theorem Ext.trans {μ μ' μ'' : Mp} {m m' m'' : Mem} {w w' w'' : World} (hwf : ∀ b, m.next ≤ b → m.get b = none) (hwf' : ∀ b, m'.next ≤ b → m'.get b = none) (hf : Free μ m.next m''.next)
    (h : Ext μ m w μ' m' w') (k : Ext μ' m' w' μ'' m'' w'') : Ext μ m w μ'' m'' w'' where
  le := Mp.le_trans h.le k.le
  new := fun b x hb h0 => by
    cases h1 : μ' b with
    | some y =>
      have hy := k.le b y h1
      rw [hb] at hy
      cases hy
      obtain ⟨a, c, d⟩ := h.new b x h1 h0
      exact ⟨a, Nat.lt_of_lt_of_le c k.nx, d⟩
    | none =>
      obtain ⟨a, c, d⟩ := k.new b x hb h1
      refine ⟨Nat.le_trans h.nx a, c, ?_⟩
      rcases d with d | ⟨b0, x0, o0, h2, h3, h4, h5⟩
      · exact .inl (Nat.le_trans h.sz d)
      · cases h6 : μ b0 with
        | some z =>
          have hz := h.le b0 z h6
          rw [h2] at hz
          cases hz
          cases h7 : m.get b0 with
          | none =>
            -- a name that the first memory does not know: it lies behind both
            exfalso
            have hlt : b0 < m'.next := by
              rcases Nat.lt_or_ge b0 m'.next with g | g
              · exact g
              · rw [hwf' b0 g] at h4; cases h4
            by_cases hg : m.next ≤ b0
            · have := hf b0 hg (Nat.lt_of_lt_of_le hlt k.nx)
              rw [h6] at this; cases this
            · rw [h.non b0 (by omega) h7] at h4; cases h4
          | some oo =>
            cases h8 : wrO oo with
            | true => exact .inr ⟨b0, x0, oo, h6, h3, h7, h8⟩
            | false =>
              have := h.ro b0 oo h7 h8
              rw [h4] at this
              cases this
              rw [h8] at h5; cases h5
        | none =>
          rcases (h.new b0 x0 h2 h6).2.2 with g | ⟨b1, x1, o1, g1, g2, g3, g4⟩
          · exact .inl (h3 ▸ g)
          · exact .inr ⟨b1, x1, o1, g1, g2.trans h3, g3, g4⟩
  nx := Nat.le_trans h.nx k.nx
  mfr := fun b hb h0 => by
    have h1 : μ' b = none := by
      cases h1 : μ' b with
      | none => rfl
      | some x => have := (h.new b x h1 h0).1; omega
    rw [k.mfr b (Nat.lt_of_lt_of_le hb h.nx) h1, h.mfr b hb h0]
  non := fun b hb h0 => k.non b (Nat.lt_of_lt_of_le hb h.nx) (h.non b hb h0)
  ro := fun b o h1 h2 => k.ro b o (h.ro b o h1 h2) h2
  wro := fun b o h1 h2 => by
    obtain ⟨o', h3, h4⟩ := h.wro b o h1 h2
    exact k.wro b o' h3 h4
  fr := fun r hr hall => by
    rw [k.fr r (Nat.lt_of_lt_of_le hr h.sz) ?_, h.fr r hr hall]
    intro b x o hb hx ho
    cases h1 : μ b with
    | some y =>
      have hy := h.le b y h1
      rw [hb] at hy
      cases hy
      cases h2 : m.get b with
      | some oo =>
        have hw := hall b x oo h1 hx h2
        have := h.ro b oo h2 hw
        rw [ho] at this
        cases this
        exact hw
      | none =>
        exfalso
        have hlt : b < m'.next := by
          rcases Nat.lt_or_ge b m'.next with g | g
          · exact g
          · rw [hwf' b g] at ho; cases ho
        by_cases hg : m.next ≤ b
        · have := hf b hg (Nat.lt_of_lt_of_le hlt k.nx)
          rw [h1] at this; cases this
        · rw [h.non b (by omega) h2] at ho; cases ho
    | none =>
      rcases (h.new b x hb h1).2.2 with g | ⟨b1, x1, o1, g1, g2, g3, g4⟩
      · omega
      · have := hall b1 x1 o1 g1 (g2.trans hx) g3
        rw [g4] at this; cases this
  sz := Nat.le_trans h.sz k.sz
  os := k.os.trans h.os
  tape := k.tape.trans h.tape
  output := k.output.trans h.output
end
end Go.Mir
