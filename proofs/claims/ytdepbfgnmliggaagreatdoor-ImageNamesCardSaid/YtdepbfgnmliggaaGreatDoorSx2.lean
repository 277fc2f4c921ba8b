/- The symbolic step of one operation, and the symbolic run of straight code. -/
import Derived.Test.YtdepbfgnmliggaaGreatDoorSx1
namespace Go.Proofs.YtdepbfgnmliggaaGreatDoor.Sx
set_option linter.unusedSimpArgs false
set_option linter.unusedVariables false

/-! ### Frames and objects as lists -/
def sl : List SV → Nat → SV → List SV
  | [], _, _ => []
  | _ :: l, 0, v => v :: l
  | x :: l, n + 1, v => x :: sl l n v

def g1 : List S1 → Nat → S1
  | [], _ => .unk
  | x :: _, 0 => x
  | _ :: l, n + 1 => g1 l n

def take1 : List S1 → Nat → List S1
  | [], _ => []
  | _ :: _, 0 => []
  | x :: l, n + 1 => x :: take1 l n

def drop1 : List S1 → Nat → List S1
  | [], _ => []
  | x :: l, 0 => x :: l
  | _ :: l, n + 1 => drop1 l n

/-- The cells ws laid over l from off on. -/
def lay : List S1 → Nat → List S1 → List S1
  | [], _, _ => []
  | l, _, [] => l
  | _ :: l, 0, v :: ws => v :: lay l 0 ws
  | x :: l, n + 1, ws => x :: lay l n ws

def fo : List (Nat × Ob) → Nat → Ob
  | [], _ => .dead
  | (i, x) :: l, o => bif i == o then x else fo l o

def uo : List (Nat × Ob) → Nat → Ob → List (Nat × Ob)
  | [], o, y => [(o, y)]
  | (i, x) :: l, o, y => bif i == o then (i, y) :: l else (i, x) :: uo l o y

def uos : List (Nat × Ob) → List (Nat × Ob) → List (Nat × Ob)
  | l, [] => l
  | l, (o, y) :: ws => uos (uo l o y) ws

def isA : Ob → Bool
  | .arr _ _ _ _ => true
  | _ => false

structure St where
  fr : List SV
  hp : List (Nat × Ob)
  nx : Nat

/-! ### Numbers -/
def wr (k : IntKind) (n : Int) : Int := k.wrap n

def inB : IntKind → Int → Bool
  | .i8, n => decide (-128 ≤ n) && decide (n ≤ 127)
  | .i16, n => decide (-32768 ≤ n) && decide (n ≤ 32767)
  | .i32, n => decide (-2147483648 ≤ n) && decide (n ≤ 2147483647)
  | .i64, n => decide (-9223372036854775808 ≤ n) && decide (n ≤ 9223372036854775807)
  | .u8, n => decide (0 ≤ n) && decide (n ≤ 255)
  | .u16, n => decide (0 ≤ n) && decide (n ≤ 65535)
  | .u32, n => decide (0 ≤ n) && decide (n ≤ 4294967295)
  | .u64, n => decide (0 ≤ n) && decide (n ≤ 18446744073709551615)

def keq : IntKind → IntKind → Bool
  | .i8, .i8 => true
  | .i16, .i16 => true
  | .i32, .i32 => true
  | .i64, .i64 => true
  | .u8, .u8 => true
  | .u16, .u16 => true
  | .u32, .u32 => true
  | .u64, .u64 => true
  | _, _ => false

def ofSl : Option Addr → Nat → Nat → S1
  | none, 0, 0 => .nils
  | a, n, c => .val (.slice a n c)

def of1 : Value → S1
  | .int k n => bif inB k n then .int k n else .val (.int k n)
  | .bool b => .bool b
  | .slice a n c => ofSl a n c
  | .string s => bif decide (s.data.toList.length ≤ 140737488355328) then .str s.data.toList else .val (.string s)
  | v => .val v

def ofVal : Value → SV
  | .agg cs => .agg (cs.toList.map of1)
  | .tuple _ => .unk
  | v => .s (of1 v)

def ev (fr : List SV) : Operand → SV
  | .tmp t => gl fr t
  | .const v => ofVal v
  | .global g => .s (.val (.pointer (some ⟨g, 0, none⟩)))
  | .func f => .s (.fn f [])

/-! ### Typed data and cells -/
/-- The cells of a datum, its slices as read-only ones. -/
def cellsS : (t : Ty) → t.den → List S1
  | .int k, n => [.int k n]
  | .bool, b => [.bool b]
  | .str, s => [.str s]
  | .unit, _ => []
  | .opq, v => [.ro .opq v]
  | .pair a b, x => cellsS a x.1 ++ cellsS b x.2
  | .slice z e, xs => [.ro (.slice z e) xs]

def Ty.cast : (t t' : Ty) → t.den → Option t'.den := fun t t' x => if h : t = t' then some (h ▸ x) else none

theorem Ty.cast_self (t : Ty) (x : t.den) : Ty.cast t t x = some x := by simp [Ty.cast]

/-- Data out of cells; what is left of the cells. -/
def rdS (ob : Nat → Ob) : (t : Ty) → List S1 → Option (t.den × List S1)
  | .int k, .int k' n :: r => bif keq k' k then some (n, r) else none
  | .bool, .bool b :: r => some (b, r)
  | .str, .str s :: r => some (s, r)
  | .unit, r => some ((), r)
  | .opq, .val v :: r => bif v.oneCell' then some (v, r) else none
  | .opq, .ro t x :: r => match Ty.cast t .opq x with
    | some y => some (y, r)
    | none => none
  | .opq, .fn f [] :: r => some (.func (.func f) #[] #[], r)
  | .pair a b, l => match rdS ob a l with
    | some (x, l') => match rdS ob b l' with
      | some (y, l'') => some ((x, y), l'')
      | none => none
    | none => none
  | .slice z e, .ro t x :: r => match Ty.cast t (.slice z e) x with
    | some y => some (y, r)
    | none => none
  | .slice _ _, .nils :: r => some ([], r)
  | .slice z e, .sub o lo hi :: r => match ob o with
    | .arr _ z' e' xs => match Ty.cast (.slice z' e') (.slice z e) xs with
      | some (ys : List e.den) => some ((ys.drop lo).take (hi - lo), r)
      | none => none
    | _ => none
  | _, _ => none

def Ty.nsl : Ty → Nat
  | .slice _ _ => 1
  | .pair a b => a.nsl + b.nsl
  | _ => 0

/-- The cells of a datum in new memory, its slices as objects from number i on. -/
def injS : (t : Ty) → t.den → Nat → List S1
  | .int k, n, _ => [.int k n]
  | .bool, b, _ => [.bool b]
  | .str, s, _ => [.str s]
  | .unit, _, _ => []
  | .opq, v, _ => [.ro .opq v]
  | .pair a b, x, i => injS a x.1 i ++ injS b x.2 (i + a.nsl)
  | .slice _ _, xs, i => [.sub i 0 xs.length]

def injO : (t : Ty) → t.den → Nat → List (Nat × Ob)
  | .pair a b, x, i => injO a x.1 i ++ injO b x.2 (i + a.nsl)
  | .slice z e, xs, i => [(i, .arr false z e xs)]
  | _, _, _ => []

/-! ### What is known of the program's types: each is met by a closed fact -/
def tyOf (P : Program) : Nat → TypeId → Option Ty
  | 0, _ => none
  | d + 1, t =>
    match P.underlying t with
    | some (.int k) => some (.int k)
    | some .bool => some .bool
    | some .string => some .str
    | some (.slice e) => match P.info? e, tyOf P d e with
      | some i, some ty => some (.slice i.bytes ty)
      | _, _ => none
    | some (.struct fs) => fs.toList.foldr (fun f acc => match tyOf P d f.type, acc with
      | some a, some b => some (.pair a b)
      | _, _ => none) (some .unit)
    | some (.array ..) => none
    | some (.float _) => none
    | some (.complex _) => none
    | some _ => some .opq
    | none => none

/-- Of a slice's type: the element's type and its bytes. -/
def elemI (P : Program) (t : TypeId) : Option (Ty × Nat) :=
  match P.underlying t with
  | some (.slice e) => match P.info? e, tyOf P 20 e with
    | some i, some ty => match i.zero with
      | some z => if i.size = ty.n ∧ 0 < i.bytes ∧ 0 < ty.n ∧ z.cells.size = ty.n then some (ty, i.bytes) else none
      | none => none
    | _, _ => none
  | _ => none

/-- Is it a struct or an array; how many cells. -/
def aggI (P : Program) (t : TypeId) : Option (Bool × Nat) :=
  match P.underlying t, P.info? t with
  | some (.struct _), some i => some (true, i.size)
  | some (.array ..), some i => some (true, i.size)
  | some _, some i => if i.size = 1 then some (false, 1) else none
  | _, _ => none

def fldI (P : Program) (t : TypeId) (f : Nat) : Option Nat :=
  match P.underlying t with
  | some (.struct fs) => match fs[f]? with
    | some fd => if P.cellsOf fd.type = 0 then none else some fd.offset
    | none => none
  | _ => none

/-- A field of a value: is it a struct or an array, its offset, its cells. -/
def fieldI (P : Program) (t : TypeId) (f : Nat) : Option (Bool × Nat × Nat) :=
  match P.underlying t with
  | some (.struct fs) => match fs[f]? with
    | some fd => match aggI P fd.type with
      | some (b, n) => some (b, fd.offset, n)
      | none => none
    | none => none
  | _ => none

def zeroI (P : Program) (t : TypeId) : Option (List S1) :=
  match P.info? t with
  | some i => match i.zero with
    | some v => if v.cells.size = i.size ∧ (∀ x ∈ v.cells.toList, Value.oneCell' x = true) then some (v.cells.toList.map of1) else none
    | none => none
  | none => none

def isStr (P : Program) (t : TypeId) : Bool := match P.underlying t with | some .string => true | _ => false
def isBool (P : Program) (t : TypeId) : Bool := match P.underlying t with | some .bool => true | _ => false

/-! ### One operation -/
def SV.cells : SV → List S1
  | .s x => [x]
  | .agg l => l
  | _ => []

/-- What is owed for a guarded value, and the value. -/
def pkP : SV → Prop
  | .gd g x => g = true ∧ pkP x
  | _ => True
def pkV : SV → SV
  | .gd _ x => pkV x
  | x => x

structure Up where
  owe : Prop
  val : SV
  ws : List (Nat × Ob)
  hi : Nat
  gives : Prop

def upV (owe : Prop) (nx : Nat) (x : SV) : Option Up := some ⟨owe, x, [], nx, True⟩

def pickB (c x y : Bool) : Bool := bif c then x else y

def sPick0 (c : Bool) : SV → SV → Option SV
  | .s (.bool x), .s (.bool y) => some (.s (.bool (pickB c x y)))
  | .s (.int k x), .s (.int k' y) => bif keq k k' then some (.s (.int k (bif c then x else y))) else none
  | _, _ => none

def sPick (c : Bool) (x y : SV) : Option SV := match sPick0 c x y with
  | some r => some r
  | none => match c with
    | true => some x
    | false => some y

/-- The picked one is owed under its condition alone. -/
def oPick (c : Bool) (a b : SV) : Prop := (c = true → pkP a) ∧ (c = false → pkP b)

/-- The bits of a number. -/
def ub (k : IntKind) (x : Int) : Nat := (x % ((2 ^ k.bits : Nat) : Int)).toNat
/-- All bits. -/
def allI (k : IntKind) : Int := if k.signed then -1 else k.max

def sBinI (k : IntKind) (x y : Int) : BinOp → Option (Prop × S1)
  | .add => some (True, .int k (wr k (x + y)))
  | .sub => some (True, .int k (wr k (x - y)))
  | .mul => some (True, .int k (wr k (x * y)))
  | .quo => some (y ≠ 0, .int k (wr k (x.tdiv y)))
  | .rem => some (y ≠ 0, .int k (x.tmod y))
  | .eql => some (True, .bool (decide (x = y)))
  | .neq => some (True, .bool (!decide (x = y)))
  | .lss => some (True, .bool (decide (x < y)))
  | .leq => some (True, .bool (decide (x ≤ y)))
  | .gtr => some (True, .bool (decide (y < x)))
  | .geq => some (True, .bool (decide (y ≤ x)))
  | .and => some (True, .int k (wr k ((ub k x &&& ub k y : Nat) : Int)))
  | .or => some (True, .int k (wr k ((ub k x ||| ub k y : Nat) : Int)))
  | .xor => some (True, .int k (wr k ((ub k x ^^^ ub k y : Nat) : Int)))
  | .andNot => some (True, .int k (wr k ((ub k x &&& (2 ^ k.bits - 1 - ub k y) : Nat) : Int)))
  | _ => none

def sShI (k : IntKind) (x y : Int) : BinOp → Option (Prop × S1)
  | .shl => some (0 ≤ y, .int k (wr k (x * ((2 ^ (min y.toNat k.bits) : Nat) : Int))))
  | .shr => some (0 ≤ y, .int k (x.fdiv ((2 ^ (min y.toNat k.bits) : Nat) : Int)))
  | _ => none

def sBinS (x y : List UInt8) : BinOp → Option (Prop × S1)
  | .add => some (x.length + y.length ≤ 140737488355328, .str (x ++ y))
  | .eql => some (True, .bool (decide (x = y)))
  | .neq => some (True, .bool (!decide (x = y)))
  | .lss => some (True, .bool (Op.bytesLess x y))
  | .leq => some (True, .bool (Op.bytesLess x y || decide (x = y)))
  | .gtr => some (True, .bool (!(Op.bytesLess x y || decide (x = y))))
  | .geq => some (True, .bool (!Op.bytesLess x y))
  | _ => none

def sBin (P : Program) (op : BinOp) (t : TypeId) : SV → SV → Option (Prop × S1)
  | .s (.int k x), .s (.int k' y) => match sShI k x y op with
    | some r => some r
    | none => bif keq k k' then sBinI k x y op else none
  | .s (.str x), .s (.str y) => sBinS x y op
  | .s (.bool x), .s (.bool y) => bif isBool P t then (match op with
    | .eql => some (True, .bool (x == y))
    | .neq => some (True, .bool (!(x == y)))
    | _ => none) else none
  | _, _ => none

/-- May a slice be nil; may it be none? -/
def nilB (ob : Nat → Ob) : S1 → Option (Bool × Bool)
  | .nils => some (true, false)
  | .ro (.slice _ _) xs => some (xs.isEmpty, true)
  | .sub o lo hi => match ob o with
    | .arr _ _ _ _ => some (Nat.beq (hi - lo) 0, true)
    | _ => none
  | _ => none

def isPtr (P : Program) (t : TypeId) : Bool := match P.underlying t with | some (.pointer _) => true | _ => false
def isFn (P : Program) (t : TypeId) : Bool := match P.underlying t with | some (.func _ _ _) => true | _ => false

/-- Is a pointer nil? -/
def ptrB (ob : Nat → Ob) : S1 → Option Bool
  | .pb o _ => match ob o with
    | .box _ => some false
    | _ => none
  | .pe o _ _ => match ob o with
    | .arr _ _ _ _ => some false
    | _ => none
  | .pr _ _ _ => some false
  | .val (.pointer p) => some p.isNone
  | _ => none

/-- A slice, a pointer, a function held against nil. -/
def sNil (P : Program) (ob : Nat → Ob) (op : BinOp) (t : TypeId) : SV → SV → Option S1
  | .s x, .s (.val (.pointer none)) => match isPtr P t, ptrB ob x with
    | true, some b => match op with
      | .eql => some (.bool b)
      | .neq => some (.bool (!b))
      | _ => none
    | _, _ => none
  | .s (.fn _ _), .s (.val .nilFunc) => match isFn P t with
    | true => match op with
      | .eql => some (.bool false)
      | .neq => some (.bool true)
      | _ => none
    | false => none
  | .s x, .s .nils => match elemI P t, nilB ob x with
    | some _, some p => match op with
      | .eql => some (.mb p.1 p.2)
      | .neq => some (.mb p.2 p.1)
      | _ => none
    | _, _ => none
  | _, _ => none

def sUn (op : UnOp) : SV → Option S1
  | .s (.bool b) => match op with | .not => some (.bool (!b)) | _ => none
  | .s (.mb t f) => match op with | .not => some (.mb f t) | _ => none
  | .s (.int k n) => match op with
    | .neg => some (.int k (wr k (-n)))
    | .xor => some (.int k (wr k ((ub k (allI k) ^^^ ub k n : Nat) : Int)))
    | _ => none
  | _ => none

def cellOr (agg : Bool) (cs : List S1) (off n : Nat) : SV := bif agg then .agg (take1 (drop1 cs off) n) else .s (g1 cs off)

def sLoad (ob : Nat → Ob) (agg : Bool) (n : Nat) : SV → Option (Prop × SV)
  | .s (.pb o off) => match ob o with
    | .box cs => some (off + n ≤ cs.length, cellOr agg cs off n)
    | _ => none
  | .s (.pe o i off) => match ob o with
    | .arr _ _ e xs => some (off + n ≤ e.n, cellOr agg (cellsS e (xs.getD i e.zero)) off n)
    | _ => none
  | .s (.pr t x off) => some (off + n ≤ t.n, cellOr agg (cellsS t x) off n)
  | _ => none

/-- May these cells be stored? -/
def stl : List S1 → Bool
  | [] => true
  | .unk :: _ => false
  | .val v :: l => v.oneCell' && stl l
  | _ :: l => stl l

def ids : List S1 → List Nat
  | [] => []
  | .sub o _ _ :: l => o :: ids l
  | _ :: l => ids l

/-- These objects are written no more. -/
def freeze (ob : Nat → Ob) : List Nat → List (Nat × Ob)
  | [] => []
  | o :: l => match ob o with
    | .arr _ z e xs => (o, .arr true z e xs) :: freeze ob l
    | _ => freeze ob l

def sStore (ob : Nat → Ob) (n : Nat) (vs : List S1) : SV → Option (Prop × List (Nat × Ob))
  | .s (.pb o off) => match ob o with
    | .box cs => bif stl vs then some (off + n ≤ cs.length ∧ vs.length = n, [(o, .box (lay cs off vs))]) else none
    | _ => none
  | .s (.pe o i off) => match ob o with
    | .arr false z e xs => match rdS ob e (lay (cellsS e (xs.getD i e.zero)) off vs), stl vs with
      | some (y, []), true => some (off + n ≤ e.n ∧ vs.length = n ∧ ¬ o ∈ ids vs, freeze ob (ids vs) ++ [(o, .arr false z e (xs.set i y))])
      | _, _ => none
    | _ => none
  | _ => none

def sIndex (P : Program) (ob : Nat → Ob) (t : TypeId) (i : Int) : SV → Option (Prop × S1)
  | .s (.sub o lo hi) => match ob o with
    | .arr _ z e _ => match elemI P t with
      | some (e', _) => if e' = e then some (0 ≤ i ∧ i < (hi - lo : Nat), .pe o (lo + i.toNat) 0) else none
      | none => none
    | _ => none
  | .s (.ro (.slice z e) xs) => match elemI P t with
    | some (e', _) => if e' = e then some (0 ≤ i ∧ i < (xs.length : Nat), .pr e (xs.getD i.toNat e.zero) 0) else none
    | none => none
  | _ => none

def optI : Option SV → Int → Option Int
  | none, d => some d
  | some (.s (.int _ n)), _ => some n
  | some _, _ => none

def sSlice (P : Program) (ob : Nat → Ob) (t : TypeId) (lo hi : Option SV) : SV → Option (Prop × S1)
  | .s (.sub o l h) => match ob o with
    | .arr _ z e xs => match elemI P t with
      | some (e', _) => if e' = e then (match optI lo 0, optI hi ((h - l : Nat) : Int) with
        | some a, some b => some (0 ≤ a ∧ a ≤ b ∧ b ≤ (xs.length - l : Nat), .sub o (l + a.toNat) (l + b.toNat))
        | _, _ => none) else none
      | none => none
    | _ => none
  | .s (.ro (.slice z e) xs) => match elemI P t with
    | some (e', _) => if e' = e then (match optI lo 0, optI hi (xs.length : Int) with
      | some a, some b => some (0 ≤ a ∧ a ≤ b ∧ b ≤ (xs.length : Int), .ro (.slice z e) ((xs.drop a.toNat).take (b.toNat - a.toNat)))
      | _, _ => none) else none
    | none => none
  | .s (.str s) => bif isStr P t then (match optI lo 0, optI hi (s.length : Int) with
    | some a, some b => some (0 ≤ a ∧ a ≤ b ∧ b ≤ (s.length : Int), .str ((s.drop a.toNat).take (b.toNat - a.toNat)))
    | _, _ => none) else none
  | _ => none

/-- The parts of a slice's literal, in their order from i on. -/
def sParts (ob : Nat → Ob) (e : Ty) (fr : List SV) : List (Nat × Operand) → Nat → Option (List e.den)
  | [], _ => some []
  | (j, x) :: ps, i => bif j == i then (match rdS ob e (ev fr x).cells with
    | some (y, []) => match sParts ob e fr ps (i + 1) with
      | some l => some (y :: l)
      | none => none
    | _ => none) else none

def idsParts (fr : List SV) : List (Nat × Operand) → List Nat
  | [] => []
  | (_, x) :: ps => ids (ev fr x).cells ++ idsParts fr ps

def placesI (P : Program) (t : TypeId) : Option (List (Nat × Nat)) :=
  match P.underlying t with
  | some (.struct fs) => fs.toList.mapM (fun f => (P.info? f.type).map fun i => (f.offset, i.size))
  | _ => none

def isSA : SV → Bool
  | .s _ => true
  | .agg _ => true
  | _ => false

/-- The parts of a struct's literal laid over its zero cells. -/
def sFill (pl : List (Nat × Nat)) (fr : List SV) : List (Nat × Operand) → List S1 → Option (List S1)
  | [], cs => some cs
  | (f, x) :: ps, cs => match pl[f]? with
    | some (off, n) => bif (ev fr x).cells.length == n && Nat.ble (off + n) cs.length && stl (ev fr x).cells && isSA (ev fr x) then sFill pl fr ps (lay cs off (ev fr x).cells) else none
    | none => none

def sLen (P : Program) (ob : Nat → Ob) (t : TypeId) : SV → Option Nat
  | .s (.sub o lo hi) => match ob o with
    | .arr _ z _ _ => match elemI P t with | some _ => (bif Nat.ble 1 z then some (hi - lo) else none) | none => none
    | _ => none
  | .s (.ro (.slice z _) xs) => match elemI P t with | some _ => (bif Nat.ble 1 z then some xs.length else none) | none => none
  | .s (.str s) => bif isStr P t then some s.length else none
  | .s .nils => match elemI P t with | some _ => some 0 | none => none
  | _ => none

/-- A slice as a list, to be appended to (its object, if it has one, is used up). -/
def sOwn (ob : Nat → Ob) (z : Nat) (e : Ty) : SV → Option (List e.den × List Nat)
  | .s .nils => some ([], [])
  | .s (.sub o lo hi) => match ob o with
    | .arr false z' e' xs => match Ty.cast (.slice z' e') (.slice z e) xs with
      | some (ys : List e.den) => some ((ys.drop lo).take (hi - lo), [o])
      | none => none
    | _ => none
  | _ => none

/-- A slice as a list, to be read. -/
def sList (ob : Nat → Ob) (z : Nat) (e : Ty) : SV → Option (List e.den)
  | .s x => match rdS ob (.slice z e) [x] with
    | some (ys, []) => some ys
    | _ => none
  | _ => none

def kill : List Nat → List (Nat × Ob)
  | [] => []
  | o :: l => (o, .dead) :: kill l

def sAppend (P : Program) (ob : Nat → Ob) (nx : Nat) (t : TypeId) (s x : SV) : Option Up :=
  match elemI P t with
  | some (e, z) => match sOwn ob z e s, sList ob z e x with
    | some (xs, os), some ys => some ⟨(xs.length + ys.length) * z ≤ 140737488355328, .s (.sub nx 0 (xs.length + ys.length)), freeze ob (ids x.cells) ++ (kill os ++ [(nx, .arr false z e (xs ++ ys))]), nx + 1, True⟩
    | _, _ => none
  | none => none

def sMin (mn : Bool) : SV → SV → Option SV
  | .s (.int k x), .s (.int k' y) => bif keq k k' then some (.s (.int k (bif mn then (if y < x then y else x) else (if x < y then y else x)))) else none
  | _, _ => none

/-! ### Contracts -/
def tyL : List (Bool × Ty) → Ty
  | [] => .unit
  | (_, t) :: l => .pair t (tyL l)

structure Con where
  f : FuncId
  as : List (Bool × Ty)
  rs : List (Bool × Ty)
  pre : (tyL as).den → Prop
  F : (tyL as).den → (tyL rs).den
  /-- May the results lie in memory that they share with the arguments? Then both are only read from there on. -/
  sh : Bool

def findC (f : Nat) : List Con → Option Con
  | [] => none
  | c :: l => bif c.f == f then some c else findC f l

def shape : Bool → SV → Bool
  | true, .agg _ => true
  | false, .s _ => true
  | _, _ => false

/-- The arguments as data. -/
def sArgs (ob : Nat → Ob) : (as : List (Bool × Ty)) → List SV → Option (tyL as).den
  | [], [] => some ()
  | (b, t) :: as, x :: xs => bif shape b x then (match rdS ob t x.cells, sArgs ob as xs with
    | some (y, []), some ys => some (y, ys)
    | _, _ => none) else none
  | _, _ => none

def resL : (rs : List (Bool × Ty)) → (tyL rs).den → Nat → List (Bool × List S1)
  | [], _, _ => []
  | (b, t) :: rs, y, i => (b, injS t y.1 i) :: resL rs y.2 (i + t.nsl)

/-- Results that are only read. -/
def roL : (rs : List (Bool × Ty)) → (tyL rs).den → List (Bool × List S1)
  | [], _ => []
  | (b, t) :: rs, y => (b, cellsS t y.1) :: roL rs y.2

def resV : List (Bool × List S1) → SV
  | [(true, l)] => .agg l
  | [(false, [x])] => .s x
  | l => .tup l

def resO : (rs : List (Bool × Ty)) → (tyL rs).den → Nat → List (Nat × Ob)
  | [], _, _ => []
  | (_, t) :: rs, y, i => injO t y.1 i ++ resO rs y.2 (i + t.nsl)

def Ty.hasSl : Ty → Bool
  | .slice _ _ => true
  | .pair a b => a.hasSl || b.hasSl
  | _ => false

/-- Slices within slices. -/
def Ty.nest : Ty → Bool
  | .slice _ e => e.hasSl
  | .pair a b => a.nest || b.nest
  | _ => false

def nestL : List (Bool × Ty) → Bool
  | [] => false
  | (_, t) :: rs => t.nest || nestL rs

def sTup : List (Bool × List S1) → Nat → Option SV
  | [], _ => none
  | (true, l) :: _, 0 => some (.agg l)
  | (false, [x]) :: _, 0 => some (.s x)
  | (false, _) :: _, 0 => none
  | _ :: l, n + 1 => sTup l n

def nslL : List (Bool × Ty) → Nat
  | [] => 0
  | (_, t) :: rs => t.nsl + nslL rs

def pkPs (fr : List SV) : List Operand → Prop
  | [] => True
  | x :: l => pkP (ev fr x) ∧ pkPs fr l

def pkVs (fr : List SV) : List Operand → List SV
  | [] => []
  | x :: l => pkV (ev fr x) :: pkVs fr l

def allIds : List SV → List Nat
  | [] => []
  | x :: l => ids x.cells ++ allIds l

/-- Numbers as bytes. -/
def bsL (l : List Int) : List UInt8 := l.map fun n => UInt8.ofNat n.toNat

def isByteTy : Ty → Bool
  | .int .u8 => true
  | _ => false

def sConv (P : Program) (ob : Nat → Ob) (src dst : TypeId) : SV → Option S1
  | .s (.int _ n) => match P.underlying src, P.underlying dst with
    | some (.int _), some (.int k') => some (.int k' (wr k' n))
    | _, _ => none
  | .s (.str s) => bif isStr P src && isStr P dst then some (.str s) else none
  | .s x => match elemI P src with
    | some (e, z) => bif isByteTy e && isStr P dst then (match sList ob z (.int .u8) (.s x) with
      | some (l : List Int) => some (.str (bsL l))
      | none => none) else none
    | none => none
  | _ => none

def capsOf (fr : List SV) : List Operand → Option (List (Nat × Nat))
  | [] => some []
  | x :: l => match ev fr x, capsOf fr l with
    | .s (.pb o off), some r => some ((o, off) :: r)
    | _, _ => none

def sCall (P : Program) (Cs : List Con) (ob : Nat → Ob) (nx : Nat) (fr : List SV) (c : Call) : Option Up :=
  match c.callee, c.args.toList, c.argTypes.toList with
  | .builtin .len, [x], t :: _ => match sLen P ob t (pkV (ev fr x)) with
    | some n => upV (pkP (ev fr x)) nx (.s (.int .i64 (n : Int)))
    | none => none
  | .builtin .append, [s, x], [t, t'] => bif t == t' then (match sAppend P ob nx t (pkV (ev fr s)) (pkV (ev fr x)) with
    | some u => some { u with owe := pkP (ev fr s) ∧ pkP (ev fr x) ∧ u.owe }
    | none => none) else none
  | .builtin .min, [x, y], _ => match sMin true (pkV (ev fr x)) (pkV (ev fr y)) with
    | some v => upV (pkP (ev fr x) ∧ pkP (ev fr y)) nx v
    | none => none
  | .builtin .max, [x, y], _ => match sMin false (pkV (ev fr x)) (pkV (ev fr y)) with
    | some v => upV (pkP (ev fr x) ∧ pkP (ev fr y)) nx v
    | none => none
  | .value f, args, _ => match pkV (ev fr f) with
    | .s (.fn g []) => match findC g Cs with
      | some con => match sArgs ob con.as (pkVs fr args) with
        | some x => match con.sh with
          | true => some ⟨pkP (ev fr f) ∧ pkPs fr args ∧ con.pre x, resV (roL con.rs (con.F x)), freeze ob (allIds (pkVs fr args)), nx, (tyL con.rs).wf (con.F x)⟩
          | false => some ⟨pkP (ev fr f) ∧ pkPs fr args ∧ con.pre x, resV (resL con.rs (con.F x) nx),
            (bif nestL con.rs then freeze ob (allIds (pkVs fr args)) else []) ++ resO con.rs (con.F x) nx, nx + nslL con.rs, (tyL con.rs).wf (con.F x)⟩
        | none => none
      | none => none
    | _ => none
  | _, _, _ => none

/-- Boxes, all of them? -/
def boxes (ob : Nat → Ob) : List (Nat × Nat) → Bool
  | [] => true
  | (o, _) :: l => match ob o with
    | .box _ => boxes ob l
    | _ => false

def stepU (P : Program) (Cs : List Con) (ob : Nat → Ob) (nx : Nat) (fr : List SV) : Op → Option Up
  | .move x => upV True nx (ev fr x)
  | .assign x => upV True nx (ev fr x)
  | .pick c a b => match pkV (ev fr c) with
    | .s (.bool cb) => match sPick cb (pkV (ev fr a)) (pkV (ev fr b)) with
      | some v => upV (pkP (ev fr c) ∧ oPick cb (ev fr a) (ev fr b)) nx v
      | none => none
    | _ => none
  | .alloc t => match zeroI P t with
    | some cs => bif stl cs then some ⟨True, .s (.pb nx 0), [(nx, .box cs)], nx + 1, True⟩ else none
    | none => none
  | .box _ x => bif stl (pkV (ev fr x)).cells && isSA (pkV (ev fr x)) then
      some ⟨pkP (ev fr x), .s (.pb nx 0), [(nx, .box (pkV (ev fr x)).cells)], nx + 1, True⟩ else none
  | .load t a => match aggI P t with
    | some (b, n) => match sLoad ob b n (pkV (ev fr a)) with
      | some (p, v) => upV (pkP (ev fr a) ∧ p) nx v
      | none => none
    | none => none
  | .store t a v => match aggI P t with
    | some (b, n) => bif shape b (pkV (ev fr v)) then (match sStore ob n (pkV (ev fr v)).cells (pkV (ev fr a)) with
      | some (p, ws) => some ⟨pkP (ev fr a) ∧ pkP (ev fr v) ∧ p, .unk, ws, nx, True⟩
      | none => none) else none
    | none => none
  | .binOp op t x y _ => match sBin P op t (pkV (ev fr x)) (pkV (ev fr y)) with
    | some (p, v) => upV (pkP (ev fr x) ∧ pkP (ev fr y) ∧ p) nx (.s v)
    | none => match sNil P ob op t (pkV (ev fr x)) (pkV (ev fr y)) with
      | some v => upV (pkP (ev fr x) ∧ pkP (ev fr y)) nx (.s v)
      | none => none
  | .unOp op _ x => match sUn op (pkV (ev fr x)) with
    | some v => upV (pkP (ev fr x)) nx (.s v)
    | none => none
  | .convert src dst x => match sConv P ob src dst (pkV (ev fr x)) with
    | some v => upV (pkP (ev fr x)) nx (.s v)
    | none => none
  | .extract x i => match pkV (ev fr x) with
    | .tup l => match sTup l i with
      | some v => upV (pkP (ev fr x)) nx v
      | none => none
    | _ => none
  | .field t x f => match pkV (ev fr x), fieldI P t f with
    | .agg l, some (b, off, n) => upV (pkP (ev fr x) ∧ off + n ≤ l.length) nx (cellOr b l off n)
    | _, _ => none
  | .fieldAddr t x f => match fldI P t f with
    | some d => match pkV (ev fr x) with
      | .s (.pb o off) => match ob o with | .box _ => upV (pkP (ev fr x)) nx (.s (.pb o (off + d))) | _ => none
      | .s (.pe o i off) => match ob o with | .arr _ _ _ _ => upV (pkP (ev fr x)) nx (.s (.pe o i (off + d))) | _ => none
      | .s (.pr t' x' off) => upV (pkP (ev fr x)) nx (.s (.pr t' x' (off + d)))
      | _ => none
    | none => none
  | .indexAddr t x i => match pkV (ev fr i) with
    | .s (.int _ n) => match sIndex P ob t n (pkV (ev fr x)) with
      | some (p, v) => upV (pkP (ev fr x) ∧ pkP (ev fr i) ∧ p) nx (.s v)
      | none => none
    | _ => none
  | .index t x i => match pkV (ev fr i), pkV (ev fr x) with
    | .s (.int _ n), .s (.str s) => bif isStr P t then upV (pkP (ev fr x) ∧ pkP (ev fr i) ∧ 0 ≤ n ∧ n < (s.length : Int)) nx (.s (.int .u8 ((s.getD n.toNat 0).toNat : Int))) else none
    | _, _ => none
  | .slice t x lo hi none => match sSlice P ob t (lo.map fun y => pkV (ev fr y)) (hi.map fun y => pkV (ev fr y)) (pkV (ev fr x)) with
    | some (p, v) => upV (pkP (ev fr x) ∧ pkPs fr (lo.toList ++ hi.toList) ∧ p) nx (.s v)
    | none => none
  | .buildSlice t n ps => match elemI P t with
    | some (e, z) => match sParts ob e fr ps.toList 0 with
      | some l => bif l.length == n && decide (n * e.n ≤ 16777216) && decide (n * z ≤ 140737488355328) then
          some ⟨True, .s (.sub nx 0 n), freeze ob (idsParts fr ps.toList) ++ [(nx, .arr false z e l)], nx + 1, True⟩ else none
      | none => none
    | none => none
  | .build t ps => match placesI P t, zeroI P t with
    | some pl, some cs => match sFill pl fr ps.toList cs with
      | some l => upV True nx (.agg l)
      | none => none
    | _, _ => none
  | .nilCheck x => match pkV (ev fr x) with
    | .s (.pb o off) => match ob o with | .box _ => upV (pkP (ev fr x)) nx (.s (.pb o off)) | _ => none
    | .s (.pe o i off) => match ob o with | .arr _ _ _ _ => upV (pkP (ev fr x)) nx (.s (.pe o i off)) | _ => none
    | .s (.pr t x' off) => upV (pkP (ev fr x)) nx (.s (.pr t x' off))
    | .s (.fn f caps) => upV (pkP (ev fr x)) nx (.s (.fn f caps))
    | _ => none
  | .makeFunc (.func f) first caps => match first.toList, capsOf fr caps.toList with
    | [], some l => bif boxes ob l then upV True nx (.s (.fn f l)) else none
    | _, _ => none
  | .call c => sCall P Cs ob nx fr c
  | _ => none

/-! ### Straight code -/
inductive It where
  | c (c : Code)
  | ops (all l : List Oper)
  | blk (id : Nat)
  | fin (J : St → Prop)
  | scp (c : Code)
  | lp (c : Code)
  /-- A round of the loop o begins. -/
  | beg (o : Nat)
  /-- A round's end, by the way in which it is left. -/
  | rnd (X : Exit → St → Prop)

def jump (id : Nat) : List It → Option (List It)
  | [] => none
  | .blk id' :: k => bif id' == id then some k else jump id k
  | .rnd _ :: _ => none
  | .beg _ :: _ => none
  | _ :: k => jump id k

def noX : Exit → St → Prop := fun _ _ => False
/-- What is owed at the end of the round. -/
def rndK : List It → Option (Exit → St → Prop)
  | [] => none
  | .rnd X :: _ => some X
  | .beg _ :: _ => some noX
  | _ :: k => rndK k

/-- Where a goto leads. -/
def gotoK (l : Nat) : List It → Option (List It)
  | [] => none
  | .scp c :: k => match findLabel c l with
    | some rest => some (.c rest :: .scp c :: k)
    | none => gotoK l k
  | .rnd _ :: _ => none
  | .beg _ :: _ => none
  | _ :: k => gotoK l k

def setD (fr : List SV) (d : Option Nat) (v : SV) : List SV :=
  match d with
  | some d => sl fr d v
  | none => fr

/-- What a guard makes of a value. -/
def gvB (want : Bool) : SV → Option Bool
  | .s (.bool b) => some (bif want then b else !b)
  | .gd g x => match gvB want x with
    | some b => some (g && b)
    | none => none
  | _ => none

/-- The guard's value. -/
def gval (all : List Oper) (fr : List SV) (j : Nat) (want : Bool) : Option Bool :=
  match all[j]? with
  | some o => match o.dst with
    | some d => gvB want (gl fr d)
    | none => none
  | none => none

def memN (n : Nat) : List Nat → Bool
  | [] => false
  | x :: l => bif x == n then true else memN n l

/-- All objects that are named. -/
def ids1 : List S1 → List Nat
  | [] => []
  | .sub o _ _ :: l => o :: ids1 l
  | .pb o _ :: l => o :: ids1 l
  | .pe o _ _ :: l => o :: ids1 l
  | .fn _ caps :: l => caps.map (·.1) ++ ids1 l
  | .yl o :: l => o :: ids1 l
  | _ :: l => ids1 l

def idsV : SV → List Nat
  | .s x => ids1 [x]
  | .agg l => ids1 l
  | .gd _ x => idsV x
  | _ => []

def obFree : Op → Bool
  | .move _ => true
  | .assign _ => true
  | .pick _ _ _ => true
  | .unOp .. => true
  | .extract .. => true
  | .field .. => true
  | .index .. => true
  | .build .. => true
  | _ => false

def idsO (fr : List SV) : List Operand → List Nat
  | [] => []
  | x :: l => idsV (ev fr x) ++ idsO fr l

/-- The objects that an operation may look at. -/
def rdO (fr : List SV) (op : Op) : List Nat := bif obFree op then [] else idsO fr op.operands.toList

def keys' : List (Nat × Ob) → List Nat
  | [] => []
  | (o, _) :: l => o :: keys' l

/-- The lexical run of a region that draws its order; which objects each operation looks at and which it turns. -/
def runD (P : Program) (Cs : List Con) (all : List Oper) (Q : List (List Nat × List Nat) → St → Prop) : List (List Nat × List Nat) → List Oper → St → Prop
  | recs, [], st => Q recs st
  | recs, o :: l, st => match stepU P Cs (fo st.hp) st.nx st.fr o.op with
    | none => match o.guard with
      | none => False
      | some (j, want) => match gval all st.fr j want with
        | none => False
        | some g => g = false ∧ runD P Cs all Q (recs ++ [([], [])]) l ⟨setD st.fr o.dst .unk, st.hp, st.nx⟩
    | some u => match o.guard with
      | none => u.owe ∧ (u.gives → runD P Cs all Q (recs ++ [(rdO st.fr o.op, keys' u.ws)]) l ⟨setD st.fr o.dst u.val, uos st.hp u.ws, u.hi⟩)
      | some (j, want) => match gval all st.fr j want with
        | none => False
        | some g => match u.ws with
          | [] => (g = true → u.owe) ∧ ((g = true → u.gives) → runD P Cs all Q (recs ++ [(rdO st.fr o.op, [])]) l ⟨setD st.fr o.dst (.gd g u.val), st.hp, u.hi⟩)
          | _ => (g = true → u.owe ∧ (u.gives → runD P Cs all Q (recs ++ [(rdO st.fr o.op, keys' u.ws)]) l ⟨setD st.fr o.dst u.val, uos st.hp u.ws, u.hi⟩)) ∧
              (g = false → runD P Cs all Q (recs ++ [([], [])]) l ⟨setD st.fr o.dst .unk, st.hp, st.nx⟩)

/-- Of each operation, those that come up ahead of it in every order, as the bits of a number. -/
def ancM (tab : List Nat) : List Edge → Nat → Nat
  | [], m => m
  | e :: l, m => ancM tab l (bif Region.binds .any e then m ||| (tab.getD e.on 0 ||| 1 <<< e.on) else m)
def ancT : List Oper → List Nat → List Nat
  | [], tab => tab
  | o :: l, tab => ancT l (tab ++ [ancM tab o.after.toList 0])

def lexT : List Oper → Nat → Bool
  | [], _ => true
  | o :: l, i => o.after.toList.all (fun e => !Region.binds .any e || Nat.blt e.on i) && lexT l (i + 1)

/-- What is asked of a region that draws its order, of its text alone. -/
def staB (P : Program) (ops : Array Oper) : Bool :=
  P.follows .mixedOrders && lexT ops.toList 0 &&
    (let tab := ancT ops.toList []
     (List.range ops.size).all fun j => (List.range j).all fun i => (tab.getD j 0).testBit i || (match ops[i]?, ops[j]? with
      | some x, some y => Oper.apart ops x y
      | _, _ => true))

def disj (l m : List Nat) : Bool := l.all fun x => !m.contains x

def dynB (ops : Array Oper) (recs : List (List Nat × List Nat)) : Bool :=
  let tab := ancT ops.toList []
  (List.range ops.size).all fun j => (List.range j).all fun i => (tab.getD j 0).testBit i || (match recs[i]?, recs[j]? with
      | some (r, w), some (r', w') => disj w r' && disj w w' && disj w' r
      | _, _ => true)

/-! ### What is handed back -/
/-- The cells against the datum: what is owed, which objects are used, what is left of the cells. -/
def mt (ob : Nat → Ob) : (t : Ty) → List S1 → t.den → Option (Prop × List Nat × List S1)
  | .int k, .int k' n :: r, y => bif keq k' k then some (n = y, [], r) else none
  | .bool, .bool b :: r, y => some (b = y, [], r)
  | .str, .str s :: r, y => some (s = y, [], r)
  | .unit, r, _ => some (True, [], r)
  | .opq, .val v :: r, y => bif v.oneCell' then some (v = y, [], r) else none
  | .opq, .ro t x :: r, y => match Ty.cast t .opq x with
    | some v => some (v = y, [], r)
    | none => none
  | .pair a b, l, y => match mt ob a l y.1 with
    | some (p, u, l') => match mt ob b l' y.2 with
      | some (q, u', l'') => some (p ∧ q, u ++ u', l'')
      | none => none
    | none => none
  | .slice _ _, .nils :: r, y => some (y = [], [], r)
  | .slice z e, .sub o lo hi :: r, y => match ob o with
    | .arr false z' e' xs => match Ty.cast (.slice z' e') (.slice z e) xs with
      | some (ys : List e.den) => some ((ys.drop lo).take (hi - lo) = y, [o], r)
      | none => none
    | _ => none
  | _, _, _ => none

def mtL (ob : Nat → Ob) : (rs : List (Bool × Ty)) → List (Bool × List S1) → (tyL rs).den → Option (Prop × List Nat)
  | [], [], _ => some (True, [])
  | (b, t) :: rs, (b', l) :: ls, y => bif b == b' then (match mt ob t l y.1, mtL ob rs ls y.2 with
    | some (p, u, []), some (q, u') => some (p ∧ q, u ++ u')
    | _, _ => none) else none
  | _, _, _ => none

def nodupN : List Nat → Bool
  | [] => true
  | x :: l => (bif memN x l then false else true) && nodupN l

def compOf : SV → Option (Bool × List S1)
  | .s x => some (false, [x])
  | .agg l => some (true, l)
  | _ => none

/-- The results, out of their slots. -/
def retV (P : Program) (ob : Nat → Ob) (fr : List SV) : List ResultVar → Option (Prop × List (Bool × List S1))
  | [] => some (True, [])
  | .tmp t :: r => match compOf (gl fr t), retV P ob fr r with
    | some c, some (p, l) => some (p, c :: l)
    | _, _ => none
  | .cell t T :: r => match aggI P T with
    | some (b, n) => match sLoad ob b n (gl fr t) with
      | some (p, v) => match compOf v, retV P ob fr r with
        | some c, some (q, l) => some (p ∧ q, c :: l)
        | _, _ => none
      | none => none
    | none => none

/-- The results as data. -/
def rdL (ob : Nat → Ob) : (rs : List (Bool × Ty)) → List (Bool × List S1) → Option (tyL rs).den
  | [], [] => some ()
  | (b, t) :: rs, (b', l) :: ls => bif b == b' then (match rdS ob t l, rdL ob rs ls with
    | some (x, []), some xs => some (x, xs)
    | _, _ => none) else none
  | _, _ => none

/-- What is owed at the end, if the results may be shared. -/
def RetS (P : Program) (results : List ResultVar) (rs : List (Bool × Ty)) (y : (tyL rs).den) (st : St) : Prop :=
  match retV P (fo st.hp) st.fr results with
  | some (p, l) => match rdL (fo st.hp) rs l with
    | some y' => p ∧ (tyL rs).wf y' ∧ y' = y
    | none => False
  | none => False

def RetQ (P : Program) (results : List ResultVar) (rs : List (Bool × Ty)) (y : (tyL rs).den) (st : St) : Prop :=
  match retV P (fo st.hp) st.fr results with
  | some (p, l) => match mtL (fo st.hp) rs l y with
    | some (q, u) => p ∧ q ∧ nodupN u = true
    | none => False
  | none => False

/-- The arguments' slots, at a contract's beginning. -/
def argSV : (as : List (Bool × Ty)) → (tyL as).den → List SV
  | [], _ => []
  | (true, t) :: as, x => .agg (cellsS t x.1) :: argSV as x.2
  | (false, t) :: as, x => .s (g1 (cellsS t x.1) 0) :: argSV as x.2

def unks : Nat → List SV
  | 0 => []
  | n + 1 => .unk :: unks n

def appSV : List SV → List SV → List SV
  | [], l => l
  | x :: r, l => x :: appSV r l

/-- A branch. -/
def brB (t : Bool) (A B : Prop) : Prop := (t = true → A) ∧ (t = false → B)
theorem brB_true {A B : Prop} : brB true A B = A := by simp [brB]
theorem brB_false {A B : Prop} : brB false A B = B := by simp [brB]
theorem brB_split {t : Bool} {A B : Prop} : brB t A B = ((t = true → A) ∧ (t = false → B)) := rfl
/-- The test is told before the branches are looked at. -/
theorem brB_congr {t t' : Bool} {A B : Prop} (h : t = t') : brB t A B = brB t' A B := by rw [h]

/-! ### Callees that are run by their bodies -/
/-- All objects that a value names. -/
def idsT : List (Bool × List S1) → List Nat
  | [] => []
  | (_, l) :: r => ids1 l ++ idsT r

def idsA : SV → List Nat
  | .s x => ids1 [x]
  | .agg l => ids1 l
  | .tup l => idsT l
  | .gd _ x => idsA x
  | .unk => []

def idsF : List SV → List Nat
  | [] => []
  | x :: l => idsA x ++ idsF l

def ddN : List Nat → List Nat
  | [] => []
  | x :: l => bif memN x l then ddN l else x :: ddN l

def pbs : List (Nat × Nat) → List SV
  | [] => []
  | (o, f) :: l => .s (.pb o f) :: pbs l

def bodyF (fn : Func) : Option (Code × List ResultVar × Nat) := match fn.body with
  | some c => some (c, fn.results.toList, fn.ntmps)
  | none => none

def bodyI (P : Program) (g : Nat) : Option (Code × List ResultVar × Nat) := match P.funcs[g]? with
  | some fn => if fn.name = "runtime.NumGoroutine" then none else bodyF fn
  | none => none

/-- A function out of a list of functions. -/
def fnV : Value → S1
  | .func (.func g) xs ys => bif Nat.beq xs.size 0 && Nat.beq ys.size 0 then .fn g [] else .ro .opq (.func (.func g) xs ys)
  | u => .ro .opq u
def fnS : SV → SV
  | .s (.ro .opq v) => .s (fnV v)
  | x => x

/-- The callee's beginning: what is owed, its code, its results, its frame. -/
def inlU (P : Program) (inl : List Nat) (st : St) : Op → Option (Prop × Code × List ResultVar × List SV)
  | .call c => match c.callee with
    | .value f => match fnS (pkV (ev st.fr f)) with
      | .s (.fn g caps) => bif memN g inl && boxes (fo st.hp) caps then (match bodyI P g with
        | some (code, rs, nt) => bif Nat.ble (c.args.size + caps.length) nt then
            some (pkP (ev st.fr f) ∧ pkPs st.fr c.args.toList, code, rs, appSV (pkVs st.fr c.args.toList) (appSV (pbs caps) (unks (nt - (c.args.size + caps.length))))) else none
        | none => none) else none
      | _ => none
    | _ => none
  | _ => none

/-- What is owed when the callee comes back: the caller's run from there on. -/
def RetI (P : Program) (results : List ResultVar) (R : SV → List (Nat × Ob) → Nat → Prop) (st2 : St) : Prop :=
  match retV P (fo st2.hp) st2.fr results with
  | some (p, cs) => p ∧ R (resV cs) st2.hp st2.nx
  | none => False

/-- The same, of what a run rn makes of the caller. -/
def inlJ (P : Program) (rn : List Nat → (St → Prop) → List It → St → Prop) (rs : List ResultVar) (kp : List Nat) (Q : St → Prop) (k : List It) (fr : List SV) (dst : Option Nat) : St → Prop :=
  RetI P rs fun v hp nx => rn kp Q k ⟨setD fr dst v, hp, nx⟩

theorem inlJ_at {P : Program} {rn : List Nat → (St → Prop) → List It → St → Prop} {rs : List ResultVar} {kp : List Nat} {Q : St → Prop} {k : List It} {fr : List SV} {dst : Option Nat} {st2 : St} : inlJ P rn rs kp Q k fr dst st2 =
    match retV P (fo st2.hp) st2.fr rs with
    | some (p, cs) => p ∧ rn kp Q k ⟨setD fr dst (resV cs), st2.hp, st2.nx⟩
    | none => False := rfl

/-- A range over a function: what is owed, the function's code, its frame, the memory with the loop's record. -/
def rngU (P : Program) (inl : List Nat) (st : St) (g : Operand) (ps : Array Nat) (asg body : Code) : Option (Prop × Code × List SV × List (Nat × Ob)) :=
  match fnS (pkV (ev st.fr g)) with
  | .s (.fn f caps) => bif memN f inl && boxes (fo st.hp) caps then (match bodyI P f with
    | some (code, [], nt) => bif Nat.ble (1 + caps.length) nt then
        some (pkP (ev st.fr g), code, .s (.yl st.nx) :: appSV (pbs caps) (unks (nt - (1 + caps.length))), uo st.hp st.nx (.lp 0 st.fr ps.toList asg body none)) else none
    | _ => none) else none
  | _ => none

/-- What is owed when the function that was ranged over comes back. -/
def rngJ (rn : List Nat → (St → Prop) → List It → St → Prop) (kp : List Nat) (Q : St → Prop) (k : List It) (fr : List SV) (o : Nat) : St → Prop := fun st2 =>
  match fo st2.hp o with
  | .lp s _ _ _ _ none => Nat.beq s 1 = false ∧ rn kp Q k ⟨fr, uo st2.hp o .dead, st2.nx⟩
  | .lp s _ _ _ _ (some c) => Nat.beq s 1 = false ∧ rn kp Q (.c c :: k) ⟨fr, uo st2.hp o .dead, st2.nx⟩
  | _ => False

theorem rngJ_at {rn : List Nat → (St → Prop) → List It → St → Prop} {kp : List Nat} {Q : St → Prop} {k : List It} {fr : List SV} {o : Nat} {st2 : St} : rngJ rn kp Q k fr o st2 =
    match fo st2.hp o with
    | .lp s _ _ _ _ none => Nat.beq s 1 = false ∧ rn kp Q k ⟨fr, uo st2.hp o .dead, st2.nx⟩
    | .lp s _ _ _ _ (some c) => Nat.beq s 1 = false ∧ rn kp Q (.c c :: k) ⟨fr, uo st2.hp o .dead, st2.nx⟩
    | _ => False := rfl

/-- The loop's left sides take what is yielded. -/
def setPs : List SV → List Nat → List SV → List SV
  | fr, p :: ps, v :: vs => setPs (sl fr p v) ps vs
  | fr, _, _ => fr

/-- A call of yield: what is owed, the loop, the round's frame, its code. -/
def yldU (st : St) : Op → Option (Prop × Nat × List SV × Code × Code)
  | .call c => match c.callee with
    | .value f => match pkV (ev st.fr f) with
      | .s (.yl o) => match fo st.hp o with
        | .lp 0 fr ps asg body none => bif Nat.beq c.args.size ps.length then some (pkP (ev st.fr f) ∧ pkPs st.fr c.args.toList, o, setPs fr ps (pkVs st.fr c.args.toList), asg, body) else none
        | _ => none
      | _ => none
    | _ => none
  | _ => none

def noQ : St → Prop := fun _ => False

/-- What is owed at a round's end: the loop's function goes on. -/
def rndX (rn : List Nat → (St → Prop) → List It → St → Prop) (kp : List Nat) (Q : St → Prop) (k : List It) (fr : List SV) (dst : Option Nat) (o : Nat) : Exit → St → Prop := fun e st2 =>
  match fo st2.hp o with
  | .lp 1 fr' ps asg body none => match e with
    | .normal => rn kp Q k ⟨setD fr dst (.s (.bool true)), uo st2.hp o (.lp 0 fr' ps asg body none), st2.nx⟩
    | .ret => rn kp Q k ⟨setD fr dst (.s (.bool false)), uo st2.hp o (.lp 2 fr' ps asg body (some .ret)), st2.nx⟩
    | .exit id => rn kp Q k ⟨setD fr dst (.s (.bool false)), uo st2.hp o (.lp 2 fr' ps asg body (some (.exit id))), st2.nx⟩
    | .goto t => rn kp Q k ⟨setD fr dst (.s (.bool false)), uo st2.hp o (.lp 2 fr' ps asg body (some (.goto t))), st2.nx⟩
    | _ => False
  | _ => False

theorem rndX_at {rn : List Nat → (St → Prop) → List It → St → Prop} {kp : List Nat} {Q : St → Prop} {k : List It} {fr : List SV} {dst : Option Nat} {o : Nat} {e : Exit} {st2 : St} : rndX rn kp Q k fr dst o e st2 =
    match fo st2.hp o with
    | .lp 1 fr' ps asg body none => match e with
      | .normal => rn kp Q k ⟨setD fr dst (.s (.bool true)), uo st2.hp o (.lp 0 fr' ps asg body none), st2.nx⟩
      | .ret => rn kp Q k ⟨setD fr dst (.s (.bool false)), uo st2.hp o (.lp 2 fr' ps asg body (some .ret)), st2.nx⟩
      | .exit id => rn kp Q k ⟨setD fr dst (.s (.bool false)), uo st2.hp o (.lp 2 fr' ps asg body (some (.exit id))), st2.nx⟩
      | .goto t => rn kp Q k ⟨setD fr dst (.s (.bool false)), uo st2.hp o (.lp 2 fr' ps asg body (some (.goto t))), st2.nx⟩
      | _ => False
    | _ => False := rfl

/-- The symbolic run. stp: regions to stop at; inl: functions that are run by their bodies; unr: are loops unrolled; K: what is owed where the run stops. -/
def run (P : Program) (Cs : List Con) (stp inl : List Nat) (unr : Bool) (K : List Nat → (St → Prop) → List It → St → Prop) : Nat → List Nat → (St → Prop) → List It → St → Prop
  | 0, kp, Q, k, st => K kp Q k st
  | _ + 1, _, Q, [], st => Q st
  | n + 1, kp, Q, .blk _ :: k, st => run P Cs stp inl unr K n kp Q k st
  | n + 1, kp, Q, .scp _ :: k, st => run P Cs stp inl unr K n kp Q k st
  | n + 1, kp, Q, .lp c :: k, st => run P Cs stp inl unr K n kp Q (.c c :: .lp c :: k) st
  | _ + 1, _, _, .fin J :: _, st => J st
  | _ + 1, _, _, .rnd X :: _, st => X .normal st
  | n + 1, kp, Q, .beg o :: k, st => match fo st.hp o with
    | .lp 0 fr ps asg body none => run P Cs stp inl unr K n kp Q k ⟨st.fr, uo st.hp o (.lp 1 fr ps asg body none), st.nx⟩
    | _ => False
  | n + 1, kp, Q, .ops _ [] :: k, st => run P Cs stp inl unr K n kp Q k st
  | n + 1, kp, Q, .ops all (o :: l) :: k, st => match stepU P Cs (fo st.hp) st.nx st.fr o.op with
    | none => match inlU P inl st o.op with
      | none => match yldU st o.op with
        | none => match o.guard with
          | none => K kp Q (.ops all (o :: l) :: k) st
          | some (j, want) => match gval all st.fr j want with
            | none => K kp Q (.ops all (o :: l) :: k) st
            | some g => brB g (K kp Q (.ops all (o :: l) :: k) st) (run P Cs stp inl unr K n kp Q (.ops all l :: k) ⟨setD st.fr o.dst .unk, st.hp, st.nx⟩)
        | some (pre, lo, fr', asg, body) => match o.guard with
          | none => pre ∧ run P Cs stp inl unr K n (ddN (lo :: (idsF st.fr ++ kp))) noQ [.c asg, .beg lo, .c body, .rnd (rndX (run P Cs stp inl unr K n) kp Q (.ops all l :: k) st.fr o.dst lo)] ⟨fr', st.hp, st.nx⟩
          | some (j, want) => match gval all st.fr j want with
            | none => False
            | some g => brB g (pre ∧ run P Cs stp inl unr K n (ddN (lo :: (idsF st.fr ++ kp))) noQ [.c asg, .beg lo, .c body, .rnd (rndX (run P Cs stp inl unr K n) kp Q (.ops all l :: k) st.fr o.dst lo)] ⟨fr', st.hp, st.nx⟩)
                (run P Cs stp inl unr K n kp Q (.ops all l :: k) ⟨setD st.fr o.dst .unk, st.hp, st.nx⟩)
      | some (pre, code, rs, fr') => match o.guard with
        | none => pre ∧ run P Cs stp inl unr K n (ddN (idsF st.fr ++ kp)) (inlJ P (run P Cs stp inl unr K n) rs kp Q (.ops all l :: k) st.fr o.dst) [.c code] ⟨fr', st.hp, st.nx⟩
        | some (j, want) => match gval all st.fr j want with
          | none => False
          | some g => brB g (pre ∧ run P Cs stp inl unr K n (ddN (idsF st.fr ++ kp)) (inlJ P (run P Cs stp inl unr K n) rs kp Q (.ops all l :: k) st.fr o.dst) [.c code] ⟨fr', st.hp, st.nx⟩)
              (run P Cs stp inl unr K n kp Q (.ops all l :: k) ⟨setD st.fr o.dst .unk, st.hp, st.nx⟩)
    | some u => match o.guard with
      | none => u.owe ∧ (u.gives → run P Cs stp inl unr K n kp Q (.ops all l :: k) ⟨setD st.fr o.dst u.val, uos st.hp u.ws, u.hi⟩)
      | some (j, want) => match gval all st.fr j want with
        | none => False
        | some g => match u.ws, Nat.beq u.hi st.nx with
          | [], true => (g = true → u.owe) ∧ ((g = true → u.gives) → run P Cs stp inl unr K n kp Q (.ops all l :: k) ⟨setD st.fr o.dst (.gd g u.val), st.hp, u.hi⟩)
          | _, _ => brB g (u.owe ∧ (u.gives → run P Cs stp inl unr K n kp Q (.ops all l :: k) ⟨setD st.fr o.dst u.val, uos st.hp u.ws, u.hi⟩))
              (run P Cs stp inl unr K n kp Q (.ops all l :: k) ⟨setD st.fr o.dst .unk, st.hp, st.nx⟩)
  | n + 1, kp, Q, .c c :: k, st => match c with
    | .seq x y => run P Cs stp inl unr K n kp Q (.c x :: .c y :: k) st
    | .skip => run P Cs stp inl unr K n kp Q k st
    | .label _ => run P Cs stp inl unr K n kp Q k st
    | .block id x => run P Cs stp inl unr K n kp Q (.c x :: .blk id :: k) st
    | .scope x => run P Cs stp inl unr K n kp Q (.c x :: .scp x :: k) st
    | .loop x => match unr with
      | true => run P Cs stp inl unr K n kp Q (.c x :: .lp x :: k) st
      | false => K kp Q (.c (.loop x) :: k) st
    | .exit id => match jump id k with
      | some k' => run P Cs stp inl unr K n kp Q k' st
      | none => match rndK k with
        | some X => X (.exit id) st
        | none => False
    | .goto l => match gotoK l k with
      | some k' => run P Cs stp inl unr K n kp Q k' st
      | none => match rndK k with
        | some X => X (.goto l) st
        | none => False
    | .ret => match rndK k with
      | some X => X .ret st
      | none => Q st
    | .rangeFunc g ps asg body => match rngU P inl st g ps asg body with
      | none => K kp Q (.c (.rangeFunc g ps asg body) :: k) st
      | some (pre, code, fr', hp') => pre ∧ run P Cs stp inl unr K n (ddN (st.nx :: (idsF st.fr ++ kp))) (rngJ (run P Cs stp inl unr K n) kp Q k st.fr st.nx) [.c code] ⟨fr', hp', st.nx + 1⟩
    | .cond x a b => match pkV (ev st.fr x) with
      | .s (.bool t) => pkP (ev st.fr x) ∧ brB t (run P Cs stp inl unr K n kp Q (.c a :: k) st) (run P Cs stp inl unr K n kp Q (.c b :: k) st)
      | .s (.mb t f) => pkP (ev st.fr x) ∧ (t = true → run P Cs stp inl unr K n kp Q (.c a :: k) st) ∧ (f = true → run P Cs stp inl unr K n kp Q (.c b :: k) st)
      | _ => False
    | .region id ops false => match memN id stp with
      | true => K kp Q (.c (.region id ops false) :: k) st
      | false => run P Cs stp inl unr K n kp Q (.ops ops.toList ops.toList :: k) st
    | .region id ops true => match memN id stp with
      | true => K kp Q (.c (.region id ops true) :: k) st
      | false => staB P ops = true ∧ runD P Cs ops.toList (fun recs st' => dynB ops recs = true ∧ run P Cs stp inl unr K n kp Q k st') [] ops.toList st
    | x => K kp Q (.c x :: k) st

end Go.Proofs.YtdepbfgnmliggaaGreatDoor.Sx
