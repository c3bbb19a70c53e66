/-
  What a function's text comes to, over symbolic values. No condition.
-/
import Derived.Test.YtlphkjbadjdleaaRx
namespace Go.Proofs.Ytlphkjbadjdleaa

inductive TK where
  | int (k : IntKind)
  | str
  | bool
  | struct (fs : List (Nat × TypeId))
  | arr (n : Nat) (e : TypeId)
  | slice (e : TypeId)
  | ptr (e : TypeId)
  | map (k e : TypeId)
  | other
/-- A type: its kind, its cells, those of its zero value, whether it is compared cell by cell. -/
structure TI where
  kind : TK
  size : Nat
  bytes : Nat
  zero : List Value
  eqs : Bool
  keyT : Bool
/-- May it be a map's key? -/
def TI.isKey (ti : TI) : Bool := match ti.kind, ti.zero with
  | .str, [.string _] => true
  | .int k, [.int k' _] => k == k'
  | .bool, [.bool _] => true
  | .struct _, _ => ti.keyT
  | _, _ => false
def TI.agg (ti : TI) : Bool := match ti.kind with | .struct _ => true | .arr _ _ => true | _ => false
def TI.zval (ti : TI) : Value := match ti.agg with
  | true => .agg ti.zero.toArray
  | false => ti.zero.headD undef
structure Tab where
  ty : TypeId → Option TI
  fn : FuncId → Bool

structure Need (p q : Prop) : Prop where
  h : p
  k : q
/-- A region that draws its order, and may be said to read alone: by that, or as one that draws. -/
inductive QuiD (p q r : Prop) : Prop where
  | quiet (h : p) (k : q)
  | draw (d : r)
structure Br (b : Bool) (t f : Prop) : Prop where
  ht : b = true → t
  hf : b = false → f
inductive Ar (k : IntKind) (n : Int) (K : SV → Prop) : Prop where
  | plain (h : k.wrap n = n) (q : K (.v (.int k n)))
  | wrapped (q : K (.v (.int k (k.wrap n))))

def getS : List SV → Nat → SV
  | [], _ => .junk
  | x :: _, 0 => x
  | _ :: xs, n + 1 => getS xs n
def setK : List SV → Nat → SV → (List SV → Prop) → Prop
  | [], _, _, K => K []
  | _ :: xs, 0, y, K => K (y :: xs)
  | x :: xs, n + 1, y, K => setK xs n y fun ys => K (x :: ys)
def putK (dst : Option Tmp) (tm : List SV) (y : SV) (K : List SV → Prop) : Prop := match dst with | none => K tm | some d => setK tm d y K
def getH : List HE → Nat → HE
  | [], _ => .none
  | x :: _, 0 => x
  | _ :: xs, n + 1 => getH xs n
def setHK : List HE → Nat → HE → (List HE → Prop) → Prop
  | [], _, _, K => K []
  | _ :: xs, 0, y, K => K (y :: xs)
  | x :: xs, n + 1, y, K => setHK xs n y fun ys => K (x :: ys)
/-- A number, written out. -/
def natL : List Nat → Nat → (Nat → Prop) → Prop
  | [], n, K => K n
  | k :: r, n, K => match Nat.beq n k with
    | true => K k
    | false => natL r n K
def lits : List Nat := [0, 1, 2, 3, 4, 5, 6, 7, 8, 9, 10, 11, 12, 13, 14, 15, 16, 17, 18, 19, 20, 21, 22, 23, 24, 25, 26, 27, 28, 29, 30, 31, 32, 33, 34, 35, 36, 37, 38, 39, 40, 41, 42, 43, 44, 45, 46, 47, 48, 49, 50, 51, 52, 53, 54, 55, 56, 57, 58, 59, 60]
def lenK (H : List HE) (K : Nat → Prop) : Prop := natL lits H.length K
def valsK : List Value → (List SV → Prop) → Prop
  | [], K => K []
  | x :: xs, K => valsK xs fun ys => K (.v x :: ys)
def appK : List HE → HE → (List HE → Prop) → Prop
  | [], y, K => K [y]
  | x :: xs, y, K => appK xs y fun ys => K (x :: ys)
/-- The rows that are known. -/
def rowOf : HE → Option (Nat × Nat × (Nat → Nat → Value))
  | .row sz n f => some (sz, n, f)
  | .own _ sz n f => some (sz, n, f)
  | _ => none
def closedK : List SV → (List Value → Prop) → Prop
  | [], K => K []
  | .v x :: r, K => closedK r fun xs => K (x :: xs)
  | .kb b :: r, K => closedK r fun xs => K (.bool b :: xs)
  | _, _ => False
def closedO : List SV → Option (List Value)
  | [] => some []
  | .v x :: r => match closedO r with
    | some xs => some (x :: xs)
    | none => none
  | .kb b :: r => match closedO r with
    | some xs => some (.bool b :: xs)
    | none => none
  | _ => none
/-- Off so many, so many of them. -/
def cutK : List SV → Nat → Nat → (List SV → Prop) → Prop
  | _, 0, 0, K => K []
  | [], _, _, _ => False
  | x :: xs, 0, n + 1, K => cutK xs 0 n fun ys => K (x :: ys)
  | _ :: xs, o + 1, n, K => cutK xs o n K
/-- Others in their place, from a place on. -/
def layK : List SV → Nat → List SV → (List SV → Prop) → Prop
  | xs, _, [], K => K xs
  | [], _, _ :: _, _ => False
  | _ :: xs, 0, y :: ys, K => layK xs 0 ys fun zs => K (y :: zs)
  | x :: xs, o + 1, y :: ys, K => layK xs o (y :: ys) fun zs => K (x :: zs)
/-- A symbolic value that is some value. -/
def nj (s : SV) (K : SV → Prop) : Prop := match s with
  | .junk => False
  | .v x => K (.v x)
  | .kb b => K (.kb b)
  | .p i o => K (.p i o)
  | .s i o n c => K (.s i o n c)
  | .rp i z r c => K (.rp i z r c)
  | .rs i n c => K (.rs i n c)
  | .os i n => K (.os i n)
  | .ov i z l n => K (.ov i z l n)
  | .m i => K (.m i)
  | .fn f c => K (.fn f c)
  | .agg c => K (.agg c)
  | .tup c => K (.tup c)
/-- One that is one cell. -/
def oneB (s : SV) : Bool := match s with
  | .junk => false
  | .v x => x.oneCell'
  | .agg _ => false
  | .tup _ => false
  | _ => true
def allOne : List SV → Bool
  | [] => true
  | x :: xs => oneB x && allOne xs
def cellsK (s : SV) (K : List SV → Prop) : Prop := match s with
  | .junk => False
  | .v (.agg _) => False
  | .v (.tuple _) => False
  | .tup _ => False
  | .agg cs => Need (allOne cs = true) (K cs)
  | .v x => K [.v x]
  | .kb b => K [.kb b]
  | .p i o => K [.p i o]
  | .s i o n c => K [.s i o n c]
  | .rp i z r c => K [.rp i z r c]
  | .rs i n c => K [.rs i n c]
  | .os i n => K [.os i n]
  | .ov i z l n => K [.ov i z l n]
  | .m i => K [.m i]
  | .fn f c => K [.fn f c]
def vals : List Value → List SV
  | [] => []
  | x :: xs => .v x :: vals xs
def mapRow (f : Nat → Nat → Value) (r : Nat) : Nat → Nat → List SV
  | _, 0 => []
  | c, n + 1 => .v (f r c) :: mapRow f r (c + 1) n

def opd (tm : List SV) : Operand → SV
  | .tmp t => getS tm t
  | .const v => match v with
    | .bool b => .kb b
    | v => .v v
  | .global _ => .junk
  | .func f => .fn (.func f) []

/-- The same; a boolean that is known as it is at other times. -/
def opN (tm : List SV) (x : Operand) : SV := match opd tm x with
  | .kb b => .v (.bool b)
  | s => s
/-- A number's bits with another one's. -/
def bitI (f : ∀ n, BitVec n → BitVec n → BitVec n) (k : IntKind) (a b : Int) : Int := k.wrap (f k.bits (BitVec.ofInt k.bits a) (BitVec.ofInt k.bits b)).toNat
def arith (op : BinOp) (k : IntKind) (a b : Int) (K : SV → Prop) : Prop := match op with
  | .add => Ar k (a + b) K
  | .sub => Ar k (a - b) K
  | .mul => Ar k (a * b) K
  | .quo => Need (0 ≤ a ∧ 0 < b) (Ar k (a / b) K)
  | .rem => Need (0 ≤ a ∧ 0 < b) (K (.v (.int k (a % b))))
  | .eql => K (.v (.bool (a == b)))
  | .neq => K (.v (.bool (a != b)))
  | .lss => K (.v (.bool (decide (a < b))))
  | .leq => K (.v (.bool (decide (a ≤ b))))
  | .gtr => K (.v (.bool (decide (b < a))))
  | .geq => K (.v (.bool (decide (b ≤ a))))
  | .and => K (.v (.int k (bitI (fun _ x y => x &&& y) k a b)))
  | .or => K (.v (.int k (bitI (fun _ x y => x ||| y) k a b)))
  | .xor => K (.v (.int k (bitI (fun _ x y => x ^^^ y) k a b)))
  | _ => False
def sarith (op : BinOp) (a b : List UInt8) (K : SV → Prop) : Prop := match op with
  | .add => Need (a.length + b.length ≤ 9223372036854775807) (K (.v (.string ⟨⟨a ++ b⟩⟩)))
  | .eql => K (.v (.bool (a == b)))
  | .neq => K (.v (.bool (a != b)))
  | .lss => K (.v (.bool (Op.bytesLess a b)))
  | .leq => K (.v (.bool (Op.bytesLess a b || a == b)))
  | .gtr => K (.v (.bool (!(Op.bytesLess a b || a == b))))
  | .geq => K (.v (.bool (!(Op.bytesLess a b))))
  | _ => False
def eqOne (z x y : Value) (K : Bool → Prop) : Prop := match z, x, y with
  | .int k _, .int k1 a, .int k2 b => Need (k1 = k ∧ k2 = k) (K (a == b))
  | .bool _, .bool a, .bool b => K (a == b)
  | .string _, .string ⟨⟨a⟩⟩, .string ⟨⟨b⟩⟩ => K (a == b)
  | _, _, _ => False
def eqNilC (xs ys : List SV) (K : Bool → Prop) : Prop := match xs, ys with
  | [], [] => K true
  | _, _ => False
def eqConsC (z : Value) (ih : List SV → List SV → (Bool → Prop) → Prop) (xs ys : List SV) (K : Bool → Prop) : Prop := match xs, ys with
  | .v x :: xs, .v y :: ys => eqOne z x y fun a => ih xs ys fun r => K (a && r)
  | _, _ => False
/-- Cell by cell. -/
def eqCells (zs : List Value) : List SV → List SV → (Bool → Prop) → Prop :=
  @List.rec Value (fun _ => List SV → List SV → (Bool → Prop) → Prop) eqNilC (fun z _ ih => eqConsC z ih) zs
def nilP (H : List HE) : SV → Option Bool
  | .v (.pointer none) => some true
  | .v (.pointer (some _)) => some false
  | .p i _ => match getH H i with
    | .blk _ _ => some false
    | .obj1 _ _ _ _ _ _ => some false
    | _ => none
  | _ => none
def nilS (H : List HE) : SV → Option Bool
  | .v (.slice none _ _) => some true
  | .v (.slice (some _) _ _) => some false
  | .s i _ _ _ => match getH H i with
    | .blk _ _ => some false
    | _ => none
  | _ => none
def nilSK (H : List HE) (x : SV) (K : Bool → Prop) : Prop := match x with
  | .rs i n _ => match getH H i with
    | .row _ n' _ => Need (0 < n ∧ n ≤ n') (K false)
    | _ => False
  | .os i n => match getH H i with
    | .own _ _ n' _ => Need (0 < n ∧ n ≤ n') (K false)
    | _ => False
  | x => match nilS H x with
    | some b => K b
    | none => False
def nilM (H : List HE) : SV → Option Bool
  | .m i => match getH H i with
    | .mp _ _ _ _ => some false
    | _ => none
  | .v (.map none) => some true
  | .v (.map (some _)) => some false
  | _ => none
def eqNil (op : BinOp) (a : Option Bool) (K : SV → Prop) : Prop := match op, a with
  | .eql, some a => K (.v (.bool a))
  | .neq, some a => K (.v (.bool !a))
  | _, _ => False
section
variable (T : Tab)
def loadK (H : List HE) (t : TypeId) (x : SV) (K : SV → Prop) : Prop := match x with
  | .p i off => match T.ty t, getH H i with
    | some ti, .blk _ cs => match ti.agg with
      | true => cutK cs off ti.size fun ds => Need (allOne ds = true) (K (.agg ds))
      | false => nj (getS cs off) K
    | _, _ => False
  | .rp i sz r c => match T.ty t, rowOf (getH H i) with
    | some ti, some (sz', n, f) => Need (sz = sz' ∧ r < n ∧ c + ti.size ≤ sz') (match ti.agg with
      | true => K (.agg (mapRow f r c ti.size))
      | false => Need (0 < ti.size) (K (.v (f r c))))
    | _, _ => False
  | _ => False
def partK (t : TypeId) (cs : List SV) (off : Nat) (K : SV → Prop) : Prop := match T.ty t with
  | some ti => match ti.agg with
    | true => cutK cs off ti.size fun ds => K (.agg ds)
    | false => nj (getS cs off) K
  | none => False
def fillOne (place : Nat → Option (Nat × Nat)) (q : Nat × SV) (cells : List SV) (K : List SV → Prop) : Prop := match place q.1 with
  | none => False
  | some (off, size) => cellsK q.2 fun ds => match Nat.beq ds.length size && Nat.blt 0 size with
    | true => layK cells off ds K
    | false => False
def fillConsC (place : Nat → Option (Nat × Nat)) (q : Nat × SV) (ih : List SV → (List SV → Prop) → Prop) (cells : List SV) (K : List SV → Prop) : Prop := fillOne place q cells fun cells' => ih cells' K
/-- The parts of a composite, one after the other. -/
def fillK (place : Nat → Option (Nat × Nat)) (cells : List SV) (parts : List (Nat × SV)) (K : List SV → Prop) : Prop :=
  @List.rec (Nat × SV) (fun _ => List SV → (List SV → Prop) → Prop) (fun cells K => K cells) (fun q _ ih => fillConsC place q ih) parts cells K
def structPlace (fs : List (Nat × TypeId)) (i : Nat) : Option (Nat × Nat) := match fs[i]? with
  | some (off, t) => match T.ty t with
    | some ti => some (off, ti.size)
    | none => none
  | none => none
def allPlaces : List (Nat × TypeId) → Option (List (Nat × Nat))
  | [] => some []
  | (off, t) :: r => match T.ty t, allPlaces r with
    | some ti, some ps => some ((off, ti.size) :: ps)
    | _, _ => none
def getP : List (Nat × Nat) → Nat → Option (Nat × Nat)
  | [], _ => none
  | x :: _, 0 => some x
  | _ :: xs, n + 1 => getP xs n
def rowPlace (sz : Nat) (i : Nat) : Option (Nat × Nat) := some (i * sz, sz)
def opds (tm : List SV) : List (Nat × Operand) → List (Nat × SV)
  | [] => []
  | (i, x) :: r => (i, opd tm x) :: opds tm r

/-- Is a key another one? -/
def keyEq1 : Value → Value → Bool
  | .int _ a, .int _ b => a == b
  | .bool a, .bool b => a == b
  | .string ⟨⟨a⟩⟩, .string ⟨⟨b⟩⟩ => a == b
  | _, _ => false
def keyEqL : List Value → List Value → Bool
  | [], [] => true
  | x :: xs, y :: ys => keyEq1 x y && keyEqL xs ys
  | _, _ => false
def keyEq : Value → Value → Bool
  | .agg ⟨xs⟩, .agg ⟨ys⟩ => keyEqL xs ys
  | x, y => keyEq1 x y
/-- What stands in a map. -/
def lookE : List (Value × Value) → Value → Option Value
  | [], _ => none
  | p :: r, k => if keyEq k p.1 then some p.2 else lookE r k
/-- A map with a key's value set. -/
def updE : List (Value × Value) → Value → Value → List (Value × Value)
  | [], k, v => [(k, v)]
  | p :: r, k, v => if keyEq k p.1 then (k, v) :: r else p :: updE r k v
def delE : List (Value × Value) → Value → List (Value × Value)
  | [], _ => []
  | p :: r, k => if keyEq k p.1 then r else p :: delE r k
/-- What is found, told by whoever walks. -/
structure LookN (es : List (Value × Value)) (k : Value) (K : Option Value → Prop) : Prop where
  out : ∃ o, lookE es k = o ∧ K o
def keyK (s : SV) (K : Value → Prop) : Prop := match s with
  | .agg cs => closedK cs fun vs => K (.agg ⟨vs⟩)
  | .kb b => K (.bool b)
  | .v x => K x
  | _ => False
def svK (v : Value) (K : SV → Prop) : Prop := match v with
  | .agg ⟨cs⟩ => valsK cs fun ss => K (.agg ss)
  | .tuple _ => False
  | v => K (.v v)
def zeroK (te : TI) (K : SV → Prop) : Prop := match te.agg with
  | true => valsK te.zero fun zs => K (.agg zs)
  | false => match te.zero with
    | [z] => K (.v z)
    | _ => False
def foundK (te : TI) (ok : Bool) (o : Option Value) (K : SV → Prop) : Prop := match o with
  | some v => svK v fun s => match ok with
    | true => K (.tup [s, .kb true])
    | false => K s
  | none => zeroK te fun s => match ok with
    | true => K (.tup [s, .kb false])
    | false => K s
/-- What leaves the memory alone. -/
def xPure (tm : List SV) (H : List HE) (o : Op) (K : SV → Prop) : Prop := match o with
  | .move x => nj (opd tm x) K
  | .assign x => nj (opd tm x) K
  | .pick c a b => match opd tm c with
    | .kb true => nj (opd tm a) K
    | .kb false => nj (opd tm b) K
    | _ => False
  | .load t a => loadK T H t (opd tm a) K
  | .nilCheck x => match opd tm x with
    | .p i off => match getH H i with
      | .blk _ _ => K (.p i off)
      | _ => False
    | .rp i sz r c => match rowOf (getH H i) with
      | some (_, n, _) => Need (r < n) (K (.rp i sz r c))
      | _ => False
    | .fn f c => match f with
      | .func g => K (.fn (.func g) c)
      | _ => False
    | _ => False
  | .binOp op t x y _ => match opN tm x, opN tm y with
    | .v (.int k a), .v (.int k' b) => Need (k = k') (arith op k a b K)
    | .v (.string ⟨⟨a⟩⟩), .v (.string ⟨⟨b⟩⟩) => sarith op a b K
    | .v (.bool a), .v (.bool b) => match T.ty t with
      | some ti => match ti.kind, op with
        | .bool, .eql => K (.v (.bool (a == b)))
        | .bool, .neq => K (.v (.bool (a != b)))
        | _, _ => False
      | none => False
    | .agg xs, .agg ys => match T.ty t with
      | some ti => match ti.eqs, op with
        | true, .eql => eqCells ti.zero xs ys fun b => K (.v (.bool b))
        | true, .neq => eqCells ti.zero xs ys fun b => K (.v (.bool !b))
        | _, _ => False
      | none => False
    | x, .v y => match T.ty t with
      | some ti => match ti.kind, y with
        | .ptr _, .pointer none => eqNil op (nilP H x) K
        | .slice _, .slice none _ _ => nilSK H x fun b => eqNil op (some b) K
        | .map _ _, .map none => eqNil op (nilM H x) K
        | _, _ => False
      | none => False
    | _, _ => False
  | .unOp op _ x => match op, opd tm x with
    | .not, .v (.bool b) => K (.v (.bool !b))
    | .not, .kb b => match b with
      | true => K (.kb false)
      | false => K (.kb true)
    | .neg, .v (.int k n) => Ar k (0 - n) K
    | _, _ => False
  | .convert src dst x => match opd tm x, T.ty src, T.ty dst with
    | .v (.int _ n), some _, some ti => match ti.kind with
      | .int k => Ar k n K
      | _ => False
    | .v (.string s), some si, some ti => match si.kind, ti.kind with
      | .str, .str => K (.v (.string s))
      | _, _ => False
    | _, _, _ => False
  | .makeFunc f first captured => match first.toList with
    | [] => capsK (captured.toList.map (opd tm)) fun cs => K (.fn f cs)
    | _ => False
  | .fieldAddr s x i => match T.ty s with
    | some ti => match ti.kind with
      | .struct fs => match structPlace T fs i with
        | some (_, 0) => False
        | some (off, _) => match opd tm x with
          | .p j o => match getH H j with
            | .blk _ _ => K (.p j (o + off))
            | _ => False
          | .rp j sz r c => match rowOf (getH H j) with
            | some (_, n, _) => Need (r < n) (K (.rp j sz r (c + off)))
            | _ => False
          | _ => False
        | none => False
      | _ => False
    | none => False
  | .field s x i => match T.ty s with
    | some ti => match ti.kind, opd tm x with
      | .struct fs, .agg cs => match fs[i]? with
        | some (off, t) => partK T t cs off K
        | none => False
      | _, _ => False
    | none => False
  | .indexAddr t x ix => match T.ty t with
    | some ti => match ti.kind, opd tm x, opd tm ix with
      | .slice e, .rs i n _, .v (.int _ m) => match T.ty e, getH H i with
        | some te, .row _ n' _ => Need (0 ≤ m ∧ m < n ∧ n ≤ n') (K (.rp i te.size m.toNat 0))
        | _, _ => False
      | .slice e, .os i n, .v (.int _ m) => match T.ty e, rowOf (getH H i) with
        | some te, some (_, n', _) => Need (0 ≤ m ∧ m < n ∧ n ≤ n') (K (.rp i te.size m.toNat 0))
        | _, _ => False
      | .slice e, .s i off n _, .v (.int _ m) => match T.ty e, getH H i with
        | some te, .blk _ _ => Need (0 ≤ m ∧ m < n) (K (.p i (off + m.toNat * te.size)))
        | _, _ => False
      | .arr n e, .p i off, .v (.int _ m) => match T.ty e, getH H i with
        | some te, .blk _ _ => Need (0 ≤ m ∧ m < n) (K (.p i (off + m.toNat * te.size)))
        | _, _ => False
      | _, _, _ => False
    | none => False
  | .index t x ix => match T.ty t with
    | some ti => match ti.kind, opd tm x, opd tm ix with
      | .str, .v (.string ⟨⟨l⟩⟩), .v (.int _ m) => Need (0 ≤ m ∧ m < l.length) (K (.v (.int .u8 (l.getD m.toNat 0).toNat)))
      | .arr n e, .agg cs, .v (.int _ m) => match T.ty e with
        | some te => Need (0 ≤ m ∧ m < n) (partK T e cs (m.toNat * te.size) K)
        | none => False
      | _, _, _ => False
    | none => False
  | .extract x i => match opd tm x with
    | .tup vs => nj (getS vs i) K
    | .v (.tuple ⟨vs⟩) => match vs[i]? with
      | some y => K (.v y)
      | none => False
    | _ => False
  | .build t parts => match T.ty t with
    | some ti => match ti.kind with
      | .struct fs => match allPlaces T fs with
        | some ps => valsK ti.zero fun zs => fillK (getP ps) zs (opds tm parts.toList) fun cs => K (.agg cs)
        | none => False
      | .arr _ e => match T.ty e with
        | some te => valsK ti.zero fun zs => fillK (rowPlace te.size) zs (opds tm parts.toList) fun cs => K (.agg cs)
        | none => False
      | _ => False
    | none => False
  | .slice t x lo hi mx => match T.ty t, mx with
    | some ti, none => match ti.kind, opd tm x with
      | .str, .v (.string ⟨⟨l⟩⟩) => boundK tm lo 0 fun a => boundK tm hi l.length fun b => Need (0 ≤ a ∧ a ≤ b ∧ b ≤ l.length) (K (.v (.string ⟨⟨(l.drop a.toNat).take (b.toNat - a.toNat)⟩⟩)))
      | .slice e, .rs i n c => match lo with
        | none => match T.ty e with
          | some _ => boundK tm hi n fun b => Need (0 ≤ b ∧ b ≤ c) (K (.rs i b.toNat c))
          | none => False
        | some _ => False
      | .slice e, .os i n => match lo with
        | none => match T.ty e, getH H i with
          | some _, .own _ _ n' _ => boundK tm hi n fun b => Need (0 ≤ b ∧ b ≤ n ∧ n ≤ n') (K (.os i b.toNat))
          | _, _ => False
        | some l => match T.ty e, getH H i with
          | some te, .own _ _ n' _ => boundK tm (some l) 0 fun a => boundK tm hi n fun b => Need (0 ≤ a ∧ a ≤ b ∧ b ≤ n ∧ n ≤ n') (K (.ov i te.size a.toNat (b.toNat - a.toNat)))
          | _, _ => False
      | _, _ => False
    | _, _ => False
  | .lookup t x ix ok => match T.ty t with
    | some ti => match ti.kind with
      | .map k e => match T.ty k, T.ty e with
        | some tk, some te => match opd tm x with
          | .m i => match getH H i with
            | .mp ag zk es _ => keyK (opd tm ix) fun kv => Need ((ag = tk.agg ∧ zk = tk.zero ∧ tk.isKey = true) ∧ keyOK ag zk kv = true) (LookN es kv fun o => foundK te ok o K)
            | _ => False
          | .v (.map none) => keyK (opd tm ix) fun kv => Need (tk.isKey = true ∧ keyOK tk.agg tk.zero kv = true) (foundK te ok none K)
          | _ => False
        | _, _ => False
      | _ => False
    | none => False
  | .call c => match c.callee, c.args.toList with
    | .builtin .len, [x] => match opd tm x, (c.argTypes[0]?).bind T.ty with
      | .rs _ n _, some ti => match ti.kind with | .slice _ => K (.v (.int .i64 n)) | _ => False
      | .os _ n, some ti => match ti.kind with | .slice _ => K (.v (.int .i64 n)) | _ => False
      | .ov _ _ _ n, some ti => match ti.kind with | .slice _ => K (.v (.int .i64 n)) | _ => False
      | .s _ _ n _, some ti => match ti.kind with | .slice _ => K (.v (.int .i64 n)) | _ => False
      | .v (.slice _ n _), some ti => match ti.kind with | .slice _ => K (.v (.int .i64 n)) | _ => False
      | .v (.map none), some ti => match ti.kind with | .map _ _ => K (.v (.int .i64 0)) | _ => False
      | .m i, some ti => match ti.kind, getH H i with | .map _ _, .mp _ _ es _ => K (.v (.int .i64 es.length)) | _, _ => False
      | .v (.string ⟨⟨l⟩⟩), some ti => match ti.kind with | .str => K (.v (.int .i64 l.length)) | _ => False
      | _, _ => False
    | .builtin .min, [x, y] => match opd tm x, opd tm y with
      | .v (.int k a), .v (.int _ b) => K (.v (.int k (min a b)))
      | _, _ => False
    | .builtin .max, [x, y] => match opd tm x, opd tm y with
      | .v (.int k a), .v (.int _ b) => K (.v (.int k (max a b)))
      | _, _ => False
    | _, _ => False
  | _ => False
where
  capsK : List SV → (List (Nat × Nat) → Prop) → Prop
    | [], K => K []
    | .p i o :: r, K => capsK r fun cs => K ((i, o) :: cs)
    | _, _ => False
  boundK (tm : List SV) (x : Option Operand) (d : Nat) (K : Int → Prop) : Prop := match x with
    | none => K d
    | some y => match opd tm y with
      | .v (.int _ m) => K m
      | _ => False
end

/-- Does it call a function of the program's? -/
def callOf (o : Op) : Option (Operand × List Operand) := match o with
  | .call c => match c.callee with
    | .value f => some (f, c.args.toList)
    | _ => none
  | _ => none
def argsK (tm : List SV) : List Operand → (List SV → Prop) → Prop
  | [], K => K []
  | x :: xs, K => nj (opd tm x) fun s => argsK tm xs fun ss => K (s :: ss)
def capS : List (Nat × Nat) → List SV
  | [] => []
  | (i, o) :: r => .p i o :: capS r
def joinK : List SV → List SV → (List SV → Prop) → Prop
  | [], ys, K => K ys
  | x :: xs, ys, K => joinK xs ys fun zs => K (x :: zs)

section
variable (P : Program) (w0 : World) (U : Nat → Prop) (T : Tab)
/-- A call that may change the memory. -/
structure CallN (f : FuncId) (args : List SV) (H : List HE) (K : SV → List HE → Prop) : Prop where
  out : ∀ ρ w, HRel w0 U ρ H w → Calls P f (SV.denL ρ args).toArray w fun e w' => ∃ sv H' ρ', (∀ ρ'', Same H'.length ρ' ρ'' → e = .returned (sv.den ρ'')) ∧ HRel w0 U ρ' H' w' ∧ Same H.length ρ ρ' ∧ H.length ≤ H'.length ∧ K sv H'
/-- A call that leaves what is known as it is. -/
structure CallQ (f : FuncId) (args : List SV) (H : List HE) (K : SV → Prop) : Prop where
  out : ∃ v : Value, (∀ ρ w, HRel w0 U ρ H w → Calls P f (SV.denL ρ args).toArray w fun e w' => e = .returned v ∧ HRel w0 U ρ H w') ∧ K (.v v)
def callX (tm : List SV) (f : Operand) (args : List Operand) (K : FuncId → List SV → Prop) : Prop := match opd tm f with
  | .fn (.func g) caps => match T.fn g with
    | true => argsK tm args fun ss => joinK ss (capS caps) fun all => K g all
    | false => False
  | _ => False
/-- What is appended: how many rows, and which. -/
def newsK (H : List HE) (sz : Nat) (y : SV) (K : Nat → (Nat → Nat → Value) → Prop) : Prop := match y with
  | .s j off m _ => match getH H j with
    | .blk _ cs => cutK cs off (m * sz) fun ds => closedK ds fun vs => Need (∀ u ∈ vs, u.oneCell' = true) (K m fun r c => vs.getD (r * sz + c) undef)
    | _ => False
  | .rs j m _ => match getH H j with
    | .row sz' m' f => Need (sz' = sz ∧ m ≤ m' ∧ ∀ r c, r < m → c < sz → (f r c).oneCell' = true) (K m f)
    | _ => False
  | .os j m => match rowOf (getH H j) with
    | some (sz', m', f) => Need (sz' = sz ∧ m ≤ m' ∧ ∀ r c, r < m → c < sz → (f r c).oneCell' = true) (K m f)
    | none => False
  | .ov j z l m => match getH H j with
    | .own _ sz' m' f => Need (z = sz ∧ sz' = sz ∧ l + m ≤ m' ∧ ∀ r c, r < m → c < sz → (f (l + r) c).oneCell' = true) (K m fun r c => f (l + r) c)
    | _ => False
  | .v (.slice _ 0 _) => K 0 fun _ _ => undef
  | _ => False
/-- Rows behind rows. -/
def rowsApp (n : Nat) (f g : Nat → Nat → Value) : Nat → Nat → Value := fun r c => if r < n then f r c else g (r - n) c
/-- Cells of one row, others. -/
def updR (f : Nat → Nat → Value) (r c : Nat) (vs : List Value) : Nat → Nat → Value := fun r' c' => match Nat.beq r' r && Nat.ble c c' && Nat.blt c' (c + vs.length) with
  | true => vs.getD (c' - c) undef
  | false => f r' c'
def xApp (tm : List SV) (H : List HE) (c : Call) (K : SV → List HE → Prop) : Prop := match c.args.toList, c.argTypes.toList with
  | [x, y], [t, t'] => match Nat.beq t' t, T.ty t with
    | true, some ti => match ti.kind with
      | .slice e => match T.ty e with
        | some te => newsK H te.size (opd tm y) fun m g => Need (0 < te.size ∧ te.zero.length = te.size) (match opd tm x with
          | .v (.slice none 0 0) => Need (m ≤ 9223372036854775807 ∧ m * te.bytes ≤ 140737488355328) (appK H (.own e te.size m g) fun H' => lenK H fun i => K (.os i m) H')
          | .os i n => match getH H i with
            | .own ty sz n' f => Need (ty = e ∧ sz = te.size ∧ n' = n ∧ n + m ≤ 9223372036854775807 ∧ (n + m) * te.bytes ≤ 140737488355328)
              (setHK H i .none fun H1 => appK H1 (.own e te.size (n + m) (rowsApp n f g)) fun H' => lenK H fun i => K (.os i (n + m)) H')
            | _ => False
          | _ => False)
        | none => False
      | _ => False
    | _, _ => False
  | _, _ => False
def isApp (o : Op) : Option Call := match o with
  | .call c => match c.callee with
    | .builtin .append => some c
    | _ => none
  | _ => none
def isDel (o : Op) : Option Call := match o with
  | .call c => match c.callee with
    | .builtin .delete => some c
    | _ => none
  | _ => none
def xDel (tm : List SV) (H : List HE) (c : Call) (K : SV → List HE → Prop) : Prop := match c.args.toList, c.argTypes[0]? with
  | [x, y], some t => match T.ty t with
    | some ti => match ti.kind, opd tm x with
      | .map k _, .m i => match T.ty k, getH H i with
        | some tk, .mp ag zk es _ => keyK (opd tm y) fun kv => Need ((ag = tk.agg ∧ zk = tk.zero ∧ tk.isKey = true) ∧ keyOK ag zk kv = true) (setHK H i (.mp ag zk (delE es kv) none) fun H' => K (.v (.tuple #[])) H')
        | _, _ => False
      | _, _ => False
    | none => False
  | _, _ => False
/-- An operation of a region whose order is that of the text. -/
def xOp (tm : List SV) (H : List HE) (o : Op) (K : SV → List HE → Prop) : Prop := match o with
  | .alloc t => match T.ty t with
    | some ti => valsK ti.zero fun cs => appK H (.blk t cs) fun H' => lenK H fun i => K (.p i 0) H'
    | none => False
  | .box t x => cellsK (opd tm x) fun cs => appK H (.blk t cs) fun H' => lenK H fun i => K (.p i 0) H'
  | .buildSlice t n parts => match T.ty t with
    | some ti => match ti.kind with
      | .slice e => match T.ty e with
        | some te => Need (0 < te.size ∧ te.zero.length = te.size ∧ n * te.size ≤ 16777216) (valsK (List.replicate n te.zero).flatten fun zs => fillK (rowPlace te.size) zs (opds tm parts.toList) fun cs => match closedO cs with
          | some vs => Need (vs.length = n * te.size) (appK H (.own e te.size n fun r c => vs.getD (r * te.size + c) undef) fun H' => lenK H fun i => K (.os i n) H')
          | none => appK H (.blk e cs) fun H' => lenK H fun i => K (.s i 0 n n) H')
        | none => False
      | _ => False
    | none => False
  | .store t a x => match opd tm a, T.ty t with
    | .p i off, some ti => match getH H i with
      | .blk ty cs => cellsK (opd tm x) fun ds => match Nat.beq ds.length ti.size with
        | true => layK cs off ds fun cs' => setHK H i (.blk ty cs') fun H' => K (.v undef) H'
        | false => False
      | _ => False
    | .rp i sz r c, some ti => match getH H i with
      | .own ty sz' n f => cellsK (opd tm x) fun ds => closedK ds fun vs => match Nat.beq ds.length ti.size with
        | true => Need (sz = sz' ∧ r < n ∧ c + vs.length ≤ sz) (setHK H i (.own ty sz' n (updR f r c vs)) fun H' => K (.v undef) H')
        | false => False
      | _ => False
    | _, _ => False
  | .makeSlice t l c => match T.ty t, opd tm l, opd tm c with
    | some ti, .v (.int .i64 n), .v (.int .i64 m) => match ti.kind with
      | .slice e => match T.ty e with
        | some te => Need (0 ≤ n ∧ n ≤ 9223372036854775807 ∧ m = n ∧ te.bytes * n ≤ 140737488355328 ∧ 0 < te.size ∧ te.zero.length = te.size) (appK H (.own e te.size n.toNat fun _ c => te.zero.getD c undef) fun H' => lenK H fun i => K (.os i n.toNat) H')
        | none => False
      | _ => False
    | _, _, _ => False
  | .makeMap t none => match T.ty t with
    | some ti => match ti.kind with
      | .map k _ => match T.ty k with
        | some tk => Need (tk.isKey = true) (appK H (.mp tk.agg tk.zero [] none) fun H' => lenK H fun i => K (.m i) H')
        | none => False
      | _ => False
    | none => False
  | .mapUpdate t x ix y => match T.ty t with
    | some ti => match ti.kind, opd tm x with
      | .map k _, .m i => match T.ty k, getH H i with
        | some tk, .mp ag zk es _ => keyK (opd tm ix) fun kv => keyK (opd tm y) fun v => Need ((ag = tk.agg ∧ zk = tk.zero ∧ tk.isKey = true) ∧ keyOK ag zk kv = true) (setHK H i (.mp ag zk (updE es kv v) none) fun H' => K (.v undef) H')
        | _, _ => False
      | _, _ => False
    | none => False
  | o => match callOf o with
    | some (f, args) => callX T tm f args fun g ss => CallN P w0 U g ss H K
    | none => match isApp o with
      | some c => xApp T tm H c K
      | none => match isDel o with
        | some c => xDel T tm H c K
        | none => xPure T tm H o fun s => K s H
/-- Does a guard let it be? -/
def guardK (ops : Array Oper) (tm : List SV) (g : Option (Nat × Bool)) (yes no : List SV → Prop) : Prop := match g with
  | none => yes tm
  | some (j, want) => match (ops[j]?).bind (·.dst) with
    | none => no tm
    | some d => match getS tm d with
      | .kb true => match want with
        | true => yes tm
        | false => no tm
      | .kb false => match want with
        | true => no tm
        | false => yes tm
      | .v (.bool b) => match want with
        | true => Br b (setK tm d (.kb true) yes) (setK tm d (.kb false) no)
        | false => Br b (setK tm d (.kb true) no) (setK tm d (.kb false) yes)
      | .v (.tuple _) => no tm
      | _ => False
def opsCons (ops : Array Oper) (o : Oper) (ih : List SV → List HE → (List SV → List HE → Prop) → Prop) (tm : List SV) (H : List HE) (K : List SV → List HE → Prop) : Prop :=
  guardK ops tm o.guard
    (fun tm => xOp P w0 U T tm H o.op fun s H' => putK o.dst tm s fun tm' => ih tm' H' K)
    (fun tm => putK o.dst tm (.v undef) fun tm' => ih tm' H K)
def opsNil (tm : List SV) (H : List HE) (K : List SV → List HE → Prop) : Prop := K tm H
def xOps (ops : Array Oper) (l : List Oper) : List SV → List HE → (List SV → List HE → Prop) → Prop :=
  @List.rec Oper (fun _ => List SV → List HE → (List SV → List HE → Prop) → Prop) opsNil (fun o _ ih => opsCons P w0 U T ops o ih) l
def quiCons (ops : Array Oper) (H : List HE) (o : Oper) (ih : List SV → (List SV → Prop) → Prop) (tm : List SV) (K : List SV → Prop) : Prop :=
  guardK ops tm o.guard
    (fun tm => match callOf o.op with
      | some (f, args) => callX T tm f args fun g ss => CallQ P w0 U g ss H fun s => putK o.dst tm s fun tm' => ih tm' K
      | none => xPure T tm H o.op fun s => putK o.dst tm s fun tm' => ih tm' K)
    (fun tm => putK o.dst tm (.v undef) fun tm' => ih tm' K)
def quiNil (tm : List SV) (K : List SV → Prop) : Prop := K tm
/-- The same for a region that draws its order, and only reads. -/
def xQui (ops : Array Oper) (H : List HE) (l : List Oper) : List SV → (List SV → Prop) → Prop :=
  @List.rec Oper (fun _ => List SV → (List SV → Prop) → Prop) quiNil (fun o _ ih => quiCons P w0 U T ops H o ih) l
def quietOp (o : Op) : Bool := match o with
  | .alloc _ => false
  | .box _ _ => false
  | .buildSlice _ _ _ => false
  | .makeSlice _ _ _ => false
  | .store _ _ _ => false
  | .makeMap _ _ => false
  | .mapUpdate _ _ _ _ => false
  | .call c => match c.callee with
    | .builtin .append => false
    | .builtin .delete => false
    | _ => true
  | _ => true
def forceL : List SV → (List SV → Prop) → Prop
  | [], K => K []
  | x :: xs, K => match x with
    | .junk => forceL xs fun ys => K (.junk :: ys)
    | x => nj x fun x' => forceL xs fun ys => K (x' :: ys)
def forceH : List HE → (List HE → Prop) → Prop
  | [], K => K []
  | x :: xs, K => match x with
    | .none => forceH xs fun ys => K (.none :: ys)
    | .blk t cs => forceL cs fun cs' => forceH xs fun ys => K (.blk t cs' :: ys)
    | .row sz n f => forceH xs fun ys => K (.row sz n f :: ys)
    | .own t sz n f => forceH xs fun ys => K (.own t sz n f :: ys)
    | .mp a z es st => forceH xs fun ys => K (.mp a z es st :: ys)
    | .res w Z Q => forceH xs fun ys => K (.res w Z Q :: ys)
    | .obj1 t p q a z es => forceH xs fun ys => K (.obj1 t p q a z es :: ys)
def renI (σ : List (Option Nat)) (i : Nat) : Nat := match σ[i]? with
  | some (some j) => j
  | _ => 0
def isSome' (σ : List (Option Nat)) (i : Nat) : Bool := match σ[i]? with
  | some (some _) => true
  | _ => false
mutual
/-- The same value by other names of the blocks. -/
def SV.ren (σ : List (Option Nat)) : SV → SV
  | .junk => .junk
  | .v x => .v x
  | .kb b => .kb b
  | .p i o => .p (renI σ i) o
  | .s i o n c => .s (renI σ i) o n c
  | .rp i z r c => .rp (renI σ i) z r c
  | .rs i n c => .rs (renI σ i) n c
  | .os i n => .os (renI σ i) n
  | .ov i z l n => .ov (renI σ i) z l n
  | .m i => .m (renI σ i)
  | .fn f caps => .fn f (caps.map fun q => (renI σ q.1, q.2))
  | .agg cs => .agg (SV.renL σ cs)
  | .tup vs => .tup (SV.renL σ vs)
def SV.renL (σ : List (Option Nat)) : List SV → List SV
  | [] => []
  | c :: cs => c.ren σ :: SV.renL σ cs
end
mutual
/-- Every block that it names has an elder name. -/
def SV.has (σ : List (Option Nat)) : SV → Bool
  | .junk => true
  | .v _ => true
  | .kb _ => true
  | .p i _ => isSome' σ i
  | .s i _ _ _ => isSome' σ i
  | .rp i _ _ _ => isSome' σ i
  | .rs i _ _ => isSome' σ i
  | .os i _ => isSome' σ i
  | .ov i _ _ _ => isSome' σ i
  | .m i => isSome' σ i
  | .fn _ caps => caps.all fun q => isSome' σ q.1
  | .agg cs => SV.hasL σ cs
  | .tup vs => SV.hasL σ vs
def SV.hasL (σ : List (Option Nat)) : List SV → Bool
  | [] => true
  | c :: cs => c.has σ && SV.hasL σ cs
end
def isB (x : SV) (b : Bool) : Prop := match x with
  | .kb c => c = b
  | .v (.bool c) => c = b
  | _ => False
/-- Of an elder value (x) and a later one (y). -/
def leV (σ : List (Option Nat)) (x y : SV) : Prop := match y with
  | .junk => True
  | .v (.int k n) => x = .v (.int k n)
  | .v (.bool b) => isB x b
  | y => (y.has σ = true ∧ y.ren σ = x) ∨ (∃ i, y = .os i 0 ∧ σ[i]? = some none ∧ x = .v (.slice none 0 0))
def leT (σ : List (Option Nat)) : List SV → List SV → Prop
  | [], [] => True
  | x :: xs, y :: ys => leV σ x y ∧ leT σ xs ys
  | _, _ => False
def leC (σ : List (Option Nat)) (x y : SV) : Prop := match y with
  | .junk => False
  | .v (.int k n) => x = .v (.int k n)
  | .v (.bool b) => isB x b
  | y => (y.has σ = true ∧ y.ren σ = x) ∨ (∃ i, y = .os i 0 ∧ σ[i]? = some none ∧ x = .v (.slice none 0 0))
def leCs (σ : List (Option Nat)) : List SV → List SV → Prop
  | [], [] => True
  | x :: xs, y :: ys => leC σ x y ∧ leCs σ xs ys
  | _, _ => False
def leE (σ : List (Option Nat)) (x : Option HE) (y : HE) : Prop := match y with
  | .none => True
  | .blk t cs => match x with
    | some (.blk t' xs) => t' = t ∧ leCs σ xs cs
    | _ => False
  | .row sz n f => x = some (.row sz n f)
  | .own ty sz n f => match x with
    | none => n = 0
    | some (.own ty' sz' n' f') => (ty' = ty ∧ sz' = sz ∧ n' = n) ∧ ∀ r c, r < n → c < sz → f' r c = f r c
    | some _ => False
  | .mp ag zk es st => match x with
    | some (.mp ag' zk' es' st') => (ag' = ag ∧ zk' = zk ∧ (st = none ∨ st' = st)) ∧ es' = es
    | _ => False
  | .res w Z Q => match x with
    | none => (∀ b, ¬ Z b) ∧ ∀ u, Q u
    | some (.res w' Z' Q') => (w' = w ∧ Z' = Z) ∧ ∀ u, Q' u ↔ Q u
    | some _ => False
  | .obj1 t p q a z es => match x with
    | some (.obj1 t' p' q' a' z' es') => (t' = t ∧ p' = p ∧ q' = q ∧ a' = a ∧ z' = z) ∧ es' = es
    | _ => False
def leH (H : List HE) (σ0 : List (Option Nat)) : List (Option Nat) → List HE → Prop
  | [], [] => True
  | none :: s, y :: ys => leE σ0 none y ∧ leH H σ0 s ys
  | some i :: s, y :: ys => (∃ x, H[i]? = some x ∧ leE σ0 (some x) y) ∧ leH H σ0 s ys
  | _, _ => False
/-- The first m keep their names. -/
def idpB : Nat → Nat → List (Option Nat) → Bool
  | _, 0, _ => true
  | k, m + 1, some j :: s => Nat.beq j k && idpB (k + 1) m s
  | _, _ + 1, _ => false
/-- What is known is forgotten in part, and named anew (but for the first m). -/
def Less (m : Nat) (tm : List SV) (H : List HE) (tm' : List SV) (H' : List HE) : Prop := ∃ σ : List (Option Nat), ((σ.filterMap id).Nodup ∧ idpB 0 m σ = true) ∧ leH H σ σ H' ∧ leT σ tm tm'
structure LoopN (p : Prop) : Prop where
  out : p
/-- A region that draws its order, as it stands. -/
structure DrawN (id : Nat) (ops : Array Oper) (tm : List SV) (H : List HE) (K : List SV → List HE → Prop) : Prop where
  out : ∀ ρ a w, Rel w0 U ρ tm H a w → (Code.region id ops true).wp P (fun e a' w' => e = .normal ∧ ∃ ρ' tm' H', Rel w0 U ρ' tm' H' a' w' ∧ (Same H.length ρ ρ' ∧ H.length ≤ H'.length) ∧ K tm' H') a w
abbrev CK := List SV → List HE → (List SV → List HE → Prop) → (Nat → List SV → List HE → Prop) → (List SV → List HE → Prop) → Prop
def cSkip : CK := fun tm H Kn _ _ => Kn tm H
def cRegion (id : Nat) (ops : Array Oper) (draw : Bool) : CK := fun tm H Kn _ _ => match draw with
  | false => xOps P w0 U T ops ops.toList tm H Kn
  | true => match ops.toList.all (fun o => quietOp o.op) with
    | true => QuiD (Region.lexB .any ops = true) (xQui P w0 U T ops H ops.toList tm fun tm' => Kn tm' H) (DrawN P w0 U id ops tm H Kn)
    | false => DrawN P w0 U id ops tm H Kn
def cSeq (iha ihb : CK) : CK := fun tm H Kn Ke Kr => iha tm H (fun tm' H' => ihb tm' H' Kn Ke Kr) Ke Kr
def cCond (c : Operand) (iht ihe : CK) : CK := fun tm H Kn Ke Kr => match opd tm c with
  | .kb true => iht tm H Kn Ke Kr
  | .kb false => ihe tm H Kn Ke Kr
  | .v (.bool b) => Br b (iht tm H Kn Ke Kr) (ihe tm H Kn Ke Kr)
  | _ => False
def cBlock (id : Nat) (ih : CK) : CK := fun tm H Kn Ke Kr => ih tm H Kn (fun i tm' H' => match Nat.beq i id with | true => Kn tm' H' | false => Ke i tm' H') Kr
def cLoop (m : Nat) (ih : CK) : CK := fun tm H _ Ke Kr => LoopN (∃ (α : Type) (inv : α → Prop) (μ : α → Nat) (st : α → List SV) (sh : α → List HE),
  (∃ x, inv x ∧ Less m tm H (st x) (sh x)) ∧
  ∀ x, inv x → forceL (st x) fun tm1 => forceH (sh x) fun H1 => ih tm1 H1 (fun tm' H' => ∃ y, inv y ∧ μ y < μ x ∧ Less m tm' H' (st y) (sh y)) Ke Kr)
def cExit (id : Nat) : CK := fun tm H _ Ke _ => Ke id tm H
def cRet : CK := fun tm H _ _ Kr => Kr tm H
def cNo : CK := fun _ _ _ _ _ => False
def xCode (m : Nat) (c : Code) : CK :=
  @Code.rec (fun _ => CK) cSkip (cRegion P w0 U T) (fun _ _ iha ihb => cSeq iha ihb) (fun c _ _ iht ihe => cCond c iht ihe) (fun id _ ih => cBlock id ih) (fun _ ih => cLoop m ih)
    (fun _ _ _ _ _ _ => cNo) cExit (fun _ _ => cNo) (fun _ => cNo) (fun _ => cNo) cRet (fun _ => cNo) c
def resOne (tm : List SV) (H : List HE) (r : ResultVar) (K : SV → Prop) : Prop := match r with
  | .tmp t => nj (getS tm t) K
  | .cell a t => loadK T H t (getS tm a) K
def resCons (tm : List SV) (H : List HE) (r : ResultVar) (ih : (List SV → Prop) → Prop) (K : List SV → Prop) : Prop := resOne T tm H r fun s => ih fun ss => K (s :: ss)
def xRes (tm : List SV) (H : List HE) (l : List ResultVar) : (List SV → Prop) → Prop :=
  @List.rec ResultVar (fun _ => (List SV → Prop) → Prop) (fun K => K []) (fun r _ ih => resCons T tm H r ih) l
def xRet (rs : Array ResultVar) (tm : List SV) (H : List HE) (K : SV → Prop) : Prop := xRes T tm H rs.toList fun ss => match ss with
  | [s] => K s
  | ss => K (.tup ss)
end
end Go.Proofs.Ytlphkjbadjdleaa
