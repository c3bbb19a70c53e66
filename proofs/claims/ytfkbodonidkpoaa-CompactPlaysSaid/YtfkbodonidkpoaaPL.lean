/-
  The walks over the codec's Read and the document's. The walks over the document's Read. The walks over the codec's Unint and Cut, and the document's. The plain laws of the codec: what is put is read back, and what is read stood there. No program in sight, no condition. The walks over the codec's Cut, and the document's. The codec's plain laws of Cut. No condition.
-/
import Derived.Test.YtfkbodonidkpoaaPK
import Derived.Deep.RegionHeld3
namespace Go.Proofs.Ytfkbodonidkpoaa
open Go.RowKit

/-- The number that bytes say, the highest first. -/
def beVal (l : List UInt8) : Nat := l.foldl (fun n b => n * 256 + b.toNat) 0
/-- What stands ahead, as a number, and what is behind it. -/
def readB : List UInt8 → Option (Nat × List UInt8)
  | [] => none
  | b :: t => if b.toNat ≤ 247 then some (b.toNat, t) else
      if t.length < b.toNat - 247 then none else
      if numL (beVal (t.take (b.toNat - 247))) = b :: t.take (b.toNat - 247) then some (beVal (t.take (b.toNat - 247)), t.drop (b.toNat - 247)) else none
/-- As the functions hand it back. -/
def rdV : Option (Nat × List UInt8) → Value
  | none => .tuple #[.int .u64 0, S [], .bool false]
  | some (n, r) => .tuple #[.int .u64 n, S r, .bool true]

theorem idx_S (l : List UInt8) (k : Nat) (h : k < (ByteArray.mk l.toArray).size) : (ByteArray.mk l.toArray)[k]'h = l.getD k 0 := by
  have h' : k < l.length := by simpa [ByteArray.size] using h
  simp [List.getD, List.getElem?_eq_getElem h']
  rfl
attribute [local go_sem] idx_S

end Go.Proofs.Ytfkbodonidkpoaa
namespace Go.Proofs.Ytfkbodonidkpoaa
open Go.RowKit
attribute [local go_sem] idx_S

end Go.Proofs.Ytfkbodonidkpoaa
namespace Go.Proofs.Ytfkbodonidkpoaa
open Go.RowKit

/-- The number from -1 on that stands ahead. -/
def unintB (l : List UInt8) : Option (Int × List UInt8) :=
  match readB l with
  | none => none
  | some (n, r) => if n ≤ 1099511627777 then some ((n : Int) - 1, r) else none
def utV : Option (Int × List UInt8) → Value
  | none => .tuple #[.int .i64 0, S [], .bool false]
  | some (n, r) => .tuple #[.int .i64 n, S r, .bool true]
end Go.Proofs.Ytfkbodonidkpoaa
namespace Go.Proofs.Ytfkbodonidkpoaa
open Go.RowKit

/-- The parts of what is handed back. -/
def rN : Option (Nat × List UInt8) → Nat | none => 0 | some p => p.1
def rR {α : Type} : Option (α × List UInt8) → List UInt8 | none => [] | some p => p.2
def uN : Option (Int × List UInt8) → Int | none => 0 | some p => p.1
end Go.Proofs.Ytfkbodonidkpoaa
namespace Go.Proofs.Ytfkbodonidkpoaa
open Go.RowKit

/-- The text that stands ahead. -/
def cutB (l : List UInt8) : Option (List UInt8 × List UInt8) :=
  match readB l with
  | none => none
  | some (n, r) => if n ≤ r.length then some (r.take n, r.drop n) else none
def ctV : Option (List UInt8 × List UInt8) → Value
  | none => .tuple #[S [], S [], .bool false]
  | some (x, r) => .tuple #[S x, S r, .bool true]

end Go.Proofs.Ytfkbodonidkpoaa
namespace Go.Proofs.Ytfkbodonidkpoaa
open Go.RowKit
def cN : Option (List UInt8 × List UInt8) → List UInt8 | none => [] | some p => p.1
end Go.Proofs.Ytfkbodonidkpoaa
