/-
  The shot of a log: the walk of Of. No condition.
-/
import Derived.Test.YtfkbodonidkpoaaShOf0
import Derived.Test.YtfkbodonidkpoaaPQ
import Derived.Test.YtfkbodonidkpoaaPR
namespace Go.Proofs.Ytfkbodonidkpoaa
open Go.RowKit
def keysL (l : List EntM) : List (List UInt8) := l.map fun x => x.op.key
def keysF (l : List EntM) : Nat → Nat → Value := fun r _ => S (l.getD r entZ).op.key
/-- The keys that the shot asks for. -/
def keysO (l : LogM) : List (List UInt8) := Lib.compact (sortL (keysL l.ents))
def cellO1 (cs : List KC) (k : List UInt8) : Option KC := (findC cs k).map fun x => (k, x)
def cellsO (l : LogM) (n : Nat) : List KC := ((keysO l).take n).filterMap (cellO1 l.cs)
def lastO1 (l : LogM) (c : Nat) : Option LaM := if 0 < (l.la c).2 then some ⟨c, (l.la c).1, l.ress.getD ((l.la c).2 - 1).toNat resZ⟩ else none
def lastsO (l : LogM) (n : Nat) : List LaM := (List.range n).filterMap (lastO1 l)
/-- What Of makes of a log whose numbers may be put. -/
def ofO (l : LogM) : ShM := ⟨l.ents.length, cellsO l (keysO l).length, lastsO l 6⟩
/-- A log's last numbers are of entries that it has. -/
def LogM.in (l : LogM) : Prop := ∀ c, (l.la c).2 ≤ l.ents.length
end Go.Proofs.Ytfkbodonidkpoaa
