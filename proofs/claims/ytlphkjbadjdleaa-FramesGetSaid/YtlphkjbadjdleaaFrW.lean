/-
  frames.Plain, for each kind. No condition but the length.
-/
import Derived.Test.YtlphkjbadjdleaaFrZ
import Derived.Test.YtlphkjbadjdleaaP8
import Derived.Shelf.Slices.Clone
namespace Go.Proofs.Ytlphkjbadjdleaa
open Go.RowKit
section
variable {w0 : World} {U : Nat → Prop}
end
/-- A frame is handed back, with members of its own. -/
def OutF (w : World) (f : FrM) (e : Ending) (w' : World) : Prop := ∃ v, e = .returned (frV f v) ∧ w'.ownsRow w.heap.size 145 2 v f.ch.mem.length (cellsF 2 (memF f.ch.mem) f.ch.mem.length) ∧ w.grownBy w' none
/-- The j'th number, once it was copied. -/
def cAt (n : Int) (j i : Nat) : Int := if j < i then n else 0
end Go.Proofs.Ytlphkjbadjdleaa
