/-
  The document's shot of a log: the walk of Of. No condition.
-/
import Derived.Test.YtfkbodonidkpoaaPV
import Derived.Test.YtfkbodonidkpoaaRef3
namespace Go.Proofs.Ytfkbodonidkpoaa
open Go.RowKit
theorem lastD_in (l : List EntM) (c : Int) : ∀ i, 0 ≤ (lastD l c i).2 ∧ (lastD l c i).2 ≤ i
  | 0 => ⟨Int.le_refl _, Int.le_refl _⟩
  | i + 1 => by
    have ih := lastD_in l c i
    simp only [lastD]
    split
    · dsimp only; omega
    · omega
def lastR1 (l : List EntM) (c : Nat) : Option LaM := if 0 < (lastD l c l.length).2 then some ⟨c, (lastD l c l.length).1, (cellsN l l.length).2.getD ((lastD l c l.length).2 - 1).toNat resZ⟩ else none
def lastsRD (l : List EntM) (n : Nat) : List LaM := (List.range n).filterMap (lastR1 l)
/-- What the document makes of a log whose numbers may be put. -/
def rofO (l : List EntM) : ShM := ⟨l.length, (cellsN l l.length).1, lastsRD l 6⟩
end Go.Proofs.Ytfkbodonidkpoaa
