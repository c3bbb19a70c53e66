/-
  slices.Sort and slices.Compact of a slice of strings of one's own. No condition.
-/
import Derived.Test.YtfkbodonidkpoaaShShelf
import Derived.Test.YtfkbodonidkpoaaQ2
import Derived.Test.YtfkbodonidkpoaaPS
import Derived.Sort.OwnSorted
namespace Go.Proofs.Ytfkbodonidkpoaa
open Go.RowKit Go.Sort
/-- The rows of a list of texts. -/
def strsF (l : List (List UInt8)) : Nat → Nat → Value := fun r _ => S (l.getD r [])
abbrev sortL (l : List (List UInt8)) : List (List UInt8) := l.mergeSort fun x y => decide (x ≤ y)
section
variable {w0 : World} {U : Nat → Prop}
end
end Go.Proofs.Ytfkbodonidkpoaa
