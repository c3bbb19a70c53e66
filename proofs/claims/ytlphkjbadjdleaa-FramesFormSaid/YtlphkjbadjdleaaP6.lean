/-
  What a call hands back as a slice of its own, laid under a seal: a closed value, and a fact. No condition.
-/
import Derived.Test.YtlphkjbadjdleaaP5
namespace Go.Proofs.Ytlphkjbadjdleaa
section
variable {w0 : World} {U : Nat → Prop}
/-- The block of a slice. -/
def sliceZ (q : Value) (b : Nat) : Prop := ∃ a n c, q = .slice (some a) n c ∧ a.block = b
/-- What a callee makes: a value that holds a new slice. -/
def Fresh (w w' : World) (q : Value) (sz n : Nat) (g : Nat → Nat → Value) : Prop := SliceV w' q sz n g ∧ ∀ b, sliceZ q b → w.heap.size ≤ b ∧ b < w'.heap.size
end
end Go.Proofs.Ytlphkjbadjdleaa
