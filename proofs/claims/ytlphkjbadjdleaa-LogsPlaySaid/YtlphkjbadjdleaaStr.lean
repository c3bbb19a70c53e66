/-
  A text as a value. No condition.
-/
import Derived.Test.YtlphkjbadjdleaaMem
namespace Go.Proofs.Ytlphkjbadjdleaa
abbrev S (l : List UInt8) : Value := .string ⟨l.toArray⟩
theorem toS (s : ByteArray) : ∃ l : List UInt8, s = ⟨l.toArray⟩ ∧ l.length = s.size := ⟨s.data.toList, rfl, rfl⟩
end Go.Proofs.Ytlphkjbadjdleaa
