/-
  ShotsForm: the walk, with its arguments as they are read. No condition.
-/
import Derived.Test.YtfkbodonidkpoaaLawShotsForm
namespace Go.Proofs.Ytfkbodonidkpoaa.lawShotsForm
open Go.Proofs.Ytfkbodonidkpoaa Go.RowKit
set_option maxRecDepth 100000 in
theorem walk : ∀ (w : World) (s0 : ByteArray) (_ : s0.size ≤ maxLen),
    Calls Try.prog 13 #[.string s0] w fun e w' => e = .returned (.bool true) ∧ Below w.heap.size w w' := by
  intro w s0 _
  obtain ⟨t0, rfl, _⟩ := toS s0
  exact (core t0  w  ).mono fun _ _ ⟨h, k⟩ => ⟨h, below_of_only k⟩
end Go.Proofs.Ytfkbodonidkpoaa.lawShotsForm
