/-
  CompactSame: the walk, with its arguments as they are read. No condition.
-/
import Derived.Test.YtfkbodonidkpoaaLawCompactSame
namespace Go.Proofs.Ytfkbodonidkpoaa.lawCompactSame
open Go.Proofs.Ytfkbodonidkpoaa Go.RowKit
set_option maxRecDepth 100000 in
theorem walk : ∀ (w : World) (a0 : Option Addr) (m0 c0 : Nat) (_ : m0 ≤ c0) (_ : c0 ≤ maxLen) (_ : RowsAt [intL .u8, intL .i64, intL .i64, intL .i64, intL .i64, strL, strL, intL .i64, intL .i64] w a0 m0),
    Calls Try.prog 10 #[.slice a0 m0 c0] w fun e w' => e = .returned (.bool true) ∧ Below w.heap.size w w' := by
  intro w a0 m0 c0 hn0 hc0 hr0
  obtain ⟨l0, rfl, hz0, hw0⟩ := rows_actB hr0
  exact (core l0 _ w ⟨a0, c0, rfl, hn0, hc0, hz0⟩ hw0).mono fun _ _ ⟨h, k⟩ => ⟨h, below_of_only k⟩
end Go.Proofs.Ytfkbodonidkpoaa.lawCompactSame
