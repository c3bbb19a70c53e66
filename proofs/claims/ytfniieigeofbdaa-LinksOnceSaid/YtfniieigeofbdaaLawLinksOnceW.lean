/-
  LinksOnce: the walk, with its arguments as they are read. No condition.
-/
import Derived.Test.YtfniieigeofbdaaLawLinksOnce
namespace Go.Proofs.Ytfniieigeofbdaa.lawLinksOnce
open Go.Proofs.Ytfniieigeofbdaa Go.RowKit
set_option maxRecDepth 100000 in
theorem walk : ∀ (w : World) (a0 : Option Addr) (m0 c0 : Nat) (_ : m0 ≤ c0) (_ : c0 ≤ maxLen) (_ : RowsAt [intL .u8] w a0 m0) (a1 : Option Addr) (m1 c1 : Nat) (_ : m1 ≤ c1) (_ : c1 ≤ maxLen) (_ : RowsAt [intL .u8] w a1 m1),
    Calls Try.prog 6 #[.slice a0 m0 c0, .slice a1 m1 c1] w fun e w' => e = .returned (.bool true) ∧ Below w.heap.size w w' := by
  intro w a0 m0 c0 hn0 hc0 hr0 a1 m1 c1 hn1 hc1 hr1
  obtain ⟨l0, rfl, hz0, hw0⟩ := rows_bytes hr0
  obtain ⟨l1, rfl, hz1, hw1⟩ := rows_bytes hr1
  exact (core l0 l1 _ _ w ⟨a0, c0, rfl, hn0, hc0, hz0⟩ ⟨a1, c1, rfl, hn1, hc1, hz1⟩ hw0 hw1).mono fun _ _ ⟨h, k⟩ => ⟨h, below_of_only k⟩
end Go.Proofs.Ytfniieigeofbdaa.lawLinksOnce
