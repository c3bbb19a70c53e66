/-
  LinksPlay: the walk, with its arguments as they are read. No condition.
-/
import Derived.Test.YtfniieigeofbdaaLawLinksPlay
namespace Go.Proofs.Ytfniieigeofbdaa.lawLinksPlay
open Go.Proofs.Ytfniieigeofbdaa Go.RowKit
set_option maxRecDepth 100000 in
theorem walk : ∀ (w : World) (n0 : Int) (_ : (Lit.int .i64 n0).wf = true) (a1 : Option Addr) (m1 c1 : Nat) (_ : m1 ≤ c1) (_ : c1 ≤ maxLen) (_ : RowsAt [intL .u8, intL .i64, intL .i64, strL, intL .i64] w a1 m1),
    Calls Try.prog 7 #[.int .i64 n0, .slice a1 m1 c1] w fun e w' => e = .returned (.bool true) ∧ Below w.heap.size w w' := by
  intro w n0 w0 a1 m1 c1 hn1 hc1 hr1
  obtain ⟨l1, rfl, hz1, hw1⟩ := rows_lacs hr1
  exact (core n0 l1 _ w ⟨a1, c1, rfl, hn1, hc1, hz1⟩ hw1).mono fun _ _ ⟨h, k⟩ => ⟨h, below_of_only k⟩
end Go.Proofs.Ytfniieigeofbdaa.lawLinksPlay
