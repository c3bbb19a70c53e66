/-
  LinearSerial: the walk, with its arguments as they are read. No condition.
-/
import Derived.Test.YtlphkjbadjdleaaLawLinearSerial
import Derived.Test.YtlphkjbadjdleaaLinQ
namespace Go.Proofs.Ytlphkjbadjdleaa.lawLinearSerial
open Go.Proofs.Ytlphkjbadjdleaa Go.RowKit
set_option maxRecDepth 100000 in
theorem walk : ∀ (w : World) (a0 : Option Addr) (m0 c0 : Nat) (_ : m0 ≤ c0) (_ : c0 ≤ maxLen) (_ : RowsAt [intL .u8, intL .u8, intL .u8, intL .u8, intL .u8, intL .u8, intL .u8, intL .u8, intL .u8] w a0 m0) (n1 : Int) (_ : (Lit.int .u8 n1).wf = true),
    Calls Try.prog 5 #[.slice a0 m0 c0, .int .u8 n1] w fun e w' => e = .returned (.bool true) ∧ Below w.heap.size w w' := by
  intro w a0 m0 c0 hn0 hc0 hr0 n1 w1
  obtain ⟨l0, rfl, hz0, hw0⟩ := rows_smalls hr0
  exact (core l0 n1 _ w ⟨a0, c0, rfl, hn0, hc0, hz0⟩ hw0 (by simpa [Lit.wf, IntKind.min, IntKind.max, IntKind.signed, IntKind.bits] using w1)).mono fun _ _ ⟨h, k⟩ => ⟨h, below_of_only k⟩
end Go.Proofs.Ytlphkjbadjdleaa.lawLinearSerial
