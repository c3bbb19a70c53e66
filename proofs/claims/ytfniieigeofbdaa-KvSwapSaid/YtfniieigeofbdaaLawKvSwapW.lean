/-
  KvSwap: the walk, with its arguments as they are read. No condition.
-/
import Derived.Test.YtfniieigeofbdaaLawKvSwap
import Derived.Test.YtfniieigeofbdaaKv6
namespace Go.Proofs.Ytfniieigeofbdaa.lawKvSwap
open Go.Proofs.Ytfniieigeofbdaa Go.RowKit
set_option maxRecDepth 100000 in
theorem walk : ∀ (w : World) (a0 : Option Addr) (m0 c0 : Nat) (_ : m0 ≤ c0) (_ : c0 ≤ maxLen) (_ : RowsAt [intL .u8, intL .i64, intL .i64, strL, strL, intL .i64] w a0 m0) (n1_0 : Int) (_ : (Lit.int .i64 n1_0).wf = true) (s1_1 : ByteArray) (_ : s1_1.size ≤ maxLen) (s1_2 : ByteArray) (_ : s1_2.size ≤ maxLen) (n1_3 : Int) (_ : (Lit.int .i64 n1_3).wf = true) (n2 : Int) (_ : (Lit.int .u16 n2).wf = true),
    Calls Try.prog 3 #[.slice a0 m0 c0, .agg #[.int .i64 n1_0, .string s1_1, .string s1_2, .int .i64 n1_3], .int .u16 n2] w fun e w' => e = .returned (.bool true) ∧ Below w.heap.size w w' := by
  intro w a0 m0 c0 hn0 hc0 hr0 n1_0 _ s1_1 _ s1_2 _ n1_3 _ n2 w2
  obtain ⟨l0, rfl, hz0, hw0⟩ := rows_kacs hr0
  obtain ⟨t1_1, rfl, _⟩ := toS s1_1
  obtain ⟨t1_2, rfl, _⟩ := toS s1_2
  exact (core l0 ⟨n1_0, t1_1, t1_2, n1_3⟩ n2 _ w ⟨a0, c0, rfl, hn0, hc0, hz0⟩ hw0 (by simpa [Lit.wf, IntKind.min, IntKind.max, IntKind.signed, IntKind.bits] using w2)).mono fun _ _ ⟨h, k⟩ => ⟨h, below_of_only k⟩
end Go.Proofs.Ytfniieigeofbdaa.lawKvSwap
