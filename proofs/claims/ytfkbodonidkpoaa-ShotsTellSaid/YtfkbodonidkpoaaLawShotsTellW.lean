/-
  ShotsTell: the walk, with its arguments as they are read. No condition.
-/
import Derived.Test.YtfkbodonidkpoaaLawShotsTell
namespace Go.Proofs.Ytfkbodonidkpoaa.lawShotsTell
open Go.Proofs.Ytfkbodonidkpoaa Go.RowKit
set_option maxRecDepth 100000 in
theorem walk : ∀ (w : World) (n0 : Int) (_ : (Lit.int .i64 n0).wf = true) (a0 : Option Addr) (m0 c0 : Nat) (_ : m0 ≤ c0) (_ : c0 ≤ maxLen) (_ : RowsAt [strL, strL, intL .i64] w a0 m0) (b0 : Option Addr) (o0 d0 : Nat) (_ : o0 ≤ d0) (_ : d0 ≤ maxLen) (_ : RowsAt [intL .i64, intL .i64, intL .i64, strL, intL .i64, intL .i64] w b0 o0) (s1 : ByteArray) (_ : s1.size ≤ maxLen) (n2 : Int) (_ : (Lit.int .i64 n2).wf = true),
    Calls Try.prog 8 #[.agg #[.int .i64 n0, .slice a0 m0 c0, .slice b0 o0 d0], .string s1, .int .i64 n2] w fun e w' => e = .returned (.bool true) ∧ Below w.heap.size w w' := by
  intro w n0 _ a0 m0 c0 hn0 hc0 hr0 b0 o0 d0 ho0 hd0 hq0 s1 _ n2 w2
  obtain ⟨l0, rfl, hz0⟩ := rows_shcs hr0
  obtain ⟨g0, rfl, hy0⟩ := rows_shls hq0
  obtain ⟨t1, rfl, _⟩ := toS s1
  exact (core ⟨n0, l0, g0⟩ t1 n2 _ _ w ⟨a0, c0, rfl, hn0, hc0, hz0⟩ ⟨b0, d0, rfl, ho0, hd0, hy0⟩ ).mono fun _ _ ⟨h, k⟩ => ⟨h, below_of_only k⟩
end Go.Proofs.Ytfkbodonidkpoaa.lawShotsTell
