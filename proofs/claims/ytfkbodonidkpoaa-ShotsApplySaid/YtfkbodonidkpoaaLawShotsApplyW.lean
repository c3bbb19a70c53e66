/-
  ShotsApply: the walk, with its arguments as they are read. No condition.
-/
import Derived.Test.YtfkbodonidkpoaaLawShotsApply
namespace Go.Proofs.Ytfkbodonidkpoaa.lawShotsApply
open Go.Proofs.Ytfkbodonidkpoaa Go.RowKit
set_option maxRecDepth 100000 in
theorem walk : ∀ (w : World) (n0 : Int) (_ : (Lit.int .i64 n0).wf = true) (a0 : Option Addr) (m0 c0 : Nat) (_ : m0 ≤ c0) (_ : c0 ≤ maxLen) (_ : RowsAt [strL, strL, intL .i64] w a0 m0) (b0 : Option Addr) (o0 d0 : Nat) (_ : o0 ≤ d0) (_ : d0 ≤ maxLen) (_ : RowsAt [intL .i64, intL .i64, intL .i64, strL, intL .i64, intL .i64] w b0 o0) (n1_0 : Int) (_ : (Lit.int .i64 n1_0).wf = true) (n1_1 : Int) (_ : (Lit.int .i64 n1_1).wf = true) (n1_2 : Int) (_ : (Lit.int .i64 n1_2).wf = true) (n1_3 : Int) (_ : (Lit.int .i64 n1_3).wf = true) (s1_4 : ByteArray) (_ : s1_4.size ≤ maxLen) (s1_5 : ByteArray) (_ : s1_5.size ≤ maxLen) (n1_6 : Int) (_ : (Lit.int .i64 n1_6).wf = true),
    Calls Try.prog 6 #[.agg #[.int .i64 n0, .slice a0 m0 c0, .slice b0 o0 d0], .agg #[.int .i64 n1_0, .int .i64 n1_1, .int .i64 n1_2, .int .i64 n1_3, .string s1_4, .string s1_5, .int .i64 n1_6]] w fun e w' => e = .returned (.bool true) ∧ Below w.heap.size w w' := by
  intro w n0 _ a0 m0 c0 hn0 hc0 hr0 b0 o0 d0 ho0 hd0 hq0 n1_0 _ n1_1 _ n1_2 _ n1_3 _ s1_4 _ s1_5 _ n1_6 _
  obtain ⟨l0, rfl, hz0⟩ := rows_shcs hr0
  obtain ⟨g0, rfl, hy0⟩ := rows_shls hq0
  obtain ⟨t1_4, rfl, _⟩ := toS s1_4
  obtain ⟨t1_5, rfl, _⟩ := toS s1_5
  exact (core ⟨n0, l0, g0⟩ ⟨n1_0, n1_1, n1_2, ⟨n1_3, t1_4, t1_5, n1_6⟩⟩ _ _ w ⟨a0, c0, rfl, hn0, hc0, hz0⟩ ⟨b0, d0, rfl, ho0, hd0, hy0⟩ ).mono fun _ _ ⟨h, k⟩ => ⟨h, below_of_only k⟩
end Go.Proofs.Ytfkbodonidkpoaa.lawShotsApply
