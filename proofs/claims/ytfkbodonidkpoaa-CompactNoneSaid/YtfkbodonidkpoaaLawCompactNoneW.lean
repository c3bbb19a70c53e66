/-
  CompactNone: the walk, with its arguments as they are read. No condition.
-/
import Derived.Test.YtfkbodonidkpoaaLawCompactNone
namespace Go.Proofs.Ytfkbodonidkpoaa.lawCompactNone
open Go.Proofs.Ytfkbodonidkpoaa Go.RowKit
set_option maxRecDepth 100000 in
theorem walk : ∀ (w : World) (n0 : Int) (_ : (Lit.int .i64 n0).wf = true) (n1_0 : Int) (_ : (Lit.int .u8 n1_0).wf = true) (n1_1 : Int) (_ : (Lit.int .i64 n1_1).wf = true) (n1_2 : Int) (_ : (Lit.int .i64 n1_2).wf = true) (n1_3 : Int) (_ : (Lit.int .i64 n1_3).wf = true) (n1_4 : Int) (_ : (Lit.int .i64 n1_4).wf = true) (s1_5 : ByteArray) (_ : s1_5.size ≤ maxLen) (s1_6 : ByteArray) (_ : s1_6.size ≤ maxLen) (n1_7 : Int) (_ : (Lit.int .i64 n1_7).wf = true) (n1_8 : Int) (_ : (Lit.int .i64 n1_8).wf = true),
    Calls Try.prog 5 #[.int .i64 n0, .agg #[.int .u8 n1_0, .int .i64 n1_1, .int .i64 n1_2, .int .i64 n1_3, .int .i64 n1_4, .string s1_5, .string s1_6, .int .i64 n1_7, .int .i64 n1_8]] w fun e w' => e = .returned (.bool true) ∧ Below w.heap.size w w' := by
  intro w n0 w0 n1_0 _ n1_1 _ n1_2 _ n1_3 _ n1_4 _ s1_5 _ s1_6 _ n1_7 _ n1_8 _
  obtain ⟨t1_5, rfl, _⟩ := toS s1_5
  obtain ⟨t1_6, rfl, _⟩ := toS s1_6
  exact (core n0 ⟨n1_0, ⟨n1_1, n1_2, n1_3, ⟨n1_4, t1_5, t1_6, n1_7⟩⟩, n1_8⟩  w  ).mono fun _ _ ⟨h, k⟩ => ⟨h, below_of_only k⟩
end Go.Proofs.Ytfkbodonidkpoaa.lawCompactNone
