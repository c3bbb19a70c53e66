/-
  FramesBack: the walk, with its arguments as they are read. No condition.
-/
import Derived.Test.YtlphkjbadjdleaaLawFramesBack
import Derived.Test.YtlphkjbadjdleaaP7
namespace Go.Proofs.Ytlphkjbadjdleaa.lawFramesBack
open Go.Proofs.Ytlphkjbadjdleaa Go.RowKit
set_option maxRecDepth 100000 in
theorem walk : ∀ (w : World) (n0_0 : Int) (_ : (Lit.int .i64 n0_0).wf = true) (n0_1 : Int) (_ : (Lit.int .i64 n0_1).wf = true) (n0_2 : Int) (_ : (Lit.int .i64 n0_2).wf = true) (n0_3 : Int) (_ : (Lit.int .i64 n0_3).wf = true) (n0_4 : Int) (_ : (Lit.int .i64 n0_4).wf = true) (n0_5 : Int) (_ : (Lit.int .i64 n0_5).wf = true) (n0_6 : Int) (_ : (Lit.int .i64 n0_6).wf = true) (n0_7 : Int) (_ : (Lit.int .i64 n0_7).wf = true) (s0_8 : ByteArray) (_ : s0_8.size ≤ maxLen) (s0_9 : ByteArray) (_ : s0_9.size ≤ maxLen) (n0_10 : Int) (_ : (Lit.int .i64 n0_10).wf = true) (n0_11 : Int) (_ : (Lit.int .i64 n0_11).wf = true) (s0_12 : ByteArray) (_ : s0_12.size ≤ maxLen) (n0_13 : Int) (_ : (Lit.int .i64 n0_13).wf = true) (n0_14 : Int) (_ : (Lit.int .i64 n0_14).wf = true) (n0_15 : Int) (_ : (Lit.int .i64 n0_15).wf = true) (n0_16 : Int) (_ : (Lit.int .i64 n0_16).wf = true) (n0_17 : Int) (_ : (Lit.int .i64 n0_17).wf = true) (n0_18 : Int) (_ : (Lit.int .i64 n0_18).wf = true) (n0_19 : Int) (_ : (Lit.int .i64 n0_19).wf = true) (s0_20 : ByteArray) (_ : s0_20.size ≤ maxLen) (s0_21 : ByteArray) (_ : s0_21.size ≤ maxLen) (n0_22 : Int) (_ : (Lit.int .i64 n0_22).wf = true) (n0_23 : Int) (_ : (Lit.int .i64 n0_23).wf = true) (a0 : Option Addr) (m0 c0 : Nat) (_ : m0 ≤ c0) (_ : c0 ≤ maxLen) (_ : RowsAt [intL .i64, intL .i64] w a0 m0) (n0_25 : Int) (_ : (Lit.int .i64 n0_25).wf = true) (n0_26 : Int) (_ : (Lit.int .i64 n0_26).wf = true) (n0_27 : Int) (_ : (Lit.int .i64 n0_27).wf = true) (n0_28 : Int) (_ : (Lit.int .i64 n0_28).wf = true) (n1 : Int) (_ : (Lit.int .u16 n1).wf = true),
    Calls Try.prog 11 #[.agg #[.int .i64 n0_0, .int .i64 n0_1, .int .i64 n0_2, .int .i64 n0_3, .int .i64 n0_4, .int .i64 n0_5, .int .i64 n0_6, .int .i64 n0_7, .string s0_8, .string s0_9, .int .i64 n0_10, .int .i64 n0_11, .string s0_12, .int .i64 n0_13, .int .i64 n0_14, .int .i64 n0_15, .int .i64 n0_16, .int .i64 n0_17, .int .i64 n0_18, .int .i64 n0_19, .string s0_20, .string s0_21, .int .i64 n0_22, .int .i64 n0_23, .slice a0 m0 c0, .int .i64 n0_25, .int .i64 n0_26, .int .i64 n0_27, .int .i64 n0_28], .int .u16 n1] w fun e w' => e = .returned (.bool true) ∧ Below w.heap.size w w' := by
  intro w n0_0 _ n0_1 _ n0_2 _ n0_3 _ n0_4 _ n0_5 _ n0_6 _ n0_7 _ s0_8 _ s0_9 _ n0_10 _ n0_11 _ s0_12 _ n0_13 _ n0_14 _ n0_15 _ n0_16 _ n0_17 _ n0_18 _ n0_19 _ s0_20 _ s0_21 _ n0_22 _ n0_23 _ a0 m0 c0 hn0 hc0 hr0 n0_25 _ n0_26 _ n0_27 _ n0_28 _ n1 w1
  obtain ⟨t0_8, rfl, _⟩ := toS s0_8
  obtain ⟨t0_9, rfl, _⟩ := toS s0_9
  obtain ⟨t0_12, rfl, _⟩ := toS s0_12
  obtain ⟨t0_20, rfl, _⟩ := toS s0_20
  obtain ⟨t0_21, rfl, _⟩ := toS s0_21
  obtain ⟨ms0, rfl, hms0⟩ := rows_mems hr0
  exact (core ⟨n0_0, n0_1, n0_2, n0_3, n0_4, n0_5, n0_6, ⟨n0_7, t0_8, t0_9, n0_10⟩, ⟨n0_11, t0_12, n0_13, n0_14⟩, n0_15, ⟨n0_16, n0_17, n0_18, ⟨n0_19, t0_20, t0_21, n0_22⟩⟩, ⟨n0_23, ms0, n0_25⟩, n0_26, n0_27, n0_28⟩ n1 _ w ⟨a0, c0, rfl, hn0, hc0, hms0⟩ (by simpa [Lit.wf, IntKind.min, IntKind.max, IntKind.signed, IntKind.bits] using w1)).mono fun _ _ ⟨h, k⟩ => ⟨h, below_of_only k⟩
end Go.Proofs.Ytlphkjbadjdleaa.lawFramesBack
