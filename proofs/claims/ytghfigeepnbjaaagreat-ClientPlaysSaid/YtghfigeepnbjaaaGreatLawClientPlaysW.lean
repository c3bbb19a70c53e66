/-
  ClientPlays: the walk, with its arguments as they are read. No condition.
-/
import Derived.Test.YtghfigeepnbjaaaGreatLawClientPlays
namespace Go.Proofs.YtghfigeepnbjaaaGreat.lawClientPlays
open Go.Proofs.YtghfigeepnbjaaaGreat Go.RowKit
set_option maxRecDepth 100000 in
theorem walk : ∀ (w : World) (n0_0 : Int) (_ : (Lit.int .i64 n0_0).wf = true) (n0_1 : Int) (_ : (Lit.int .i64 n0_1).wf = true) (n0_2 : Int) (_ : (Lit.int .i64 n0_2).wf = true) (a0 : Option Addr) (m0 c0 : Nat) (_ : m0 ≤ c0) (_ : c0 ≤ maxLen) (_ : RowsAt [intL .i64] w a0 m0) (n0_4 : Int) (_ : (Lit.int .i64 n0_4).wf = true) (n0_5 : Int) (_ : (Lit.int .i64 n0_5).wf = true) (n0_6 : Int) (_ : (Lit.int .i64 n0_6).wf = true) (n0_7 : Int) (_ : (Lit.int .i64 n0_7).wf = true) (n0_8 : Int) (_ : (Lit.int .i64 n0_8).wf = true) (n0_9 : Int) (_ : (Lit.int .i64 n0_9).wf = true) (n0_10 : Int) (_ : (Lit.int .i64 n0_10).wf = true) (n0_11 : Int) (_ : (Lit.int .i64 n0_11).wf = true) (n1 : Int) (_ : (Lit.int .u8 n1).wf = true) (a2 : Option Addr) (m2 c2 : Nat) (_ : m2 ≤ c2) (_ : c2 ≤ maxLen) (_ : RowsAt actCLs w a2 m2),
    Calls Tryz.prog 3 #[.agg #[.int .i64 n0_0, .int .i64 n0_1, .int .i64 n0_2, .slice a0 m0 c0, .int .i64 n0_4, .int .i64 n0_5, .int .i64 n0_6, .int .i64 n0_7, .int .i64 n0_8, .int .i64 n0_9, .int .i64 n0_10, .int .i64 n0_11], .int .u8 n1, .slice a2 m2 c2] w fun e w' => e = .returned (.bool true) ∧ Below w.heap.size w w' := by
  intro w n0_0 _ n0_1 _ n0_2 _ a0 m0 c0 hn0 hc0 hr0 n0_4 _ n0_5 _ n0_6 _ n0_7 _ n0_8 _ n0_9 _ n0_10 _ n0_11 _ n1 w1 a2 m2 c2 hn2 hc2 hr2
  obtain ⟨zs0, rfl, hz0⟩ := rows_ints hr0
  obtain ⟨l2, rfl, hz2, hw2⟩ := rows_actsC hr2
  exact (core ⟨n0_0, n0_1, n0_2, zs0, n0_4, n0_5, n0_6, n0_7, n0_8, n0_9, n0_10, n0_11⟩ n1 l2 _ _ w ⟨a0, c0, rfl, hn0, hc0, hz0⟩ ⟨a2, c2, rfl, hn2, hc2, hz2⟩ (by simpa [Lit.wf, IntKind.min, IntKind.max, IntKind.signed, IntKind.bits] using w1) hw2).mono fun _ _ ⟨h, k⟩ => ⟨h, below_of_only k⟩
end Go.Proofs.YtghfigeepnbjaaaGreat.lawClientPlays
