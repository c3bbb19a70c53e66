/-
  Pairs of bytes that come in. No condition.
-/
import Derived.Test.YtghfigeepnbjaaaPI
namespace Go.Proofs.Ytghfigeepnbjaaa
def pairF (ms : List (Int × Int)) : Nat → Nat → Value := fun r c => if c = 0 then .int .u8 (ms.getD r (0, 0)).1 else .int .u8 (ms.getD r (0, 0)).2
theorem rows_pairs {w : World} {a : Option Addr} {n : Nat} (h : RowsAt [intL .u8, intL .u8] w a n) : ∃ zs : List (Int × Int), zs.length = n ∧ RowOk w a 2 n (pairF zs) ∧ ∀ x ∈ zs, (0 ≤ x.1 ∧ x.1 ≤ 255) ∧ (0 ≤ x.2 ∧ x.2 ≤ 255) := by
  obtain ⟨zs, h1, h2, h3⟩ := rows_listP h ((0, 0) : Int × Int) (fun x c => if c = 0 then .int .u8 x.1 else .int .u8 x.2) (fun x => (0 ≤ x.1 ∧ x.1 ≤ 255) ∧ (0 ≤ x.2 ∧ x.2 ≤ 255)) (fun cs hall => by
    obtain ⟨_, _, rfl, ⟨n0, rfl, w0⟩, m1⟩ := hall.cons_
    obtain ⟨_, _, rfl, ⟨n1, rfl, w1⟩, m2⟩ := m1.cons_
    obtain rfl := m2.nil_
    refine ⟨(n0, n1), ⟨by simpa [Lit.wf, IntKind.min, IntKind.max, IntKind.signed, IntKind.bits] using w0, by simpa [Lit.wf, IntKind.min, IntKind.max, IntKind.signed, IntKind.bits] using w1⟩, fun j hj => ?_⟩
    rcases j with _ | _ | j <;> first | rfl | exact absurd hj (by simp))
  exact ⟨zs, h1, h2, h3⟩
end Go.Proofs.Ytghfigeepnbjaaa
