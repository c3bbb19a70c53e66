/-
  The rows of a shot's cells and clients, as they are read. No condition.
-/
import Derived.Test.YtfkbodonidkpoaaP7
import Derived.Test.YtfkbodonidkpoaaShM
import Derived.Test.YtfkbodonidkpoaaSh1
namespace Go.Proofs.Ytfkbodonidkpoaa
open Go.RowKit
theorem rows_shcs {w : World} {a : Option Addr} {n : Nat} (h : RowsAt [strL, strL, intL .i64] w a n) : ∃ l : List KC, l.length = n ∧ RowOk w a 3 n (celF l) := by
  obtain ⟨zs, h1, h2, _⟩ := rows_list h celZ (fun x c => (celC x).getD c undef) (fun cs hall => by
    obtain ⟨_, _, rfl, ⟨s3, rfl, w3⟩, m1⟩ := hall.cons_
    obtain ⟨_, _, rfl, ⟨s4, rfl, w4⟩, m2⟩ := m1.cons_
    obtain ⟨_, _, rfl, ⟨n5, rfl, w5⟩, m3⟩ := m2.cons_
    obtain rfl := m3.nil_
    obtain ⟨k, rfl, _⟩ := toS s3
    obtain ⟨v, rfl, _⟩ := toS s4
    refine ⟨(k, v, n5), fun j hj => ?_⟩
    rcases j with _ | _ | _ | j <;> first | rfl | exact absurd hj (by simp))
  exact ⟨zs, h1, h2⟩
theorem rows_shls {w : World} {a : Option Addr} {n : Nat} (h : RowsAt [intL .i64, intL .i64, intL .i64, strL, intL .i64, intL .i64] w a n) : ∃ l : List LaM, l.length = n ∧ RowOk w a 6 n (laF l) := by
  obtain ⟨zs, h1, h2, _⟩ := rows_list h laZ (fun x c => (laC x).getD c undef) (fun cs hall => by
    obtain ⟨_, _, rfl, ⟨n0, rfl, w0⟩, m1⟩ := hall.cons_
    obtain ⟨_, _, rfl, ⟨n1, rfl, w1⟩, m2⟩ := m1.cons_
    obtain ⟨_, _, rfl, ⟨n2, rfl, w2⟩, m3⟩ := m2.cons_
    obtain ⟨_, _, rfl, ⟨s3, rfl, w3⟩, m4⟩ := m3.cons_
    obtain ⟨_, _, rfl, ⟨n4, rfl, w4⟩, m5⟩ := m4.cons_
    obtain ⟨_, _, rfl, ⟨n5, rfl, w5⟩, m6⟩ := m5.cons_
    obtain rfl := m6.nil_
    obtain ⟨k, rfl, _⟩ := toS s3
    refine ⟨⟨n0, n1, ⟨n2, k, n4, n5⟩⟩, fun j hj => ?_⟩
    rcases j with _ | _ | _ | _ | _ | _ | j <;> first | rfl | exact absurd hj (by simp))
  exact ⟨zs, h1, h2⟩
end Go.Proofs.Ytfkbodonidkpoaa
