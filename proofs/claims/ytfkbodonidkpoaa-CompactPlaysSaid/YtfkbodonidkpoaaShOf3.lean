/-
  The shot of no log; a log's last numbers; entries as they are read. No condition.
-/
import Derived.Test.YtfkbodonidkpoaaShOf2
import Derived.Test.YtfkbodonidkpoaaShP
import Derived.Test.YtfkbodonidkpoaaShRows
namespace Go.Proofs.Ytfkbodonidkpoaa
open Go.RowKit
theorem in_put {l : LogM} (h : l.in) {e : EntM} (he : logErr l e = 0) : (logPut l e).in := fun c => by
  obtain ⟨_, _, a7, _⟩ := logErr_0.1 he
  have hl : (logPut l e).ents.length = l.ents.length + 1 := by simp [logPut]
  rw [hl]
  show (if c = e.client.toNat then (e.seq, e.index) else l.la c).2 ≤ _
  split
  · dsimp only; omega
  · have := h c
    omega
theorem rows_ents {w : World} {a : Option Addr} {n : Nat} (h : RowsAt [intL .i64, intL .i64, intL .i64, intL .i64, strL, strL, intL .i64] w a n) : ∃ l : List EntM, l.length = n ∧ RowOk w a 7 n (entF l) := by
  obtain ⟨zs, h1, h2, _⟩ := rows_list h entZ (fun x c => (entC x).getD c undef) (fun cs hall => by
    obtain ⟨_, _, rfl, ⟨n0, rfl, w0⟩, m1⟩ := hall.cons_
    obtain ⟨_, _, rfl, ⟨n1, rfl, w1⟩, m2⟩ := m1.cons_
    obtain ⟨_, _, rfl, ⟨n2, rfl, w2⟩, m3⟩ := m2.cons_
    obtain ⟨_, _, rfl, ⟨n3, rfl, w3⟩, m4⟩ := m3.cons_
    obtain ⟨_, _, rfl, ⟨s4, rfl, w4⟩, m5⟩ := m4.cons_
    obtain ⟨_, _, rfl, ⟨s5, rfl, w5⟩, m6⟩ := m5.cons_
    obtain ⟨_, _, rfl, ⟨n6, rfl, w6⟩, m7⟩ := m6.cons_
    obtain rfl := m7.nil_
    obtain ⟨k, rfl, _⟩ := toS s4
    obtain ⟨v, rfl, _⟩ := toS s5
    refine ⟨⟨n0, n1, n2, ⟨n3, k, v, n6⟩⟩, fun j hj => ?_⟩
    rcases j with _ | _ | _ | _ | _ | _ | _ | j <;> first | rfl | exact absurd hj (by simp))
  exact ⟨zs, h1, h2⟩
end Go.Proofs.Ytfkbodonidkpoaa
