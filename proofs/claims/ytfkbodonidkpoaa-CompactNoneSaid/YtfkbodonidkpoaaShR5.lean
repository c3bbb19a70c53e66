/-
  The document's Same of shots. No condition.
-/
import Derived.Test.YtfkbodonidkpoaaPV
namespace Go.Proofs.Ytfkbodonidkpoaa
open Go.RowKit
theorem relR4 {w : World} {a : Option Addr} {sz n : Nat} {f : Nat → Nat → Value} (h : RowOk w a sz n f) {a2 : Option Addr} {sz2 n2 : Nat} {f2 : Nat → Nat → Value} (h2 : RowOk w a2 sz2 n2 f2) {a3 : Option Addr} {sz3 n3 : Nat} {f3 : Nat → Nat → Value} (h3 : RowOk w a3 sz3 n3 f3) {a4 : Option Addr} {sz4 n4 : Nat} {f4 : Nat → Nat → Value} (h4 : RowOk w a4 sz4 n4 f4) :
    HRel w noU (fun i => ([(a, sz, n, f), (a2, sz2, n2, f2), (a3, sz3, n3, f3), (a4, sz4, n4, f4)][i]?).bind (·.1)) [.row sz n f, .row sz2 n2 f2, .row sz3 n3 f3, .row sz4 n4 f4] w :=
  relR w [(a, sz, n, f), (a2, sz2, n2, f2), (a3, sz3, n3, f3), (a4, sz4, n4, f4)] fun i a' sz' n' f' hi => by
    rcases i with _ | _ | _ | _ | i
    · cases hi; exact h
    · cases hi; exact h2
    · cases hi; exact h3
    · cases hi; exact h4
    · simp at hi
theorem sameShB_no {s t : ShM} (h : s = t → False) : sameShB s t = false := decide_eq_false h
theorem sameShB_yes {s t : ShM} (h1 : s.index = t.index) (h2 : s.cells = t.cells) (h3 : s.lasts = t.lasts) : sameShB s t = true := by
  obtain ⟨_, _, _⟩ := s
  obtain ⟨_, _, _⟩ := t
  simp only at h1 h2 h3
  subst h1 h2 h3
  exact decide_eq_true rfl
end Go.Proofs.Ytfkbodonidkpoaa
