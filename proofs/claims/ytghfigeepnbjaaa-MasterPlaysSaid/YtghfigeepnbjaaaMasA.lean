/-
  An array of six numbers, at any place; what the master's operations do to when each node was heard. No condition.
-/
import Derived.Test.YtghfigeepnbjaaaMasK
namespace Go.Proofs.Ytghfigeepnbjaaa
open Go.RowKit
abbrev arrL (h : Nat → Int) : List SV := [.v (.int .i64 (h 0)), .v (.int .i64 (h 1)), .v (.int .i64 (h 2)), .v (.int .i64 (h 3)), .v (.int .i64 (h 4)), .v (.int .i64 (h 5))]
theorem relR3 {w : World} {a : Option Addr} {sz n : Nat} {f : Nat → Nat → Value} (h : RowOk w a sz n f) {a2 : Option Addr} {sz2 n2 : Nat} {f2 : Nat → Nat → Value} (h2 : RowOk w a2 sz2 n2 f2) {a3 : Option Addr} {sz3 n3 : Nat} {f3 : Nat → Nat → Value} (h3 : RowOk w a3 sz3 n3 f3) :
    HRel w noU (fun i => ([(a, sz, n, f), (a2, sz2, n2, f2), (a3, sz3, n3, f3)][i]?).bind (·.1)) [.row sz n f, .row sz2 n2 f2, .row sz3 n3 f3] w :=
  relR w [(a, sz, n, f), (a2, sz2, n2, f2), (a3, sz3, n3, f3)] fun i a' sz' n' f' hi => by
    rcases i with _ | _ | _ | i
    · cases hi; exact h
    · cases hi; exact h2
    · cases hi; exact h3
    · simp at hi
end Go.Proofs.Ytghfigeepnbjaaa
