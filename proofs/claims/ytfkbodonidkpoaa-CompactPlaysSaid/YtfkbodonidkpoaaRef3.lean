/-
  The document's log: Cells, Last, Look, Append. No condition.
-/
import Derived.Test.YtfkbodonidkpoaaRef2
namespace Go.Proofs.Ytfkbodonidkpoaa
open Go.RowKit
/-- What the document's log lies in; the first of its blocks has the name i. -/
abbrev rlogHi (i : Nat) (l : List EntM) : List HE := [.blk 152 [.os (i + 1) l.length], .own 36 7 l.length (entF l)]
abbrev rlogH (l : List EntM) : List HE := rlogHi 0 l
abbrev resE (l : List ResM) : HE := .own 41 4 l.length (resF l)
/-- Why the document's log refuses an entry. -/
def rlogErr (l : List EntM) (e : EntM) : Int :=
  if e.client < 0 ∨ 5 < e.client ∨ e.seq < 1 ∨ ¬ chkO e.op = 0 ∨ e.op.kind = 1 then 2
  else if 4096 ≤ l.length then 60
  else if ¬ e.index = l.length + 1 then 70
  else if e.seq ≤ (lastD l e.client l.length).1 then 71
  else 0
/-- What the document's log lies in behind an entry that was taken. -/
abbrev rlogHp (l : List EntM) : List HE := [.blk 152 [.os 2 l.length], .none, .own 36 7 l.length (entF l)]
end Go.Proofs.Ytfkbodonidkpoaa
