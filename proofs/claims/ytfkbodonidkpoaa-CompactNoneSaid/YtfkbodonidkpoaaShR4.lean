/-
  The document's Apply of a shot. No condition.
-/
import Derived.Test.YtfkbodonidkpoaaPV
import Derived.Test.YtfkbodonidkpoaaShR3
import Derived.Test.YtfkbodonidkpoaaRef2
import Derived.Test.YtfkbodonidkpoaaSh5
import Derived.Test.YtfkbodonidkpoaaPU
namespace Go.Proofs.Ytfkbodonidkpoaa
open Go.RowKit
/-- The same as OutS, of the document's. -/
def OutR (w : World) (t : ShM) (r : ResM) (er : Int) (e : Ending) (w' : World) : Prop :=
  ∃ v1 v2, e = .returned (.tuple #[shV t v1 v2, resV r, .int .i64 er]) ∧ w'.ownsRow w.heap.size 128 3 v1 t.cells.length (cellsF 3 (celF t.cells) t.cells.length) ∧ w'.ownsRow w.heap.size 100 6 v2 t.lasts.length (cellsF 6 (laF t.lasts) t.lasts.length) ∧ (∀ b, v1.ownBlock = some b → v2.ownBlock ≠ some b) ∧ w.grownBy w' none
theorem errS_yes {s : ShM} {e : EntM} (h : chkS s = true) : errS s e = if e.seq < 1 ∨ 1099511627776 < e.seq ∨ e.client < 0 ∨ 5 < e.client ∨ ¬ chkO e.op = 0 ∨ e.op.kind = 1 then 2
  else if 4096 ≤ s.index then 60
  else if ¬ e.index = s.index + 1 then 70
  else if e.seq ≤ ((findL s.lasts e.client).getD laZ).seq then 71
  else 0 := by
  unfold errS
  rw [h]
  simp only [reduceCtorEq, false_or]
end Go.Proofs.Ytfkbodonidkpoaa
