/-
  The shot of no log; a log's last numbers; entries as they are read. No condition.
-/
import Derived.Test.YtfkbodonidkpoaaShOf2
import Derived.Test.YtfkbodonidkpoaaShP
import Derived.Test.YtfkbodonidkpoaaShRows
namespace Go.Proofs.Ytfkbodonidkpoaa
open Go.RowKit
theorem in_zero : logZ.in := fun _ => Int.le_refl _
theorem in_put {l : LogM} (h : l.in) {e : EntM} (he : logErr l e = 0) : (logPut l e).in := fun c => by
  obtain ⟨_, _, a7, _⟩ := logErr_0.1 he
  have hl : (logPut l e).ents.length = l.ents.length + 1 := by simp [logPut]
  rw [hl]
  show (if c = e.client.toNat then (e.seq, e.index) else l.la c).2 ≤ _
  split
  · dsimp only; omega
  · have := h c
    omega
end Go.Proofs.Ytfkbodonidkpoaa
