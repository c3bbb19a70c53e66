/-
  A compact log is like the document's. No condition.
-/
import Derived.Test.YtfkbodonidkpoaaQ3
import Derived.Test.YtfkbodonidkpoaaQ4
import Derived.Test.YtfkbodonidkpoaaPX
namespace Go.Proofs.Ytfkbodonidkpoaa
open Go.RowKit Go.Proofs.Ytfkbodonidkpoaa.fold
/-- A compact log, and the document's: from a shot f by the steps l, of which n are cut. -/
structure PR (c : CmpM) (f : ShM) (l : List StepM) (n : Nat) : Prop where
  ri : RI f l c.all
  le : n ≤ l.length
  base : c.base = stateS f (l.take n)
  steps : c.steps = l.drop n
theorem PR.idx {c : CmpM} {f : ShM} {l : List StepM} {n : Nat} (h : PR c f l n) : c.base.index = f.index + n := by
  have := runs_idx (runs_take h.ri.runs n).1
  have h5 : (l.take n).length = n := by have := h.le; simp; omega
  rw [h5] at this
  rw [h.base]
  exact this
theorem PR.ok {c : CmpM} {f : ShM} {l : List StepM} {n : Nat} (h : PR c f l n) : c.ok := by
  obtain ⟨h1, h2⟩ := runs_take h.ri.runs n
  have h3 := runs_len h1
  have h4 := h.ri.len
  have h5 : (l.take n).length = n := by have := h.le; simp; omega
  have h6 := h.le
  refine ⟨by rw [h.base]; exact runs_chk h.ri.chk h1, by rw [h.base, h.steps]; exact h2, ?_⟩
  rw [h.base, h.steps, List.length_drop]
  omega
theorem PR.step {c : CmpM} {f : ShM} {l : List StepM} {n : Nat} (h : PR c f l n) {i : Int} (hi : c.base.index < i) : c.step i = stepR f l i := by
  have h1 := h.idx
  unfold CmpM.step stepR
  rw [h.steps, List.getD_eq_getElem?_getD, List.getElem?_drop, List.getD_eq_getElem?_getD]
  rw [show n + (i - c.base.index - 1).toNat = (i - f.index - 1).toNat by omega]
theorem lastS_eqA (s : ShM) (k : Int) : lastS s k = (((findS s k).getD laZ).seq, ((findS s k).getD laZ).res.pos) := by
  unfold lastS
  cases findS s k <;> rfl
theorem entNeA (e : EntM) : (!(e.index == e.index && (e.client == e.client && (e.seq == e.seq && (e.op.kind == e.op.kind && (e.op.key == e.op.key && (e.op.value == e.op.value && (e.op.version == e.op.version && true)))))))) = false := by simp
end Go.Proofs.Ytfkbodonidkpoaa
