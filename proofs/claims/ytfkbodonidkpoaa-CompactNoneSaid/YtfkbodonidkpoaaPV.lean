/-
  The document's shots: Check, Find, cells, Look, Same. The document's shots: cells, Look, Same. No condition.
-/
import Derived.Test.YtfkbodonidkpoaaSh6
import Derived.Test.YtfkbodonidkpoaaRef2
import Derived.Test.YtfkbodonidkpoaaP6
namespace Go.Proofs.Ytfkbodonidkpoaa
open Go.RowKit
section
variable {w0 : World} {U : Nat → Prop}
end
def okI (s : ShM) : Bool := decide (0 ≤ s.index ∧ s.index ≤ 4096)
def okC' (s : ShM) (k : Nat) : Bool := okI s && allTo (okCell s.index s.cells) k
def okL' (s : ShM) (k : Nat) : Bool := okC' s s.cells.length && allTo (okLast s.index s.lasts) k
end Go.Proofs.Ytfkbodonidkpoaa
namespace Go.Proofs.Ytfkbodonidkpoaa
open Go.RowKit
def sameShB (s t : ShM) : Bool := decide (s = t)
theorem list_ext_getD {α : Type} {d : α} {xs ys : List α} (hl : xs.length = ys.length) (h : ∀ j, j < xs.length → xs.getD j d = ys.getD j d) : xs = ys := by
  apply List.ext_getElem hl
  intro j h1 h2
  have := h j h1
  simpa [List.getD, h1, h2] using this
theorem KC_ext {a b : KC} (h1 : a.1 = b.1) (h2 : a.2.1 = b.2.1) (h3 : a.2.2 = b.2.2) : a = b := Prod.ext h1 (Prod.ext h2 h3)
theorem LaM_ext {a b : LaM} (h1 : a.client = b.client) (h2 : a.seq = b.seq) (h3 : a.res.code = b.res.code) (h4 : a.res.value = b.res.value) (h5 : a.res.version = b.res.version) (h6 : a.res.pos = b.res.pos) : a = b := by
  obtain ⟨_, _, _, _, _, _⟩ := a
  obtain ⟨_, _, _, _, _, _⟩ := b
  simp only at h1 h2 h3 h4 h5 h6
  subst h1 h2 h3 h4 h5 h6
  rfl
end Go.Proofs.Ytfkbodonidkpoaa
