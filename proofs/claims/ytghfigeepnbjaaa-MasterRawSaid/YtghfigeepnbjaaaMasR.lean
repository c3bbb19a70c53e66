/-
  The master: each change has a greater epoch, and leaves a member that is known to have all, plainly. No condition.
-/
import Derived.Test.YtghfigeepnbjaaaMasA
namespace Go.Proofs.Ytghfigeepnbjaaa
/-- Is a member known to have all? -/
def hasW (m : MasM) : Prop := ∃ x ∈ m.ch.mem, m.whole x.1.toNat = true
theorem mem_nn {m : MasM} (hm : m.ok) {x : Int × Int} (hx : x ∈ m.ch.mem) : 0 ≤ x.1 ∧ x.1 < 6 := by
  obtain ⟨k, hk, rfl⟩ := List.getElem_of_mem hx
  have := nd_ok hm.ch hk
  simp only [List.getD, List.getElem?_eq_getElem hk, Option.getD_some] at this
  exact ⟨this.1, this.2.1⟩
/-- What an act comes to, held against what was. -/
structure Rise (d : CfgM) (B : Int) (m : MasM) (t : MasM) (f sent : Int) : Prop where
  st : MasSt d (B + 6) t
  w : hasW t
  h : (t.ch = m.ch ∧ ¬ f = 0) ∨ (m.ch.epoch < t.ch.epoch ∧ (t.ch.epoch = m.ch.epoch + 1 ∨ t.ch.epoch = m.ch.epoch + m.ch.mem.length - t.ch.mem.length) ∧ sent = d.nodes)
/-- One of the first so many is known to have all. -/
def anyW (m : MasM) (j : Nat) : Bool := (m.ch.mem.take j).any fun x => wholeM m x.1
end Go.Proofs.Ytghfigeepnbjaaa
