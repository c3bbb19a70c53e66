/-
  The document's master: Tick. No condition.
-/
import Derived.Test.YtghfigeepnbjaaaRM4
namespace Go.Proofs.Ytghfigeepnbjaaa
open Go.RowKit
/-- One member that is silent goes, if it may. -/
def tickOne (t : Int) (m : RMasM) (g : Bool) (n : Int) : RMasM × Bool := if m.c.patience < t - m.heard n.toNat ∧ mayOut m n = true then (outD m n, true) else (m, g)
def tickAll (t : Int) : List (Int × Int) → RMasM → Bool → RMasM × Bool
  | [], m, g => (m, g)
  | x :: r, m, g => tickAll t r (tickOne t m g x.1).1 (tickOne t m g x.1).2
theorem tickAll_cons (t : Int) (l : List (Int × Int)) {k : Nat} (hk : k < l.length) (m : RMasM) (g : Bool) : tickAll t (l.drop k) m g = tickAll t (l.drop (k + 1)) (tickOne t m g (l.getD k (0, 0)).1).1 (tickOne t m g (l.getD k (0, 0)).1).2 := by
  rw [List.drop_eq_getElem_cons hk]
  simp only [List.getD, List.getElem?_eq_getElem hk, Option.getD_some]
  rfl
def tickD (m : RMasM) (now : Int) : RMasM × List SndM :=
  if (tickAll (nearM now) m.ch.mem m false).2 then ((tickAll (nearM now) m.ch.mem m false).1, allN (tickAll (nearM now) m.ch.mem m false).1.ch m.c.nodes.toNat) else ((tickAll (nearM now) m.ch.mem m false).1, [])
/-- A member's number, where it lies. -/
theorem mem_cell {c : ChM} {y : RLoc} {u : World} (h : ChSl u (y.mem c) c) {k : Nat} (hk : k < c.mem.length) : ∀ j v, [Value.int .i64 (c.mem.getD k (0, 0)).1][j]? = some v → u.cell? ⟨y.b, y.off + k * 2 + 0 + j, none⟩ = some v := fun j v hj => by
  rcases j with _ | j
  · simp only [List.getElem?_cons_zero, Option.some.injEq] at hj
    subst hj
    obtain ⟨a, cap, e, _, _, hr⟩ := h
    obtain ⟨b, off, ha, _, hc⟩ := hr (by omega)
    simp only [RLoc.mem, Value.slice.injEq] at e
    rw [ha] at e
    have e1 := e.1
    simp only [RLoc.adr, Option.some.injEq, Addr.mk.injEq, and_true] at e1
    have := hc k 0 hk (by decide)
    rw [e1.1, e1.2, Nat.add_zero]
    exact this
  · simp at hj
end Go.Proofs.Ytghfigeepnbjaaa
