/-
  The master: what a Tick leaves of its members, plainly. No condition.
-/
import Derived.Test.YtghfigeepnbjaaaMasF
namespace Go.Proofs.Ytghfigeepnbjaaa
/-- Is a node a member? -/
def inM (m : MasM) (n : Int) : Prop := ∃ x ∈ m.ch.mem, x.1 = n
theorem inM_iff {m : MasM} (hm : m.ok) {n : Int} : isMemM m n = true ↔ inM m n := by
  rw [isMem_iff hm]
  constructor
  · intro h
    obtain ⟨k, hk⟩ := Int.eq_ofNat_of_zero_le h
    obtain ⟨h1, h2⟩ := atM_mem hk
    exact ⟨m.ch.mem.getD k (0, 0), by simp [List.getD, h1], h2⟩
  · rintro ⟨x, hx, rfl⟩
    obtain ⟨k, hk, rfl⟩ := List.getElem_of_mem hx
    have := nd_ok hm.ch hk
    simp only [List.getD, List.getElem?_eq_getElem hk, Option.getD_some] at this
    omega
theorem gone_mem {m : MasM} (hm : m.ok) {n : Int} (h : (withoutM m.ch n).2 = 0) (x : Int × Int) : x ∈ (goneM m n).ch.mem ↔ x ∈ m.ch.mem ∧ ¬ x.1 = n := by
  have hp := pair_eta _ h
  have hat := (without_ok hm.ch hp).2.2.2.2
  have hmem : (goneM m n).ch.mem = m.ch.mem.eraseIdx (atM m.ch.mem n).toNat := by
    show (withoutM m.ch n).1.mem = _
    unfold withoutM at h ⊢
    split at h <;> rename_i h1
    · rw [if_pos h1]
      split at h <;> rename_i h2
      · cases h
      · rw [if_neg h2]
        split at h <;> rename_i h3
        · cases h
        · rw [if_neg h3]
    · cases h
  have hnot : ∀ x ∈ (goneM m n).ch.mem, ¬ x.1 = n := fun x hx hxn => by
    have hg := without_keeps hm h
    have := (isMem_iff hg).1 ((inM_iff hg).2 ⟨x, hx, hxn⟩)
    unfold goneM at this
    simp only at this
    omega
  constructor
  · intro hx
    refine ⟨?_, hnot x hx⟩
    rw [hmem] at hx
    exact List.mem_of_mem_eraseIdx hx
  · rintro ⟨hx, hxn⟩
    rw [hmem]
    obtain ⟨k, hk, rfl⟩ := List.getElem_of_mem hx
    refine List.mem_eraseIdx_iff_getElem.2 ⟨k, hk, fun e => hxn ?_, rfl⟩
    have ha : 0 ≤ atM m.ch.mem n := by
      unfold withoutM at h
      split at h
      · split at h
        · cases h
        · omega
      · cases h
    obtain ⟨i, hi⟩ := Int.eq_ofNat_of_zero_le ha
    rw [hi, Int.toNat_natCast] at e
    subst e
    have := (atM_mem hi).2
    simpa [List.getD, hk] using this
theorem gone_in {m : MasM} (hm : m.ok) {n : Int} (h : (withoutM m.ch n).2 = 0) (x : Int) : inM (goneM m n) x ↔ inM m x ∧ ¬ x = n := by
  constructor
  · rintro ⟨y, hy, rfl⟩
    have := (gone_mem hm h y).1 hy
    exact ⟨⟨y, this.1, rfl⟩, this.2⟩
  · rintro ⟨⟨y, hy, rfl⟩, hn⟩
    exact ⟨y, (gone_mem hm h y).2 ⟨hy, hn⟩, rfl⟩
end Go.Proofs.Ytghfigeepnbjaaa
