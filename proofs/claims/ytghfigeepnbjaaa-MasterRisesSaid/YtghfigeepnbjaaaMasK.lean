/-
  The master: what a Tick leaves of its members, plainly. No condition.
-/
import Derived.Test.YtghfigeepnbjaaaMasF
namespace Go.Proofs.Ytghfigeepnbjaaa
/-- Is a node a member? -/
def inM (m : MasM) (n : Int) : Prop := ∃ x ∈ m.ch.mem, x.1 = n
theorem inM_iff {m : MasM} (hm : m.ok) {n : Int} : isMemM m n = true ↔ inM m n := by
  rw [isMem_iff hm]
  constructor
  · intro h
    obtain ⟨k, hk⟩ := Int.eq_ofNat_of_zero_le h
    obtain ⟨h1, h2⟩ := atM_mem hk
    exact ⟨m.ch.mem.getD k (0, 0), by simp [List.getD, h1], h2⟩
  · rintro ⟨x, hx, rfl⟩
    obtain ⟨k, hk, rfl⟩ := List.getElem_of_mem hx
    have := nd_ok hm.ch hk
    simp only [List.getD, List.getElem?_eq_getElem hk, Option.getD_some] at this
    omega
theorem inM_not {m : MasM} (hm : m.ok) {n : Int} : isMemM m n = false ↔ ¬ inM m n := by
  rw [← inM_iff hm]; simp
theorem gone_mem {m : MasM} (hm : m.ok) {n : Int} (h : (withoutM m.ch n).2 = 0) (x : Int × Int) : x ∈ (goneM m n).ch.mem ↔ x ∈ m.ch.mem ∧ ¬ x.1 = n := by
  have hp := pair_eta _ h
  have hat := (without_ok hm.ch hp).2.2.2.2
  have hmem : (goneM m n).ch.mem = m.ch.mem.eraseIdx (atM m.ch.mem n).toNat := by
    show (withoutM m.ch n).1.mem = _
    unfold withoutM at h ⊢
    split at h <;> rename_i h1
    · rw [if_pos h1]
      split at h <;> rename_i h2
      · cases h
      · rw [if_neg h2]
        split at h <;> rename_i h3
        · cases h
        · rw [if_neg h3]
    · cases h
  have hnot : ∀ x ∈ (goneM m n).ch.mem, ¬ x.1 = n := fun x hx hxn => by
    have hg := without_keeps hm h
    have := (isMem_iff hg).1 ((inM_iff hg).2 ⟨x, hx, hxn⟩)
    unfold goneM at this
    simp only at this
    omega
  constructor
  · intro hx
    refine ⟨?_, hnot x hx⟩
    rw [hmem] at hx
    exact List.mem_of_mem_eraseIdx hx
  · rintro ⟨hx, hxn⟩
    rw [hmem]
    obtain ⟨k, hk, rfl⟩ := List.getElem_of_mem hx
    refine List.mem_eraseIdx_iff_getElem.2 ⟨k, hk, fun e => hxn ?_, rfl⟩
    have ha : 0 ≤ atM m.ch.mem n := by
      unfold withoutM at h
      split at h
      · split at h
        · cases h
        · omega
      · cases h
    obtain ⟨i, hi⟩ := Int.eq_ofNat_of_zero_le ha
    rw [hi, Int.toNat_natCast] at e
    subst e
    have := (atM_mem hi).2
    simpa [List.getD, hk] using this
theorem gone_in {m : MasM} (hm : m.ok) {n : Int} (h : (withoutM m.ch n).2 = 0) (x : Int) : inM (goneM m n) x ↔ inM m x ∧ ¬ x = n := by
  constructor
  · rintro ⟨y, hy, rfl⟩
    have := (gone_mem hm h y).1 hy
    exact ⟨⟨y, this.1, rfl⟩, this.2⟩
  · rintro ⟨⟨y, hy, rfl⟩, hn⟩
    exact ⟨y, (gone_mem hm h y).2 ⟨hy, hn⟩, rfl⟩
theorem gone_mayGo {m : MasM} (hm : m.ok) {n x : Int} (h : (withoutM m.ch n).2 = 0) (hg : mayGoM (goneM m n) x = true) : mayGoM m x = true := by
  unfold mayGoM at hg ⊢
  obtain ⟨y, hy, hyx⟩ := List.any_eq_true.1 hg
  refine List.any_eq_true.2 ⟨y, ((gone_mem hm h y).1 hy).1, ?_⟩
  simp only [Bool.and_eq_true] at hyx ⊢
  refine ⟨hyx.1, ?_⟩
  have := hyx.2
  unfold goneM at this
  simp only at this
  split at this
  · cases this
  · exact this
/-- Behind a step of a Tick. -/
theorem tickN_sub {m : MasM} (hm : m.ok) (now : Int) (l : List (Int × Int)) (k : Nat) : (∀ x, inM (tickN m now l (k + 1)).1 x → inM (tickN m now l k).1 x) ∧ ∀ x, mayGoM (tickN m now l (k + 1)).1 x = true → mayGoM (tickN m now l k).1 x = true := by
  have hk := tick_ok hm now l k
  simp only [tickN]
  split
  · rename_i h
    unfold lateM at h
    simp only [Bool.and_eq_true, decide_eq_true_eq] at h
    exact ⟨fun x hx => ((gone_in hk h.2.2 x).1 hx).1, fun x hx => gone_mayGo hk h.2.2 hx⟩
  · exact ⟨fun _ h => h, fun _ h => h⟩
theorem tickN_down {m : MasM} (hm : m.ok) (now : Int) (l : List (Int × Int)) (k : Nat) : ∀ j, (∀ x, inM (tickN m now l (k + j)).1 x → inM (tickN m now l k).1 x) ∧ ∀ x, mayGoM (tickN m now l (k + j)).1 x = true → mayGoM (tickN m now l k).1 x = true
  | 0 => ⟨fun _ h => h, fun _ h => h⟩
  | j + 1 => by
    have ih := tickN_down hm now l k j
    have hs := tickN_sub hm now l (k + j)
    exact ⟨fun x hx => ih.1 x (hs.1 x hx), fun x hx => ih.2 x (hs.2 x hx)⟩
theorem tickN_goes {m : MasM} (hm : m.ok) (now : Int) (l : List (Int × Int)) (x : Int) (hx : inM m x) : ∀ k, k ≤ l.length → ¬ inM (tickN m now l k).1 x → m.patience < nearM now - m.heard x.toNat
  | 0, _, h => absurd hx h
  | k + 1, hk, h => by
    by_cases hin : inM (tickN m now l k).1 x
    · have hok := tick_ok hm now l k
      simp only [tickN] at h
      split at h
      · rename_i hl
        unfold lateM at hl
        simp only [Bool.and_eq_true, decide_eq_true_eq] at hl
        have : x = (l.getD k (0, 0)).1 := Classical.byContradiction fun hne => h ((gone_in hok hl.2.2 x).2 ⟨hin, hne⟩)
        rw [← this] at hl
        have hh := tick_heard (m := m) now l k
        rw [hh.1, hh.2.1] at hl
        exact hl.1
      · exact absurd hin h
    · exact tickN_goes hm now l x hx k (by omega) hin
/-- What a Tick leaves. -/
theorem tick_fst {m : MasM} (now : Int) : (tickM m now).m = (tickN m now m.ch.mem m.ch.mem.length).1 := by
  unfold tickM
  split
  · rfl
  · rename_i h
    have := tick_same now m.ch.mem m.ch.mem.length (by simpa using h)
    exact this.symm
theorem tick_keeps {m : MasM} (hm : m.ok) {now : Int} (hn : 0 ≤ now ∧ now ≤ 1099511627776) (hb : m.ch.epoch + 6 < 1099511627776) {k : Nat} (hk : k < m.ch.mem.length) :
    (isMemM (tickM m now).m (m.ch.mem.getD k (0, 0)).1 = false → m.patience < now - m.heard (m.ch.mem.getD k (0, 0)).1.toNat) ∧
    (isMemM (tickM m now).m (m.ch.mem.getD k (0, 0)).1 = true → m.patience < now - m.heard (m.ch.mem.getD k (0, 0)).1.toNat → mayGoM (tickM m now).m (m.ch.mem.getD k (0, 0)).1 = false) := by
  have hnear : nearM now = now := by unfold nearM; omega
  have hfin := tick_ok hm now m.ch.mem m.ch.mem.length
  have hl6 := okCh_len hm.ch
  rw [tick_fst, inM_not hfin, inM_iff hfin]
  constructor
  · intro h
    have := tickN_goes hm now m.ch.mem (m.ch.mem.getD k (0, 0)).1 ⟨_, by simp [List.getD, hk], rfl⟩ _ (Nat.le_refl _) h
    rwa [hnear] at this
  · intro hin hlate
    have hd1 := tickN_down hm now m.ch.mem (k + 1) (m.ch.mem.length - (k + 1))
    rw [show k + 1 + (m.ch.mem.length - (k + 1)) = m.ch.mem.length by omega] at hd1
    have hin1 := hd1.1 _ hin
    have hin0 := (tickN_sub hm now m.ch.mem k).1 _ hin1
    have hok := tick_ok hm now m.ch.mem k
    have hh := tick_heard (m := m) now m.ch.mem k
    refine Classical.byContradiction fun hg => ?_
    have hg1 := hd1.2 _ (by simpa using hg)
    have hg0 := (tickN_sub hm now m.ch.mem k).2 _ hg1
    have hat := (isMem_iff hok).1 ((inM_iff hok).2 hin0)
    have hep := (tickN_st (d := ⟨m.nodes, 0, 0, [], 0, 0, 0, 0, m.patience, 0, 0, 0⟩) (B := m.ch.epoch) (m := m) ⟨hm, rfl, rfl, Int.le_refl _⟩ now m.ch.mem k).ep
    have hw : (withoutM (tickN m now m.ch.mem k).1.ch (m.ch.mem.getD k (0, 0)).1).2 = 0 := by
      rw [without_eq hok.ch (by omega) hat (mayGo_two hok hg0 hat)]
    have hl : lateM (tickN m now m.ch.mem k).1 now (m.ch.mem.getD k (0, 0)).1 = true := late_yes (by rw [hh.1, hh.2.1, hnear]; exact hlate) hg0 hw
    simp only [tickN] at hin1
    rw [if_pos hl] at hin1
    exact ((gone_in hok hw _).1 hin1).2 rfl
end Go.Proofs.Ytghfigeepnbjaaa
