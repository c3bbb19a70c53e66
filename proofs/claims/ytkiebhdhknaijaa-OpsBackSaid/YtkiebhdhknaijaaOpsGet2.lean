/-
  ops.Get, all its ways together. No condition.
-/
import Derived.Test.YtkiebhdhknaijaaOpsGet
namespace Go.Proofs.Ytkiebhdhknaijaa
open Go.RowKit

theorem unintB_len {l r : List UInt8} {n : Int} (h : unintB l = some (n, r)) : r.length ≤ l.length := by
  unfold unintB at h
  rcases hd : readB l with _ | ⟨k, q⟩
  · rw [hd] at h; cases h
  · rw [hd] at h
    simp only at h
    split at h
    · simp only [Option.some.injEq, Prod.mk.injEq] at h
      have := readB_len hd
      rw [← h.2]; omega
    · cases h
theorem cutB_len {l s r : List UInt8} (h : cutB l = some (s, r)) : r.length ≤ l.length := by
  unfold cutB at h
  rcases hd : readB l with _ | ⟨k, q⟩
  · rw [hd] at h; cases h
  · rw [hd] at h
    simp only at h
    split at h
    · simp only [Option.some.injEq, Prod.mk.injEq] at h
      have := readB_len hd
      rw [← h.2, List.length_drop]; omega
    · cases h

theorem get_any (l : List UInt8) (w : World) (hl : l.length ≤ 100000) :
    Calls Try.prog 45 #[S l] w fun e w' => e = .returned (getV (getB l)) ∧ w.grownBy w' none := by
  unfold getB
  rcases h1 : unintB l with _ | ⟨k, r1⟩
  · exact get_a l w hl h1
  have l1 := unintB_len h1
  simp only
  rcases h2 : cutB r1 with _ | ⟨key, r2⟩
  · exact get_b l k r1 w hl h1 (by omega) h2
  have l2 := cutB_len h2
  simp only
  by_cases k2 : k = 2
  · subst k2
    rcases h3 : cutB r2 with _ | ⟨v, r3⟩
    · simp; exact get_c2 l r1 key r2 w hl h1 (by omega) h2 (by omega) h3
    simp
    by_cases hr : r3 = []
    · subst hr
      by_cases hc : chkO ⟨2, key, v, 0⟩ = 0
      · simp [hc]; exact get_f2 l r1 key r2 v w hl h1 (by omega) h2 (by omega) h3 hc
      · simp [hc]; exact get_g2 l r1 key r2 v _ w hl h1 (by omega) h2 (by omega) h3 rfl (by simpa using hc)
    · simp [hr]; exact get_e2 l r1 key r2 v r3 w hl h1 (by omega) h2 (by omega) h3 (by simpa using hr)
  · by_cases k4 : k = 4
    · subst k4
      rcases h3 : cutB r2 with _ | ⟨v, r3⟩
      · simp; exact get_c4 l r1 key r2 w hl h1 (by omega) h2 (by omega) h3
      have l3 := cutB_len h3
      simp
      rcases h4 : unintB r3 with _ | ⟨ver, r4⟩
      · simp; exact get_d l r1 key r2 v r3 w hl h1 (by omega) h2 (by omega) h3 (by omega) h4
      simp
      by_cases hr : r4 = []
      · subst hr
        by_cases hc : chkO ⟨4, key, v, ver⟩ = 0
        · simp [hc]; exact get_f4 l r1 key r2 v r3 ver w hl h1 (by omega) h2 (by omega) h3 (by omega) h4 hc
        · simp [hc]; exact get_g4 l r1 key r2 v r3 ver _ w hl h1 (by omega) h2 (by omega) h3 (by omega) h4 rfl (by simpa using hc)
      · simp [hr]; exact get_e4 l r1 key r2 v r3 ver r4 w hl h1 (by omega) h2 (by omega) h3 (by omega) h4 (by simpa using hr)
    · have b2 : (k == 2) = false := by simpa using k2
      have b4 : (k == 4) = false := by simpa using k4
      simp [k2, k4]
      by_cases hr : r2 = []
      · subst hr
        by_cases hc : chkO ⟨k, key, [], 0⟩ = 0
        · simp [hc]; exact get_f1 l k r1 key w hl b2 b4 h1 (by omega) h2 hc
        · simp [hc]; exact get_g1 l k r1 key _ w hl b2 b4 h1 (by omega) h2 rfl (by simpa using hc)
      · simp [hr]; exact get_e1 l k r1 key r2 w hl b2 b4 h1 (by omega) h2 (by simpa using hr)
end Go.Proofs.Ytkiebhdhknaijaa
