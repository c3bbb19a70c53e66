/-
  The plain laws of the operations' bytes. No program in sight, no condition.
-/
import Derived.Test.YtkiebhdhknaijaaOpsGet2
import Derived.Test.YtkiebhdhknaijaaCodecLaws
namespace Go.Proofs.Ytkiebhdhknaijaa
open Go.RowKit

theorem putB_eq (o : OpM) : putB o = intB o.kind ++ (textB o.key ++ ((if o.kind = 2 ∨ o.kind = 4 then textB o.value else []) ++ (if o.kind = 4 then intB o.version else []))) := rfl

/-- What is put is got. -/
theorem getB_put (o : OpM) (h : chkO o = 0) : getB (putB o) = some o := by
  obtain ⟨q1, q2, _, v1, v2, hv, hval, h8, h9⟩ := chkO_0.1 h
  obtain ⟨kind, key, value, version⟩ := o
  simp only at q1 q2 v1 v2 hv hval h8 h9
  have e1 := unintB_int kind (by omega) (by omega) (textB key ++ ((if kind = 2 ∨ kind = 4 then textB value else []) ++ (if kind = 4 then intB version else [])))
  have e2 := cutB_text key ((if kind = 2 ∨ kind = 4 then textB value else []) ++ (if kind = 4 then intB version else [])) (by omega)
  simp only [putB, getB, e1, e2]
  by_cases k4 : kind = 4
  · subst k4
    have e3 := cutB_text value (intB version) (by omega)
    have e4 := unintB_int version (by omega) (by omega) []
    rw [List.append_nil] at e4
    simp [e3, e4, h]
  · have hver : version = 0 := by omega
    subst hver
    by_cases k2 : kind = 2
    · subst k2
      have e3 := cutB_text value [] (by omega)
      rw [List.append_nil] at e3
      simp [e3, h]
    · have hv0 : value = [] := by
        rcases hval with h | h | h
        · exact h
        · exact absurd h k2
        · exact absurd h k4
      subst hv0
      simp [k2, k4, h]

/-- What is got stood there. -/
theorem getB_form {l : List UInt8} {o : OpM} (h : getB l = some o) : chkO o = 0 ∧ putB o = l := by
  unfold getB at h
  rcases h1 : unintB l with _ | ⟨k, r1⟩
  · rw [h1] at h; cases h
  rw [h1] at h
  simp only at h
  rcases h2 : cutB r1 with _ | ⟨key, r2⟩
  · rw [h2] at h; cases h
  rw [h2] at h
  simp only at h
  obtain ⟨f1, _, _⟩ := unintB_form h1
  have f2 := cutB_form h2
  by_cases k4 : k = 4
  · subst k4
    rw [if_pos (.inr rfl)] at h
    rcases h3 : cutB r2 with _ | ⟨v, r3⟩
    · rw [h3] at h; cases h
    rw [h3] at h
    simp only at h
    rcases h4 : unintB r3 with _ | ⟨ver, r4⟩
    · rw [h4] at h; cases h
    rw [h4, if_pos trivial] at h
    simp only at h
    have f3 := cutB_form h3
    obtain ⟨f4, _, _⟩ := unintB_form h4
    split at h
    · rename_i hc
      simp only [Option.some.injEq] at h
      subst h
      refine ⟨hc.2, ?_⟩
      rw [hc.1, List.append_nil] at f4
      simp [putB, f4, f3, f2, f1]
    · cases h
  · by_cases k2 : k = 2
    · subst k2
      rw [if_pos (.inl rfl)] at h
      rcases h3 : cutB r2 with _ | ⟨v, r3⟩
      · rw [h3] at h; cases h
      rw [h3] at h
      simp only at h
      rw [if_neg (by omega)] at h
      simp only at h
      have f3 := cutB_form h3
      split at h
      · rename_i hc
        simp only [Option.some.injEq] at h
        subst h
        refine ⟨hc.2, ?_⟩
        rw [hc.1, List.append_nil] at f3
        simp [putB, f3, f2, f1]
      · cases h
    · simp only [k2, k4, or_self, if_false] at h
      split at h
      · rename_i hc
        simp only [Option.some.injEq] at h
        subst h
        refine ⟨hc.2, ?_⟩
        rw [hc.1, List.append_nil] at f2
        simp [putB, k2, k4, f2, f1]
      · cases h

/-- The operation that the document's Get makes of bytes, before it asks whether these are its bytes. -/
def rgO (l : List UInt8) : OpM :=
  let u1 := unintB l
  let c1 := cutB (rR u1)
  let c2 := cutB (rR c1)
  let u2 := unintB (rR c2)
  ⟨uN u1, cN c1, if uN u1 = 2 ∨ uN u1 = 4 then cN c2 else [], if uN u1 = 4 then uN u2 else 0⟩

theorem rgO_put (o : OpM) (h : chkO o = 0) : rgO (putB o) = o := by
  obtain ⟨q1, q2, _, v1, v2, hv, hval, h8, h9⟩ := chkO_0.1 h
  obtain ⟨kind, key, value, version⟩ := o
  simp only at q1 q2 v1 v2 hv hval h8 h9
  have e1 := unintB_int kind (by omega) (by omega) (textB key ++ ((if kind = 2 ∨ kind = 4 then textB value else []) ++ (if kind = 4 then intB version else [])))
  have e2 := cutB_text key ((if kind = 2 ∨ kind = 4 then textB value else []) ++ (if kind = 4 then intB version else [])) (by omega)
  simp only [rgO, putB, e1, uN, rR, e2, cN]
  by_cases k4 : kind = 4
  · subst k4
    have e3 := cutB_text value (intB version) (by omega)
    have e4 := unintB_int version (by omega) (by omega) []
    rw [List.append_nil] at e4
    simp [e3, e4]
  · have hver : version = 0 := by omega
    subst hver
    by_cases k2 : kind = 2
    · subst k2
      have e3 := cutB_text value [] (by omega)
      rw [List.append_nil] at e3
      simp [e3]
    · have hv0 : value = [] := by
        rcases hval with h | h | h
        · exact h
        · exact absurd h k2
        · exact absurd h k4
      subst hv0
      simp [k2, k4]

/-- So the document's answer is the program's. -/
theorem rg_yes (l : List UInt8) (h : chkO (rgO l) = 0) (h2 : putB (rgO l) = l) : getB l = some (rgO l) := by
  have := getB_put (rgO l) h
  rw [h2] at this
  exact this
theorem rg_no (l : List UInt8) (h : chkO (rgO l) ≠ 0 ∨ putB (rgO l) ≠ l) : getB l = none := by
  rcases hg : getB l with _ | o
  · rfl
  · obtain ⟨f1, f2⟩ := getB_form hg
    have := rgO_put o f1
    rw [f2] at this
    rw [this] at h
    rcases h with h | h
    · exact absurd f1 h
    · exact absurd f2 h
end Go.Proofs.Ytkiebhdhknaijaa
