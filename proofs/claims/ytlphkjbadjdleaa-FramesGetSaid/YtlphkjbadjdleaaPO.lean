/-
  ops.Get, all its ways together. The plain laws of the operations' bytes. No program in sight, no condition. What stands behind an operation's bytes. No program in sight, no condition. No condition.
-/
import Derived.Test.YtlphkjbadjdleaaOpsGet
import Derived.Test.YtlphkjbadjdleaaPL
namespace Go.Proofs.Ytlphkjbadjdleaa
open Go.RowKit

theorem unintB_len {l r : List UInt8} {n : Int} (h : unintB l = some (n, r)) : r.length ≤ l.length := by
  unfold unintB at h
  rcases hd : readB l with _ | ⟨k, q⟩
  · rw [hd] at h; cases h
  · rw [hd] at h
    simp only at h
    split at h
    · simp only [Option.some.injEq, Prod.mk.injEq] at h
      have := readB_len hd
      rw [← h.2]; omega
    · cases h
theorem cutB_len {l s r : List UInt8} (h : cutB l = some (s, r)) : r.length ≤ l.length := by
  unfold cutB at h
  rcases hd : readB l with _ | ⟨k, q⟩
  · rw [hd] at h; cases h
  · rw [hd] at h
    simp only at h
    split at h
    · simp only [Option.some.injEq, Prod.mk.injEq] at h
      have := readB_len hd
      rw [← h.2, List.length_drop]; omega
    · cases h

theorem get_any (l : List UInt8) (w : World) (hl : l.length ≤ 100000) :
    Calls Try.prog 92 #[S l] w fun e w' => e = .returned (getV (getB l)) ∧ w.grownBy w' none := by
  unfold getB
  rcases h1 : unintB l with _ | ⟨k, r1⟩
  · exact get_a l w hl h1
  have l1 := unintB_len h1
  simp only
  rcases h2 : cutB r1 with _ | ⟨key, r2⟩
  · exact get_b l k r1 w hl h1 (by omega) h2
  have l2 := cutB_len h2
  simp only
  by_cases k2 : k = 2
  · subst k2
    rcases h3 : cutB r2 with _ | ⟨v, r3⟩
    · simp; exact get_c2 l r1 key r2 w hl h1 (by omega) h2 (by omega) h3
    simp
    by_cases hr : r3 = []
    · subst hr
      by_cases hc : chkO ⟨2, key, v, 0⟩ = 0
      · simp [hc]; exact get_f2 l r1 key r2 v w hl h1 (by omega) h2 (by omega) h3 hc
      · simp [hc]; exact get_g2 l r1 key r2 v _ w hl h1 (by omega) h2 (by omega) h3 rfl (by simpa using hc)
    · simp [hr]; exact get_e2 l r1 key r2 v r3 w hl h1 (by omega) h2 (by omega) h3 (by simpa using hr)
  · by_cases k4 : k = 4
    · subst k4
      rcases h3 : cutB r2 with _ | ⟨v, r3⟩
      · simp; exact get_c4 l r1 key r2 w hl h1 (by omega) h2 (by omega) h3
      have l3 := cutB_len h3
      simp
      rcases h4 : unintB r3 with _ | ⟨ver, r4⟩
      · simp; exact get_d l r1 key r2 v r3 w hl h1 (by omega) h2 (by omega) h3 (by omega) h4
      simp
      by_cases hr : r4 = []
      · subst hr
        by_cases hc : chkO ⟨4, key, v, ver⟩ = 0
        · simp [hc]; exact get_f4 l r1 key r2 v r3 ver w hl h1 (by omega) h2 (by omega) h3 (by omega) h4 hc
        · simp [hc]; exact get_g4 l r1 key r2 v r3 ver _ w hl h1 (by omega) h2 (by omega) h3 (by omega) h4 rfl (by simpa using hc)
      · simp [hr]; exact get_e4 l r1 key r2 v r3 ver r4 w hl h1 (by omega) h2 (by omega) h3 (by omega) h4 (by simpa using hr)
    · have b2 : (k == 2) = false := by simpa using k2
      have b4 : (k == 4) = false := by simpa using k4
      simp [k2, k4]
      by_cases hr : r2 = []
      · subst hr
        by_cases hc : chkO ⟨k, key, [], 0⟩ = 0
        · simp [hc]; exact get_f1 l k r1 key w hl b2 b4 h1 (by omega) h2 hc
        · simp [hc]; exact get_g1 l k r1 key _ w hl b2 b4 h1 (by omega) h2 rfl (by simpa using hc)
      · simp [hr]; exact get_e1 l k r1 key r2 w hl b2 b4 h1 (by omega) h2 (by simpa using hr)
end Go.Proofs.Ytlphkjbadjdleaa
namespace Go.Proofs.Ytlphkjbadjdleaa
open Go.RowKit

/-- What is put is got. -/
theorem getB_put (o : OpM) (h : chkO o = 0) : getB (putB o) = some o := by
  obtain ⟨q1, q2, _, v1, v2, hv, hval, h8, h9⟩ := chkO_0.1 h
  obtain ⟨kind, key, value, version⟩ := o
  simp only at q1 q2 v1 v2 hv hval h8 h9
  have e1 := unintB_int kind (by omega) (by omega) (textB key ++ ((if kind = 2 ∨ kind = 4 then textB value else []) ++ (if kind = 4 then intB version else [])))
  have e2 := cutB_text key ((if kind = 2 ∨ kind = 4 then textB value else []) ++ (if kind = 4 then intB version else [])) (by omega)
  simp only [putB, getB, e1, e2]
  by_cases k4 : kind = 4
  · subst k4
    have e3 := cutB_text value (intB version) (by omega)
    have e4 := unintB_int version (by omega) (by omega) []
    rw [List.append_nil] at e4
    simp [e3, e4, h]
  · have hver : version = 0 := by omega
    subst hver
    by_cases k2 : kind = 2
    · subst k2
      have e3 := cutB_text value [] (by omega)
      rw [List.append_nil] at e3
      simp [e3, h]
    · have hv0 : value = [] := by
        rcases hval with h | h | h
        · exact h
        · exact absurd h k2
        · exact absurd h k4
      subst hv0
      simp [k2, k4, h]

/-- What is got stood there. -/
theorem getB_form {l : List UInt8} {o : OpM} (h : getB l = some o) : chkO o = 0 ∧ putB o = l := by
  unfold getB at h
  rcases h1 : unintB l with _ | ⟨k, r1⟩
  · rw [h1] at h; cases h
  rw [h1] at h
  simp only at h
  rcases h2 : cutB r1 with _ | ⟨key, r2⟩
  · rw [h2] at h; cases h
  rw [h2] at h
  simp only at h
  obtain ⟨f1, _, _⟩ := unintB_form h1
  have f2 := cutB_form h2
  by_cases k4 : k = 4
  · subst k4
    rw [if_pos (.inr rfl)] at h
    rcases h3 : cutB r2 with _ | ⟨v, r3⟩
    · rw [h3] at h; cases h
    rw [h3] at h
    simp only at h
    rcases h4 : unintB r3 with _ | ⟨ver, r4⟩
    · rw [h4] at h; cases h
    rw [h4, if_pos trivial] at h
    simp only at h
    have f3 := cutB_form h3
    obtain ⟨f4, _, _⟩ := unintB_form h4
    split at h
    · rename_i hc
      simp only [Option.some.injEq] at h
      subst h
      refine ⟨hc.2, ?_⟩
      rw [hc.1, List.append_nil] at f4
      simp [putB, f4, f3, f2, f1]
    · cases h
  · by_cases k2 : k = 2
    · subst k2
      rw [if_pos (.inl rfl)] at h
      rcases h3 : cutB r2 with _ | ⟨v, r3⟩
      · rw [h3] at h; cases h
      rw [h3] at h
      simp only at h
      rw [if_neg (by omega)] at h
      simp only at h
      have f3 := cutB_form h3
      split at h
      · rename_i hc
        simp only [Option.some.injEq] at h
        subst h
        refine ⟨hc.2, ?_⟩
        rw [hc.1, List.append_nil] at f3
        simp [putB, f3, f2, f1]
      · cases h
    · simp only [k2, k4, or_self, if_false] at h
      split at h
      · rename_i hc
        simp only [Option.some.injEq] at h
        subst h
        refine ⟨hc.2, ?_⟩
        rw [hc.1, List.append_nil] at f2
        simp [putB, k2, k4, f2, f1]
      · cases h

/-- The operation that the document's Get makes of bytes, before it asks whether these are its bytes. -/
def rgO (l : List UInt8) : OpM :=
  let u1 := unintB l
  let c1 := cutB (rR u1)
  let c2 := cutB (rR c1)
  let u2 := unintB (rR c2)
  ⟨uN u1, cN c1, if uN u1 = 2 ∨ uN u1 = 4 then cN c2 else [], if uN u1 = 4 then uN u2 else 0⟩

theorem rgO_put (o : OpM) (h : chkO o = 0) : rgO (putB o) = o := by
  obtain ⟨q1, q2, _, v1, v2, hv, hval, h8, h9⟩ := chkO_0.1 h
  obtain ⟨kind, key, value, version⟩ := o
  simp only at q1 q2 v1 v2 hv hval h8 h9
  have e1 := unintB_int kind (by omega) (by omega) (textB key ++ ((if kind = 2 ∨ kind = 4 then textB value else []) ++ (if kind = 4 then intB version else [])))
  have e2 := cutB_text key ((if kind = 2 ∨ kind = 4 then textB value else []) ++ (if kind = 4 then intB version else [])) (by omega)
  simp only [rgO, putB, e1, uN, rR, e2, cN]
  by_cases k4 : kind = 4
  · subst k4
    have e3 := cutB_text value (intB version) (by omega)
    have e4 := unintB_int version (by omega) (by omega) []
    rw [List.append_nil] at e4
    simp [e3, e4]
  · have hver : version = 0 := by omega
    subst hver
    by_cases k2 : kind = 2
    · subst k2
      have e3 := cutB_text value [] (by omega)
      rw [List.append_nil] at e3
      simp [e3]
    · have hv0 : value = [] := by
        rcases hval with h | h | h
        · exact h
        · exact absurd h k2
        · exact absurd h k4
      subst hv0
      simp [k2, k4]

/-- So the document's answer is the program's. -/
theorem rg_yes (l : List UInt8) (h : chkO (rgO l) = 0) (h2 : putB (rgO l) = l) : getB l = some (rgO l) := by
  have := getB_put (rgO l) h
  rw [h2] at this
  exact this
theorem rg_no (l : List UInt8) (h : chkO (rgO l) ≠ 0 ∨ putB (rgO l) ≠ l) : getB l = none := by
  rcases hg : getB l with _ | o
  · rfl
  · obtain ⟨f1, f2⟩ := getB_form hg
    have := rgO_put o f1
    rw [f2] at this
    rw [this] at h
    rcases h with h | h
    · exact absurd f1 h
    · exact absurd f2 h
end Go.Proofs.Ytlphkjbadjdleaa
namespace Go.Proofs.Ytlphkjbadjdleaa
open Go.RowKit
/-- The operation that stands ahead, and what is behind it. -/
def parseB (l : List UInt8) : Option (OpM × List UInt8) :=
  (unintB l).bind fun a => (cutB a.2).bind fun b => (if a.1 = 2 ∨ a.1 = 4 then cutB b.2 else some ([], b.2)).bind fun c => (if a.1 = 4 then unintB c.2 else some (0, c.2)).bind fun d =>
    some (⟨a.1, b.1, c.1, d.1⟩, d.2)
theorem putO_len (o : OpM) (h : chkO o = 0) : 0 < (putB o).length ∧ (putB o).length ≤ 200 := by
  obtain ⟨q1, q2, _, v1, v2, hv, hval, h8, h9⟩ := chkO_0.1 h
  have i1 := intB_len o.kind
  have i2 := intB_len o.version
  have t1 := textB_len o.key (by omega)
  have t2 := textB_len o.value (by omega)
  have hp : 0 < (intB o.kind).length := by
    rw [intB_yes _ (by omega) (by omega)]
    exact (numL_len _ (by omega)).1
  unfold putB
  constructor
  · simp; omega
  · simp only [List.length_append]
    split <;> split <;> (try simp only [List.length_nil]) <;> omega

end Go.Proofs.Ytlphkjbadjdleaa
