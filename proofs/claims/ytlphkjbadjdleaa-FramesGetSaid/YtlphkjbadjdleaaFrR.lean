/-
  The frame of bytes, as the document reads it. No program in sight, no condition.
-/
import Derived.Test.YtlphkjbadjdleaaPS
import Derived.Test.YtlphkjbadjdleaaPL
namespace Go.Proofs.Ytlphkjbadjdleaa
open Go.RowKit
theorem stR_nil (s : List UInt8) : ∀ i, (stR (s, true) i).2 = false → (stR (s, true) i).1 = []
  | 0, h => by cases h
  | i + 1, h => by
    have ih := stR_nil s i
    rcases hq : stR (s, true) i with ⟨q, b⟩
    have e : stR (s, true) (i + 1) = rdS (q, b) := by rw [← hq]; rfl
    rw [e] at h ⊢
    rw [hq] at ih
    cases b
    · simp only [rdS, Bool.false_eq_true, if_false] at h ⊢
      exact ih rfl
    · rcases hu : unintB q with _ | ⟨n, t⟩
      · rw [(rd_none hu).1]
      · rw [(rd_some hu).1] at h; cases h
theorem stR_read (s : List UInt8) (i : Nat) : uN (unintB (stR (s, true) i).1) = rdN (stR (s, true) i) ∧ rR (unintB (stR (s, true) i).1) = (stR (s, true) (i + 1)).1 := by
  have hn := stR_nil s i
  rcases hq : stR (s, true) i with ⟨q, b⟩
  have e : stR (s, true) (i + 1) = rdS (q, b) := by rw [← hq]; rfl
  rw [e]
  rw [hq] at hn
  cases b
  · have : q = [] := hn rfl
    subst this
    exact ⟨rfl, rfl⟩
  · rcases hu : unintB q with _ | ⟨n, t⟩
    · simp only [(rd_none hu).1, (rd_none hu).2, hu, uN, rR]; exact ⟨trivial, trivial⟩
    · simp only [(rd_some hu).1, (rd_some hu).2, hu, uN, rR]; exact ⟨trivial, trivial⟩
/-- What stands behind the numbers, whether all was well or not. -/
def rtail (f : FrM) (s : List UInt8) : FrM :=
  if f.kind = 1 then { f with op := (getB s).getD noOp }
  else if f.kind = 2 then { f with res := ⟨uN (unintB s), cN (cutB (rR (unintB s))), uN (unintB (rR (cutB (rR (unintB s))))), uN (unintB (rR (unintB (rR (cutB (rR (unintB s)))))))⟩ }
  else if f.kind = 4 then { f with ent := ⟨uN (unintB s), uN (unintB (rR (unintB s))), uN (unintB (rR (unintB (rR (unintB s))))), (getB (rR (unintB (rR (unintB (rR (unintB s))))))).getD noOp⟩ }
  else if f.kind = 8 then { f with ch := (getM s).1 }
  else f
theorem tail_is {f g : FrM} {s : List UInt8} (h : tailP f s = some g) : g = rtail f s := by
  unfold tailP at h
  unfold rtail
  split at h
  · rename_i hk
    rw [if_pos hk]
    rcases ho : getB s with _ | o
    · rw [ho] at h; cases h
    · rw [ho] at h; cases h; rfl
  · rename_i hk
    rw [if_neg hk]
    split at h
    · rename_i hk2
      rw [if_pos hk2]
      rcases h1 : unintB s with _ | ⟨a, s1⟩
      · rw [h1] at h; cases h
      rw [h1] at h; simp only at h
      rcases h2 : cutB s1 with _ | ⟨v, s2⟩
      · rw [h2] at h; cases h
      rw [h2] at h; simp only at h
      rcases h3 : unintB s2 with _ | ⟨b, s3⟩
      · rw [h3] at h; cases h
      rw [h3] at h; simp only at h
      rcases h4 : unintB s3 with _ | ⟨c, s4⟩
      · rw [h4] at h; cases h
      rw [h4] at h; simp only at h
      split at h
      · cases h
        simp only [uN, rR, cN, h1, h2, h3, h4]
      · cases h
    · rename_i hk2
      rw [if_neg hk2]
      split at h
      · rename_i hk4
        rw [if_pos hk4]
        rcases h1 : unintB s with _ | ⟨a, s1⟩
        · rw [h1] at h; cases h
        rw [h1] at h; simp only at h
        rcases h2 : unintB s1 with _ | ⟨b, s2⟩
        · rw [h2] at h; cases h
        rw [h2] at h; simp only at h
        rcases h3 : unintB s2 with _ | ⟨c, s3⟩
        · rw [h3] at h; cases h
        rw [h3] at h; simp only at h
        rcases ho : getB s3 with _ | o
        · rw [ho] at h; cases h
        · rw [ho] at h; cases h
          simp only [uN, rR, h1, h2, h3, ho, Option.getD_some]
      · rename_i hk4
        rw [if_neg hk4]
        split at h
        · rename_i hk8
          rw [if_pos hk8]
          split at h
          · cases h; rfl
          · cases h
        · rename_i hk8
          rw [if_neg hk8]
          split at h
          · cases h; rfl
          · cases h
theorem getFr_is {s s1 : List UInt8} {k : Int} {g : FrM} (h1 : unintB s = some (k, s1)) (h : getFr s = some g) : g = rtail (setL (s1, true) (frK k) (plN k) 0) (stR (s1, true) (plN k).length).1 := by
  by_cases hs : 512 < s.length
  · unfold getFr at h; rw [if_pos hs] at h; cases h
  · cases hok : (stR (s1, true) (plN k).length).2
    · rw [getFr_nums hs h1 hok] at h; cases h
    · rw [getFr_tail hs h1 hok] at h
      rcases ht : tailP (setL (s1, true) (frK k) (plN k) 0) (stR (s1, true) (plN k).length).1 with _ | g'
      · rw [ht] at h; cases h
      · rw [ht] at h
        simp only [Option.bind_some] at h
        split at h
        · cases h; exact tail_is ht
        · cases h
theorem putF_ok {f : FrM} {s : List UInt8} (h : putF f = (s, 0)) : mayF f ∧ bytF f = s ∧ s.length ≤ 512 := by
  unfold putF at h
  split at h
  · cases h
  · rename_i hm
    split at h
    · cases h
    · cases h; exact ⟨by simpa using hm, rfl, by omega⟩
/-- What its bytes say, if that one's are these. -/
theorem getFr_ref {s : List UInt8} {f : FrM} (hs : ¬ 512 < s.length) (h : ∀ g, getFr s = some g → g = f) : getFr s = if (putF f).2 = 0 ∧ (putF f).1 = s then some f else none := by
  rcases hg : getFr s with _ | g
  · rw [if_neg]
    rintro ⟨e1, e2⟩
    obtain ⟨hm, hb, _⟩ := putF_ok (show putF f = (s, 0) from Prod.ext e2 e1)
    have := getF_put f hm
    rw [hb] at this
    unfold getFr at hg
    rw [if_neg hs, this] at hg
    cases hg
  · have e := h g hg
    subst e
    unfold getFr at hg
    rw [if_neg hs] at hg
    obtain ⟨hm, hb, _⟩ := getF_form hg
    have hp : putF g = (s, 0) := by
      unfold putF
      rw [if_neg (by simpa using hm), hb, if_neg hs]
    rw [hp, if_pos ⟨rfl, rfl⟩]
theorem getFr_bad {s : List UInt8} {f : FrM} {u : List UInt8} {e : Int} (hs : ¬ 512 < s.length) (h : ∀ g, getFr s = some g → g = f) (hp : putF f = (u, e)) (hne : ¬ (e = 0 ∧ u = s)) : getFr s = none := by
  rw [getFr_ref hs h, hp, if_neg hne]
theorem getFr_good {s : List UInt8} {f : FrM} (hs : ¬ 512 < s.length) (h : ∀ g, getFr s = some g → g = f) (hp : putF f = (s, 0)) : getFr s = some f := by
  rw [getFr_ref hs h, hp, if_pos ⟨rfl, rfl⟩]
end Go.Proofs.Ytlphkjbadjdleaa
