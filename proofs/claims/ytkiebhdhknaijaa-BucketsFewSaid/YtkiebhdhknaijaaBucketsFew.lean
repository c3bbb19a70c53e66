/-
  The plain law behind BucketsFew: how many are taken in any ticks. No program in sight, no condition.
-/
import Derived.Test.YtkiebhdhknaijaaBuckets2
namespace Go.Proofs.Ytkiebhdhknaijaa
open Go.RowKit

theorem brL_fix (cap refill tick : Int) : ∀ (n : Nat) (t s : Int), (cap - t).toNat ≤ n → ¬ ((brL cap refill tick n t s).1 < cap ∧ (brL cap refill tick n t s).2 + refill ≤ tick) := by
  intro n
  induction n with
  | zero => intro t s h; simp [brL]; omega
  | succ n ih =>
    intro t s h
    rw [brL]
    split
    · exact ih _ _ (by omega)
    · assumption

/-- Brought to its tick: nothing comes any more at it. -/
def Settled (b : Bk) : Prop := b.tok = b.cap ∧ b.since = b.tick ∨ b.tok < b.cap ∧ b.tick < b.since + b.refill

theorem brF_settled (b : Bk) (now : Int) (hok : b.ok) : Settled (brF b now) := by
  obtain ⟨cap, refill, tok, tick, since⟩ := b
  obtain ⟨h1, h2, h3, h4, h5, h6, h7, h8⟩ := hok
  simp only at h1 h2 h3 h4 h5 h6 h7 h8
  have hf := brL_fix cap refill (min (max now tick) 1099511627776) (cap - tok).toNat tok since (Nat.le_refl _)
  have hr := brL_rng cap refill (min (max now tick) 1099511627776) h4 (cap - tok).toNat tok since h2 (by omega)
  simp only [brF, Settled]
  generalize brL cap refill (min (max now tick) 1099511627776) (cap - tok).toNat tok since = p at *
  split <;> omega

theorem brF_same (b : Bk) (now : Int) (hok : b.ok) (hs : Settled b) (hn : now ≤ b.tick) : brF b now = b := by
  obtain ⟨cap, refill, tok, tick, since⟩ := b
  obtain ⟨h1, h2, h3, h4, h5, h6, h7, h8⟩ := hok
  simp only [Settled] at h1 h2 h3 h4 h5 h6 h7 h8 hs hn
  have e : min (max now tick) 1099511627776 = tick := by omega
  simp only [brF, e]
  rw [brL_done _ _ _ _ _ _ (by omega)]
  split <;> simp <;> omega

theorem tick_brF (b : Bk) (now : Int) (h1 : b.tick ≤ now) (h2 : now ≤ 1099511627776) : (brF b now).tick = now := by
  simp only [brF]; omega

theorem taken (b : Bk) (h : Settled b) (hok : b.ok) (hp : 0 < b.tok) : Settled { b with tok := b.tok - 1 } ∧ (Bk.mk b.cap b.refill (b.tok - 1) b.tick b.since).ok := by
  obtain ⟨cap, refill, tok, tick, since⟩ := b
  obtain ⟨h1, h2, h3, h4, h5, h6, h7, h8⟩ := hok
  simp only [Settled, Bk.ok] at *
  omega

/-- What has been taken since each tick. -/
def Paid (b : Bk) (ts : List Int) : Prop := ∀ (i : Nat) (u : Int), ts[i]? = some u → ((ts.length : Int) - i + b.tok - b.cap) * b.refill + u ≤ b.since

theorem brL_paid (cap refill tick : Int) (m : Int) : ∀ (n : Nat) (t s : Int), (m + t - cap) * refill ≤ s → (m + (brL cap refill tick n t s).1 - cap) * refill ≤ (brL cap refill tick n t s).2 := by
  intro n
  induction n with
  | zero => intro t s h; simpa [brL] using h
  | succ n ih =>
    intro t s h
    rw [brL]
    split
    · refine ih _ _ ?_
      have : (m + (t + 1) - cap) * refill = (m + t - cap) * refill + refill := by
        rw [show m + (t + 1) - cap = (m + t - cap) + 1 by omega, Int.add_mul]; omega
      omega
    · exact h

theorem paid_brF (b : Bk) (now : Int) (ts : List Int) (hok : b.ok) (h : Paid b ts) : Paid (brF b now) ts := by
  intro i u hu
  have h0 := h i u hu
  obtain ⟨cap, refill, tok, tick, since⟩ := b
  obtain ⟨h1, h2, h3, h4, h5, h6, h7, h8⟩ := hok
  simp only at h1 h2 h3 h4 h5 h6 h7 h8 h0
  have hr := brL_rng cap refill (min (max now tick) 1099511627776) h4 (cap - tok).toNat tok since h2 (by omega)
  have hp := brL_paid cap refill (min (max now tick) 1099511627776) ((ts.length : Int) - i) (cap - tok).toNat tok (since - u)
  have hsh : ∀ (n : Nat) (t s d k : Int), brL cap refill (k - d) n t (s - d) = ((brL cap refill k n t s).1, (brL cap refill k n t s).2 - d) := by
    intro n
    induction n with
    | zero => intro t s d k; simp [brL]
    | succ n ih =>
      intro t s d k
      simp only [brL]
      by_cases q : t < cap ∧ s + refill ≤ k
      · rw [if_pos q, if_pos (by omega), show s - d + refill = s + refill - d by omega, ih]
      · rw [if_neg q, if_neg (by omega)]
  simp only [brF]
  have hp2 := brL_paid cap refill (min (max now tick) 1099511627776 - u) ((ts.length : Int) - i) (cap - tok).toNat tok (since - u) (by omega)
  rw [hsh] at hp2
  simp only at hp2
  generalize brL cap refill (min (max now tick) 1099511627776) (cap - tok).toNat tok since = p at *
  split <;> omega

theorem mul_le_of {a b k : Int} (hk : 0 ≤ k) (h : a ≤ b) : a * k ≤ b * k := Int.mul_le_mul_of_nonneg_right h hk

theorem paid_take (b : Bk) (ts : List Int) (hok : b.ok) (hs : Settled b) (h : Paid b ts) : Paid { b with tok := b.tok - 1 } (ts ++ [b.tick]) := by
  intro i u hu
  obtain ⟨cap, refill, tok, tick, since⟩ := b
  obtain ⟨h1, h2, h3, h4, h5, h6, h7, h8⟩ := hok
  simp only [Settled] at h1 h2 h3 h4 h5 h6 h7 h8 hs hu
  simp only [List.length_append, List.length_singleton, Int.natCast_add, Int.natCast_one]
  by_cases hi : i < ts.length
  · have h0 := h i u (by rw [← hu, List.getElem?_append_left hi])
    simp only at h0
    rw [show (ts.length : Int) + 1 - i + (tok - 1) - cap = (ts.length : Int) - i + tok - cap by omega]
    exact h0
  · have hi' : i = ts.length := by
      have := (List.getElem?_eq_some_iff.1 hu).1
      simp at this
      omega
    subst hi'
    simp at hu
    subst hu
    rw [show (ts.length : Int) + 1 - (ts.length : Int) + (tok - 1) - cap = tok - cap by omega]
    rcases hs with ⟨e1, e2⟩ | ⟨e1, e2⟩
    · subst e1 e2
      simp
    · have := mul_le_of (k := refill) (by omega) (show tok + 1 - cap ≤ 0 by omega)
      rw [show tok + 1 - cap = (tok - cap) + 1 by omega, Int.add_mul] at this
      omega

/-- Of any two that were taken. -/
def Few (cap refill : Int) (ts : List Int) : Prop := ∀ (i j : Nat) (u v : Int), i ≤ j → ts[i]? = some u → ts[j]? = some v → u ≤ v ∧ ((j : Int) - i + 1 - cap) * refill ≤ v - u

theorem few_take (b : Bk) (ts : List Int) (hok : b.ok) (hs : Settled b) (hp : Paid b ts) (hle : ∀ (i : Nat) (u : Int), ts[i]? = some u → u ≤ b.tick) (h : Few b.cap b.refill ts) (hpos : 0 < b.tok) : Few b.cap b.refill (ts ++ [b.tick]) := by
  intro i j u v hij hu hv
  have hp2 := paid_take b ts hok hs hp i u hu
  obtain ⟨cap, refill, tok, tick, since⟩ := b
  obtain ⟨h1, h2, h3, h4, h5, h6, h7, h8⟩ := hok
  simp only at h1 h2 h3 h4 h5 h6 h7 h8 hv hu hle h hp2 hpos
  by_cases hj : j < ts.length
  · exact h i j u v hij (by rw [← hu, List.getElem?_append_left (by omega)]) (by rw [← hv, List.getElem?_append_left hj])
  · have hj' : j = ts.length := by
      have := (List.getElem?_eq_some_iff.1 hv).1
      simp at this
      omega
    subst hj'
    simp at hv
    subst hv
    have huv : u ≤ tick := by
      by_cases hi : i < ts.length
      · exact hle i u (by rw [← hu, List.getElem?_append_left hi])
      · have hi' : i = ts.length := by omega
        subst hi'
        simp at hu
        omega
    refine ⟨huv, ?_⟩
    show ((ts.length : Int) - i + 1 - cap) * refill ≤ tick - u
    simp only [List.length_append, List.length_singleton, Int.natCast_add, Int.natCast_one] at hp2
    have hm := mul_le_of (k := refill) (by omega) (show (ts.length : Int) - i + 1 - cap ≤ (ts.length : Int) + 1 - i + (tok - 1) - cap by omega)
    omega

theorem few_div (cap refill : Int) (ts : List Int) (hr : 1 ≤ refill) (h : Few cap refill ts) (i j : Nat) (u v : Int) (hij : i ≤ j) (hu : ts[i]? = some u) (hv : ts[j]? = some v) :
    (j : Int) - i + 1 ≤ cap + (v - u) / refill := by
  have := (h i j u v hij hu hv).2
  have := Int.le_ediv_of_mul_le (show 0 < refill by omega) this
  omega

theorem brL_full (cap refill tick : Int) (hr : 1 ≤ refill) : ∀ (n : Nat) (t s : Int), (cap - t).toNat ≤ n → t ≤ cap → s + (cap - t) * refill ≤ tick → (brL cap refill tick n t s).1 = cap := by
  intro n
  induction n with
  | zero => intro t s h1 h2 _; simp [brL]; omega
  | succ n ih =>
    intro t s h1 h2 h3
    rw [brL]
    by_cases q : t < cap
    · have hm := mul_le_of (k := refill) (by omega) (show (1 : Int) ≤ cap - t by omega)
      have he : (cap - (t + 1)) * refill = (cap - t) * refill - refill := by
        rw [show cap - (t + 1) = (cap - t) - 1 by omega, Int.sub_mul]; omega
      rw [if_pos ⟨q, by omega⟩]
      exact ih _ _ (by omega) (by omega) (by omega)
    · rw [if_neg (by omega)]; simp; omega

theorem brF_full (b : Bk) (now : Int) (hok : b.ok) (h : b.tick + b.cap * b.refill ≤ now) (hn : now ≤ 1099511627776) : (brF b now).tok = b.cap := by
  obtain ⟨cap, refill, tok, tick, since⟩ := b
  obtain ⟨h1, h2, h3, h4, h5, h6, h7, h8⟩ := hok
  simp only at h1 h2 h3 h4 h5 h6 h7 h8 h
  simp only [brF]
  have h0 : 0 ≤ cap * refill := Int.mul_nonneg (by omega) (by omega)
  refine brL_full cap refill _ h4 _ _ _ (Nat.le_refl _) h2 ?_
  have hm := mul_le_of (k := refill) (by omega) (show cap - tok ≤ cap by omega)
  omega
end Go.Proofs.Ytkiebhdhknaijaa
