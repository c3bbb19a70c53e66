/-
  The plain laws of the codec: what is put is read back, and what is read stood there. No program in sight, no condition.
-/
import Derived.Test.YtcogbepdjegheaaCodecUnint
namespace Go.Proofs.Ytcogbepdjegheaa
open Go.RowKit

theorem beVal_le : ∀ (k n : Nat), n < 256 ^ k → beVal (le n).reverse = n := by
  intro k
  induction k with
  | zero => intro n h; simp at h; subst h; simp [le_zero, beVal]
  | succ k ih =>
    intro n h
    by_cases h0 : n = 0
    · subst h0; simp [le_zero, beVal]
    · rw [le_pos n (by omega), List.reverse_cons, beVal_snoc, ih (n / 256) (by rw [Nat.pow_succ] at h; omega)]
      simp
      omega

theorem ofNat_len (n : Nat) (h : n < 18446744073709551616) : (UInt8.ofNat (247 + (le n).length)).toNat = 247 + (le n).length := by
  have := le_len 8 n h
  simp
  omega

theorem readB_num (n : Nat) (h : n < 18446744073709551616) (r : List UInt8) : readB (numL n ++ r) = some (n, r) := by
  by_cases h0 : n ≤ 247
  · rw [numL_small n h0]
    have e : (UInt8.ofNat n).toNat = n := by simp; omega
    simp only [List.cons_append, List.nil_append, readB]
    rw [e, if_pos h0]
  · have hb := ofNat_len n h
    have hp := le_len_pos n (by omega)
    have e : numL n ++ r = UInt8.ofNat (247 + (le n).length) :: ((le n).reverse ++ r) := by rw [numL_great n h0]; rfl
    rw [e, readB, hb, if_neg (by omega), if_neg (by simp)]
    have ht : ((le n).reverse ++ r).take (247 + (le n).length - 247) = (le n).reverse := by
      rw [show 247 + (le n).length - 247 = (le n).reverse.length by simp, List.take_left']
      rfl
    have hd : ((le n).reverse ++ r).drop (247 + (le n).length - 247) = r := by
      rw [show 247 + (le n).length - 247 = (le n).reverse.length by simp, List.drop_left']
      rfl
    rw [ht, hd, beVal_le 8 n h, if_pos (numL_great n h0)]

theorem readB_cut (n : Nat) (h : n < 18446744073709551616) : readB (numL n).dropLast = none := by
  by_cases h0 : n ≤ 247
  · rw [numL_small n h0]; rfl
  · have hb := ofNat_len n h
    have hp := le_len_pos n (by omega)
    rw [numL_great n h0]
    cases hr : (le n).reverse with
    | nil =>
      have h1 : (le n).length = 0 := by rw [← List.length_reverse, hr]; rfl
      omega
    | cons x y =>
      have hl : (le n).length = y.length + 1 := by have := congrArg List.length hr; simpa using this
      have hlt : (x :: y).dropLast.length < 247 + (le n).length - 247 := by rw [List.length_dropLast, List.length_cons]; omega
      rw [List.dropLast_cons_cons, readB, hb, if_neg (by omega), if_pos hlt]

theorem readB_form {l r : List UInt8} {n : Nat} (h : readB l = some (n, r)) : numL n ++ r = l := by
  cases l with
  | nil => simp [readB] at h
  | cons b t =>
    rw [readB] at h
    split at h
    · rename_i hb
      simp at h
      obtain ⟨rfl, rfl⟩ := h
      rw [numL_small _ hb]; simp
    · split at h
      · cases h
      · split at h
        · rename_i hn
          simp at h
          obtain ⟨rfl, rfl⟩ := h
          rw [hn]; simp
        · cases h

theorem unintB_int (n : Int) (h1 : -1 ≤ n) (h2 : n ≤ 1099511627776) (r : List UInt8) : unintB (intB n ++ r) = some (n, r) := by
  rw [intB_yes n h1 h2, unintB, readB_num _ (by omega)]
  simp only
  rw [if_pos (by omega), show (((n + 1).toNat : Nat) : Int) - 1 = n by omega]
theorem unintB_cut (n : Int) (h1 : -1 ≤ n) (h2 : n ≤ 1099511627776) : unintB (intB n).dropLast = none := by
  rw [intB_yes n h1 h2, unintB, readB_cut _ (by omega)]
theorem unintB_form {l r : List UInt8} {n : Int} (h : unintB l = some (n, r)) : intB n ++ r = l ∧ -1 ≤ n ∧ n ≤ 1099511627776 := by
  unfold unintB at h
  rcases hd : readB l with _ | ⟨k, q⟩
  · rw [hd] at h; cases h
  · rw [hd] at h
    simp only at h
    split at h
    · simp only [Option.some.injEq, Prod.mk.injEq] at h
      obtain ⟨rfl, rfl⟩ := h
      rw [intB_yes _ (by omega) (by omega), show ((k : Int) - 1 + 1).toNat = k by omega]
      exact ⟨readB_form hd, by omega, by omega⟩
    · cases h

/-- The parts of what is handed back. -/
def rN : Option (Nat × List UInt8) → Nat | none => 0 | some p => p.1
def rR {α : Type} : Option (α × List UInt8) → List UInt8 | none => [] | some p => p.2
def uN : Option (Int × List UInt8) → Int | none => 0 | some p => p.1
theorem rdV_eq (o : Option (Nat × List UInt8)) : rdV o = .tuple #[.int .u64 (rN o), S (rR o), .bool o.isSome] := by cases o <;> rfl
theorem utV_eq (o : Option (Int × List UInt8)) : utV o = .tuple #[.int .i64 (uN o), S (rR o), .bool o.isSome] := by cases o <;> rfl
end Go.Proofs.Ytcogbepdjegheaa
