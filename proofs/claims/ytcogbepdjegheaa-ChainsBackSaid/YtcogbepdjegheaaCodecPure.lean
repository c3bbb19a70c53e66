/-
  The codec's bytes, in plain lists. No program in sight, no condition.
-/
import Derived.Test.YtcogbepdjegheaaMem
namespace Go.Proofs.Ytcogbepdjegheaa

/-- The digits to the base 256, the lowest first; none of 0. -/
def le : Nat → List UInt8
  | 0 => []
  | n + 1 => UInt8.ofNat ((n + 1) % 256) :: le ((n + 1) / 256)
decreasing_by omega

theorem le_zero : le 0 = [] := by rw [le]
theorem le_pos (n : Nat) (h : 0 < n) : le n = UInt8.ofNat (n % 256) :: le (n / 256) := by
  cases n with
  | zero => omega
  | succ n => rw [le]
theorem le_len : ∀ (k n : Nat), n < 256 ^ k → (le n).length ≤ k := by
  intro k
  induction k with
  | zero => intro n h; simp at h; subst h; simp [le_zero]
  | succ k ih =>
    intro n h
    by_cases h0 : n = 0
    · subst h0; simp [le_zero]
    · rw [le_pos n (by omega)]
      simp only [List.length_cons]
      have := ih (n / 256) (by rw [Nat.pow_succ] at h; omega)
      omega
theorem le_len_pos (n : Nat) (h : 0 < n) : 0 < (le n).length := by rw [le_pos n h]; simp
/-- A number's bytes. -/
def numL (n : Nat) : List UInt8 := if n ≤ 247 then [UInt8.ofNat n] else UInt8.ofNat (247 + (le n).length) :: (le n).reverse
theorem numL_small (n : Nat) (h : n ≤ 247) : numL n = [UInt8.ofNat n] := by rw [numL, if_pos h]
theorem numL_great (n : Nat) (h : ¬ n ≤ 247) : numL n = UInt8.ofNat (247 + (le n).length) :: (le n).reverse := by rw [numL, if_neg h]
end Go.Proofs.Ytcogbepdjegheaa
