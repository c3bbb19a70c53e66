/-
  The walks over the codec's Unint and Cut, and the document's. No condition.
-/
import Derived.Test.YtcogbepdjegheaaCodecRead2
namespace Go.Proofs.Ytcogbepdjegheaa
open Go.RowKit

theorem readB_len {l : List UInt8} {n : Nat} {r : List UInt8} (h : readB l = some (n, r)) : r.length < l.length := by
  cases l with
  | nil => simp [readB] at h
  | cons b t =>
    rw [readB] at h
    split at h
    · simp at h; simp [← h.2]
    · split at h
      · cases h
      · split at h
        · simp at h; rw [← h.2]; simp; omega
        · cases h
theorem readB_lt {l : List UInt8} {n : Nat} {r : List UInt8} (h : readB l = some (n, r)) : n < 18446744073709551616 := by
  cases l with
  | nil => simp [readB] at h
  | cons b t =>
    rw [readB] at h
    split at h
    · simp at h; omega
    · split at h
      · cases h
      · split at h
        · simp at h
          rw [← h.1]
          have hb := b.toNat_lt
          exact beVal_lt 8 (t.take (b.toNat - 247)) (by simp; omega)
        · cases h

/-- The number from -1 on that stands ahead. -/
def unintB (l : List UInt8) : Option (Int × List UInt8) :=
  match readB l with
  | none => none
  | some (n, r) => if n ≤ 1099511627777 then some ((n : Int) - 1, r) else none
def utV : Option (Int × List UInt8) → Value
  | none => .tuple #[.int .i64 0, S [], .bool false]
  | some (n, r) => .tuple #[.int .i64 n, S r, .bool true]
set_option maxRecDepth 100000 in
set_option maxHeartbeats 400000 in
theorem unint_any (l : List UInt8) (w : World) (h : l.length ≤ 1125899906842624) : Calls Try.prog 76 #[S l] w fun e w' => e = .returned (utV (unintB l)) ∧ w.grownBy w' none := by
  have hr := read_any l w h
  unfold unintB
  rcases hd : readB l with _ | ⟨n, r⟩
  · rw [hd] at hr
    have HR := Lib.hid hr
    clear hr hd
    go_enter Try.func76, Try.ntmps76
    go_wp2_with fail
    refine HR.out.mono ?_
    rintro e w1 ⟨rfl, h1⟩
    simp only [rdV]
    go_wp2
    go_ret3
    exact ⟨rfl, h1⟩
  · rw [hd] at hr
    have hlt := readB_lt hd
    have HR := Lib.hid hr
    clear hr hd
    by_cases hq : n ≤ 1099511627777
    · simp only [if_pos hq]
      go_enter Try.func76, Try.ntmps76
      go_wp2_with fail
      refine HR.out.mono ?_
      rintro e w1 ⟨rfl, h1⟩
      simp only [rdV]
      go_wp2
      go_ret3
      exact ⟨rfl, h1⟩
    · simp only [if_neg hq]
      go_enter Try.func76, Try.ntmps76
      go_wp2_with fail
      refine HR.out.mono ?_
      rintro e w1 ⟨rfl, h1⟩
      simp only [rdV]
      go_wp2
      go_ret3
      exact ⟨rfl, h1⟩
set_option maxRecDepth 100000 in
set_option maxHeartbeats 400000 in
theorem runint_any (l : List UInt8) (w : World) (h : l.length ≤ 1125899906842624) : Calls Try.prog 87 #[S l] w fun e w' => e = .returned (utV (unintB l)) ∧ w.grownBy w' none := by
  have hr := rread_any l w h
  unfold unintB
  rcases hd : readB l with _ | ⟨n, r⟩
  · rw [hd] at hr
    have HR := Lib.hid hr
    clear hr hd
    go_enter Try.func87, Try.ntmps87
    go_wp2_with fail
    refine HR.out.mono ?_
    rintro e w1 ⟨rfl, h1⟩
    simp only [rdV]
    go_wp2
    go_ret3
    exact ⟨rfl, h1⟩
  · rw [hd] at hr
    have hlt := readB_lt hd
    have HR := Lib.hid hr
    clear hr hd
    by_cases hq : n ≤ 1099511627777
    · simp only [if_pos hq]
      go_enter Try.func87, Try.ntmps87
      go_wp2_with fail
      refine HR.out.mono ?_
      rintro e w1 ⟨rfl, h1⟩
      simp only [rdV]
      go_wp2
      go_ret3
      exact ⟨rfl, h1⟩
    · simp only [if_neg hq]
      go_enter Try.func87, Try.ntmps87
      go_wp2_with fail
      refine HR.out.mono ?_
      rintro e w1 ⟨rfl, h1⟩
      simp only [rdV]
      go_wp2
      go_ret3
      exact ⟨rfl, h1⟩

end Go.Proofs.Ytcogbepdjegheaa
