/-
  The walks over the codec's Unint and Cut, and the document's. No condition.
-/
import Derived.Test.YtkiebhdhknaijaaCodecRead2
namespace Go.Proofs.Ytkiebhdhknaijaa
open Go.RowKit

theorem readB_len {l : List UInt8} {n : Nat} {r : List UInt8} (h : readB l = some (n, r)) : r.length < l.length := by
  cases l with
  | nil => simp [readB] at h
  | cons b t =>
    rw [readB] at h
    split at h
    · simp at h; simp [← h.2]
    · split at h
      · cases h
      · split at h
        · simp at h; rw [← h.2]; simp; omega
        · cases h
theorem readB_lt {l : List UInt8} {n : Nat} {r : List UInt8} (h : readB l = some (n, r)) : n < 18446744073709551616 := by
  cases l with
  | nil => simp [readB] at h
  | cons b t =>
    rw [readB] at h
    split at h
    · simp at h; omega
    · split at h
      · cases h
      · split at h
        · simp at h
          rw [← h.1]
          have hb := b.toNat_lt
          exact beVal_lt 8 (t.take (b.toNat - 247)) (by simp; omega)
        · cases h

/-- The number from -1 on that stands ahead. -/
def unintB (l : List UInt8) : Option (Int × List UInt8) :=
  match readB l with
  | none => none
  | some (n, r) => if n ≤ 1099511627777 then some ((n : Int) - 1, r) else none
def utV : Option (Int × List UInt8) → Value
  | none => .tuple #[.int .i64 0, S [], .bool false]
  | some (n, r) => .tuple #[.int .i64 n, S r, .bool true]
/-- The text that stands ahead. -/
def cutB (l : List UInt8) : Option (List UInt8 × List UInt8) :=
  match readB l with
  | none => none
  | some (n, r) => if n ≤ r.length then some (r.take n, r.drop n) else none
def ctV : Option (List UInt8 × List UInt8) → Value
  | none => .tuple #[S [], S [], .bool false]
  | some (x, r) => .tuple #[S x, S r, .bool true]

set_option maxRecDepth 100000 in
set_option maxHeartbeats 400000 in
theorem unint_any (l : List UInt8) (w : World) (h : l.length ≤ 1125899906842624) : Calls Try.prog 31 #[S l] w fun e w' => e = .returned (utV (unintB l)) ∧ w.grownBy w' none := by
  have hr := read_any l w h
  unfold unintB
  rcases hd : readB l with _ | ⟨n, r⟩
  · rw [hd] at hr
    have HR := Lib.hid hr
    clear hr hd
    go_enter Try.func31, Try.ntmps31
    go_wp2_with fail
    refine HR.out.mono ?_
    rintro e w1 ⟨rfl, h1⟩
    simp only [rdV]
    go_wp2
    go_ret3
    exact ⟨rfl, h1⟩
  · rw [hd] at hr
    have hlt := readB_lt hd
    have HR := Lib.hid hr
    clear hr hd
    by_cases hq : n ≤ 1099511627777
    · simp only [if_pos hq]
      go_enter Try.func31, Try.ntmps31
      go_wp2_with fail
      refine HR.out.mono ?_
      rintro e w1 ⟨rfl, h1⟩
      simp only [rdV]
      go_wp2
      go_ret3
      exact ⟨rfl, h1⟩
    · simp only [if_neg hq]
      go_enter Try.func31, Try.ntmps31
      go_wp2_with fail
      refine HR.out.mono ?_
      rintro e w1 ⟨rfl, h1⟩
      simp only [rdV]
      go_wp2
      go_ret3
      exact ⟨rfl, h1⟩
set_option maxRecDepth 100000 in
set_option maxHeartbeats 400000 in
theorem runint_any (l : List UInt8) (w : World) (h : l.length ≤ 1125899906842624) : Calls Try.prog 32 #[S l] w fun e w' => e = .returned (utV (unintB l)) ∧ w.grownBy w' none := by
  have hr := rread_any l w h
  unfold unintB
  rcases hd : readB l with _ | ⟨n, r⟩
  · rw [hd] at hr
    have HR := Lib.hid hr
    clear hr hd
    go_enter Try.func32, Try.ntmps32
    go_wp2_with fail
    refine HR.out.mono ?_
    rintro e w1 ⟨rfl, h1⟩
    simp only [rdV]
    go_wp2
    go_ret3
    exact ⟨rfl, h1⟩
  · rw [hd] at hr
    have hlt := readB_lt hd
    have HR := Lib.hid hr
    clear hr hd
    by_cases hq : n ≤ 1099511627777
    · simp only [if_pos hq]
      go_enter Try.func32, Try.ntmps32
      go_wp2_with fail
      refine HR.out.mono ?_
      rintro e w1 ⟨rfl, h1⟩
      simp only [rdV]
      go_wp2
      go_ret3
      exact ⟨rfl, h1⟩
    · simp only [if_neg hq]
      go_enter Try.func32, Try.ntmps32
      go_wp2_with fail
      refine HR.out.mono ?_
      rintro e w1 ⟨rfl, h1⟩
      simp only [rdV]
      go_wp2
      go_ret3
      exact ⟨rfl, h1⟩

set_option maxRecDepth 100000 in
set_option maxHeartbeats 400000 in
theorem cut_any (l : List UInt8) (w : World) (h : l.length ≤ 1125899906842624) : Calls Try.prog 33 #[S l] w fun e w' => e = .returned (ctV (cutB l)) ∧ w.grownBy w' none := by
  have hr := read_any l w h
  unfold cutB
  rcases hd : readB l with _ | ⟨n, r⟩
  · rw [hd] at hr
    have HR := Lib.hid hr
    clear hr hd
    go_enter Try.func33, Try.ntmps33
    go_wp2_with fail
    refine HR.out.mono ?_
    rintro e w1 ⟨rfl, h1⟩
    simp only [rdV]
    go_wp2
    go_ret3
    exact ⟨rfl, h1⟩
  · rw [hd] at hr
    have hlt := readB_lt hd
    have hll := readB_len hd
    have HR := Lib.hid hr
    clear hr hd
    by_cases hq : n ≤ r.length
    · simp only [if_pos hq]
      have hx0 : (ByteArray.mk r.toArray).extract 0 n = ⟨(r.take n).toArray⟩ := by rw [ByteArray.extract_mk]; rfl
      have hx1 : (ByteArray.mk r.toArray).extract n r.length = ⟨(r.drop n).toArray⟩ := by
        rw [ByteArray.extract_mk, List.take_of_length_le (by simp)]
      have HX0 := Lib.hid hx0
      have HX1 := Lib.hid hx1
      clear hx0 hx1
      go_enter Try.func33, Try.ntmps33
      go_wp2_with fail
      refine HR.out.mono ?_
      rintro e w1 ⟨rfl, h1⟩
      simp only [rdV]
      go_wp2_with fail
      go_quiet (fail)
      go_wp2
      go_ret3
      refine ⟨?_, only_drewN h1 _⟩
      simp [HX0.out, HX1.out]
      rfl
    · simp only [if_neg hq]
      go_enter Try.func33, Try.ntmps33
      go_wp2_with fail
      refine HR.out.mono ?_
      rintro e w1 ⟨rfl, h1⟩
      simp only [rdV]
      go_wp2
      go_ret3
      exact ⟨rfl, h1⟩
set_option maxRecDepth 100000 in
set_option maxHeartbeats 400000 in
theorem rcut_any (l : List UInt8) (w : World) (h : l.length ≤ 1125899906842624) : Calls Try.prog 34 #[S l] w fun e w' => e = .returned (ctV (cutB l)) ∧ w.grownBy w' none := by
  have hr := rread_any l w h
  unfold cutB
  rcases hd : readB l with _ | ⟨n, r⟩
  · rw [hd] at hr
    have HR := Lib.hid hr
    clear hr hd
    go_enter Try.func34, Try.ntmps34
    go_wp2_with fail
    refine HR.out.mono ?_
    rintro e w1 ⟨rfl, h1⟩
    simp only [rdV]
    go_wp2
    go_ret3
    exact ⟨rfl, h1⟩
  · rw [hd] at hr
    have hlt := readB_lt hd
    have hll := readB_len hd
    have HR := Lib.hid hr
    clear hr hd
    by_cases hq : n ≤ r.length
    · simp only [if_pos hq]
      have hw : IntKind.i64.wrap (n : Int) = (n : Int) := IntWalk.i64_in _ (by omega)
      have hx0 : (ByteArray.mk r.toArray).extract 0 n = ⟨(r.take n).toArray⟩ := by rw [ByteArray.extract_mk]; rfl
      have hx1 : (ByteArray.mk r.toArray).extract n r.length = ⟨(r.drop n).toArray⟩ := by
        rw [ByteArray.extract_mk, List.take_of_length_le (by simp)]
      have HX0 := Lib.hid hx0
      have HX1 := Lib.hid hx1
      clear hx0 hx1
      go_enter Try.func34, Try.ntmps34
      go_wp2_with fail
      refine HR.out.mono ?_
      rintro e w1 ⟨rfl, h1⟩
      simp only [rdV]
      go_wp2_with fail
      go_quiet (fail)
      go_wp2
      go_ret3
      refine ⟨?_, only_drewN h1 _⟩
      simp [HX0.out, HX1.out]
      rfl
    · simp only [if_neg hq]
      go_enter Try.func34, Try.ntmps34
      go_wp2_with fail
      refine HR.out.mono ?_
      rintro e w1 ⟨rfl, h1⟩
      simp only [rdV]
      go_wp2
      go_ret3
      exact ⟨rfl, h1⟩
end Go.Proofs.Ytkiebhdhknaijaa
