/-
  The walk of SlotsSet. No condition.
-/
import Derived.Test.YtcogbepdjegheaaSlotsRef
namespace Go.Proofs.Ytcogbepdjegheaa.lawSlotsSet
open Go.Proofs.Ytcogbepdjegheaa Go.RowKit

def Rel (w : World) (os : Nat → OutM) (n g : Nat) (k : Nat) (i : Value) (wr : World) : Prop :=
  ∃ j : Nat, i = .int .i64 j ∧ j + k = n ∧ w.grownBy wr none ∧ Blk wr g 62 (slotC true (if (firstO os 0 j).2 then 1 else 0) (firstO os 0 j).1)

theorem get_at (g : Nat) (p : OutM × Bool) (hp : p.2 = false → p.1 = noOut) (w : World) (hg : Blk w g 62 (slotC true (if p.2 then 1 else 0) p.1)) :
    Calls Try.prog 27 #[.pointer (some ⟨g, 0, none⟩)] w fun e w' => e = .returned (.tuple #[outV p.1, .bool p.2]) ∧ w.grownBy w' none := by
  obtain ⟨o, _ | _⟩ := p
  · have := hp rfl
    simp only at this
    subst this
    exact get_unset g true _ w hg
  · exact get_set g o w hg

set_option maxRecDepth 100000 in
set_option maxHeartbeats 6400000 in
theorem core (a : Option Addr) (n c : Nat) (w : World) (hn : n ≤ c) (hr : RowsAt outL w a n) :
    Calls Try.prog 4 #[.slice a n c] w fun e w' => e = .returned (.bool true) ∧ w.grownBy w' none := by
  by_cases h60 : 60 < n
  · have b60 : decide ((60 : Int) < n) = true := by simp; omega
    go_enter Try.func4, Try.ntmps4
    go_wp2_with fail
    refine (once_any _).mono ?_
    rintro e w1 ⟨rfl, h1⟩
    go_wp2
    go_ret
    exact ⟨rfl, h1⟩
  have b60 : decide ((60 : Int) < n) = false := by simp; omega
  obtain ⟨os, hos⟩ := rows_out hr
  go_enter Try.func4, Try.ntmps4
  go_wp2_with fail
  refine (new_any _).mono ?_
  rintro e w1 ⟨g, rfl, hg, hg1, h1⟩
  go_wp2_with fail
  go_loopg [4] n (fun k i wr => Rel w os n g k i wr)
  case atStart => exact ⟨0, rfl, by omega, h1, hg1⟩
  case round =>
    obtain ⟨j, rfl, hj, gr, hgs⟩ := hrel
    have hjn : j ≤ n := by omega
    have lj : decide ((j : Int) ≤ n) = true := by simpa using hjn
    have hp : (firstO os 0 j).2 = false → (firstO os 0 j).1 = noOut := firstO_none os j 0
    have F1 := Lib.hid (first_any a j c os wr (by omega) (fun i hi => by
      obtain ⟨b, off, rfl, hb, hc⟩ := hos i (by omega)
      exact ⟨b, off, rfl, Nat.lt_of_lt_of_le hb gr.size, hc.grown gr hb⟩))
    have hS := firstO_more os j 0
    have f1 : firstO os (0 + j) 1 = if mayO (os j) then (os j, true) else (noOut, false) := by simp [firstO]
    rw [f1] at hS
    clear f1
    generalize hpe : firstO os 0 j = p at hgs hp F1 hS
    obtain ⟨⟨kind, reason, code, value, version, at_⟩, ok⟩ := p
    simp only [outV, OutM.cells] at F1
    go_wp2_with fail
    refine F1.out.mono ?_
    rintro e w2 ⟨rfl, h2⟩
    have hg2 := (hgs.grown h2 (by simp)).alloc (.cells #[.int .i64 kind, .int .i64 reason, .int .i64 code, S value, .int .i64 version, .int .i64 at_] 43)
    have gr2 := only_alloc (only_trans gr h2) (.cells #[.int .i64 kind, .int .i64 reason, .int .i64 code, S value, .int .i64 version, .int .i64 at_] 43)
    go_wp2_with fail
    refine (same_of ⟨kind, reason, code, value, version, at_⟩ ok (.pointer (some ⟨g, 0, none⟩)) _ (fun W hW => get_at g ⟨⟨kind, reason, code, value, version, at_⟩, ok⟩ hp W (hg2.grown hW (by simp)))).mono ?_
    rintro e w3 ⟨rfl, h3⟩
    have hg3 := hg2.grown h3 (by simp)
    have gr3 := only_trans gr2 h3
    clear F1 hgs hg2 gr2 h2 h3 gr
    by_cases hjl : j = n
    · subst hjl
      have lq : ((j : Int) == j) = true := by simp
      go_wp2_with fail
      refine (once_any _).mono ?_
      rintro e w5 ⟨rfl, h5⟩
      go_wp2
      go_ret
      exact ⟨rfl, only_trans gr3 h5⟩
    · have lq : ((j : Int) == n) = false := by simp; omega
      have hjn' : j < n := by omega
      have lt' : decide ((j : Int) < n) = true := by simpa using hjn'
      obtain ⟨b, off, rfl, hblt, hcell⟩ := hos j hjn'
      have hcell3 := hcell.grown gr3 hblt
      obtain ⟨r0, r1, r2, r3, r4, r5⟩ := hcell3
      have hw : IntKind.i64.wrap ((j : Int) + 1) = (j : Int) + 1 := IntWalk.i64_in _ (by omega)
      by_cases hl : 200 < (os j).value.length
      · have l2 : decide (200 < ((os j).value.length : Int)) = true := by simp; omega
        go_wp2_with fail
        refine (once_any _).mono ?_
        rintro e w5 ⟨rfl, h5⟩
        go_wp2
        go_ret
        exact ⟨rfl, only_trans gr3 h5⟩
      · have l2 : decide (200 < ((os j).value.length : Int)) = false := by simp; omega
        clear r0 r1 r2 r3 r4 r5
        by_cases hmay : mayO (os j) = true
        · have F2 := Lib.hid (first_any (some ⟨b, off + j * 6, none⟩) 1 (c - j) (fun _ => os j) w3 (by decide) (fun i hi => by
            obtain rfl : i = 0 := by omega
            exact ⟨b, off + j * 6, rfl, Nat.lt_of_lt_of_le hblt gr3.size, by simpa using hcell.grown gr3 hblt⟩))
          simp only [firstO, if_pos hmay, outV, OutM.cells] at F2
          rcases ok with _ | _
          · simp [hmay] at hS
            obtain ⟨k1, k3⟩ : 1 ≤ (os j).kind ∧ (os j).kind ≤ 3 := by simpa [mayO] using hmay
            have e0 := hp rfl
            have hg3 : Blk w3 g 62 (slotC true 0 noOut) := by rw [← e0]; exact hg3
            clear hp e0 hpe
            obtain ⟨r0, r1, r2, r3, r4, r5⟩ := hcell.grown gr3 hblt
            go_wp2_with fail
            refine F2.out.mono ?_
            rintro e w4 ⟨rfl, h4⟩
            have hg4 := (hg3.grown h4 (by simp)).alloc (.cells #[.int .i64 (os j).kind, .int .i64 (os j).reason, .int .i64 (os j).code, S (os j).value, .int .i64 (os j).version, .int .i64 (os j).at_] 43)
            have gr4 := only_alloc (only_trans gr3 h4) (.cells #[.int .i64 (os j).kind, .int .i64 (os j).reason, .int .i64 (os j).code, S (os j).value, .int .i64 (os j).version, .int .i64 (os j).at_] 43)
            obtain ⟨r0, r1, r2, r3, r4, r5⟩ := hcell.grown gr4 hblt
            go_wp2_with fail
            refine (set_first g (os j) _ hg4 k1 k3).mono ?_
            rintro e w5 ⟨rfl, hg5, h5⟩
            go_wp2
            go_roundg (n - (j + 1))
            case measure => omega
            case rel => exact ⟨j + 1, by simp, by omega, only_grown_new gr4 h5 (Nat.le_trans (Nat.le_refl _) hg), by rw [hS]; exact hg5⟩
          · simp at hS
            obtain ⟨r0, r1, r2, r3, r4, r5⟩ := hcell.grown gr3 hblt
            go_wp2_with fail
            refine F2.out.mono ?_
            rintro e w4 ⟨rfl, h4⟩
            have hg4 := (hg3.grown h4 (by simp)).alloc (.cells #[.int .i64 (os j).kind, .int .i64 (os j).reason, .int .i64 (os j).code, S (os j).value, .int .i64 (os j).version, .int .i64 (os j).at_] 43)
            have gr4 := only_alloc (only_trans gr3 h4) (.cells #[.int .i64 (os j).kind, .int .i64 (os j).reason, .int .i64 (os j).code, S (os j).value, .int .i64 (os j).version, .int .i64 (os j).at_] 43)
            obtain ⟨r0, r1, r2, r3, r4, r5⟩ := hcell.grown gr4 hblt
            go_wp2_with fail
            refine (set_done g _ (os j) _ hg4).mono ?_
            rintro e w5 ⟨rfl, h5⟩
            have hg5 := hg4.grown h5 (by simp)
            go_wp2
            go_roundg (n - (j + 1))
            case measure => omega
            case rel => exact ⟨j + 1, by simp, by omega, only_trans gr4 h5, by rw [hS]; exact hg5⟩
        · have F2 := Lib.hid (first_any (some ⟨b, off + j * 6, none⟩) 1 (c - j) (fun _ => os j) w3 (by decide) (fun i hi => by
            obtain rfl : i = 0 := by omega
            exact ⟨b, off + j * 6, rfl, Nat.lt_of_lt_of_le hblt gr3.size, by simpa using hcell.grown gr3 hblt⟩))
          simp only [firstO, if_neg hmay, outV, OutM.cells, noOut] at F2
          have hmay' : ¬ (1 ≤ (os j).kind ∧ (os j).kind ≤ 3) := by simpa [mayO] using hmay
          rcases ok with _ | _
          · simp [hmay] at hS
            have e0 := hp rfl
            have hg3 : Blk w3 g 62 (slotC true 0 noOut) := by rw [← e0]; exact hg3
            clear hp e0 hpe
            obtain ⟨r0, r1, r2, r3, r4, r5⟩ := hcell.grown gr3 hblt
            go_wp2_with fail
            refine F2.out.mono ?_
            rintro e w4 ⟨rfl, h4⟩
            have hg4 := (hg3.grown h4 (by simp)).alloc (.cells #[.int .i64 0, .int .i64 0, .int .i64 0, S [], .int .i64 0, .int .i64 0] 43)
            have gr4 := only_alloc (only_trans gr3 h4) (.cells #[.int .i64 0, .int .i64 0, .int .i64 0, S [], .int .i64 0, .int .i64 0] 43)
            obtain ⟨r0, r1, r2, r3, r4, r5⟩ := hcell.grown gr4 hblt
            go_wp2_with fail
            refine (set_bad g true 0 noOut (os j) _ hg4 (.inr hmay')).mono ?_
            rintro e w5 ⟨rfl, h5⟩
            have hg5 := hg4.grown h5 (by simp)
            go_wp2
            go_roundg (n - (j + 1))
            case measure => omega
            case rel => exact ⟨j + 1, by simp, by omega, only_trans gr4 h5, by rw [hS]; exact hg5⟩
          · simp at hS
            obtain ⟨r0, r1, r2, r3, r4, r5⟩ := hcell.grown gr3 hblt
            go_wp2_with fail
            refine F2.out.mono ?_
            rintro e w4 ⟨rfl, h4⟩
            have hg4 := (hg3.grown h4 (by simp)).alloc (.cells #[.int .i64 0, .int .i64 0, .int .i64 0, S [], .int .i64 0, .int .i64 0] 43)
            have gr4 := only_alloc (only_trans gr3 h4) (.cells #[.int .i64 0, .int .i64 0, .int .i64 0, S [], .int .i64 0, .int .i64 0] 43)
            obtain ⟨r0, r1, r2, r3, r4, r5⟩ := hcell.grown gr4 hblt
            go_wp2_with fail
            refine (set_done g _ (os j) _ hg4).mono ?_
            rintro e w5 ⟨rfl, h5⟩
            have hg5 := hg4.grown h5 (by simp)
            go_wp2
            go_roundg (n - (j + 1))
            case measure => omega
            case rel => exact ⟨j + 1, by simp, by omega, only_trans gr4 h5, by rw [hS]; exact hg5⟩

theorem walk (w : World) (a : Option Addr) (n c : Nat) (hn : n ≤ c) (_ : c ≤ maxLen) (hr : RowsAt outL w a n) :
    Calls Try.prog 4 #[.slice a n c] w fun e w' => e = .returned (.bool true) ∧ Below w.heap.size w w' :=
  (core a n c w hn hr).mono fun _ _ ⟨h, k⟩ => ⟨h, below_of_only k⟩
end Go.Proofs.Ytcogbepdjegheaa.lawSlotsSet
