/-
  How pairs are compared: the closure that slices.SortFunc is handed. No condition.
-/
import Derived.Test.YtfniieigeofbdaaProg
import Derived.Test.YtfniieigeofbdaaP1
import Derived.Deep.LoopGhost
import Derived.Deep.RegionHeld3
import Derived.Lib.Walk
import Derived.Lib.Small
import Derived.Sort.Grow
import Derived.StillTailTactics
namespace Go.Proofs.Ytfniieigeofbdaa
open Go.RowKit Go.Sort
theorem nan_any (x : Int) (w : World) : Calls Try.prog 68 #[.int .i64 x] w fun e w' => e = .returned (.bool false) ∧ w' = w := by
  go_enter Try.func68, Try.ntmps68
  go_wp2
  go_ret
  exact ⟨by simp, rfl⟩
set_option maxHeartbeats 1000000 in
theorem cmp_any (x y : Int) (w : World) : Calls Try.prog 56 #[.int .i64 x, .int .i64 y] w fun e w' => e = .returned (.int .i64 (Lib.compareInt x y)) ∧ w' = w := by
  go_enter Try.func56, Try.ntmps56
  go_wp2_with (go_at_call 68; refine (nan_any _ _).mono ?_; rintro e w' ⟨rfl, hw⟩; rw [hw])
  all_goals (go_ret; refine ⟨?_, rfl⟩; unfold Lib.compareInt; (repeat' split) <;> first | rfl | (exfalso; omega))
set_option maxHeartbeats 1000000 in
theorem or_any (g : Nat) (a b : Int) (w : World) (h0 : w.cell? ⟨g, 0, none⟩ = some (.int .i64 a)) (h1 : w.cell? ⟨g, 1, none⟩ = some (.int .i64 b)) :
    Calls Try.prog 55 #[.slice (some ⟨g, 0, none⟩) 2 2] w fun e w' => e = .returned (.int .i64 (if a = 0 then b else a)) ∧ w' = w := by
  go_enter Try.func55, Try.ntmps55
  go_wp2_with fail
  go_loopg [8] 2 (fun q s8 wr => ∃ k : Nat, k ≤ 2 ∧ q = 2 - k ∧ s8 = .int .i64 k ∧ (1 ≤ k → a = 0) ∧ (2 ≤ k → b = 0) ∧ wr = w)
  case atStart => exact ⟨0, by omega, rfl, rfl, fun h => by omega, fun h => by omega, rfl⟩
  case round =>
    obtain ⟨k, hk, rfl, rfl, ha, hb, rfl⟩ := hrel
    rcases k with _ | _ | _ | k
    · by_cases h : a = 0
      · go_wp2_with fail
        go_roundg 1
        case measure => omega
        case rel => exact ⟨1, by omega, rfl, rfl, fun _ => h, fun h => by omega, rfl⟩
      · go_wp2_with fail
        go_ret
        refine ⟨?_, rfl⟩
        first | rfl | (rw [if_neg h]; rfl)
    · have ha := ha (by omega)
      by_cases h : b = 0
      · go_wp2_with fail
        go_roundg 0
        case measure => omega
        case rel => exact ⟨2, by omega, rfl, rfl, fun _ => ha, fun _ => h, rfl⟩
      · go_wp2_with fail
        go_ret
        refine ⟨?_, rfl⟩
        first | rfl | (rw [if_pos ha]; rfl)
    · have ha := ha (by omega)
      have hb := hb (by omega)
      go_wp2_with fail
      go_ret
      refine ⟨?_, rfl⟩
      first | rfl | (rw [hb]; rfl) | (rw [if_pos ha, hb]; rfl)
    · omega
/-- The order of pairs. -/
def cmpP (x y : Int × Int) : Int := if Lib.compareInt x.1 y.1 = 0 then Lib.compareInt x.2 y.2 else Lib.compareInt x.1 y.1
theorem or_new (a b : Int) (t : TypeId) (w : World) (g : Nat) (r : Int) (hr : (if a = 0 then b else a) = r) (hg : g = w.heap.size) :
    Calls Try.prog 55 #[.slice (some ⟨g, 0, none⟩) 2 2] (w.alloc (.cells #[.int .i64 a, .int .i64 b] t)).drew fun e w' => e = .returned (.int .i64 r) ∧ w' = (w.alloc (.cells #[.int .i64 a, .int .i64 b] t)).drew := by
  subst hg hr
  exact or_any _ a b _ (by simp) (by simp)
set_option maxHeartbeats 4000000 in
set_option maxRecDepth 100000 in
theorem close_any (x y : Int × Int) (W : World) : Calls Try.prog 54 #[.agg #[.int .i64 x.1, .int .i64 x.2], .agg #[.int .i64 y.1, .int .i64 y.2]] W fun e w' => e = .returned (.int .i64 (cmpP x y)) ∧ ∃ q os', w' = grow (W.drewN q) os' := by
  unfold cmpP
  have hc1 := cmp_any x.1 y.1
  have hc2 := cmp_any x.2 y.2
  generalize Lib.compareInt x.1 y.1 = r1 at hc1 ⊢
  generalize Lib.compareInt x.2 y.2 = r2 at hc2 ⊢
  generalize hr3 : (if r1 = 0 then r2 else r1) = r3
  have hor := fun t W' g hg => or_new r1 r2 t W' g r3 hr3 hg
  clear hr3
  go_enter Try.func54, Try.ntmps54
  go_wp2_with fail
  refine wp_region_still_tail 10 (by kernel_rfl) (by kernel_rfl) ?_
  simp only [World.drew_eq, List.take_succ_cons, List.take_zero, List.drop_succ_cons, List.drop_zero]
  still_step
  still_step
  still_step
  still_step
  still_call (hc1 _)
  still_step
  still_step
  still_step
  still_step
  still_call (hc2 _)
  refine wpStill_nil ?_
  go_wp2_with (go_at_call 55; refine (hor _ _ _ (by simp)).mono ?_; rintro e w1 ⟨rfl, rfl⟩)
  go_ret
  exact ⟨rfl, 1, _, by rw [alloc_eq_grow, alloc_eq_grow, alloc_eq_grow, grow_grow, grow_grow]; rfl⟩
end Go.Proofs.Ytfniieigeofbdaa
