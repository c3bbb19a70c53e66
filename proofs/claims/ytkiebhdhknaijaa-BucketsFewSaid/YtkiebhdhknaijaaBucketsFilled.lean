/-
  The chapter's example of the buckets. No condition.
-/
import Derived.Test.YtkiebhdhknaijaaBuckets2
namespace Go.Proofs.Ytkiebhdhknaijaa
open Go.RowKit

theorem bk_ok (t k s : Int) (h : 0 ≤ t ∧ t ≤ 2 ∧ 0 ≤ s ∧ s ≤ k ∧ k ≤ 1099511627776) : (Bk.mk 2 10 t k s).ok := by
  simp only [Bk.ok]; omega

set_option maxHeartbeats 1000000 in
theorem filled_any (w : World) : Calls Try.prog 14 #[] w fun e w' => e = .returned (.bool true) ∧ Below w.heap.size w w' := by
  go_enter Try.func14, Try.ntmps14
  go_wp2_with fail
  refine (new_ok 2 10 w ⟨by omega, by omega, by omega, by omega⟩).mono ?_
  rintro e w0 ⟨g, rfl, hlt, hb0, hg0⟩
  have b0 := below_grown0 (Below.refl w.heap.size w) (Nat.le_refl _) hg0
  clear hg0
  go_wp2_with fail
  refine (take_at g ⟨2, 10, 2, 0, 0⟩ ⟨2, 10, 1, 0, 0⟩ 0 true _ hb0 (bk_ok _ _ _ (by omega)) (by rfl)).mono ?_
  rintro e w1 ⟨rfl, hb1, hg1⟩
  have b1 := below_grown b0 b0.size hg1 hlt
  clear hg1 hb0 b0
  go_wp2_with fail
  refine (take_at g ⟨2, 10, 1, 0, 0⟩ ⟨2, 10, 0, 0, 0⟩ 0 true _ hb1 (bk_ok _ _ _ (by omega)) (by rfl)).mono ?_
  rintro e w2 ⟨rfl, hb2, hg2⟩
  have b2 := below_grown b1 b1.size hg2 hlt
  clear hg2 hb1 b1
  go_wp2_with fail
  refine (take_at g ⟨2, 10, 0, 0, 0⟩ ⟨2, 10, 0, 0, 0⟩ 0 false _ hb2 (bk_ok _ _ _ (by omega)) (by rfl)).mono ?_
  rintro e w3 ⟨rfl, hb3, hg3⟩
  have b3 := below_grown b2 b2.size hg3 hlt
  clear hg3 hb2 b2
  go_wp2_with fail
  refine (left_at g ⟨2, 10, 0, 0, 0⟩ ⟨2, 10, 0, 9, 0⟩ 9 0 _ hb3 (bk_ok _ _ _ (by omega)) (by rfl) rfl).mono ?_
  rintro e w4 ⟨rfl, hb4, hg4⟩
  have b4 := below_grown b3 b3.size hg4 hlt
  clear hg4 hb3 b3
  go_wp2_with fail
  refine (left_at g ⟨2, 10, 0, 9, 0⟩ ⟨2, 10, 1, 10, 10⟩ 10 1 _ hb4 (bk_ok _ _ _ (by omega)) (by rfl) rfl).mono ?_
  rintro e w5 ⟨rfl, hb5, hg5⟩
  have b5 := below_grown b4 b4.size hg5 hlt
  clear hg5 hb4 b4
  go_wp2_with fail
  refine (take_at g ⟨2, 10, 1, 10, 10⟩ ⟨2, 10, 0, 15, 10⟩ 15 true _ hb5 (bk_ok _ _ _ (by omega)) (by rfl)).mono ?_
  rintro e w6 ⟨rfl, hb6, hg6⟩
  have b6 := below_grown b5 b5.size hg6 hlt
  clear hg6 hb5 b5
  go_wp2_with fail
  refine (left_at g ⟨2, 10, 0, 15, 10⟩ ⟨2, 10, 0, 19, 10⟩ 19 0 _ hb6 (bk_ok _ _ _ (by omega)) (by rfl) rfl).mono ?_
  rintro e w7 ⟨rfl, hb7, hg7⟩
  have b7 := below_grown b6 b6.size hg7 hlt
  clear hg7 hb6 b6
  go_wp2_with fail
  refine (left_at g ⟨2, 10, 0, 19, 10⟩ ⟨2, 10, 1, 20, 20⟩ 20 1 _ hb7 (bk_ok _ _ _ (by omega)) (by rfl) rfl).mono ?_
  rintro e w8 ⟨rfl, hb8, hg8⟩
  have b8 := below_grown b7 b7.size hg8 hlt
  clear hg8 hb7 b7
  go_wp2_with fail
  refine (left_at g ⟨2, 10, 1, 20, 20⟩ ⟨2, 10, 1, 20, 20⟩ 3 1 _ hb8 (bk_ok _ _ _ (by omega)) (by rfl) rfl).mono ?_
  rintro e w9 ⟨rfl, hb9, hg9⟩
  have b9 := below_grown b8 b8.size hg9 hlt
  clear hg9 hb8 b8
  go_wp2_with fail
  refine (left_at g ⟨2, 10, 1, 20, 20⟩ ⟨2, 10, 2, 30, 30⟩ 30 2 _ hb9 (bk_ok _ _ _ (by omega)) (by rfl) rfl).mono ?_
  rintro e w10 ⟨rfl, hb10, hg10⟩
  have b10 := below_grown b9 b9.size hg10 hlt
  clear hg10 hb9 b9
  go_wp2
  go_ret
  exact ⟨rfl, b10⟩
end Go.Proofs.Ytkiebhdhknaijaa
