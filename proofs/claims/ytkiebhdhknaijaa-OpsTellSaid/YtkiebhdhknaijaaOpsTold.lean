/-
  The chapter's examples of the operations. No condition.
-/
import Derived.Test.YtkiebhdhknaijaaOpsPut
import Derived.Test.YtkiebhdhknaijaaMem2
namespace Go.Proofs.Ytkiebhdhknaijaa
open Go.RowKit

theorem put_at (o : OpM) (v : Value) (w : World) (h : putV o = v) : Calls Try.prog 38 #[opV o] w fun e w' => e = .returned v ∧ w.grownBy w' none := by
  rw [← h]; exact put_any o w
theorem cost_at (o : OpM) (n : Int) (w : World) (h : costO o = n) : Calls Try.prog 42 #[opV o] w fun e w' => e = .returned (.int .i64 n) ∧ w.grownBy w' none := by
  rw [← h]; exact cost_any o w

theorem told1 : chkO ⟨2, [107], [118], 0⟩ = 0 := by decide
theorem told2 : putV ⟨2, [107], [118], 0⟩ = .tuple #[S [3, 1, 107, 1, 118], .int .i64 0] := by
  rw [putV, if_pos told1]
  simp [putB, intB, textB, numL]
theorem told3 : costO ⟨2, [107], [118], 0⟩ = 18 := by decide
theorem told4 : chkO ⟨1, [107], [118], 0⟩ = 2 := by decide
theorem told5 : chkO ⟨1, [48, 49, 50, 51, 52, 53, 54, 55, 56, 57, 48, 49, 50, 51, 52, 53, 54], [], 0⟩ = 3 := by decide

set_option maxRecDepth 100000 in
set_option maxHeartbeats 1000000 in
theorem told_any (w : World) : Calls Try.prog 37 #[] w fun e w' => e = .returned (.bool true) ∧ Below w.heap.size w w' := by
  go_enter Try.func37, Try.ntmps37
  go_wp2_with fail
  refine (put_at ⟨2, [107], [118], 0⟩ _ _ told2).mono ?_
  rintro e w1 ⟨rfl, h1⟩
  have b1 : Below w.heap.size w w1 := below_grown0 ((Below.refl _ _).alloc (Nat.le_refl _) _) (by simp) h1
  have o1 := (Blk.new w 57 #[.int .i64 2, S [107], S [118], .int .i64 0]).grown h1 (by simp)
  clear h1
  obtain ⟨c0, c1, c2, c3, _⟩ := o1.c4
  have hlt := o1.lt
  go_wp2_with fail
  refine (cost_at ⟨2, [107], [118], 0⟩ 18 _ told3).mono ?_
  rintro e w2 ⟨rfl, h2⟩
  have b2 : Below w.heap.size w w2 := below_grown0 ((b1.alloc b1.size _).alloc (by have := b1.size; simp; omega) _) (by have := b1.size; simp; omega) h2
  have o2 := ((Blk.new w1 57 #[.int .i64 1, S [107], S [118], .int .i64 0]).alloc (.cells #[.int .i64 1, S [48, 49, 50, 51, 52, 53, 54, 55, 56, 57, 48, 49, 50, 51, 52, 53, 54], S [], .int .i64 0] 57)).grown h2 (by simp)
  have o3 := (Blk.new (w1.alloc (.cells #[.int .i64 1, S [107], S [118], .int .i64 0] 57)) 57 #[.int .i64 1, S [48, 49, 50, 51, 52, 53, 54, 55, 56, 57, 48, 49, 50, 51, 52, 53, 54], S [], .int .i64 0]).grown h2 (by simp)
  rw [World.size_alloc] at o3
  clear h2 c0 c1 c2 c3
  obtain ⟨c0, c1, c2, c3, _⟩ := o2.c4
  go_wp2_with fail
  refine (check_at ⟨1, [107], [118], 0⟩ 2 _ told4).mono ?_
  rintro e w3 ⟨rfl, h3⟩
  have b3 := below_grown0 b2 b2.size h3
  have o4 := o3.grown h3 (by simp)
  clear h3 c0 c1 c2 c3
  obtain ⟨c0, c1, c2, c3, _⟩ := o4.c4
  go_wp2_with fail
  refine (check_at ⟨1, [48, 49, 50, 51, 52, 53, 54, 55, 56, 57, 48, 49, 50, 51, 52, 53, 54], [], 0⟩ 3 _ told5).mono ?_
  rintro e w4 ⟨rfl, h4⟩
  have b4 := below_grown0 b3 b3.size h4
  go_wp2
  go_ret
  exact ⟨rfl, b4⟩
end Go.Proofs.Ytkiebhdhknaijaa
