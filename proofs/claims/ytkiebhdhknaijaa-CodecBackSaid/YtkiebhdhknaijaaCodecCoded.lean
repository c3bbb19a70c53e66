/-
  The chapter's examples of the codec. No condition.
-/
import Derived.Test.YtkiebhdhknaijaaCodecCut
namespace Go.Proofs.Ytkiebhdhknaijaa
open Go.RowKit

theorem num_at (n : Int) (L : List UInt8) (w : World) (h0 : 0 ≤ n) (h64 : n ≤ 1000) (h : numL n.toNat = L) :
    Calls Try.prog 23 #[.int .u64 n] w fun e w' => e = .returned (S L) ∧ w.grownBy w' none := by
  rw [← h]; exact num_int n w h0 (by omega)
theorem int_at (n : Int) (L : List UInt8) (w : World) (h : intB n = L) :
    Calls Try.prog 25 #[.int .i64 n] w fun e w' => e = .returned (S L) ∧ w.grownBy w' none := by
  rw [← h]; exact int_any n w
theorem text_at (l L : List UInt8) (w : World) (hl : l.length ≤ 1000) (h : textB l = L) :
    Calls Try.prog 27 #[S l] w fun e w' => e = .returned (S L) ∧ w.grownBy w' none := by
  rw [← h]; exact text_any l w (by omega)
theorem read_at (l r : List UInt8) (n : Nat) (w : World) (hl : l.length ≤ 1000) (h : readB l = some (n, r)) :
    Calls Try.prog 29 #[S l] w fun e w' => e = .returned (.tuple #[.int .u64 n, S r, .bool true]) ∧ w.grownBy w' none := by
  have := read_any l w (by omega)
  rw [h] at this
  exact this

set_option maxHeartbeats 400000 in
theorem no_yes (l : List UInt8) (w : World) (hl : l.length ≤ 1000000) (h : readB l = none) :
    Calls Try.prog 35 #[S l] w fun e w' => e = .returned (.bool true) ∧ w.grownBy w' none := by
  have hr := read_any l w (by omega)
  rw [h] at hr
  have HR := Lib.hid hr
  clear hr h
  go_enter Try.func35, Try.ntmps35
  go_wp2_with fail
  refine HR.out.mono ?_
  rintro e w1 ⟨rfl, h1⟩
  simp only [rdV]
  go_wp2
  go_ret
  exact ⟨rfl, h1⟩

theorem ex1 : numL 0 = [0] := by simp [numL]
theorem ex2 : numL 247 = [247] := by simp [numL]
theorem ex3 : numL 248 = [248, 248] := by simp [numL, le_pos, le_zero]
theorem ex4 : numL 300 = [249, 1, 44] := by simp [numL, le_pos, le_zero]
theorem ex5 : readB [248, 5] = none := by simp [readB, beVal, numL]
theorem ex6 : readB [249, 0, 248] = none := by simp [readB, beVal, numL, le_pos, le_zero]
theorem ex7 : readB [248] = none := by simp [readB]
theorem ex8 : intB (-1) = [0] := by simp [intB, numL]
theorem ex9 : intB (246) = [247] := by simp [intB, numL]
theorem ex10 : intB (247) = [248, 248] := by simp [intB, numL, le_pos, le_zero]
theorem ex11 : textB [97, 98] = [2, 97, 98] := by simp [textB, numL]
theorem ex0 : readB [249, 1, 44, 120] = some (300, [120]) := by simp [readB, beVal, numL, le_pos, le_zero]

set_option maxRecDepth 100000 in
set_option maxHeartbeats 1000000 in
theorem coded_any (w : World) : Calls Try.prog 22 #[] w fun e w' => e = .returned (.bool true) ∧ Below w.heap.size w w' := by
  go_enter Try.func22, Try.ntmps22
  go_wp2_with fail
  refine (read_at [249, 1, 44, 120] [120] 300 _ (by simp) ex0).mono ?_
  rintro e w0 ⟨rfl, h0⟩
  have b0 := below_of_only h0
  clear h0
  go_wp2_with fail
  refine (num_at 0 [0] _ (by omega) (by omega) ex1).mono ?_
  rintro e w1 ⟨rfl, h1⟩
  have b1 := below_grown0 b0 b0.size h1
  clear h1 b0
  go_wp2_with fail
  refine (num_at 247 [247] _ (by omega) (by omega) ex2).mono ?_
  rintro e w2 ⟨rfl, h2⟩
  have b2 := below_grown0 b1 b1.size h2
  clear h2 b1
  go_wp2_with fail
  refine (num_at 248 [248, 248] _ (by omega) (by omega) ex3).mono ?_
  rintro e w3 ⟨rfl, h3⟩
  have b3 := below_grown0 b2 b2.size h3
  clear h3 b2
  go_wp2_with fail
  refine (num_at 300 [249, 1, 44] _ (by omega) (by omega) ex4).mono ?_
  rintro e w4 ⟨rfl, h4⟩
  have b4 := below_grown0 b3 b3.size h4
  clear h4 b3
  go_wp2_with fail
  refine (no_yes [248, 5] _ (by simp) ex5).mono ?_
  rintro e w5 ⟨rfl, h5⟩
  have b5 := below_grown0 b4 b4.size h5
  clear h5 b4
  go_wp2_with fail
  refine (no_yes [249, 0, 248] _ (by simp) ex6).mono ?_
  rintro e w6 ⟨rfl, h6⟩
  have b6 := below_grown0 b5 b5.size h6
  clear h6 b5
  go_wp2_with fail
  refine (no_yes [248] _ (by simp) ex7).mono ?_
  rintro e w7 ⟨rfl, h7⟩
  have b7 := below_grown0 b6 b6.size h7
  clear h7 b6
  go_wp2_with fail
  refine (int_at (-1) [0] _ ex8).mono ?_
  rintro e w8 ⟨rfl, h8⟩
  have b8 := below_grown0 b7 b7.size h8
  clear h8 b7
  go_wp2_with fail
  refine (int_at (246) [247] _ ex9).mono ?_
  rintro e w9 ⟨rfl, h9⟩
  have b9 := below_grown0 b8 b8.size h9
  clear h9 b8
  go_wp2_with fail
  refine (int_at (247) [248, 248] _ ex10).mono ?_
  rintro e w10 ⟨rfl, h10⟩
  have b10 := below_grown0 b9 b9.size h10
  clear h10 b9
  go_wp2_with fail
  refine (text_at [97, 98] [2, 97, 98] _ (by simp) ex11).mono ?_
  rintro e w11 ⟨rfl, h11⟩
  have b11 := below_grown0 b10 b10.size h11
  clear h11 b10
  go_wp2
  go_ret
  exact ⟨rfl, b11⟩
end Go.Proofs.Ytkiebhdhknaijaa
