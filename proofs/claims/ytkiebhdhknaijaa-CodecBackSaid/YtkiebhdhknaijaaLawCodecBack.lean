/-
  CodecBack: what is put stands ahead of whatever is behind it, and is told so; of what is cut off nothing is told: true for every input. No condition.
-/
import Derived.Test.YtkiebhdhknaijaaRows
import Derived.Test.YtkiebhdhknaijaaRead
import Derived.Test.YtkiebhdhknaijaaCodecCoded
import Derived.Test.YtkiebhdhknaijaaCodecLaws
namespace Go.Proofs.Ytkiebhdhknaijaa.lawCodecBack
open Go.RowKit
attribute [local go_sem] ByteArray.mk_append_mk

theorem toS (s : ByteArray) : ∃ l : List UInt8, s = ⟨l.toArray⟩ ∧ l.length = s.size := ⟨s.data.toList, rfl, rfl⟩

set_option maxRecDepth 100000 in
set_option maxHeartbeats 1000000 in
theorem great (n m : Int) (l : List UInt8) (w : World) (hl : 500 < l.length) :
    Calls Try.prog 8 #[.int .u64 n, .int .u16 m, S l] w fun e w' => e = .returned (.bool true) ∧ Below w.heap.size w w' := by
  have hlen : decide ((500 : Int) < (l.length : Int)) = true := by simp; omega
  go_enter Try.func8, Try.ntmps8
  go_wp2_with fail
  refine (coded_any w).mono ?_
  rintro e w1 ⟨rfl, h1⟩
  go_wp2
  go_ret
  exact ⟨rfl, h1⟩

theorem dropL (l : List UInt8) : (ByteArray.mk l.toArray).extract 0 (l.length - 1) = ⟨l.dropLast.toArray⟩ := by
  rw [ByteArray.extract_mk, List.dropLast_eq_take]; rfl

set_option maxRecDepth 100000 in
set_option maxHeartbeats 4000000 in
theorem play (n : Nat) (m : Int) (hn : n < 18446744073709551616) (hm0 : 0 ≤ m) (hm : m ≤ 65535) (l : List UInt8) (w : World) (hl : l.length ≤ 500) :
    Calls Try.prog 8 #[.int .u64 n, .int .u16 m, S l] w fun e w' => e = .returned (.bool true) ∧ Below w.heap.size w w' := by
  have hlen : decide ((500 : Int) < (l.length : Int)) = false := by simp; omega
  obtain ⟨a0, a9⟩ := numL_len n hn
  have ib : intB (m - 1) = numL (m - 1 + 1).toNat := intB_yes _ (by omega) (by omega)
  obtain ⟨b0, b9⟩ := numL_len (m - 1 + 1).toNat (by omega)
  rw [← ib] at b0 b9
  have c0 : l.length < (textB l).length ∧ (textB l).length ≤ 509 := by
    have := numL_len l.length (by omega)
    simp [textB]; omega
  obtain ⟨c0, c9⟩ := c0
  have r1 := Lib.hid (readB_num n hn (intB (m - 1) ++ (textB l ++ l)))
  have r2 := Lib.hid (unintB_int (m - 1) (by omega) (by omega) (textB l ++ l))
  have r3 := Lib.hid (cutB_text l l (by omega))
  have r4 := Lib.hid (readB_cut n hn)
  have r5 := Lib.hid (unintB_cut (m - 1) (by omega) (by omega))
  have r6 := Lib.hid (cutB_cut l (by omega))
  have k1 := Lib.hid (fun w => num_any n w hn)
  have k2 := Lib.hid (fun w => int_any (m - 1) w)
  have k3 := Lib.hid (fun w => text_any l w (by omega))
  clear ib hn
  generalize numL n = A at *
  generalize intB (m - 1) = B at *
  generalize textB l = C at *
  have hA0 : ((A.length : Int) == 0) = false := by simp; intro h; simp [h] at a0
  have hB0 : ((B.length : Int) == 0) = false := by simp; intro h; simp [h] at b0
  have xA := dropL A
  have xB := dropL B
  have xC := dropL C
  go_enter Try.func8, Try.ntmps8
  go_wp2_with fail
  refine (k1.out w).mono ?_
  rintro e w1 ⟨rfl, h1⟩
  have b1 := below_of_only h1
  go_wp2_with fail
  refine (k2.out w1).mono ?_
  rintro e w2 ⟨rfl, h2⟩
  have b2 := below_grown0 b1 b1.size h2
  go_wp2_with fail
  refine (k3.out w2).mono ?_
  rintro e w3 ⟨rfl, h3⟩
  have b3 := below_grown0 b2 b2.size h3
  go_wp2_with fail
  have g1 := read_any (A ++ (B ++ (C ++ l))) w3 (by simp; omega)
  rw [r1.out] at g1
  refine g1.mono ?_
  clear g1
  rintro e w4 ⟨rfl, h4⟩
  have b4 := below_grown0 b3 b3.size h4
  clear h1 h2 h3 h4 b1 b2 b3
  simp only [rdV]
  go_wp2_with fail
  have g2 := unint_any (B ++ (C ++ l)) w4 (by simp; omega)
  rw [r2.out] at g2
  refine g2.mono ?_
  clear g2
  rintro e w5 ⟨rfl, h5⟩
  have b5 := below_grown0 b4 b4.size h5
  simp only [utV]
  go_wp2_with fail
  have g3 := cut_any (C ++ l) w5 (by simp; omega)
  rw [r3.out] at g3
  refine g3.mono ?_
  clear g3
  rintro e w6 ⟨rfl, h6⟩
  have b6 := below_grown0 b5 b5.size h6
  clear h5 h6 b4 b5
  simp only [ctV]
  go_wp2_with fail
  have g4 := unint_any B.dropLast w6 (by simp; omega)
  rw [r5.out] at g4
  refine g4.mono ?_
  clear g4
  rintro e w7 ⟨rfl, h7⟩
  have b7 := below_grown0 b6 b6.size h7
  simp only [utV]
  go_wp2_with fail
  have g5 := cut_any C.dropLast w7 (by simp; omega)
  rw [r6.out] at g5
  refine g5.mono ?_
  clear g5
  rintro e w8 ⟨rfl, h8⟩
  have b8 := below_grown0 b7 b7.size h8
  simp only [ctV]
  go_wp2_with fail
  refine (no_yes A.dropLast w8 (by simp; omega) r4.out).mono ?_
  rintro e w9 ⟨rfl, h9⟩
  have b9' := below_grown0 b8 b8.size h9
  go_wp2_with fail
  refine (coded_any w9).mono ?_
  rintro e w10 ⟨rfl, h10⟩
  go_wp2
  go_ret
  exact ⟨rfl, b9'.trans (h10.mono b9'.size)⟩

theorem walk (w : World) (n : Int) (hn : (Lit.int .u64 n).wf = true) (m : Int) (hm : (Lit.int .u16 m).wf = true) (s : ByteArray) (_ : s.size ≤ maxLen) :
    Calls Try.prog 8 #[.int .u64 n, .int .u16 m, .string s] w fun e w' => e = .returned (.bool true) ∧ Below w.heap.size w w' := by
  obtain ⟨l, rfl, _⟩ := toS s
  have hb := bounds_u64 hn
  have hc := bounds_u16 hm
  by_cases h : 500 < l.length
  · exact great n m l w h
  · obtain ⟨k, rfl⟩ := Int.eq_ofNat_of_zero_le hb.1
    exact play k m (by omega) hc.1 hc.2 l w (by omega)
end Go.Proofs.Ytkiebhdhknaijaa.lawCodecBack
