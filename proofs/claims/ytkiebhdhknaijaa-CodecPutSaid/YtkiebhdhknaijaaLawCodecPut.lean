/-
  CodecPut: the bytes of any number, and of any text, are the document's: true for every input. No condition.
-/
import Derived.Test.YtkiebhdhknaijaaRows
import Derived.Test.YtkiebhdhknaijaaRead
import Derived.Test.YtkiebhdhknaijaaCodecCoded
namespace Go.Proofs.Ytkiebhdhknaijaa.lawCodecPut
open Go.RowKit

theorem toS (s : ByteArray) : ∃ l : List UInt8, s = ⟨l.toArray⟩ ∧ l.length = s.size := ⟨s.data.toList, rfl, rfl⟩

set_option maxRecDepth 100000 in
set_option maxHeartbeats 1000000 in
theorem great (n m : Int) (l : List UInt8) (w : World) (hl : 1000 < l.length) :
    Calls Try.prog 6 #[.int .u64 n, .int .i64 m, S l] w fun e w' => e = .returned (.bool true) ∧ Below w.heap.size w w' := by
  have hlen : decide ((1000 : Int) < (l.length : Int)) = true := by simp; omega
  go_enter Try.func6, Try.ntmps6
  go_wp2_with fail
  refine (coded_any w).mono ?_
  rintro e w1 ⟨rfl, h1⟩
  go_wp2
  go_ret
  exact ⟨rfl, h1⟩

set_option maxRecDepth 100000 in
set_option maxHeartbeats 1000000 in
theorem play (n m : Int) (hn0 : 0 ≤ n) (hn : n < 18446744073709551616) (l : List UInt8) (w : World) (hl : l.length ≤ 1000) :
    Calls Try.prog 6 #[.int .u64 n, .int .i64 m, S l] w fun e w' => e = .returned (.bool true) ∧ Below w.heap.size w w' := by
  have hlen : decide ((1000 : Int) < (l.length : Int)) = false := by simp; omega
  go_enter Try.func6, Try.ntmps6
  go_wp2_with fail
  refine (num_int n w hn0 hn).mono ?_
  rintro e w1 ⟨rfl, h1⟩
  have b1 := below_of_only h1
  go_wp2_with fail
  refine (rnum_int n w1 hn0 hn).mono ?_
  rintro e w2 ⟨rfl, h2⟩
  have b2 := below_grown0 b1 b1.size h2
  go_wp2_with fail
  refine (int_any m w2).mono ?_
  rintro e w3 ⟨rfl, h3⟩
  have b3 := below_grown0 b2 b2.size h3
  go_wp2_with fail
  refine (rint_any m w3).mono ?_
  rintro e w4 ⟨rfl, h4⟩
  have b4 := below_grown0 b3 b3.size h4
  clear h1 h2 h3 h4 b1 b2 b3
  go_wp2_with fail
  refine (int_any _ w4).mono ?_
  rintro e w5 ⟨rfl, h5⟩
  have b5 := below_grown0 b4 b4.size h5
  go_wp2_with fail
  refine (rint_any _ w5).mono ?_
  rintro e w6 ⟨rfl, h6⟩
  have b6 := below_grown0 b5 b5.size h6
  go_wp2_with fail
  refine (text_any l w6 (by omega)).mono ?_
  rintro e w7 ⟨rfl, h7⟩
  have b7 := below_grown0 b6 b6.size h7
  clear h5 h6 h7 b4 b5 b6
  go_wp2_with fail
  refine (rtext_any l w7 (by omega)).mono ?_
  rintro e w8 ⟨rfl, h8⟩
  have b8 := below_grown0 b7 b7.size h8
  go_wp2_with fail
  refine (coded_any w8).mono ?_
  rintro e w9 ⟨rfl, h9⟩
  go_wp2
  go_ret
  exact ⟨rfl, b8.trans (h9.mono b8.size)⟩

theorem walk (w : World) (n : Int) (hn : (Lit.int .u64 n).wf = true) (m : Int) (_ : (Lit.int .i64 m).wf = true) (s : ByteArray) (_ : s.size ≤ maxLen) :
    Calls Try.prog 6 #[.int .u64 n, .int .i64 m, .string s] w fun e w' => e = .returned (.bool true) ∧ Below w.heap.size w w' := by
  obtain ⟨l, rfl, _⟩ := toS s
  have hb := bounds_u64 hn
  by_cases h : 1000 < l.length
  · exact great n m l w h
  · exact play n m hb.1 (by omega) l w (by omega)
end Go.Proofs.Ytkiebhdhknaijaa.lawCodecPut
