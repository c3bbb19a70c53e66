/-
  CodecRead: what stands ahead of any bytes is the document's, or nothing: true for every input. No condition.
-/
import Derived.Test.YtkiebhdhknaijaaRows
import Derived.Test.YtkiebhdhknaijaaRead
import Derived.Test.YtkiebhdhknaijaaCodecCoded
import Derived.Test.YtkiebhdhknaijaaCodecLaws
namespace Go.Proofs.Ytkiebhdhknaijaa.lawCodecRead
open Go.RowKit

theorem toS (s : ByteArray) : ∃ l : List UInt8, s = ⟨l.toArray⟩ ∧ l.length = s.size := ⟨s.data.toList, rfl, rfl⟩

set_option maxRecDepth 100000 in
set_option maxHeartbeats 1000000 in
theorem great (l : List UInt8) (w : World) (hl : 1000 < l.length) :
    Calls Try.prog 7 #[S l] w fun e w' => e = .returned (.bool true) ∧ Below w.heap.size w w' := by
  have hlen : decide ((1000 : Int) < (l.length : Int)) = true := by simp; omega
  go_enter Try.func7, Try.ntmps7
  go_wp2_with fail
  refine (coded_any w).mono ?_
  rintro e w1 ⟨rfl, h1⟩
  go_wp2
  go_ret
  exact ⟨rfl, h1⟩

set_option maxRecDepth 100000 in
set_option maxHeartbeats 1000000 in
theorem play (l : List UInt8) (w : World) (hl : l.length ≤ 1000) :
    Calls Try.prog 7 #[S l] w fun e w' => e = .returned (.bool true) ∧ Below w.heap.size w w' := by
  have hlen : decide ((1000 : Int) < (l.length : Int)) = false := by simp; omega
  have k1 := Lib.hid (fun w => rdV_eq (readB l) ▸ read_any l w (by omega))
  have k2 := Lib.hid (fun w => rdV_eq (readB l) ▸ rread_any l w (by omega))
  have k3 := Lib.hid (fun w => utV_eq (unintB l) ▸ unint_any l w (by omega))
  have k4 := Lib.hid (fun w => utV_eq (unintB l) ▸ runint_any l w (by omega))
  have k5 := Lib.hid (fun w => ctV_eq (cutB l) ▸ cut_any l w (by omega))
  have k6 := Lib.hid (fun w => ctV_eq (cutB l) ▸ rcut_any l w (by omega))
  go_enter Try.func7, Try.ntmps7
  go_wp2_with fail
  refine (k1.out w).mono ?_
  rintro e w1 ⟨rfl, h1⟩
  have b1 := below_of_only h1
  go_wp2_with fail
  refine (k2.out w1).mono ?_
  rintro e w2 ⟨rfl, h2⟩
  have b2 := below_grown0 b1 b1.size h2
  go_wp2_with fail
  refine (k3.out w2).mono ?_
  rintro e w3 ⟨rfl, h3⟩
  have b3 := below_grown0 b2 b2.size h3
  go_wp2_with fail
  refine (k4.out w3).mono ?_
  rintro e w4 ⟨rfl, h4⟩
  have b4 := below_grown0 b3 b3.size h4
  clear h1 h2 h3 h4 b1 b2 b3
  go_wp2_with fail
  refine (k5.out w4).mono ?_
  rintro e w5 ⟨rfl, h5⟩
  have b5 := below_grown0 b4 b4.size h5
  go_wp2_with fail
  refine (k6.out w5).mono ?_
  rintro e w6 ⟨rfl, h6⟩
  have b6 := below_grown0 b5 b5.size h6
  go_wp2_with fail
  refine (coded_any w6).mono ?_
  rintro e w9 ⟨rfl, h9⟩
  go_wp2
  go_ret
  exact ⟨rfl, b6.trans (h9.mono b6.size)⟩

theorem walk (w : World) (s : ByteArray) (_ : s.size ≤ maxLen) :
    Calls Try.prog 7 #[.string s] w fun e w' => e = .returned (.bool true) ∧ Below w.heap.size w w' := by
  obtain ⟨l, rfl, _⟩ := toS s
  by_cases h : 1000 < l.length
  · exact great l w h
  · exact play l w (by omega)
end Go.Proofs.Ytkiebhdhknaijaa.lawCodecRead
