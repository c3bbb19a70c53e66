/-
  OpsForm: what is got of bytes is put as these: true for every input. No condition.
-/
import Derived.Test.YtkiebhdhknaijaaRows
import Derived.Test.YtkiebhdhknaijaaRead
import Derived.Test.YtkiebhdhknaijaaOpsTold
import Derived.Test.YtkiebhdhknaijaaOpsLaws
namespace Go.Proofs.Ytkiebhdhknaijaa.lawOpsForm
open Go.RowKit

theorem toS (s : ByteArray) : ∃ l : List UInt8, s = ⟨l.toArray⟩ ∧ l.length = s.size := ⟨s.data.toList, rfl, rfl⟩

set_option maxRecDepth 100000 in
set_option maxHeartbeats 1000000 in
theorem great (l : List UInt8) (w : World) (hl : 300 < l.length) :
    Calls Try.prog 12 #[S l] w fun e w' => e = .returned (.bool true) ∧ Below w.heap.size w w' := by
  have hlen : decide ((300 : Int) < (l.length : Int)) = true := by simp; omega
  go_enter Try.func12, Try.ntmps12
  go_wp2_with fail
  refine (told_any w).mono ?_
  rintro e w1 ⟨rfl, h1⟩
  go_wp2
  go_ret
  exact ⟨rfl, h1⟩

set_option maxRecDepth 100000 in
set_option maxHeartbeats 1000000 in
theorem none_ (l : List UInt8) (w : World) (hl : l.length ≤ 300) (h : getB l = none) :
    Calls Try.prog 12 #[S l] w fun e w' => e = .returned (.bool true) ∧ Below w.heap.size w w' := by
  have hlen : decide ((300 : Int) < (l.length : Int)) = false := by simp; omega
  have k1 := Lib.hid (fun W => h ▸ get_any l W (by omega))
  simp only [getV, noOp, opV, OpM.cells] at k1
  clear h
  go_enter Try.func12, Try.ntmps12
  go_wp2_with fail
  refine (k1.out w).mono ?_
  rintro e w1 ⟨rfl, h1⟩
  have b1 := below_of_only h1
  go_wp2_with fail
  refine (told_any _).mono ?_
  rintro e w3 ⟨rfl, h3⟩
  go_wp2
  go_ret
  exact ⟨rfl, (b1.alloc b1.size _).trans (h3.mono (by have := b1.size; simp; omega))⟩

set_option maxRecDepth 100000 in
set_option maxHeartbeats 1000000 in
theorem some_ (l : List UInt8) (w : World) (hl : l.length ≤ 300) (o : OpM) (h : getB l = some o) :
    Calls Try.prog 12 #[S l] w fun e w' => e = .returned (.bool true) ∧ Below w.heap.size w w' := by
  have hlen : decide ((300 : Int) < (l.length : Int)) = false := by simp; omega
  have k1 := Lib.hid (fun W => h ▸ get_any l W (by omega))
  obtain ⟨f1, f2⟩ := getB_form h
  have hv : putV o = .tuple #[S l, .int .i64 0] := by rw [putV, if_pos f1, f2]
  have k2 := Lib.hid (fun W => put_at o _ W hv)
  clear h f1 f2 hv
  obtain ⟨kind, key, value, version⟩ := o
  simp only [getV, opV, OpM.cells] at k1 k2
  go_enter Try.func12, Try.ntmps12
  go_wp2_with fail
  refine (k1.out w).mono ?_
  rintro e w1 ⟨rfl, h1⟩
  have b1 := below_of_only h1
  go_wp2_with fail
  refine (k2.out _).mono ?_
  rintro e w2 ⟨rfl, h2⟩
  have b2 : Below w.heap.size w w2 := below_grown0 (b1.alloc b1.size _) (by have := b1.size; simp; omega) h2
  go_wp2_with fail
  refine (told_any _).mono ?_
  rintro e w3 ⟨rfl, h3⟩
  go_wp2
  go_ret
  exact ⟨rfl, b2.trans (h3.mono b2.size)⟩

theorem walk (w : World) (s : ByteArray) (_ : s.size ≤ maxLen) :
    Calls Try.prog 12 #[.string s] w fun e w' => e = .returned (.bool true) ∧ Below w.heap.size w w' := by
  obtain ⟨l, rfl, _⟩ := toS s
  by_cases h : 300 < l.length
  · exact great l w h
  · rcases hg : getB l with _ | o
    · exact none_ l w (by omega) hg
    · exact some_ l w (by omega) o hg
end Go.Proofs.Ytkiebhdhknaijaa.lawOpsForm
