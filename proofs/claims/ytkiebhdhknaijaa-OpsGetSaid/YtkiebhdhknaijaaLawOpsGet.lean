/-
  OpsGet: the operation of any bytes is the document's, or there is none: true for every input. No condition.
-/
import Derived.Test.YtkiebhdhknaijaaRows
import Derived.Test.YtkiebhdhknaijaaRead
import Derived.Test.YtkiebhdhknaijaaOpsTold
import Derived.Test.YtkiebhdhknaijaaOpsRefGet
namespace Go.Proofs.Ytkiebhdhknaijaa.lawOpsGet
open Go.RowKit

theorem toS (s : ByteArray) : ∃ l : List UInt8, s = ⟨l.toArray⟩ ∧ l.length = s.size := ⟨s.data.toList, rfl, rfl⟩

set_option maxRecDepth 100000 in
set_option maxHeartbeats 1000000 in
theorem great (l : List UInt8) (w : World) (hl : 300 < l.length) :
    Calls Try.prog 11 #[S l] w fun e w' => e = .returned (.bool true) ∧ Below w.heap.size w w' := by
  have hlen : decide ((300 : Int) < (l.length : Int)) = true := by simp; omega
  go_enter Try.func11, Try.ntmps11
  go_wp2_with fail
  refine (told_any w).mono ?_
  rintro e w1 ⟨rfl, h1⟩
  go_wp2
  go_ret
  exact ⟨rfl, h1⟩

/-- What Get hands back: an operation and a number. -/
def gO : Option OpM → OpM | none => noOp | some o => o
def gE : Option OpM → Int | none => 10 | some _ => 0
theorem getV_eq (o : Option OpM) : getV o = .tuple #[opV (gO o), .int .i64 (gE o)] := by cases o <;> rfl

set_option maxRecDepth 100000 in
set_option maxHeartbeats 1000000 in
theorem play (l : List UInt8) (w : World) (hl : l.length ≤ 300) :
    Calls Try.prog 11 #[S l] w fun e w' => e = .returned (.bool true) ∧ Below w.heap.size w w' := by
  have hlen : decide ((300 : Int) < (l.length : Int)) = false := by simp; omega
  have k1 := Lib.hid (fun W => getV_eq (getB l) ▸ get_any l W (by omega))
  have k2 := Lib.hid (fun W => getV_eq (getB l) ▸ rget_any l W (by omega))
  generalize gO (getB l) = o at *
  generalize gE (getB l) = x at *
  obtain ⟨kind, key, value, version⟩ := o
  simp only [opV, OpM.cells] at k1 k2
  go_enter Try.func11, Try.ntmps11
  go_wp2_with fail
  refine (k1.out w).mono ?_
  rintro e w1 ⟨rfl, h1⟩
  have b1 := below_of_only h1
  go_wp2_with fail
  refine (k2.out _).mono ?_
  rintro e w2 ⟨rfl, h2⟩
  have b2 : Below w.heap.size w w2 := below_grown0 (b1.alloc b1.size _) (by have := b1.size; simp; omega) h2
  have o1 := (Blk.new w1 57 #[.int .i64 kind, S key, S value, .int .i64 version]).grown h2 (by simp)
  clear h1 h2
  obtain ⟨c0, c1, c2, c3, _⟩ := o1.c4
  have hlt := o1.lt
  go_wp2_with fail
  refine (told_any _).mono ?_
  rintro e w3 ⟨rfl, h3⟩
  go_wp2
  go_ret
  exact ⟨rfl, (b2.alloc b2.size _).trans (h3.mono (by have := b2.size; simp; omega))⟩

theorem walk (w : World) (s : ByteArray) (_ : s.size ≤ maxLen) :
    Calls Try.prog 11 #[.string s] w fun e w' => e = .returned (.bool true) ∧ Below w.heap.size w w' := by
  obtain ⟨l, rfl, _⟩ := toS s
  by_cases h : 300 < l.length
  · exact great l w h
  · exact play l w (by omega)
end Go.Proofs.Ytkiebhdhknaijaa.lawOpsGet
