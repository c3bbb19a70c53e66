/-
  OpsTell: what is wrong with any operation, what it counts for, whether it reads, and its bytes, are the document's: true for every input. No condition.
-/
import Derived.Test.YtkiebhdhknaijaaRows
import Derived.Test.YtkiebhdhknaijaaRead
import Derived.Test.YtkiebhdhknaijaaOpsTold
import Derived.Test.YtkiebhdhknaijaaOpsRefPut
import Derived.Deep.DrawnRows
namespace Go.Proofs.Ytkiebhdhknaijaa.lawOpsTell
open Go.RowKit
attribute [local go_sem ↓] Go.wp_at_zero Go.wp_at_succ

theorem toS (s : ByteArray) : ∃ l : List UInt8, s = ⟨l.toArray⟩ ∧ l.length = s.size := ⟨s.data.toList, rfl, rfl⟩

set_option maxRecDepth 100000 in
set_option maxHeartbeats 1000000 in
theorem great (o : OpM) (w : World) (h : 300 < o.key.length ∨ 300 < o.value.length) :
    Calls Try.prog 10 #[opV o] w fun e w' => e = .returned (.bool true) ∧ Below w.heap.size w w' := by
  have k1 := Lib.hid (fun W => great_yes o W h)
  clear h
  obtain ⟨kind, key, value, version⟩ := o
  simp only [opV, OpM.cells] at k1 ⊢
  go_enter Try.func10, Try.ntmps10
  go_wp2_with fail
  refine (k1.out _).mono ?_
  rintro e w1 ⟨rfl, h1⟩
  have b1 : Below w.heap.size w w1 := below_grown0 ((Below.refl _ _).alloc (Nat.le_refl _) _) (by simp) h1
  go_wp2_with fail
  refine (told_any _).mono ?_
  rintro e w2 ⟨rfl, h2⟩
  go_wp2
  go_ret
  exact ⟨rfl, b1.trans (h2.mono b1.size)⟩

/-- What Put hands back. -/
def pB (o : OpM) : List UInt8 := if chkO o = 0 then putB o else []
theorem putV_eq (o : OpM) : putV o = .tuple #[S (pB o), .int .i64 (chkO o)] := by
  unfold putV pB
  split
  · rename_i h; rw [h]
  · rfl

set_option maxRecDepth 100000 in
set_option maxHeartbeats 8000000 in
theorem play (o : OpM) (w : World) (h1 : o.key.length ≤ 300) (h2 : o.value.length ≤ 300) :
    Calls Try.prog 10 #[opV o] w fun e w' => e = .returned (.bool true) ∧ Below w.heap.size w w' := by
  have k1 := Lib.hid (fun W => great_no o W h1 h2)
  clear h1 h2
  obtain ⟨kind, key, value, version⟩ := o
  simp only [opV, OpM.cells] at k1 ⊢
  go_enter Try.func10, Try.ntmps10
  have o0 := Blk.new w 57 #[.int .i64 kind, S key, S value, .int .i64 version]
  have b0 : Below w.heap.size w (w.alloc (.cells #[.int .i64 kind, S key, S value, .int .i64 version] 57)) := (Below.refl _ _).alloc (Nat.le_refl _) _
  go_wp2_with fail
  refine (k1.out _).mono ?_
  rintro e w1 ⟨rfl, h1⟩
  have b1 := below_grown0 b0 (by simp) h1
  have o1 := o0.grown h1 (by simp)
  clear o0 b0 h1 k1
  go_wp2_with fail
  go_loopg [3] 7 (fun q s3 wr => ∃ k : Nat, k ≤ 7 ∧ q = 7 - k ∧ s3 = .int .i64 k ∧ Blk wr w.heap.size 57 #[.int .i64 kind, S key, S value, .int .i64 version] ∧ Below w.heap.size w wr)
  case atStart => exact ⟨0, by omega, rfl, rfl, o1, b1⟩
  case round =>
    obtain ⟨k, hk, rfl, rfl, hor, hbr⟩ := hrel
    clear o1 b1
    by_cases hlt : k < 7
    · obtain ⟨c0, c1, c2, c3, _⟩ := hor.c4
      have hl := hor.lt
      obtain ⟨kk, hkk⟩ : ∃ kk : Int, kk = if 0 < k then (k : Int) - 1 else kind := ⟨_, rfl⟩
      have HK := Lib.hid hkk
      clear hkk
      go_upto_if 18 with fail
      go_cut [] (fun wx => Blk wx w.heap.size 57 #[.int .i64 kind, S key, S value, .int .i64 version] ∧ Blk wx wr.heap.size 57 #[.int .i64 kk, S key, S value, .int .i64 version] ∧ Below w.heap.size w wx)
      case first =>
        by_cases h0 : 0 < k
        · have e : kk = (k : Int) - 1 := by rw [HK.out, if_pos h0]
          have E := Lib.hid e
          clear e
          go_wp2
          go_meet
          rw [E.out]
          exact ⟨hor.alloc _, Blk.new _ _ _, hbr.alloc hbr.size _⟩
        · have e : kk = kind := by rw [HK.out, if_neg h0]
          obtain rfl : k = 0 := by omega
          have E := Lib.hid e
          clear e h0
          go_wp2
          go_meet
          rw [E.out]
          exact ⟨hor.alloc _, Blk.new _ _ _, hbr.alloc hbr.size _⟩
      obtain ⟨ho, hx, bx⟩ := hcut
      clear c0 c1 c2 c3 hor hbr
      have q1 := Lib.hid (fun W => putV_eq ⟨kk, key, value, version⟩ ▸ put_any ⟨kk, key, value, version⟩ W)
      have q2 := Lib.hid (fun W => putV_eq ⟨kk, key, value, version⟩ ▸ rput_any ⟨kk, key, value, version⟩ W)
      have q3 := Lib.hid (fun W => check_any ⟨kk, key, value, version⟩ W)
      have q4 := Lib.hid (fun W => rcheck_any ⟨kk, key, value, version⟩ W)
      have q5 := Lib.hid (fun W => cost_any ⟨kk, key, value, version⟩ W)
      have q6 := Lib.hid (fun W => rcost_any ⟨kk, key, value, version⟩ W)
      have q7 := Lib.hid (fun W => reads_any ⟨kk, key, value, version⟩ W)
      simp only [opV, OpM.cells] at q1 q2 q3 q4 q5 q6 q7
      generalize chkO ⟨kk, key, value, version⟩ = x at *
      generalize costO ⟨kk, key, value, version⟩ = y at *
      generalize pB ⟨kk, key, value, version⟩ = P at *
      obtain ⟨c0, c1, c2, c3, _⟩ := hx.c4
      go_wp2_with fail
      refine (q1.out _).mono ?_
      rintro e w2 ⟨rfl, h2⟩
      have ho := ho.grown h2 (by simp)
      have hx := hx.grown h2 (by simp)
      have bx := below_grown0 bx bx.size h2
      clear h2 c0 c1 c2 c3
      obtain ⟨c0, c1, c2, c3, _⟩ := hx.c4
      go_wp2_with fail
      refine (q2.out _).mono ?_
      rintro e w3 ⟨rfl, h3⟩
      have ho := ho.grown h3 (by simp)
      have hx := hx.grown h3 (by simp)
      have bx := below_grown0 bx bx.size h3
      clear h3 c0 c1 c2 c3
      go_upto_region 11 with fail
      go_cut [66] (fun s wx => s = .bool false ∧ Blk wx w.heap.size 57 #[.int .i64 kind, S key, S value, .int .i64 version] ∧ Below w.heap.size w wx)
      case first =>
        by_cases h1 : kk = 1
        · have hk1 : (kk == 1) = true := by simpa using h1
          clear h1
          go_region_held3 (fun w' => w'.cell? ⟨wr.heap.size, 0, none⟩ = some (.int .i64 kk) ∧ w'.cell? ⟨wr.heap.size, 1, none⟩ = some (S key) ∧ w'.cell? ⟨wr.heap.size, 2, none⟩ = some (S value) ∧ w'.cell? ⟨wr.heap.size, 3, none⟩ = some (.int .i64 version)) (exact ⟨hx.cell 0, hx.cell 1, hx.cell 2, hx.cell 3⟩)
            (first
            | (go_at_call 40; refine (q3.out _).mono ?_; rintro e wn ⟨rfl, hn⟩; have ho := Blk.grown (by exact ho) hn (by simp); have hx := Blk.grown (by exact hx) hn (by simp); have bx := below_grown0 (by first | exact bx | exact bx.drew) (by exact bx.size) hn)
            | (go_at_call 41; refine (q4.out _).mono ?_; rintro e wn ⟨rfl, hn⟩; have ho := Blk.grown (by exact ho) hn (by simp); have hx := Blk.grown (by exact hx) hn (by simp); have bx := below_grown0 (by first | exact bx | exact bx.drew) (by exact bx.size) hn)
            | (go_at_call 42; refine (q5.out _).mono ?_; rintro e wn ⟨rfl, hn⟩; have ho := Blk.grown (by exact ho) hn (by simp); have hx := Blk.grown (by exact hx) hn (by simp); have bx := below_grown0 (by first | exact bx | exact bx.drew) (by exact bx.size) hn)
            | (go_at_call 43; refine (q6.out _).mono ?_; rintro e wn ⟨rfl, hn⟩; have ho := Blk.grown (by exact ho) hn (by simp); have hx := Blk.grown (by exact hx) hn (by simp); have bx := below_grown0 (by first | exact bx | exact bx.drew) (by exact bx.size) hn)
            | (go_at_call 44; refine (q7.out _).mono ?_; rintro e wn ⟨rfl, hn⟩; have ho := Blk.grown (by exact ho) hn (by simp); have hx := Blk.grown (by exact hx) hn (by simp); have bx := below_grown0 (by first | exact bx | exact bx.drew) (by exact bx.size) hn))
          go_wp2_with fail
          go_meet
          exact ⟨by simp, ho, bx⟩
        · have hk1 : (kk == 1) = false := by simpa using h1
          clear h1
          obtain ⟨c0, c1, c2, c3, _⟩ := hx.c4
          go_region_with
            (first
            | (go_at_call 40; refine (q3.out _).mono ?_; rintro e wn ⟨rfl, hn⟩; have ho := Blk.grown (by exact ho) hn (by simp); have hx := Blk.grown (by exact hx) hn (by simp); have bx := below_grown0 (by first | exact bx | exact bx.drew) (by exact bx.size) hn; obtain ⟨c0, c1, c2, c3, _⟩ := hx.c4)
            | (go_at_call 41; refine (q4.out _).mono ?_; rintro e wn ⟨rfl, hn⟩; have ho := Blk.grown (by exact ho) hn (by simp); have hx := Blk.grown (by exact hx) hn (by simp); have bx := below_grown0 (by first | exact bx | exact bx.drew) (by exact bx.size) hn; obtain ⟨c0, c1, c2, c3, _⟩ := hx.c4)
            | (go_at_call 42; refine (q5.out _).mono ?_; rintro e wn ⟨rfl, hn⟩; have ho := Blk.grown (by exact ho) hn (by simp); have hx := Blk.grown (by exact hx) hn (by simp); have bx := below_grown0 (by first | exact bx | exact bx.drew) (by exact bx.size) hn; obtain ⟨c0, c1, c2, c3, _⟩ := hx.c4)
            | (go_at_call 43; refine (q6.out _).mono ?_; rintro e wn ⟨rfl, hn⟩; have ho := Blk.grown (by exact ho) hn (by simp); have hx := Blk.grown (by exact hx) hn (by simp); have bx := below_grown0 (by first | exact bx | exact bx.drew) (by exact bx.size) hn; obtain ⟨c0, c1, c2, c3, _⟩ := hx.c4)
            | (go_at_call 44; refine (q7.out _).mono ?_; rintro e wn ⟨rfl, hn⟩; have ho := Blk.grown (by exact ho) hn (by simp); have hx := Blk.grown (by exact hx) hn (by simp); have bx := below_grown0 (by first | exact bx | exact bx.drew) (by exact bx.size) hn; obtain ⟨c0, c1, c2, c3, _⟩ := hx.c4))
          all_goals
            go_wp2_with fail
            go_meet
            exact ⟨by simp, ho, bx⟩
      obtain ⟨rfl, ho4, b4⟩ := hcut
      go_wp2
      go_roundg (7 - (k + 1))
      case measure => omega
      case rel => exact ⟨k + 1, by omega, rfl, by go_num, ho4, b4⟩
    · go_wp2_with fail
      refine (told_any _).mono ?_
      rintro e w2 ⟨rfl, h2⟩
      go_wp2
      go_ret
      exact ⟨rfl, hbr.trans (h2.mono hbr.size)⟩

theorem walk (w : World) (kind : Int) (_ : (Lit.int .i64 kind).wf = true) (key : ByteArray) (_ : key.size ≤ maxLen) (value : ByteArray) (_ : value.size ≤ maxLen) (version : Int) (_ : (Lit.int .i64 version).wf = true) :
    Calls Try.prog 10 #[.agg #[.int .i64 kind, .string key, .string value, .int .i64 version]] w fun e w' => e = .returned (.bool true) ∧ Below w.heap.size w w' := by
  obtain ⟨k, rfl, _⟩ := toS key
  obtain ⟨v, rfl, _⟩ := toS value
  by_cases h : 300 < k.length ∨ 300 < v.length
  · exact great ⟨kind, k, v, version⟩ w h
  · exact play ⟨kind, k, v, version⟩ w (by show k.length ≤ 300; omega) (by show v.length ≤ 300; omega)
end Go.Proofs.Ytkiebhdhknaijaa.lawOpsTell
