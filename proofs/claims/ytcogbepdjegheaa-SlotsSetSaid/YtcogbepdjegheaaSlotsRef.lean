/-
  The document's First. No condition.
-/
import Derived.Test.YtcogbepdjegheaaSlotsSame
import Derived.Test.YtcogbepdjegheaaRead
namespace Go.Proofs.Ytcogbepdjegheaa
open Go.RowKit

abbrev outL : List LeafP := [intL .i64, intL .i64, intL .i64, strL, intL .i64, intL .i64]

/-- An outcome's cells from a place on. -/
def OutAt (w : World) (b off : Nat) (o : OutM) : Prop :=
  w.cell? ⟨b, off, none⟩ = some (.int .i64 o.kind) ∧ w.cell? ⟨b, off + 1, none⟩ = some (.int .i64 o.reason) ∧ w.cell? ⟨b, off + 2, none⟩ = some (.int .i64 o.code) ∧
      w.cell? ⟨b, off + 3, none⟩ = some (S o.value) ∧ w.cell? ⟨b, off + 4, none⟩ = some (.int .i64 o.version) ∧ w.cell? ⟨b, off + 5, none⟩ = some (.int .i64 o.at_)
theorem OutAt.grown {w w' : World} {b off : Nat} {o : OutM} (h : OutAt w b off o) (hg : w.grownBy w' none) (hb : b < w.heap.size) : OutAt w' b off o := by
  have key : ∀ j, w'.cell? ⟨b, j, none⟩ = w.cell? ⟨b, j, none⟩ := fun j => World.cell?_of_block (w := w) (hg.block b hb (by simp))
  simpa only [OutAt, key] using h

/-- The rows, as outcomes. -/
theorem rows_out {w : World} {a : Option Addr} {n : Nat} (h : RowsAt outL w a n) : ∃ os : Nat → OutM, ∀ i, i < n → ∃ b off, a = some ⟨b, off, none⟩ ∧ b < w.heap.size ∧ OutAt w b (off + i * 6) (os i) := by
  have key : ∀ i, ∃ o : OutM, i < n → ∃ b off, a = some ⟨b, off, none⟩ ∧ b < w.heap.size ∧ OutAt w b (off + i * 6) o := fun i => by
    by_cases hi : i < n
    · obtain ⟨b, off, rfl, hb, hx⟩ := h (by omega)
      obtain ⟨cs, hall, hat⟩ := hx i hi
      obtain ⟨_, _, rfl, ⟨n0, rfl, w0⟩, m1⟩ := hall.cons_
      obtain ⟨_, _, rfl, ⟨n1, rfl, w1⟩, m2⟩ := m1.cons_
      obtain ⟨_, _, rfl, ⟨n2, rfl, w2⟩, m3⟩ := m2.cons_
      obtain ⟨_, _, rfl, ⟨⟨⟨s3⟩⟩, rfl, w3⟩, m4⟩ := m3.cons_
      obtain ⟨_, _, rfl, ⟨n4, rfl, w4⟩, m5⟩ := m4.cons_
      obtain ⟨_, _, rfl, ⟨n5, rfl, w5⟩, m6⟩ := m5.cons_
      obtain rfl := m6.nil_
      exact ⟨⟨n0, n1, n2, s3, n4, n5⟩, fun _ => ⟨b, off, rfl, hb, hat 0 _ rfl, hat 1 _ rfl, hat 2 _ rfl, hat 3 _ rfl, hat 4 _ rfl, hat 5 _ rfl⟩⟩
    · exact ⟨noOut, fun h => absurd h hi⟩
  exact ⟨fun i => (key i).choose, fun i => (key i).choose_spec⟩

def mayO (o : OutM) : Bool := decide (1 ≤ o.kind) && decide (o.kind ≤ 3)
/-- The first that may be, of k from i on. -/
def firstO (os : Nat → OutM) : Nat → Nat → OutM × Bool
  | _, 0 => (noOut, false)
  | i, k + 1 => if mayO (os i) then (os i, true) else firstO os (i + 1) k
theorem firstO_none (os : Nat → OutM) : ∀ k i, (firstO os i k).2 = false → (firstO os i k).1 = noOut
  | 0, _, _ => rfl
  | k + 1, i, h => by
    rw [firstO] at h ⊢
    split
    · rename_i hm; simp [hm] at h
    · rename_i hm; simp [hm] at h; exact firstO_none os k (i + 1) h
theorem firstO_more (os : Nat → OutM) : ∀ k i, firstO os i (k + 1) = if (firstO os i k).2 then firstO os i k else firstO os (i + k) 1
  | 0, i => by simp [firstO]
  | k + 1, i => by
    have e1 : firstO os i (k + 1 + 1) = if mayO (os i) then (os i, true) else firstO os (i + 1) (k + 1) := rfl
    have e2 : firstO os i (k + 1) = if mayO (os i) then (os i, true) else firstO os (i + 1) k := rfl
    rw [e1, e2, firstO_more os k (i + 1), show i + (k + 1) = i + 1 + k by omega]
    by_cases h : mayO (os i) = true <;> simp [h]

def FRel (w : World) (os : Nat → OutM) (m g : Nat) (k : Nat) (i : Value) (wr : World) : Prop :=
  ∃ j : Nat, i = .int .i64 j ∧ j + k = m ∧ w.grownBy wr none ∧ Blk wr g 43 noOut.cells ∧ firstO os 0 m = firstO os j k

set_option maxRecDepth 100000 in
set_option maxHeartbeats 6400000 in
theorem first_any (a : Option Addr) (m c : Nat) (os : Nat → OutM) (w : World) (hm : m < 1000)
    (hr : ∀ i, i < m → ∃ b off, a = some ⟨b, off, none⟩ ∧ b < w.heap.size ∧ OutAt w b (off + i * 6) (os i)) :
    Calls Try.prog 24 #[.slice a m c] w fun e w' => e = .returned (.tuple #[outV (firstO os 0 m).1, .bool (firstO os 0 m).2]) ∧ w.grownBy w' none := by
  go_enter Try.func24, Try.ntmps24
  go_wp2_with fail
  go_loopg [4] m (fun k i wr => FRel w os m w.heap.size k i wr)
  case atStart => exact ⟨0, rfl, by omega, only_alloc (only_refl _ _) _, Blk.new _ _ _, rfl⟩
  case round =>
    obtain ⟨j, rfl, hj, gr, hb, he⟩ := hrel
    obtain ⟨c0, c1, c2, c3, c4, c5, f0, f1, f2, f3, f4, f5⟩ := hb.c6
    by_cases hjm : j < m
    · have lj : decide ((j : Int) < m) = true := by simpa using hjm
      obtain ⟨b, off, rfl, hblt, hcell⟩ := hr j hjm
      obtain ⟨r0, r1, r2, r3, r4, r5⟩ := hcell.grown gr hblt
      have hw : IntKind.i64.wrap ((j : Int) + 1) = (j : Int) + 1 := IntWalk.i64_in _ (by omega)
      obtain ⟨k, rfl⟩ : ∃ k, gk = k + 1 := ⟨gk - 1, by omega⟩
      rw [firstO] at he
      by_cases hmay : mayO (os j) = true
      · rw [if_pos hmay] at he
        simp [mayO] at hmay
        have m1 : decide (1 ≤ (os j).kind) = true := by simpa using hmay.1
        have m3 : decide ((os j).kind ≤ 3) = true := by simpa using hmay.2
        go_wp2
        have hb2 := (((((hb.set_ 0 (.int .i64 (os j).kind)).set_ 1 (.int .i64 (os j).reason)).set_ 2 (.int .i64 (os j).code)).set_ 3 (S (os j).value)).set_ 4 (.int .i64 (os j).version)).set_ 5 (.int .i64 (os j).at_)
        simp [OutM.cells] at hb2
        obtain ⟨d0, d1, d2, d3, d4, d5, _⟩ := hb2.c6
        refine bodyPost_ret (v := .tuple #[outV (os j), .bool true]) (by simp [results, Try.results24, go_sem, d0, d1, d2, d3, d4, d5, OutM.cells]) rfl ⟨by rw [he], ?_⟩
        have le0 : w.heap.size ≤ w.heap.size := Nat.le_refl _
        exact only_set_new (only_set_new (only_set_new (only_set_new (only_set_new (only_set_new gr (p := ⟨w.heap.size, 0, none⟩) le0 _) (p := ⟨w.heap.size, 1, none⟩) le0 _) (p := ⟨w.heap.size, 2, none⟩) le0 _) (p := ⟨w.heap.size, 3, none⟩) le0 _) (p := ⟨w.heap.size, 4, none⟩) le0 _) (p := ⟨w.heap.size, 5, none⟩) le0 _
      · rw [if_neg hmay] at he
        by_cases h1 : 1 ≤ (os j).kind
        · have m1 : decide (1 ≤ (os j).kind) = true := by simpa using h1
          have m3 : decide ((os j).kind ≤ 3) = false := by simp [mayO, h1] at hmay; simpa using hmay
          go_wp2
          go_roundg k
          case measure => omega
          case rel => exact ⟨j + 1, by simp, by omega, gr, hb, he⟩
        · have m1 : decide (1 ≤ (os j).kind) = false := by simpa using h1
          go_wp2
          go_roundg k
          case measure => omega
          case rel => exact ⟨j + 1, by simp, by omega, gr, hb, he⟩
    · obtain rfl : j = m := by omega
      obtain rfl : gk = 0 := by omega
      have lj : decide ((j : Int) < j) = false := by simp
      go_wp2
      have hb2 := (((((hb.set_ 0 (.int .i64 0)).set_ 1 (.int .i64 0)).set_ 2 (.int .i64 0)).set_ 3 (S [])).set_ 4 (.int .i64 0)).set_ 5 (.int .i64 0)
      simp [OutM.cells] at hb2
      obtain ⟨d0, d1, d2, d3, d4, d5, _⟩ := hb2.c6
      refine bodyPost_ret (v := .tuple #[outV noOut, .bool false]) (by simp [results, Try.results24, go_sem, d0, d1, d2, d3, d4, d5, OutM.cells, noOut]) rfl ⟨by rw [he, firstO], ?_⟩
      have le0 : w.heap.size ≤ w.heap.size := Nat.le_refl _
      exact only_set_new (only_set_new (only_set_new (only_set_new (only_set_new (only_set_new gr (p := ⟨w.heap.size, 0, none⟩) le0 _) (p := ⟨w.heap.size, 1, none⟩) le0 _) (p := ⟨w.heap.size, 2, none⟩) le0 _) (p := ⟨w.heap.size, 3, none⟩) le0 _) (p := ⟨w.heap.size, 4, none⟩) le0 _) (p := ⟨w.heap.size, 5, none⟩) le0 _
end Go.Proofs.Ytcogbepdjegheaa
