/-
  The walk of SlotsOnce. No condition.
-/
import Derived.Test.YtcogbepdjegheaaSlotsSame
import Derived.Test.YtcogbepdjegheaaRead
namespace Go.Proofs.Ytcogbepdjegheaa.lawSlotsOnce
open Go.Proofs.Ytcogbepdjegheaa Go.RowKit

abbrev outL : List LeafP := [intL .i64, intL .i64, intL .i64, strL, intL .i64, intL .i64]

/-- What lies in a row. -/
theorem row_at {w : World} {a : Option Addr} {n : Nat} (h : RowsAt outL w a n) (i : Nat) (hi : i < n) : ∃ (b off : Nat) (o : OutM), a = some ⟨b, off, none⟩ ∧ b < w.heap.size ∧
    ∀ w', w.grownBy w' none → w'.cell? ⟨b, off + i * 6, none⟩ = some (.int .i64 o.kind) ∧ w'.cell? ⟨b, off + i * 6 + 1, none⟩ = some (.int .i64 o.reason) ∧ w'.cell? ⟨b, off + i * 6 + 2, none⟩ = some (.int .i64 o.code) ∧
      w'.cell? ⟨b, off + i * 6 + 3, none⟩ = some (S o.value) ∧ w'.cell? ⟨b, off + i * 6 + 4, none⟩ = some (.int .i64 o.version) ∧ w'.cell? ⟨b, off + i * 6 + 5, none⟩ = some (.int .i64 o.at_) := by
  obtain ⟨b, off, rfl, hb, hx⟩ := h (by omega)
  obtain ⟨cs, hall, hat⟩ := hx i hi
  obtain ⟨_, _, rfl, ⟨n0, rfl, w0⟩, m1⟩ := hall.cons_
  obtain ⟨_, _, rfl, ⟨n1, rfl, w1⟩, m2⟩ := m1.cons_
  obtain ⟨_, _, rfl, ⟨n2, rfl, w2⟩, m3⟩ := m2.cons_
  obtain ⟨_, _, rfl, ⟨⟨⟨s3⟩⟩, rfl, w3⟩, m4⟩ := m3.cons_
  obtain ⟨_, _, rfl, ⟨n4, rfl, w4⟩, m5⟩ := m4.cons_
  obtain ⟨_, _, rfl, ⟨n5, rfl, w5⟩, m6⟩ := m5.cons_
  obtain rfl := m6.nil_
  refine ⟨b, off, ⟨n0, n1, n2, s3, n4, n5⟩, rfl, hb, fun w' hg => ?_⟩
  have key : ∀ (j : Nat) u, [Value.int .i64 n0, .int .i64 n1, .int .i64 n2, .string ⟨⟨s3⟩⟩, .int .i64 n4, .int .i64 n5][j]? = some u → w'.cell? ⟨b, off + i * 6 + j, none⟩ = some u := fun j u hu => by
    rw [World.cell?_of_block (w := w) (hg.block b hb (by simp))]
    exact hat j u hu
  exact ⟨key 0 _ rfl, key 1 _ rfl, key 2 _ rfl, key 3 _ rfl, key 4 _ rfl, key 5 _ rfl⟩

theorem and3 (x : Int) : 0 ≤ bits .and .i64 x 3 ∧ bits .and .i64 x 3 ≤ 3 := by
  have h : ((BitVec.ofInt IntKind.i64.bits x) &&& (BitVec.ofInt IntKind.i64.bits 3)).toNat ≤ 3 := by rw [BitVec.toNat_and]; exact Nat.and_le_right
  have e : bits .and .i64 x 3 = IntKind.i64.wrap ((((BitVec.ofInt IntKind.i64.bits x) &&& (BitVec.ofInt IntKind.i64.bits 3)).toNat : Nat) : Int) := rfl
  rw [e]
  generalize ((BitVec.ofInt IntKind.i64.bits x) &&& (BitVec.ofInt IntKind.i64.bits 3)).toNat = n at h
  obtain rfl | rfl | rfl | rfl : n = 0 ∨ n = 1 ∨ n = 2 ∨ n = 3 := by omega
  all_goals decide

theorem brought (x : Int) : 1 ≤ wrap64 (1 + (bits .and .i64 x 3).tmod 3) ∧ wrap64 (1 + (bits .and .i64 x 3).tmod 3) ≤ 3 := by
  obtain ⟨h0, h3⟩ := and3 x
  rw [Int.tmod_eq_emod_of_nonneg h0]
  unfold wrap64
  omega

def Rel (w : World) (n g : Nat) (o : OutM) (k : Nat) (i : Value) (wr : World) : Prop :=
  ∃ j : Nat, i = .int .i64 j ∧ j + k = n ∧ w.grownBy wr none ∧ Blk wr w.heap.size 43 o.cells ∧ Blk wr g 62 (slotC true 1 o)

set_option maxRecDepth 100000 in
set_option maxHeartbeats 6400000 in
theorem core (o : OutM) (a : Option Addr) (n c : Nat) (w : World) (hn : n ≤ c) (hr : RowsAt outL w a n) :
    Calls Try.prog 6 #[outV o, .slice a n c] w fun e w' => e = .returned (.bool true) ∧ w.grownBy w' none := by
  by_cases h60 : 60 < n
  · have b60 : decide ((60 : Int) < n) = true := by simp; omega
    obtain ⟨kind, reason, code, value, version, at_⟩ := o
    simp only [outV, OutM.cells]
    go_enter Try.func6, Try.ntmps6
    go_wp2_with fail
    refine (once_any _).mono ?_
    rintro e w1 ⟨rfl, h1⟩
    go_wp2
    go_ret
    exact ⟨rfl, only_trans (only_alloc (only_refl _ _) _) h1⟩
  have b60 : decide ((60 : Int) < n) = false := by simp; omega
  obtain ⟨kind, reason, code, value, version, at_⟩ := o
  simp only [outV, OutM.cells]
  go_enter Try.func6, Try.ntmps6
  go_wp2_with fail
  refine (new_any _).mono ?_
  rintro e w1 ⟨g, rfl, hg, hg1, h1⟩
  obtain ⟨q1, q3⟩ := brought kind
  generalize wrap64 (1 + (bits .and .i64 kind 3).tmod 3) = kind' at q1 q3 h1 ⊢
  have hb1 := (Blk.new w 43 #[.int .i64 kind', .int .i64 reason, .int .i64 code, S value, .int .i64 version, .int .i64 at_]).grown h1 (by simp)
  have gr1 := only_trans (only_alloc (only_refl _ _) _) h1
  have hle : w.heap.size ≤ g := by have := hg; simp at this; omega
  obtain ⟨c0, c1, c2, c3, c4, c5, _⟩ := hb1.c6
  go_wp2_with fail
  refine (set_first g ⟨kind', reason, code, value, version, at_⟩ _ hg1 q1 q3).mono ?_
  rintro e w2 ⟨rfl, hg2, h2⟩
  have hb2 := hb1.grown h2 (by have := hb1.ne_ hg1 (by decide); simpa using this)
  have gr2 := only_grown_new gr1 h2 hle
  clear c0 c1 c2 c3 c4 c5
  go_wp2_with fail
  go_loopg [6] n (fun k i wr => Rel w n g ⟨kind', reason, code, value, version, at_⟩ k i wr)
  case atStart => exact ⟨0, rfl, by omega, gr2, hb2, hg2⟩
  case round =>
    obtain ⟨j, rfl, hj, gr, hb, hgs⟩ := hrel
    by_cases hjn : j < n
    · have lj : decide ((j : Int) < n) = true := by simpa using hjn
      obtain ⟨b, off, p, rfl, hblt, hcell⟩ := row_at hr j hjn
      go_wp2_with fail
      refine (get_set' g _ _ _ _ _ _ _ hgs).mono ?_
      rintro e w3 ⟨rfl, h3⟩
      obtain ⟨r0, r1, r2, r3, r4, r5⟩ := hcell _ (only_alloc (only_trans gr h3) (.cells #[.int .i64 kind', .int .i64 reason, .int .i64 code, S value, .int .i64 version, .int .i64 at_] 43))
      have hw : IntKind.i64.wrap ((j : Int) + 1) = (j : Int) + 1 := IntWalk.i64_in _ (by omega)
      have hg3 := (hgs.grown h3 (by simp)).alloc (.cells #[.int .i64 kind', .int .i64 reason, .int .i64 code, S value, .int .i64 version, .int .i64 at_] 43)
      have hb3 := (hb.grown h3 (by simp)).alloc (.cells #[.int .i64 kind', .int .i64 reason, .int .i64 code, S value, .int .i64 version, .int .i64 at_] 43)
      have hp3 := Blk.new w3 43 #[.int .i64 kind', .int .i64 reason, .int .i64 code, S value, .int .i64 version, .int .i64 at_]
      have gr3 := only_alloc (only_trans gr h3) (.cells #[.int .i64 kind', .int .i64 reason, .int .i64 code, S value, .int .i64 version, .int .i64 at_] 43)
      go_wp2_with fail
      refine (set_done g _ p _ hg3).mono ?_
      rintro e w4 ⟨rfl, h4⟩
      have hg4 := hg3.grown h4 (by simp)
      have hb4 := hb3.grown h4 (by simp)
      have hp4 := hp3.grown h4 (by simp)
      obtain ⟨c0, c1, c2, c3, c4, c5, _⟩ := hb4.c6
      obtain ⟨d0, d1, d2, d3, d4, d5, _⟩ := hp4.c6
      go_wp2
      go_roundg (n - (j + 1))
      case measure => omega
      case rel => exact ⟨j + 1, by simp, by omega, only_trans gr3 h4, hb4, hg4⟩
    · obtain rfl : j = n := by omega
      have lj : decide ((j : Int) < j) = false := by simp
      go_wp2_with fail
      refine (get_set' g _ _ _ _ _ _ _ hgs).mono ?_
      rintro e w3 ⟨rfl, h3⟩
      have hg3 := (hgs.grown h3 (by simp)).alloc (.cells #[.int .i64 kind', .int .i64 reason, .int .i64 code, S value, .int .i64 version, .int .i64 at_] 43)
      have hb3 := (hb.grown h3 (by simp)).alloc (.cells #[.int .i64 kind', .int .i64 reason, .int .i64 code, S value, .int .i64 version, .int .i64 at_] 43)
      have hp3 := Blk.new w3 43 #[.int .i64 kind', .int .i64 reason, .int .i64 code, S value, .int .i64 version, .int .i64 at_]
      have gr3 := only_alloc (only_trans gr h3) (.cells #[.int .i64 kind', .int .i64 reason, .int .i64 code, S value, .int .i64 version, .int .i64 at_] 43)
      obtain ⟨c0, c1, c2, c3, c4, c5, _⟩ := hb3.c6
      go_wp2_with fail
      refine (set_done g _ ⟨kind', reason, code, value, version, at_⟩ _ hg3).mono ?_
      rintro e w4 ⟨rfl, h4⟩
      have hg4 := hg3.grown h4 (by simp)
      have hb4 := hb3.grown h4 (by simp)
      have hp4 := hp3.grown h4 (by simp)
      clear c0 c1 c2 c3 c4 c5
      obtain ⟨c0, c1, c2, c3, c4, c5, _⟩ := hb4.c6
      obtain ⟨d0, d1, d2, d3, d4, d5, _⟩ := hp4.c6
      go_wp2_with fail
      refine (once_any _).mono ?_
      rintro e w5 ⟨rfl, h5⟩
      go_wp2
      go_ret
      exact ⟨rfl, only_trans (only_trans gr3 h4) h5⟩

theorem walk (w : World) (n0 : Int) (_ : (Lit.int .i64 n0).wf = true) (n1 : Int) (_ : (Lit.int .i64 n1).wf = true) (n2 : Int) (_ : (Lit.int .i64 n2).wf = true) (s3 : ByteArray) (_ : s3.size ≤ maxLen)
    (n4 : Int) (_ : (Lit.int .i64 n4).wf = true) (n5 : Int) (_ : (Lit.int .i64 n5).wf = true) (a : Option Addr) (n c : Nat) (hn : n ≤ c) (_ : c ≤ maxLen) (hr : RowsAt outL w a n) :
    Calls Try.prog 6 #[.agg #[.int .i64 n0, .int .i64 n1, .int .i64 n2, .string s3, .int .i64 n4, .int .i64 n5], .slice a n c] w fun e w' => e = .returned (.bool true) ∧ Below w.heap.size w w' := by
  obtain ⟨⟨v⟩⟩ := s3
  exact (core ⟨n0, n1, n2, v, n4, n5⟩ a n c w hn hr).mono fun e w' ⟨h, k⟩ => ⟨h, below_of_only k⟩
end Go.Proofs.Ytcogbepdjegheaa.lawSlotsOnce
