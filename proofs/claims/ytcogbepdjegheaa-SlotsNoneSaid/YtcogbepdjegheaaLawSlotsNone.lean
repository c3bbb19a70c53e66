/-
  The walk of SlotsNone. No condition.
-/
import Derived.Test.YtcogbepdjegheaaSlotsSame
namespace Go.Proofs.Ytcogbepdjegheaa.lawSlotsNone
open Go.Proofs.Ytcogbepdjegheaa Go.RowKit

def Rel (w : World) (cs : Array Value) (k : Nat) (s t : Value) (wr : World) : Prop :=
  w.grownBy wr none ∧ Blk wr w.heap.size 43 cs ∧
    ((k = 2 ∧ s = .pointer none ∧ t = .int .i64 0) ∨ (∃ g, k = 1 ∧ s = .pointer (some ⟨g, 0, none⟩) ∧ t = .int .i64 1 ∧ Blk wr g 62 (slotC false 0 noOut)) ∨ (∃ g, k = 0 ∧ s = .pointer (some ⟨g, 0, none⟩) ∧ t = .int .i64 2))

set_option maxRecDepth 100000 in
set_option maxHeartbeats 6400000 in
theorem core (o : OutM) (w : World) : Calls Try.prog 5 #[outV o] w fun e w' => e = .returned (.bool true) ∧ w.grownBy w' none := by
  obtain ⟨kind, reason, code, value, version, at_⟩ := o
  simp only [outV, OutM.cells]
  have S1 := Lib.hid (fun W h => same_of noOut false (.pointer none) W h)
  have S2 := Lib.hid (fun g W h => same_of noOut false (.pointer (some ⟨g, 0, none⟩)) W h)
  simp only [outV, OutM.cells, noOut] at S1 S2
  have hne : ∀ (g : Nat) (wr : World) (cs : Array Value), Blk wr w.heap.size 43 cs → Blk wr g 62 (slotC false 0 noOut) → w.heap.size ≠ g := fun g wr cs h k => h.ne_ k (by decide)
  go_enter Try.func5, Try.ntmps5
  go_wp2_with fail
  go_loopg [3, 4] 2 (fun k b t wr => Rel w #[.int .i64 kind, .int .i64 reason, .int .i64 code, S value, .int .i64 version, .int .i64 at_] k b t wr)
  case atStart => exact ⟨only_alloc (only_refl _ _) _, Blk.new _ _ _, .inl ⟨rfl, rfl, rfl⟩⟩
  case round =>
    obtain ⟨hgr, hb, ⟨rfl, rfl, rfl⟩ | ⟨g, rfl, rfl, rfl, hg⟩ | ⟨g, rfl, rfl, rfl⟩⟩ := hrel
    · obtain ⟨c0, c1, c2, c3, c4, c5, _⟩ := hb.c6
      go_wp2_with fail
      refine (set_nil ⟨kind, reason, code, value, version, at_⟩ _).mono ?_
      rintro e w1 ⟨rfl, h1⟩
      go_wp2_with fail
      refine (S1.out _ (fun W _ => get_nil W)).mono ?_
      rintro e w2 ⟨rfl, h2⟩
      go_wp2
      go_roundg 1
      case measure => omega
      case rel => exact ⟨only_alloc (only_trans (only_trans hgr h1) h2) _, (hb.grown (only_trans h1 h2) (by simp)).alloc _, .inr (.inl ⟨_, rfl, rfl, rfl, Blk.new _ _ _⟩)⟩
    · obtain ⟨c0, c1, c2, c3, c4, c5, _⟩ := hb.c6
      go_wp2_with fail
      refine (set_bad g false 0 noOut ⟨kind, reason, code, value, version, at_⟩ _ hg (.inl rfl)).mono ?_
      rintro e w1 ⟨rfl, h1⟩
      go_wp2_with fail
      refine (S2.out g _ (fun W hW => get_unset' g false noOut W ((hg.grown h1 (by simp)).grown hW (by simp)))).mono ?_
      rintro e w2 ⟨rfl, h2⟩
      go_wp2
      go_roundg 0
      case measure => omega
      case rel => exact ⟨only_alloc (only_trans (only_trans hgr h1) h2) _, (hb.grown (only_trans h1 h2) (by simp)).alloc _, .inr (.inr ⟨_, rfl, rfl, rfl⟩)⟩
    · go_wp2_with fail
      refine (new_any _).mono ?_
      rintro e w1 ⟨n, rfl, hn, hg1, h1⟩
      have hb1 := hb.grown h1 (by simp)
      have e0 := hb1.lt
      have n1 : w.heap.size ≠ n := hb1.ne_ hg1 (by decide)
      obtain ⟨c0, c1, c2, c3, c4, c5, f0, f1, f2, f3, f4, f5⟩ := hb1.c6
      have q0 := only_set_new (only_trans hgr h1) (p := ⟨w.heap.size, 0, none⟩) (Nat.le_refl _) (.int .i64 0)
      have hb2 := hb1.set_ 0 (.int .i64 0)
      have hg2 := hg1.far (p := ⟨w.heap.size, 0, none⟩) (Ne.symm n1) (.int .i64 0)
      go_wp2_with fail
      refine (set_bad n true 0 noOut ⟨0, reason, code, value, version, at_⟩ _ hg2 (.inr (by simp))).mono ?_
      rintro e w2 ⟨rfl, h2⟩
      have hb3 := hb2.grown h2 (by simp)
      have hg3 := hg2.grown h2 (by simp)
      go_wp2_with fail
      refine (S2.out n _ (fun W hW => get_unset' n true noOut W (hg3.grown hW (by simp)))).mono ?_
      rintro e w3 ⟨rfl, h3⟩
      have hb4 := hb3.grown h3 (by simp)
      have hg4 := hg3.grown h3 (by simp)
      have q1 := only_set_new (only_trans (only_trans q0 h2) h3) (p := ⟨w.heap.size, 0, none⟩) (Nat.le_refl _) (.int .i64 4)
      have hb5 := hb4.set_ 0 (.int .i64 4)
      have hg5 := hg4.far (p := ⟨w.heap.size, 0, none⟩) (Ne.symm n1) (.int .i64 4)
      clear c0 c1 c2 c3 c4 c5 f0 f1 f2 f3 f4 f5
      obtain ⟨c0, c1, c2, c3, c4, c5, f0, f1, f2, f3, f4, f5⟩ := hb4.c6
      go_wp2_with fail
      refine (set_bad n true 0 noOut ⟨4, reason, code, value, version, at_⟩ _ hg5 (.inr (by simp))).mono ?_
      rintro e w4 ⟨rfl, h4⟩
      have hg6 := hg5.grown h4 (by simp)
      go_wp2_with fail
      refine (S2.out n _ (fun W hW => get_unset' n true noOut W (hg6.grown hW (by simp)))).mono ?_
      rintro e w5 ⟨rfl, h5⟩
      go_wp2_with fail
      refine (once_any _).mono ?_
      rintro e w6 ⟨rfl, h6⟩
      go_wp2
      go_ret
      exact ⟨rfl, only_trans (only_trans (only_trans q1 h4) h5) h6⟩

theorem walk (w : World) (n0 : Int) (_ : (Lit.int .i64 n0).wf = true) (n1 : Int) (_ : (Lit.int .i64 n1).wf = true) (n2 : Int) (_ : (Lit.int .i64 n2).wf = true) (s3 : ByteArray) (_ : s3.size ≤ maxLen)
    (n4 : Int) (_ : (Lit.int .i64 n4).wf = true) (n5 : Int) (_ : (Lit.int .i64 n5).wf = true) :
    Calls Try.prog 5 #[.agg #[.int .i64 n0, .int .i64 n1, .int .i64 n2, .string s3, .int .i64 n4, .int .i64 n5]] w fun e w' => e = .returned (.bool true) ∧ Below w.heap.size w w' := by
  obtain ⟨⟨v⟩⟩ := s3
  exact (core ⟨n0, n1, n2, v, n4, n5⟩ w).mono fun e w' ⟨h, k⟩ => ⟨h, below_of_only k⟩
end Go.Proofs.Ytcogbepdjegheaa.lawSlotsNone
