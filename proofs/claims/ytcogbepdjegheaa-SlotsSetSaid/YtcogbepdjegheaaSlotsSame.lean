/-
  same and once: what the law asks of a slot. No condition.
-/
import Derived.Test.YtcogbepdjegheaaSlotsDo
import Derived.Deep.Light
namespace Go.Proofs.Ytcogbepdjegheaa
open Go.RowKit

set_option maxRecDepth 100000 in
set_option maxHeartbeats 1600000 in
theorem same_of (o : OutM) (ok : Bool) (s : Value) (w : World)
    (hG : ∀ W, w.grownBy W none → Calls Try.prog 27 #[s] W fun e w' => e = .returned (.tuple #[outV o, .bool ok]) ∧ W.grownBy w' none) :
    Calls Try.prog 25 #[s, outV o, .bool ok] w fun e w' => e = .returned (.bool true) ∧ w.grownBy w' none := by
  have hG := Lib.hid hG
  obtain ⟨kind, reason, code, value, version, at_⟩ := o
  simp only [outV, OutM.cells] at hG ⊢
  go_enter Try.func25, Try.ntmps25
  go_wp2_with fail
  refine (hG.out _ (only_alloc (only_refl _ _) _)).mono ?_
  rintro e w1 ⟨rfl, h1⟩
  have hb := (Blk.new w 43 #[.int .i64 kind, .int .i64 reason, .int .i64 code, S value, .int .i64 version, .int .i64 at_]).grown h1 (by simp)
  have hlt := hb.lt
  obtain ⟨c0, c1, c2, c3, c4, c5, _⟩ := hb.c6
  have hrow := hb
  go_wp2
  go_ret
  refine ⟨?_, only_alloc (only_trans (only_alloc (only_refl _ _) _) h1) _⟩
  simp

theorem only_grown_new {a w w' : World} {g : Nat} (h : a.grownBy w none) (k : w.grownBy w' (some g)) (hg : a.heap.size ≤ g) : a.grownBy w' none :=
  only_of_below (below_grown (below_of_only h) h.size k hg) none
theorem get_set' (g : Nat) (kind reason code : Int) (value : List UInt8) (version at_ : Int) (w : World) (hg : Blk w g 62 (slotC true 1 ⟨kind, reason, code, value, version, at_⟩)) :
    Calls Try.prog 27 #[.pointer (some ⟨g, 0, none⟩)] w fun e w' =>
      e = .returned (.tuple #[.agg #[.int .i64 kind, .int .i64 reason, .int .i64 code, S value, .int .i64 version, .int .i64 at_], .bool true]) ∧ w.grownBy w' none := get_set g _ w hg
theorem get_unset' (g : Nat) (made : Bool) (o : OutM) (w : World) (hg : Blk w g 62 (slotC made 0 o)) :
    Calls Try.prog 27 #[.pointer (some ⟨g, 0, none⟩)] w fun e w' =>
      e = .returned (.tuple #[.agg #[.int .i64 0, .int .i64 0, .int .i64 0, S [], .int .i64 0, .int .i64 0], .bool false]) ∧ w.grownBy w' none := get_unset g made o w hg

set_option maxRecDepth 100000 in
set_option maxHeartbeats 3200000 in
theorem once_any (w : World) : Calls Try.prog 22 #[] w fun e w' => e = .returned (.bool true) ∧ w.grownBy w' none := by
  go_enter Try.func22, Try.ntmps22
  go_wp2_with fail
  refine (new_any _).mono ?_
  rintro e w1 ⟨g, rfl, hle, hg1, h1⟩
  go_wp2_with fail
  refine (get_unset' g true noOut _ hg1).mono ?_
  rintro e w2 ⟨rfl, h2⟩
  have hg2 := hg1.grown h2 (by simp)
  go_wp2_with fail
  refine (set_bad g true 0 noOut noOut _ (hg2.alloc _) (.inr (by simp [noOut]))).mono ?_
  rintro e w3 ⟨rfl, h3⟩
  have hg3 := (hg2.alloc _).grown h3 (by simp)
  go_wp2_with fail
  refine (set_first g ⟨3, 0, 0, [], 0, 0⟩ _ hg3 (by simp) (by simp)).mono ?_
  rintro e w4 ⟨rfl, hg4, h4⟩
  go_wp2_with fail
  refine (set_done g _ ⟨1, 0, 0, [], 0, 0⟩ _ hg4).mono ?_
  rintro e w5 ⟨rfl, h5⟩
  have hg5 := hg4.grown h5 (by simp)
  go_wp2_with fail
  refine (get_set' g _ _ _ _ _ _ _ hg5).mono ?_
  rintro e w6 ⟨rfl, h6⟩
  go_wp2
  go_ret
  refine ⟨rfl, only_alloc (only_trans (only_trans (only_grown_new (only_trans (only_alloc (only_trans h1 h2) _) h3) h4 hle) h5) h6) _⟩
end Go.Proofs.Ytcogbepdjegheaa
