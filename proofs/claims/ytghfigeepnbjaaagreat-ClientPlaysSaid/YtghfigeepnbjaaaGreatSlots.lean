/-
  The walks over the slots. No condition.
-/
import Derived.Test.YtghfigeepnbjaaaGreatOnce
import Derived.Test.YtghfigeepnbjaaaGreatP7
import Derived.Lib.Hide
namespace Go.Proofs.YtghfigeepnbjaaaGreat
open Go.RowKit

/-- An outcome. -/
structure OutM where
  kind : Int
  reason : Int
  code : Int
  value : List UInt8
  version : Int
  at_ : Int
def OutM.cells (o : OutM) : Array Value := #[.int .i64 o.kind, .int .i64 o.reason, .int .i64 o.code, S o.value, .int .i64 o.version, .int .i64 o.at_]
def noOut : OutM := ⟨0, 0, 0, [], 0, 0⟩
/-- A slot: made, done and set go together, the lock is free. -/
def slotC (made : Bool) (d : Int) (o : OutM) : Array Value :=
  #[.bool made, .int .u32 d, .int .i32 0, .int .u32 0, .int .u32 d, .int .i64 o.kind, .int .i64 o.reason, .int .i64 o.code, S o.value, .int .i64 o.version, .int .i64 o.at_]

set_option maxRecDepth 100000 in
set_option maxHeartbeats 1600000 in
/-- The function that Set hands to Do. -/
theorem clo (g bo bs bf : Nat) (o : OutM) (x0 x1 x2 x3 x4 x5 x6 x7 x8 x9 x10 : Value) (w : World) (hg : Blk w g 120 #[x0, x1, x2, x3, x4, x5, x6, x7, x8, x9, x10]) (ho : Blk w bo 70 o.cells)
    (hs : Blk w bs 76 #[.pointer (some ⟨g, 0, none⟩)]) (hf : Blk w bf 4 #[.bool false]) :
    Calls Tryz.prog 79 #[.pointer (some ⟨bo, 0, none⟩), .pointer (some ⟨bs, 0, none⟩), .pointer (some ⟨bf, 0, none⟩)] w fun e w' => e = .returned (.tuple #[]) ∧
      Blk w' g 120 #[x0, x1, x2, x3, .int .u32 1, .int .i64 o.kind, .int .i64 o.reason, .int .i64 o.code, S o.value, .int .i64 o.version, .int .i64 o.at_] ∧ Blk w' bf 4 #[.bool true] ∧ Fr (fun k => k = g ∨ k = bf) w w' := by
  obtain ⟨o0, o1, o2, o3, o4, o5, _⟩ := ho.c6
  obtain ⟨s0, sf0⟩ := hs.c1
  obtain ⟨f0, ff0⟩ := hf.c1
  have g4 := hg.cell 4
  have g5 := hg.cell 5
  have g6 := hg.cell 6
  have g7 := hg.cell 7
  have g8 := hg.cell 8
  have g9 := hg.cell 9
  have g10 := hg.cell 10
  simp at g4 g5 g6 g7 g8 g9 g10
  have z4 := hg.frozen 4
  have z5 := hg.frozen 5
  have z6 := hg.frozen 6
  have z7 := hg.frozen 7
  have z8 := hg.frozen 8
  have z9 := hg.frozen 9
  have z10 := hg.frozen 10
  have n1 : g ≠ bs := hg.ne_ hs (by decide)
  have n2 : g ≠ bf := hg.ne_ hf (by decide)
  have n3 : bs ≠ bf := hs.ne_ hf (by decide)
  have n4 : g ≠ bo := hg.ne_ ho (by decide)
  go_enter Tryz.func79, Tryz.ntmps79
  go_wp2_with fail
  have hg6 := (((((hg.set_ 5 (.int .i64 o.kind)).set_ 6 (.int .i64 o.reason)).set_ 7 (.int .i64 o.code)).set_ 8 (S o.value)).set_ 9 (.int .i64 o.version)).set_ 10 (.int .i64 o.at_)
  have hs6 := (((((hs.far (p := ⟨g, 5, none⟩) (Ne.symm n1) (.int .i64 o.kind)).far (p := ⟨g, 6, none⟩) (Ne.symm n1) (.int .i64 o.reason)).far (p := ⟨g, 7, none⟩) (Ne.symm n1) (.int .i64 o.code)).far (p := ⟨g, 8, none⟩) (Ne.symm n1) (S o.value)).far (p := ⟨g, 9, none⟩) (Ne.symm n1) (.int .i64 o.version)).far (p := ⟨g, 10, none⟩) (Ne.symm n1) (.int .i64 o.at_)
  have hf6 := (((((hf.far (p := ⟨g, 5, none⟩) (Ne.symm n2) (.int .i64 o.kind)).far (p := ⟨g, 6, none⟩) (Ne.symm n2) (.int .i64 o.reason)).far (p := ⟨g, 7, none⟩) (Ne.symm n2) (.int .i64 o.code)).far (p := ⟨g, 8, none⟩) (Ne.symm n2) (S o.value)).far (p := ⟨g, 9, none⟩) (Ne.symm n2) (.int .i64 o.version)).far (p := ⟨g, 10, none⟩) (Ne.symm n2) (.int .i64 o.at_)
  have fr : Fr (fun k => k = g ∨ k = bf) w ((((((w.setCell ⟨g, 5, none⟩ (.int .i64 o.kind)).setCell ⟨g, 6, none⟩ (.int .i64 o.reason)).setCell ⟨g, 7, none⟩ (.int .i64 o.code)).setCell ⟨g, 8, none⟩ (S o.value)).setCell ⟨g, 9, none⟩ (.int .i64 o.version)).setCell ⟨g, 10, none⟩ (.int .i64 o.at_)) :=
    ((((((Fr.refl _ w).setCell (.inr (.inl rfl)) _).setCell (.inr (.inl rfl)) _).setCell (.inr (.inl rfl)) _).setCell (.inr (.inl rfl)) _).setCell (.inr (.inl rfl)) _).setCell (.inr (.inl rfl)) _
  refine (store_call ⟨g, 4, none⟩ x4 _ (hg6.cell 4) (hg6.frozen 4)).mono ?_
  rintro e w2 ⟨rfl, hw2⟩
  have hg7 : Blk w2 g 120 #[x0, x1, x2, x3, .int .u32 1, .int .i64 o.kind, .int .i64 o.reason, .int .i64 o.code, S o.value, .int .i64 o.version, .int .i64 o.at_] := by rw [hw2]; exact hg6.drew.set_ 4 _
  have hs7 : Blk w2 bs 76 #[.pointer (some ⟨g, 0, none⟩)] := by rw [hw2]; exact hs6.drew.far (p := ⟨g, 4, none⟩) (Ne.symm n1) _
  have hf7 : Blk w2 bf 4 #[.bool false] := by rw [hw2]; exact hf6.drew.far (p := ⟨g, 4, none⟩) (Ne.symm n2) _
  have fr7 : Fr (fun k => k = g ∨ k = bf) w w2 := by rw [hw2]; exact fr.drew.setCell (.inr (.inl rfl)) _
  clear hw2 hg6 hs6 hf6 fr
  obtain ⟨p0, pf0⟩ := hf7.c1
  go_wp2
  go_end0
  exact ⟨rfl, hg7.far n2 _, hf7.set_ 0 _, fr7.setCell (.inr (.inr rfl)) _⟩

end Go.Proofs.YtghfigeepnbjaaaGreat
