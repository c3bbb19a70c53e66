/-
  The slow road of Do for the slots. No condition.
-/
import Derived.Test.YtghfigeepnbjaaaGreatSlots
namespace Go.Proofs.YtghfigeepnbjaaaGreat
open Go.RowKit

set_option maxRecDepth 100000 in
set_option maxHeartbeats 1600000 in
theorem slow_any (g bo bs bf : Nat) (o : OutM) (x0 x3 x4 x5 x6 x7 x8 x9 x10 : Value) (w : World) (hg : Blk w g 120 #[x0, .int .u32 0, .int .i32 0, x3, x4, x5, x6, x7, x8, x9, x10]) (ho : Blk w bo 70 o.cells)
    (hs : Blk w bs 76 #[.pointer (some ⟨g, 0, none⟩)]) (hf : Blk w bf 4 #[.bool false]) :
    Calls Tryz.prog 84 #[.pointer (some ⟨g, 1, none⟩), .func (.func 79) #[] #[.pointer (some ⟨bo, 0, none⟩), .pointer (some ⟨bs, 0, none⟩), .pointer (some ⟨bf, 0, none⟩)]] w fun e w' => e = .returned (.tuple #[]) ∧
      Blk w' g 120 #[x0, .int .u32 1, .int .i32 0, x3, .int .u32 1, .int .i64 o.kind, .int .i64 o.reason, .int .i64 o.code, S o.value, .int .i64 o.version, .int .i64 o.at_] ∧ Blk w' bf 4 #[.bool true] ∧ Fr (fun k => k = g ∨ k = bf) w w' := by
  have n1 : g ≠ bs := hg.ne_ hs (by decide)
  have n2 : g ≠ bf := hg.ne_ hf (by decide)
  have n4 : g ≠ bo := hg.ne_ ho (by decide)
  have hg1 := hg.set_ 2 (.int .i32 1)
  have ho1 := ho.far (p := ⟨g, 2, none⟩) (Ne.symm n4) (.int .i32 1)
  have hs1 := hs.far (p := ⟨g, 2, none⟩) (Ne.symm n1) (.int .i32 1)
  have hf1 := hf.far (p := ⟨g, 2, none⟩) (Ne.symm n2) (.int .i32 1)
  have fr1 : Fr (fun k => k = g ∨ k = bf) w (w.setCell ⟨g, 2, none⟩ (.int .i32 1)) := (Fr.refl _ w).setCell (.inr (.inl rfl)) _
  have K := Lib.hid (clo g bo bs bf o _ _ _ _ _ _ _ _ _ _ _ _ hg1 ho1 hs1 hf1)
  have L := Lib.hid (load_call ⟨g, 1, none⟩ 0 _ (hg1.cell 1))
  have U := Lib.hid (lock_free ⟨g, 2, none⟩ w (hg.cell 2) (hg.frozen 2))
  have hnot : ∀ (x : Bool) (w : World), (Op.unary .not (.bool x)).run Tryz.prog w = .ok (.bool (!x)) w := fun _ _ => rfl
  go_enter_defers Tryz.func84, Tryz.ntmps84
  go_wp2_with fail
  refine U.out.mono ?_
  rintro e w' ⟨rfl, rfl⟩
  go_wp2_with fail
  refine L.out.mono ?_
  rintro e w' ⟨rfl, rfl⟩
  go_wp2_with fail
  refine K.out.mono ?_
  rintro e w2 ⟨rfl, hg2, hf2, fr2⟩
  go_wp2
  have hg3 := hg2.drew.set_ 1 (.int .u32 1)
  have hf3 := hf2.drew.far (p := ⟨g, 1, none⟩) (Ne.symm n2) (.int .u32 1)
  have fr3 : Fr (fun k => k = g ∨ k = bf) w (w2.drew.setCell ⟨g, 1, none⟩ (.int .u32 1)) := (fr1.trans fr2).drew.setCell (.inr (.inl rfl)) _
  refine leaves_cons (f := 80) (args := #[.pointer (some ⟨g, 1, none⟩), .bool true]) (by simp) (by simp [go_sem]) ?_
  refine (store_deferred ⟨g, 1, none⟩ _ .returning _ (hg2.cell 1) (hg2.frozen 1)).mono ?_
  rintro e u' w'' ⟨rfl, rfl, rfl⟩
  refine leaves_cons (f := 88) (args := #[.pointer (some ⟨g, 2, none⟩)]) (by simp [settle]) (by simp [go_sem]) ?_
  refine (unlock_deferred ⟨g, 2, none⟩ _ _ (hg3.cell 2) (hg3.frozen 2)).mono ?_
  rintro e u' w'' ⟨rfl, rfl, rfl⟩
  have G := And.intro (hg3.set_ 2 (.int .i32 0)) (And.intro (hf3.far (p := ⟨g, 2, none⟩) (Ne.symm n2) (.int .i32 0)) (fr3.setCell (p := ⟨g, 2, none⟩) (.inr (.inl rfl)) (.int .i32 0)))
  simp [Leaves, settle, results, Tryz.results84]
  exact G
end Go.Proofs.YtghfigeepnbjaaaGreat
