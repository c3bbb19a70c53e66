/-
  Do, New, none, Set, Get: the slots' functions. No condition.
-/
import Derived.Test.YtghfigeepnbjaaaGreatSlotsSlow
namespace Go.Proofs.YtghfigeepnbjaaaGreat
open Go.RowKit

abbrev outV (o : OutM) : Value := .agg o.cells

set_option maxRecDepth 100000 in
set_option maxHeartbeats 1600000 in
theorem do_first (g bo bs bf : Nat) (o : OutM) (x0 x3 x4 x5 x6 x7 x8 x9 x10 : Value) (w : World) (hg : Blk w g 120 #[x0, .int .u32 0, .int .i32 0, x3, x4, x5, x6, x7, x8, x9, x10]) (ho : Blk w bo 70 o.cells)
    (hs : Blk w bs 76 #[.pointer (some ⟨g, 0, none⟩)]) (hf : Blk w bf 4 #[.bool false]) :
    Calls Tryz.prog 78 #[.pointer (some ⟨g, 1, none⟩), .func (.func 79) #[] #[.pointer (some ⟨bo, 0, none⟩), .pointer (some ⟨bs, 0, none⟩), .pointer (some ⟨bf, 0, none⟩)]] w fun e w' => e = .returned (.tuple #[]) ∧
      Blk w' g 120 #[x0, .int .u32 1, .int .i32 0, x3, .int .u32 1, .int .i64 o.kind, .int .i64 o.reason, .int .i64 o.code, S o.value, .int .i64 o.version, .int .i64 o.at_] ∧ Blk w' bf 4 #[.bool true] ∧ Fr (fun k => k = g ∨ k = bf) w w' := by
  have K := Lib.hid (slow_any g bo bs bf o _ _ _ _ _ _ _ _ _ w hg ho hs hf)
  have L := Lib.hid (load_call ⟨g, 1, none⟩ 0 w (hg.cell 1))
  have hnot : ∀ (x : Bool) (w : World), (Op.unary .not (.bool x)).run Tryz.prog w = .ok (.bool (!x)) w := fun _ _ => rfl
  go_enter Tryz.func78, Tryz.ntmps78
  go_wp2_with fail
  refine L.out.mono ?_
  rintro e w' ⟨rfl, rfl⟩
  go_wp2_with fail
  refine K.out.mono ?_
  rintro e w2 ⟨rfl, hg2, hf2, fr2⟩
  go_wp2
  go_end0
  exact ⟨rfl, hg2, hf2, fr2⟩

theorem new_any (w : World) : Calls Tryz.prog 30 #[] w fun e w' => ∃ g, e = .returned (.pointer (some ⟨g, 0, none⟩)) ∧ w.heap.size ≤ g ∧ Blk w' g 120 (slotC true 0 noOut) ∧ w.grownBy w' none := by
  go_enter Tryz.func30, Tryz.ntmps30
  go_wp2
  go_ret
  exact ⟨_, rfl, Nat.le_refl _, Blk.new _ _ _, only_alloc (only_refl _ _) _⟩

theorem none_at (g : Nat) (made : Bool) (w : World) (h : w.cell? ⟨g, 0, none⟩ = some (.bool made)) : Calls Tryz.prog 69 #[.pointer (some ⟨g, 0, none⟩)] w fun e w' => e = .returned (.bool (!made)) ∧ w = w' := by
  have hnot : ∀ (x : Bool) (w : World), (Op.unary .not (.bool x)).run Tryz.prog w = .ok (.bool (!x)) w := fun _ _ => rfl
  go_enter Tryz.func69, Tryz.ntmps69
  go_wp2
  go_ret
  exact ⟨rfl, rfl⟩

set_option maxRecDepth 100000 in
set_option maxHeartbeats 1600000 in
theorem set_first (g : Nat) (o : OutM) (w : World) (hg : Blk w g 120 (slotC true 0 noOut)) (h1 : 1 ≤ o.kind) (h3 : o.kind ≤ 3) :
    Calls Tryz.prog 67 #[.pointer (some ⟨g, 0, none⟩), outV o] w fun e w' => e = .returned (.bool true) ∧ Blk w' g 120 (slotC true 1 o) ∧ w.grownBy w' (some g) := by
  obtain ⟨kind, reason, code, value, version, at_⟩ := o
  simp only at h1 h3
  have b1 : (decide (kind < 1)) = false := by simp; omega
  have b3 : (decide (3 < kind)) = false := by simp; omega
  have hmf : ∀ (fn : Fn) (first cap : Array Value) (w : World), (Instr.makeFunc fn first cap).run Tryz.prog w = .ok (.func fn first cap) w := fun _ _ _ _ => rfl
  have hg2 := (hg.alloc (.cells #[.pointer (some ⟨g, 0, none⟩)] 76)).alloc (.cells (OutM.cells ⟨kind, reason, code, value, version, at_⟩) 70)
  have N := Lib.hid (none_at g true _ (hg2.cell 0))
  simp only [outV, OutM.cells] at N ⊢
  go_enter Tryz.func67, Tryz.ntmps67
  go_wp2_with fail
  refine N.out.mono ?_
  rintro e w' ⟨rfl, rfl⟩
  go_wp2_with fail
  have hg3 := hg2.alloc (.cells #[.bool false] 4)
  have ho3 := (Blk.new (w.alloc (.cells #[.pointer (some ⟨g, 0, none⟩)] 76)) 70 (OutM.cells ⟨kind, reason, code, value, version, at_⟩)).alloc (.cells #[.bool false] 4)
  have hs3 := ((Blk.new w 76 #[.pointer (some ⟨g, 0, none⟩)]).alloc (.cells (OutM.cells ⟨kind, reason, code, value, version, at_⟩) 70)).alloc (.cells #[.bool false] 4)
  have hf3 := Blk.new ((w.alloc (.cells #[.pointer (some ⟨g, 0, none⟩)] 76)).alloc (.cells (OutM.cells ⟨kind, reason, code, value, version, at_⟩) 70)) 4 #[.bool false]
  have e1 : (w.alloc (.cells #[.pointer (some ⟨g, 0, none⟩)] 76)).heap.size = w.heap.size + 1 := by simp
  have e2 : ((w.alloc (.cells #[.pointer (some ⟨g, 0, none⟩)] 76)).alloc (.cells (OutM.cells ⟨kind, reason, code, value, version, at_⟩) 70)).heap.size = w.heap.size + 1 + 1 := by simp
  rw [e1] at ho3
  rw [e2] at hf3
  refine (do_first g _ _ _ ⟨kind, reason, code, value, version, at_⟩ _ _ _ _ _ _ _ _ _ _ hg3 ho3 hs3 hf3).mono ?_
  rintro e w3 ⟨rfl, hg4, hf4, fr4⟩
  obtain ⟨f0, _⟩ := hf4.c1
  go_wp2
  go_ret
  refine ⟨rfl, hg4, ?_⟩
  have := hg.lt
  refine ⟨fr4.os, fr4.tape, fr4.output, Nat.le_trans (by simp; omega) fr4.size, fun i hi hn => ?_⟩
  rw [fr4.block i (by simp; omega) (by rintro (rfl | rfl) <;> first | exact hn rfl | omega)]
  exact (((Below.heap_alloc _ _ i (by simp; omega)).trans ((Below.heap_alloc _ _ i (by simp; omega)).trans (Below.heap_alloc _ _ i hi))))

set_option maxRecDepth 100000 in
set_option maxHeartbeats 1600000 in
theorem get_set (g : Nat) (o : OutM) (w : World) (hg : Blk w g 120 (slotC true 1 o)) :
    Calls Tryz.prog 50 #[.pointer (some ⟨g, 0, none⟩)] w fun e w' => e = .returned (.tuple #[outV o, .bool true]) ∧ w.grownBy w' none := by
  have hg1 := hg.alloc (.cells (noOut.cells) 70)
  have N := Lib.hid (none_at g true _ (hg1.cell 0))
  have L := Lib.hid (load_call ⟨g, 4, none⟩ 1 _ (hg1.cell 4))
  have hnot : ∀ (x : Bool) (w : World), (Op.unary .not (.bool x)).run Tryz.prog w = .ok (.bool (!x)) w := fun _ _ => rfl
  have c5 := hg1.cell 5
  have c6 := hg1.cell 6
  have c7 := hg1.cell 7
  have c8 := hg1.cell 8
  have c9 := hg1.cell 9
  have c10 := hg1.cell 10
  simp [slotC] at c5 c6 c7 c8 c9 c10
  have hne := Nat.ne_of_lt hg.lt
  simp only [outV, OutM.cells, noOut] at N L c5 c6 c7 c8 c9 c10 ⊢
  go_enter Tryz.func50, Tryz.ntmps50
  go_wp2_with fail
  refine N.out.mono ?_
  rintro e w' ⟨rfl, rfl⟩
  go_wp2_with fail
  refine L.out.mono ?_
  rintro e w' ⟨rfl, rfl⟩
  go_wp2
  have hb := Blk.new w 70 #[.int .i64 o.kind, .int .i64 o.reason, .int .i64 o.code, S o.value, .int .i64 o.version, .int .i64 o.at_]
  obtain ⟨d0, d1, d2, d3, d4, d5, _⟩ := hb.c6
  refine bodyPost_ret (v := .tuple #[outV o, .bool true]) (by simp [results, Tryz.results50, go_sem, d0, d1, d2, d3, d4, d5, OutM.cells]) rfl ⟨rfl, only_alloc (only_refl _ _) _⟩

set_option maxRecDepth 100000 in
set_option maxHeartbeats 1600000 in
theorem get_unset (g : Nat) (made : Bool) (o : OutM) (w : World) (hg : Blk w g 120 (slotC made 0 o)) :
    Calls Tryz.prog 50 #[.pointer (some ⟨g, 0, none⟩)] w fun e w' => e = .returned (.tuple #[outV noOut, .bool false]) ∧ w.grownBy w' none := by
  have hg1 := hg.alloc (.cells (noOut.cells) 70)
  have N := Lib.hid (none_at g made _ (hg1.cell 0))
  have L := Lib.hid (load_call ⟨g, 4, none⟩ 0 _ (hg1.cell 4))
  have hnot : ∀ (x : Bool) (w : World), (Op.unary .not (.bool x)).run Tryz.prog w = .ok (.bool (!x)) w := fun _ _ => rfl
  simp only [outV, OutM.cells, noOut] at N L ⊢
  have hb := Blk.new w 70 #[.int .i64 0, .int .i64 0, .int .i64 0, S [], .int .i64 0, .int .i64 0]
  obtain ⟨d0, d1, d2, d3, d4, d5, _⟩ := hb.c6
  rcases made with _ | _
  · go_enter Tryz.func50, Tryz.ntmps50
    go_wp2_with fail
    refine N.out.mono ?_
    rintro e w' ⟨rfl, rfl⟩
    go_wp2
    refine bodyPost_ret (v := .tuple #[outV noOut, .bool false]) (by simp [results, Tryz.results50, go_sem, d0, d1, d2, d3, d4, d5, OutM.cells, noOut]) rfl ⟨rfl, only_alloc (only_refl _ _) _⟩
  · go_enter Tryz.func50, Tryz.ntmps50
    go_wp2_with fail
    refine N.out.mono ?_
    rintro e w' ⟨rfl, rfl⟩
    go_wp2_with fail
    refine L.out.mono ?_
    rintro e w' ⟨rfl, rfl⟩
    go_wp2
    refine bodyPost_ret (v := .tuple #[outV noOut, .bool false]) (by simp [results, Tryz.results50, go_sem, d0, d1, d2, d3, d4, d5, OutM.cells, noOut]) rfl ⟨rfl, only_alloc (only_refl _ _) _⟩

end Go.Proofs.YtghfigeepnbjaaaGreat
