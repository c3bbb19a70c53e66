/-
  The table of the types, for the executor. No condition.
-/
import Derived.Test.YtghfigeepnbjaaaGreatProg
import Derived.Test.YtghfigeepnbjaaaGreatP3
import Derived.WalkKit
namespace Go.Proofs.YtghfigeepnbjaaaGreat
def ti2 : TI := ⟨.int .i64, 1, 8, [.int .i64 0], false, false⟩
@[simp] theorem ti2_size : ti2.size = 1 := rfl
@[simp] theorem ti2_bytes : ti2.bytes = 8 := rfl
@[simp] theorem ti2_zero : ti2.zero = [.int .i64 0] := rfl
def ti3 : TI := ⟨.int .i64, 1, 8, [.int .i64 0], false, false⟩
@[simp] theorem ti3_size : ti3.size = 1 := rfl
@[simp] theorem ti3_bytes : ti3.bytes = 8 := rfl
@[simp] theorem ti3_zero : ti3.zero = [.int .i64 0] := rfl
def ti4 : TI := ⟨.bool, 1, 1, [.bool false], false, false⟩
@[simp] theorem ti4_size : ti4.size = 1 := rfl
@[simp] theorem ti4_bytes : ti4.bytes = 1 := rfl
@[simp] theorem ti4_zero : ti4.zero = [.bool false] := rfl
def ti5 : TI := ⟨.int .u8, 1, 1, [.int .u8 0], false, false⟩
@[simp] theorem ti5_size : ti5.size = 1 := rfl
@[simp] theorem ti5_bytes : ti5.bytes = 1 := rfl
@[simp] theorem ti5_zero : ti5.zero = [.int .u8 0] := rfl
def ti7 : TI := ⟨.struct [(0, 2), (1, 3), (2, 4), (3, 6)], 4, 24, [.int .i64 0, .int .i64 0, .bool false, .int .u8 0], false, false⟩
@[simp] theorem ti7_size : ti7.size = 4 := rfl
@[simp] theorem ti7_bytes : ti7.bytes = 24 := rfl
@[simp] theorem ti7_zero : ti7.zero = [.int .i64 0, .int .i64 0, .bool false, .int .u8 0] := rfl
def ti9 : TI := ⟨.str, 1, 16, [.string ⟨#[]⟩], false, false⟩
@[simp] theorem ti9_size : ti9.size = 1 := rfl
@[simp] theorem ti9_bytes : ti9.bytes = 16 := rfl
@[simp] theorem ti9_zero : ti9.zero = [.string ⟨#[]⟩] := rfl
def ti12 : TI := ⟨.int .u64, 1, 8, [.int .u64 0], false, false⟩
@[simp] theorem ti12_size : ti12.size = 1 := rfl
@[simp] theorem ti12_bytes : ti12.bytes = 8 := rfl
@[simp] theorem ti12_zero : ti12.zero = [.int .u64 0] := rfl
def ti13 : TI := ⟨.struct [(0, 9), (1, 12)], 2, 24, [.string ⟨#[]⟩, .int .u64 0], false, false⟩
@[simp] theorem ti13_size : ti13.size = 2 := rfl
@[simp] theorem ti13_bytes : ti13.bytes = 24 := rfl
@[simp] theorem ti13_zero : ti13.zero = [.string ⟨#[]⟩, .int .u64 0] := rfl
def ti15 : TI := ⟨.ptr 154, 1, 8, [.pointer none], false, false⟩
@[simp] theorem ti15_size : ti15.size = 1 := rfl
@[simp] theorem ti15_bytes : ti15.bytes = 8 := rfl
@[simp] theorem ti15_zero : ti15.zero = [.pointer none] := rfl
def ti16 : TI := ⟨.ptr 157, 1, 8, [.pointer none], false, false⟩
@[simp] theorem ti16_size : ti16.size = 1 := rfl
@[simp] theorem ti16_bytes : ti16.bytes = 8 := rfl
@[simp] theorem ti16_zero : ti16.zero = [.pointer none] := rfl
def ti17 : TI := ⟨.ptr 165, 1, 8, [.pointer none], false, false⟩
@[simp] theorem ti17_size : ti17.size = 1 := rfl
@[simp] theorem ti17_bytes : ti17.bytes = 8 := rfl
@[simp] theorem ti17_zero : ti17.zero = [.pointer none] := rfl
def ti18 : TI := ⟨.struct [(0, 17)], 1, 8, [.pointer none], false, false⟩
@[simp] theorem ti18_size : ti18.size = 1 := rfl
@[simp] theorem ti18_bytes : ti18.bytes = 8 := rfl
@[simp] theorem ti18_zero : ti18.zero = [.pointer none] := rfl
def ti21 : TI := ⟨.int .i32, 1, 4, [.int .i32 0], false, false⟩
@[simp] theorem ti21_size : ti21.size = 1 := rfl
@[simp] theorem ti21_bytes : ti21.bytes = 4 := rfl
@[simp] theorem ti21_zero : ti21.zero = [.int .i32 0] := rfl
def ti22 : TI := ⟨.slice 3, 1, 24, [.slice none 0 0], false, false⟩
@[simp] theorem ti22_size : ti22.size = 1 := rfl
@[simp] theorem ti22_bytes : ti22.bytes = 24 := rfl
@[simp] theorem ti22_zero : ti22.zero = [.slice none 0 0] := rfl
def ti23 : TI := ⟨.struct [(0, 3), (1, 3), (2, 3), (3, 22), (4, 3), (5, 3), (6, 3), (7, 3), (8, 3), (9, 3), (10, 3), (11, 3)], 12, 112, [.int .i64 0, .int .i64 0, .int .i64 0, .slice none 0 0, .int .i64 0, .int .i64 0, .int .i64 0, .int .i64 0, .int .i64 0, .int .i64 0, .int .i64 0, .int .i64 0], false, false⟩
@[simp] theorem ti23_size : ti23.size = 12 := rfl
@[simp] theorem ti23_bytes : ti23.bytes = 112 := rfl
@[simp] theorem ti23_zero : ti23.zero = [.int .i64 0, .int .i64 0, .int .i64 0, .slice none 0 0, .int .i64 0, .int .i64 0, .int .i64 0, .int .i64 0, .int .i64 0, .int .i64 0, .int .i64 0, .int .i64 0] := rfl
def ti24 : TI := ⟨.struct [(0, 3), (1, 3), (2, 3), (3, 22), (4, 3), (5, 3), (6, 3), (7, 3), (8, 3), (9, 3), (10, 3), (11, 3)], 12, 112, [.int .i64 0, .int .i64 0, .int .i64 0, .slice none 0 0, .int .i64 0, .int .i64 0, .int .i64 0, .int .i64 0, .int .i64 0, .int .i64 0, .int .i64 0, .int .i64 0], false, false⟩
@[simp] theorem ti24_size : ti24.size = 12 := rfl
@[simp] theorem ti24_bytes : ti24.bytes = 112 := rfl
@[simp] theorem ti24_zero : ti24.zero = [.int .i64 0, .int .i64 0, .int .i64 0, .slice none 0 0, .int .i64 0, .int .i64 0, .int .i64 0, .int .i64 0, .int .i64 0, .int .i64 0, .int .i64 0, .int .i64 0] := rfl
def ti25 : TI := ⟨.slice 49, 1, 24, [.slice none 0 0], false, false⟩
@[simp] theorem ti25_size : ti25.size = 1 := rfl
@[simp] theorem ti25_bytes : ti25.bytes = 24 := rfl
@[simp] theorem ti25_zero : ti25.zero = [.slice none 0 0] := rfl
def ti29 : TI := ⟨.ptr 78, 1, 8, [.pointer none], false, false⟩
@[simp] theorem ti29_size : ti29.size = 1 := rfl
@[simp] theorem ti29_bytes : ti29.bytes = 8 := rfl
@[simp] theorem ti29_zero : ti29.zero = [.pointer none] := rfl
def ti30 : TI := ⟨.int .i64, 1, 8, [.int .i64 0], false, false⟩
@[simp] theorem ti30_size : ti30.size = 1 := rfl
@[simp] theorem ti30_bytes : ti30.bytes = 8 := rfl
@[simp] theorem ti30_zero : ti30.zero = [.int .i64 0] := rfl
def ti33 : TI := ⟨.ptr 85, 1, 8, [.pointer none], false, false⟩
@[simp] theorem ti33_size : ti33.size = 1 := rfl
@[simp] theorem ti33_bytes : ti33.bytes = 8 := rfl
@[simp] theorem ti33_zero : ti33.zero = [.pointer none] := rfl
def ti36 : TI := ⟨.struct [(0, 3), (1, 9), (2, 9), (3, 3)], 4, 48, [.int .i64 0, .string ⟨#[]⟩, .string ⟨#[]⟩, .int .i64 0], false, false⟩
@[simp] theorem ti36_size : ti36.size = 4 := rfl
@[simp] theorem ti36_bytes : ti36.bytes = 48 := rfl
@[simp] theorem ti36_zero : ti36.zero = [.int .i64 0, .string ⟨#[]⟩, .string ⟨#[]⟩, .int .i64 0] := rfl
def ti37 : TI := ⟨.struct [(0, 3), (1, 9), (2, 9), (3, 3)], 4, 48, [.int .i64 0, .string ⟨#[]⟩, .string ⟨#[]⟩, .int .i64 0], true, false⟩
@[simp] theorem ti37_size : ti37.size = 4 := rfl
@[simp] theorem ti37_bytes : ti37.bytes = 48 := rfl
@[simp] theorem ti37_zero : ti37.zero = [.int .i64 0, .string ⟨#[]⟩, .string ⟨#[]⟩, .int .i64 0] := rfl
set_option maxRecDepth 100000 in
set_option maxHeartbeats 4000000 in
theorem eq37 : ∀ xs ys b, EqC ti37.zero xs ys b → ∀ (x y : Operand) (w : World),
    (do eqGuard .eql 37 x y (.agg xs.toArray) (.agg ys.toArray); binOp .eql 37 (.agg xs.toArray) (.agg ys.toArray) : Sem Value).run Tryz.prog w = .ok (.bool b) w ∧
    (do eqGuard .neq 37 x y (.agg xs.toArray) (.agg ys.toArray); binOp .neq 37 (.agg xs.toArray) (.agg ys.toArray) : Sem Value).run Tryz.prog w = .ok (.bool !b) w := by
  intro xs ys b h x y w
  cases h with | int _ _ _ _ h =>
  cases h with | str _ _ _ h =>
  cases h with | str _ _ _ h =>
  cases h with | int _ _ _ _ h =>
  cases h with | nil =>
  constructor
  · simp [go_sem]
    try (repeat' (first | exact eq_one (by rw [Bool.eq_iff_iff]; simp) | refine eq_and (by rw [Bool.eq_iff_iff]; simp) ?_))
  · simp [go_sem]
    try (repeat' (first | exact ne_one (by rw [Bool.eq_iff_iff]; simp) | refine ne_or (by rw [Bool.eq_iff_iff]; simp) ?_))
def ti38 : TI := ⟨.struct [(0, 3), (1, 9), (2, 3), (3, 3)], 4, 40, [.int .i64 0, .string ⟨#[]⟩, .int .i64 0, .int .i64 0], false, false⟩
@[simp] theorem ti38_size : ti38.size = 4 := rfl
@[simp] theorem ti38_bytes : ti38.bytes = 40 := rfl
@[simp] theorem ti38_zero : ti38.zero = [.int .i64 0, .string ⟨#[]⟩, .int .i64 0, .int .i64 0] := rfl
def ti39 : TI := ⟨.struct [(0, 3), (1, 9), (2, 3), (3, 3)], 4, 40, [.int .i64 0, .string ⟨#[]⟩, .int .i64 0, .int .i64 0], true, false⟩
@[simp] theorem ti39_size : ti39.size = 4 := rfl
@[simp] theorem ti39_bytes : ti39.bytes = 40 := rfl
@[simp] theorem ti39_zero : ti39.zero = [.int .i64 0, .string ⟨#[]⟩, .int .i64 0, .int .i64 0] := rfl
set_option maxRecDepth 100000 in
set_option maxHeartbeats 4000000 in
theorem eq39 : ∀ xs ys b, EqC ti39.zero xs ys b → ∀ (x y : Operand) (w : World),
    (do eqGuard .eql 39 x y (.agg xs.toArray) (.agg ys.toArray); binOp .eql 39 (.agg xs.toArray) (.agg ys.toArray) : Sem Value).run Tryz.prog w = .ok (.bool b) w ∧
    (do eqGuard .neq 39 x y (.agg xs.toArray) (.agg ys.toArray); binOp .neq 39 (.agg xs.toArray) (.agg ys.toArray) : Sem Value).run Tryz.prog w = .ok (.bool !b) w := by
  intro xs ys b h x y w
  cases h with | int _ _ _ _ h =>
  cases h with | str _ _ _ h =>
  cases h with | int _ _ _ _ h =>
  cases h with | int _ _ _ _ h =>
  cases h with | nil =>
  constructor
  · simp [go_sem]
    try (repeat' (first | exact eq_one (by rw [Bool.eq_iff_iff]; simp) | refine eq_and (by rw [Bool.eq_iff_iff]; simp) ?_))
  · simp [go_sem]
    try (repeat' (first | exact ne_one (by rw [Bool.eq_iff_iff]; simp) | refine ne_or (by rw [Bool.eq_iff_iff]; simp) ?_))
def ti40 : TI := ⟨.struct [(0, 3), (1, 3), (2, 3), (3, 37)], 7, 72, [.int .i64 0, .int .i64 0, .int .i64 0, .int .i64 0, .string ⟨#[]⟩, .string ⟨#[]⟩, .int .i64 0], false, false⟩
@[simp] theorem ti40_size : ti40.size = 7 := rfl
@[simp] theorem ti40_bytes : ti40.bytes = 72 := rfl
@[simp] theorem ti40_zero : ti40.zero = [.int .i64 0, .int .i64 0, .int .i64 0, .int .i64 0, .string ⟨#[]⟩, .string ⟨#[]⟩, .int .i64 0] := rfl
def ti41 : TI := ⟨.struct [(0, 3), (1, 3), (2, 3), (3, 37)], 7, 72, [.int .i64 0, .int .i64 0, .int .i64 0, .int .i64 0, .string ⟨#[]⟩, .string ⟨#[]⟩, .int .i64 0], true, false⟩
@[simp] theorem ti41_size : ti41.size = 7 := rfl
@[simp] theorem ti41_bytes : ti41.bytes = 72 := rfl
@[simp] theorem ti41_zero : ti41.zero = [.int .i64 0, .int .i64 0, .int .i64 0, .int .i64 0, .string ⟨#[]⟩, .string ⟨#[]⟩, .int .i64 0] := rfl
set_option maxRecDepth 100000 in
set_option maxHeartbeats 4000000 in
theorem eq41 : ∀ xs ys b, EqC ti41.zero xs ys b → ∀ (x y : Operand) (w : World),
    (do eqGuard .eql 41 x y (.agg xs.toArray) (.agg ys.toArray); binOp .eql 41 (.agg xs.toArray) (.agg ys.toArray) : Sem Value).run Tryz.prog w = .ok (.bool b) w ∧
    (do eqGuard .neq 41 x y (.agg xs.toArray) (.agg ys.toArray); binOp .neq 41 (.agg xs.toArray) (.agg ys.toArray) : Sem Value).run Tryz.prog w = .ok (.bool !b) w := by
  intro xs ys b h x y w
  cases h with | int _ _ _ _ h =>
  cases h with | int _ _ _ _ h =>
  cases h with | int _ _ _ _ h =>
  cases h with | int _ _ _ _ h =>
  cases h with | str _ _ _ h =>
  cases h with | str _ _ _ h =>
  cases h with | int _ _ _ _ h =>
  cases h with | nil =>
  constructor
  · simp [go_sem]
    try (repeat' (first | exact eq_one (by rw [Bool.eq_iff_iff]; simp) | refine eq_and (by rw [Bool.eq_iff_iff]; simp) ?_))
  · simp [go_sem]
    try (repeat' (first | exact ne_one (by rw [Bool.eq_iff_iff]; simp) | refine ne_or (by rw [Bool.eq_iff_iff]; simp) ?_))
def ti42 : TI := ⟨.slice 96, 1, 24, [.slice none 0 0], false, false⟩
@[simp] theorem ti42_size : ti42.size = 1 := rfl
@[simp] theorem ti42_bytes : ti42.bytes = 24 := rfl
@[simp] theorem ti42_zero : ti42.zero = [.slice none 0 0] := rfl
def ti43 : TI := ⟨.struct [(0, 3), (1, 42), (2, 3)], 3, 40, [.int .i64 0, .slice none 0 0, .int .i64 0], false, false⟩
@[simp] theorem ti43_size : ti43.size = 3 := rfl
@[simp] theorem ti43_bytes : ti43.bytes = 40 := rfl
@[simp] theorem ti43_zero : ti43.zero = [.int .i64 0, .slice none 0 0, .int .i64 0] := rfl
def ti44 : TI := ⟨.struct [(0, 3), (1, 42), (2, 3)], 3, 40, [.int .i64 0, .slice none 0 0, .int .i64 0], false, false⟩
@[simp] theorem ti44_size : ti44.size = 3 := rfl
@[simp] theorem ti44_bytes : ti44.bytes = 40 := rfl
@[simp] theorem ti44_zero : ti44.zero = [.int .i64 0, .slice none 0 0, .int .i64 0] := rfl
def ti45 : TI := ⟨.struct [(0, 3), (1, 3), (2, 3), (3, 3), (4, 3), (5, 3), (6, 3), (7, 37), (11, 39), (15, 3), (16, 41), (23, 44), (26, 3), (27, 3), (28, 3)], 29, 288, [.int .i64 0, .int .i64 0, .int .i64 0, .int .i64 0, .int .i64 0, .int .i64 0, .int .i64 0, .int .i64 0, .string ⟨#[]⟩, .string ⟨#[]⟩, .int .i64 0, .int .i64 0, .string ⟨#[]⟩, .int .i64 0, .int .i64 0, .int .i64 0, .int .i64 0, .int .i64 0, .int .i64 0, .int .i64 0, .string ⟨#[]⟩, .string ⟨#[]⟩, .int .i64 0, .int .i64 0, .slice none 0 0, .int .i64 0, .int .i64 0, .int .i64 0, .int .i64 0], false, false⟩
@[simp] theorem ti45_size : ti45.size = 29 := rfl
@[simp] theorem ti45_bytes : ti45.bytes = 288 := rfl
@[simp] theorem ti45_zero : ti45.zero = [.int .i64 0, .int .i64 0, .int .i64 0, .int .i64 0, .int .i64 0, .int .i64 0, .int .i64 0, .int .i64 0, .string ⟨#[]⟩, .string ⟨#[]⟩, .int .i64 0, .int .i64 0, .string ⟨#[]⟩, .int .i64 0, .int .i64 0, .int .i64 0, .int .i64 0, .int .i64 0, .int .i64 0, .int .i64 0, .string ⟨#[]⟩, .string ⟨#[]⟩, .int .i64 0, .int .i64 0, .slice none 0 0, .int .i64 0, .int .i64 0, .int .i64 0, .int .i64 0] := rfl
def ti46 : TI := ⟨.struct [(0, 3), (1, 3), (2, 3), (3, 3), (4, 3), (5, 3), (6, 3), (7, 37), (11, 39), (15, 3), (16, 41), (23, 44), (26, 3), (27, 3), (28, 3)], 29, 288, [.int .i64 0, .int .i64 0, .int .i64 0, .int .i64 0, .int .i64 0, .int .i64 0, .int .i64 0, .int .i64 0, .string ⟨#[]⟩, .string ⟨#[]⟩, .int .i64 0, .int .i64 0, .string ⟨#[]⟩, .int .i64 0, .int .i64 0, .int .i64 0, .int .i64 0, .int .i64 0, .int .i64 0, .int .i64 0, .string ⟨#[]⟩, .string ⟨#[]⟩, .int .i64 0, .int .i64 0, .slice none 0 0, .int .i64 0, .int .i64 0, .int .i64 0, .int .i64 0], false, false⟩
@[simp] theorem ti46_size : ti46.size = 29 := rfl
@[simp] theorem ti46_bytes : ti46.bytes = 288 := rfl
@[simp] theorem ti46_zero : ti46.zero = [.int .i64 0, .int .i64 0, .int .i64 0, .int .i64 0, .int .i64 0, .int .i64 0, .int .i64 0, .int .i64 0, .string ⟨#[]⟩, .string ⟨#[]⟩, .int .i64 0, .int .i64 0, .string ⟨#[]⟩, .int .i64 0, .int .i64 0, .int .i64 0, .int .i64 0, .int .i64 0, .int .i64 0, .int .i64 0, .string ⟨#[]⟩, .string ⟨#[]⟩, .int .i64 0, .int .i64 0, .slice none 0 0, .int .i64 0, .int .i64 0, .int .i64 0, .int .i64 0] := rfl
def ti47 : TI := ⟨.arr 3 3, 3, 24, [.int .i64 0, .int .i64 0, .int .i64 0], true, false⟩
@[simp] theorem ti47_size : ti47.size = 3 := rfl
@[simp] theorem ti47_bytes : ti47.bytes = 24 := rfl
@[simp] theorem ti47_zero : ti47.zero = [.int .i64 0, .int .i64 0, .int .i64 0] := rfl
set_option maxRecDepth 100000 in
set_option maxHeartbeats 4000000 in
theorem eq47 : ∀ xs ys b, EqC ti47.zero xs ys b → ∀ (x y : Operand) (w : World),
    (do eqGuard .eql 47 x y (.agg xs.toArray) (.agg ys.toArray); binOp .eql 47 (.agg xs.toArray) (.agg ys.toArray) : Sem Value).run Tryz.prog w = .ok (.bool b) w ∧
    (do eqGuard .neq 47 x y (.agg xs.toArray) (.agg ys.toArray); binOp .neq 47 (.agg xs.toArray) (.agg ys.toArray) : Sem Value).run Tryz.prog w = .ok (.bool !b) w := by
  intro xs ys b h x y w
  cases h with | int _ _ _ _ h =>
  cases h with | int _ _ _ _ h =>
  cases h with | int _ _ _ _ h =>
  cases h with | nil =>
  have hi : Tryz.prog.info? 3 = some ((Tryz.prog.info? 3).getD default) := by kernel_rfl
  have hc : Tryz.prog.cellsOf 3 = 1 := by kernel_rfl
  constructor
  · simp [go_sem, run_equalIn_array w 9999 _ _ Tryz.underlying47 hi, hc, Op.eqItems, List.range_succ]
    try (repeat' (first | exact eq_one (by rw [Bool.eq_iff_iff]; simp) | refine eq_and (by rw [Bool.eq_iff_iff]; simp) ?_))
  · simp [go_sem, run_equalIn_array w 9999 _ _ Tryz.underlying47 hi, hc, Op.eqItems, List.range_succ]
    try (repeat' (first | exact ne_one (by rw [Bool.eq_iff_iff]; simp) | refine ne_or (by rw [Bool.eq_iff_iff]; simp) ?_))
def ti48 : TI := ⟨.struct [(0, 5), (1, 5), (2, 5), (3, 37), (7, 46), (36, 47)], 39, 368, [.int .u8 0, .int .u8 0, .int .u8 0, .int .i64 0, .string ⟨#[]⟩, .string ⟨#[]⟩, .int .i64 0, .int .i64 0, .int .i64 0, .int .i64 0, .int .i64 0, .int .i64 0, .int .i64 0, .int .i64 0, .int .i64 0, .string ⟨#[]⟩, .string ⟨#[]⟩, .int .i64 0, .int .i64 0, .string ⟨#[]⟩, .int .i64 0, .int .i64 0, .int .i64 0, .int .i64 0, .int .i64 0, .int .i64 0, .int .i64 0, .string ⟨#[]⟩, .string ⟨#[]⟩, .int .i64 0, .int .i64 0, .slice none 0 0, .int .i64 0, .int .i64 0, .int .i64 0, .int .i64 0, .int .i64 0, .int .i64 0, .int .i64 0], false, false⟩
@[simp] theorem ti48_size : ti48.size = 39 := rfl
@[simp] theorem ti48_bytes : ti48.bytes = 368 := rfl
@[simp] theorem ti48_zero : ti48.zero = [.int .u8 0, .int .u8 0, .int .u8 0, .int .i64 0, .string ⟨#[]⟩, .string ⟨#[]⟩, .int .i64 0, .int .i64 0, .int .i64 0, .int .i64 0, .int .i64 0, .int .i64 0, .int .i64 0, .int .i64 0, .int .i64 0, .string ⟨#[]⟩, .string ⟨#[]⟩, .int .i64 0, .int .i64 0, .string ⟨#[]⟩, .int .i64 0, .int .i64 0, .int .i64 0, .int .i64 0, .int .i64 0, .int .i64 0, .int .i64 0, .string ⟨#[]⟩, .string ⟨#[]⟩, .int .i64 0, .int .i64 0, .slice none 0 0, .int .i64 0, .int .i64 0, .int .i64 0, .int .i64 0, .int .i64 0, .int .i64 0, .int .i64 0] := rfl
def ti49 : TI := ⟨.struct [(0, 5), (1, 5), (2, 5), (3, 37), (7, 46), (36, 47)], 39, 368, [.int .u8 0, .int .u8 0, .int .u8 0, .int .i64 0, .string ⟨#[]⟩, .string ⟨#[]⟩, .int .i64 0, .int .i64 0, .int .i64 0, .int .i64 0, .int .i64 0, .int .i64 0, .int .i64 0, .int .i64 0, .int .i64 0, .string ⟨#[]⟩, .string ⟨#[]⟩, .int .i64 0, .int .i64 0, .string ⟨#[]⟩, .int .i64 0, .int .i64 0, .int .i64 0, .int .i64 0, .int .i64 0, .int .i64 0, .int .i64 0, .string ⟨#[]⟩, .string ⟨#[]⟩, .int .i64 0, .int .i64 0, .slice none 0 0, .int .i64 0, .int .i64 0, .int .i64 0, .int .i64 0, .int .i64 0, .int .i64 0, .int .i64 0], false, false⟩
@[simp] theorem ti49_size : ti49.size = 39 := rfl
@[simp] theorem ti49_bytes : ti49.bytes = 368 := rfl
@[simp] theorem ti49_zero : ti49.zero = [.int .u8 0, .int .u8 0, .int .u8 0, .int .i64 0, .string ⟨#[]⟩, .string ⟨#[]⟩, .int .i64 0, .int .i64 0, .int .i64 0, .int .i64 0, .int .i64 0, .int .i64 0, .int .i64 0, .int .i64 0, .int .i64 0, .string ⟨#[]⟩, .string ⟨#[]⟩, .int .i64 0, .int .i64 0, .string ⟨#[]⟩, .int .i64 0, .int .i64 0, .int .i64 0, .int .i64 0, .int .i64 0, .int .i64 0, .int .i64 0, .string ⟨#[]⟩, .string ⟨#[]⟩, .int .i64 0, .int .i64 0, .slice none 0 0, .int .i64 0, .int .i64 0, .int .i64 0, .int .i64 0, .int .i64 0, .int .i64 0, .int .i64 0] := rfl
def ti50 : TI := ⟨.slice 68, 1, 24, [.slice none 0 0], false, false⟩
@[simp] theorem ti50_size : ti50.size = 1 := rfl
@[simp] theorem ti50_bytes : ti50.bytes = 24 := rfl
@[simp] theorem ti50_zero : ti50.zero = [.slice none 0 0] := rfl
def ti53 : TI := ⟨.slice 89, 1, 24, [.slice none 0 0], false, false⟩
@[simp] theorem ti53_size : ti53.size = 1 := rfl
@[simp] theorem ti53_bytes : ti53.bytes = 24 := rfl
@[simp] theorem ti53_zero : ti53.zero = [.slice none 0 0] := rfl
def ti67 : TI := ⟨.struct [(0, 3), (1, 46)], 30, 296, [.int .i64 0, .int .i64 0, .int .i64 0, .int .i64 0, .int .i64 0, .int .i64 0, .int .i64 0, .int .i64 0, .int .i64 0, .string ⟨#[]⟩, .string ⟨#[]⟩, .int .i64 0, .int .i64 0, .string ⟨#[]⟩, .int .i64 0, .int .i64 0, .int .i64 0, .int .i64 0, .int .i64 0, .int .i64 0, .int .i64 0, .string ⟨#[]⟩, .string ⟨#[]⟩, .int .i64 0, .int .i64 0, .slice none 0 0, .int .i64 0, .int .i64 0, .int .i64 0, .int .i64 0], false, false⟩
@[simp] theorem ti67_size : ti67.size = 30 := rfl
@[simp] theorem ti67_bytes : ti67.bytes = 296 := rfl
@[simp] theorem ti67_zero : ti67.zero = [.int .i64 0, .int .i64 0, .int .i64 0, .int .i64 0, .int .i64 0, .int .i64 0, .int .i64 0, .int .i64 0, .int .i64 0, .string ⟨#[]⟩, .string ⟨#[]⟩, .int .i64 0, .int .i64 0, .string ⟨#[]⟩, .int .i64 0, .int .i64 0, .int .i64 0, .int .i64 0, .int .i64 0, .int .i64 0, .int .i64 0, .string ⟨#[]⟩, .string ⟨#[]⟩, .int .i64 0, .int .i64 0, .slice none 0 0, .int .i64 0, .int .i64 0, .int .i64 0, .int .i64 0] := rfl
def ti68 : TI := ⟨.struct [(0, 3), (1, 46)], 30, 296, [.int .i64 0, .int .i64 0, .int .i64 0, .int .i64 0, .int .i64 0, .int .i64 0, .int .i64 0, .int .i64 0, .int .i64 0, .string ⟨#[]⟩, .string ⟨#[]⟩, .int .i64 0, .int .i64 0, .string ⟨#[]⟩, .int .i64 0, .int .i64 0, .int .i64 0, .int .i64 0, .int .i64 0, .int .i64 0, .int .i64 0, .string ⟨#[]⟩, .string ⟨#[]⟩, .int .i64 0, .int .i64 0, .slice none 0 0, .int .i64 0, .int .i64 0, .int .i64 0, .int .i64 0], false, false⟩
@[simp] theorem ti68_size : ti68.size = 30 := rfl
@[simp] theorem ti68_bytes : ti68.bytes = 296 := rfl
@[simp] theorem ti68_zero : ti68.zero = [.int .i64 0, .int .i64 0, .int .i64 0, .int .i64 0, .int .i64 0, .int .i64 0, .int .i64 0, .int .i64 0, .int .i64 0, .string ⟨#[]⟩, .string ⟨#[]⟩, .int .i64 0, .int .i64 0, .string ⟨#[]⟩, .int .i64 0, .int .i64 0, .int .i64 0, .int .i64 0, .int .i64 0, .int .i64 0, .int .i64 0, .string ⟨#[]⟩, .string ⟨#[]⟩, .int .i64 0, .int .i64 0, .slice none 0 0, .int .i64 0, .int .i64 0, .int .i64 0, .int .i64 0] := rfl
def ti69 : TI := ⟨.struct [(0, 3), (1, 3), (2, 39)], 6, 56, [.int .i64 0, .int .i64 0, .int .i64 0, .string ⟨#[]⟩, .int .i64 0, .int .i64 0], false, false⟩
@[simp] theorem ti69_size : ti69.size = 6 := rfl
@[simp] theorem ti69_bytes : ti69.bytes = 56 := rfl
@[simp] theorem ti69_zero : ti69.zero = [.int .i64 0, .int .i64 0, .int .i64 0, .string ⟨#[]⟩, .int .i64 0, .int .i64 0] := rfl
def ti70 : TI := ⟨.struct [(0, 3), (1, 3), (2, 39)], 6, 56, [.int .i64 0, .int .i64 0, .int .i64 0, .string ⟨#[]⟩, .int .i64 0, .int .i64 0], true, false⟩
@[simp] theorem ti70_size : ti70.size = 6 := rfl
@[simp] theorem ti70_bytes : ti70.bytes = 56 := rfl
@[simp] theorem ti70_zero : ti70.zero = [.int .i64 0, .int .i64 0, .int .i64 0, .string ⟨#[]⟩, .int .i64 0, .int .i64 0] := rfl
set_option maxRecDepth 100000 in
set_option maxHeartbeats 4000000 in
theorem eq70 : ∀ xs ys b, EqC ti70.zero xs ys b → ∀ (x y : Operand) (w : World),
    (do eqGuard .eql 70 x y (.agg xs.toArray) (.agg ys.toArray); binOp .eql 70 (.agg xs.toArray) (.agg ys.toArray) : Sem Value).run Tryz.prog w = .ok (.bool b) w ∧
    (do eqGuard .neq 70 x y (.agg xs.toArray) (.agg ys.toArray); binOp .neq 70 (.agg xs.toArray) (.agg ys.toArray) : Sem Value).run Tryz.prog w = .ok (.bool !b) w := by
  intro xs ys b h x y w
  cases h with | int _ _ _ _ h =>
  cases h with | int _ _ _ _ h =>
  cases h with | int _ _ _ _ h =>
  cases h with | str _ _ _ h =>
  cases h with | int _ _ _ _ h =>
  cases h with | int _ _ _ _ h =>
  cases h with | nil =>
  constructor
  · simp [go_sem]
    try (repeat' (first | exact eq_one (by rw [Bool.eq_iff_iff]; simp) | refine eq_and (by rw [Bool.eq_iff_iff]; simp) ?_))
  · simp [go_sem]
    try (repeat' (first | exact ne_one (by rw [Bool.eq_iff_iff]; simp) | refine ne_or (by rw [Bool.eq_iff_iff]; simp) ?_))
def ti75 : TI := ⟨.ptr 102, 1, 8, [.pointer none], false, false⟩
@[simp] theorem ti75_size : ti75.size = 1 := rfl
@[simp] theorem ti75_bytes : ti75.bytes = 8 := rfl
@[simp] theorem ti75_zero : ti75.zero = [.pointer none] := rfl
def ti76 : TI := ⟨.ptr 120, 1, 8, [.pointer none], false, false⟩
@[simp] theorem ti76_size : ti76.size = 1 := rfl
@[simp] theorem ti76_bytes : ti76.bytes = 8 := rfl
@[simp] theorem ti76_zero : ti76.zero = [.pointer none] := rfl
def ti77 : TI := ⟨.struct [(0, 3), (1, 3), (2, 3), (3, 3), (4, 75), (5, 44), (8, 76), (9, 3), (10, 3), (11, 3), (12, 4), (13, 3), (14, 3), (15, 3), (16, 3), (17, 37)], 21, 200, [.int .i64 0, .int .i64 0, .int .i64 0, .int .i64 0, .pointer none, .int .i64 0, .slice none 0 0, .int .i64 0, .pointer none, .int .i64 0, .int .i64 0, .int .i64 0, .bool false, .int .i64 0, .int .i64 0, .int .i64 0, .int .i64 0, .int .i64 0, .string ⟨#[]⟩, .string ⟨#[]⟩, .int .i64 0], false, false⟩
@[simp] theorem ti77_size : ti77.size = 21 := rfl
@[simp] theorem ti77_bytes : ti77.bytes = 200 := rfl
@[simp] theorem ti77_zero : ti77.zero = [.int .i64 0, .int .i64 0, .int .i64 0, .int .i64 0, .pointer none, .int .i64 0, .slice none 0 0, .int .i64 0, .pointer none, .int .i64 0, .int .i64 0, .int .i64 0, .bool false, .int .i64 0, .int .i64 0, .int .i64 0, .int .i64 0, .int .i64 0, .string ⟨#[]⟩, .string ⟨#[]⟩, .int .i64 0] := rfl
def ti78 : TI := ⟨.struct [(0, 3), (1, 3), (2, 3), (3, 3), (4, 75), (5, 44), (8, 76), (9, 3), (10, 3), (11, 3), (12, 4), (13, 3), (14, 3), (15, 3), (16, 3), (17, 37)], 21, 200, [.int .i64 0, .int .i64 0, .int .i64 0, .int .i64 0, .pointer none, .int .i64 0, .slice none 0 0, .int .i64 0, .pointer none, .int .i64 0, .int .i64 0, .int .i64 0, .bool false, .int .i64 0, .int .i64 0, .int .i64 0, .int .i64 0, .int .i64 0, .string ⟨#[]⟩, .string ⟨#[]⟩, .int .i64 0], false, false⟩
@[simp] theorem ti78_size : ti78.size = 21 := rfl
@[simp] theorem ti78_bytes : ti78.bytes = 200 := rfl
@[simp] theorem ti78_zero : ti78.zero = [.int .i64 0, .int .i64 0, .int .i64 0, .int .i64 0, .pointer none, .int .i64 0, .slice none 0 0, .int .i64 0, .pointer none, .int .i64 0, .int .i64 0, .int .i64 0, .bool false, .int .i64 0, .int .i64 0, .int .i64 0, .int .i64 0, .int .i64 0, .string ⟨#[]⟩, .string ⟨#[]⟩, .int .i64 0] := rfl
def ti81 : TI := ⟨.ptr 105, 1, 8, [.pointer none], false, false⟩
@[simp] theorem ti81_size : ti81.size = 1 := rfl
@[simp] theorem ti81_bytes : ti81.bytes = 8 := rfl
@[simp] theorem ti81_zero : ti81.zero = [.pointer none] := rfl
def ti84 : TI := ⟨.struct [(0, 24), (12, 3), (13, 44), (16, 81), (17, 46), (46, 3), (47, 3), (48, 4), (49, 4), (50, 70)], 56, 536, [.int .i64 0, .int .i64 0, .int .i64 0, .slice none 0 0, .int .i64 0, .int .i64 0, .int .i64 0, .int .i64 0, .int .i64 0, .int .i64 0, .int .i64 0, .int .i64 0, .int .i64 0, .int .i64 0, .slice none 0 0, .int .i64 0, .pointer none, .int .i64 0, .int .i64 0, .int .i64 0, .int .i64 0, .int .i64 0, .int .i64 0, .int .i64 0, .int .i64 0, .string ⟨#[]⟩, .string ⟨#[]⟩, .int .i64 0, .int .i64 0, .string ⟨#[]⟩, .int .i64 0, .int .i64 0, .int .i64 0, .int .i64 0, .int .i64 0, .int .i64 0, .int .i64 0, .string ⟨#[]⟩, .string ⟨#[]⟩, .int .i64 0, .int .i64 0, .slice none 0 0, .int .i64 0, .int .i64 0, .int .i64 0, .int .i64 0, .int .i64 0, .int .i64 0, .bool false, .bool false, .int .i64 0, .int .i64 0, .int .i64 0, .string ⟨#[]⟩, .int .i64 0, .int .i64 0], false, false⟩
@[simp] theorem ti84_size : ti84.size = 56 := rfl
@[simp] theorem ti84_bytes : ti84.bytes = 536 := rfl
@[simp] theorem ti84_zero : ti84.zero = [.int .i64 0, .int .i64 0, .int .i64 0, .slice none 0 0, .int .i64 0, .int .i64 0, .int .i64 0, .int .i64 0, .int .i64 0, .int .i64 0, .int .i64 0, .int .i64 0, .int .i64 0, .int .i64 0, .slice none 0 0, .int .i64 0, .pointer none, .int .i64 0, .int .i64 0, .int .i64 0, .int .i64 0, .int .i64 0, .int .i64 0, .int .i64 0, .int .i64 0, .string ⟨#[]⟩, .string ⟨#[]⟩, .int .i64 0, .int .i64 0, .string ⟨#[]⟩, .int .i64 0, .int .i64 0, .int .i64 0, .int .i64 0, .int .i64 0, .int .i64 0, .int .i64 0, .string ⟨#[]⟩, .string ⟨#[]⟩, .int .i64 0, .int .i64 0, .slice none 0 0, .int .i64 0, .int .i64 0, .int .i64 0, .int .i64 0, .int .i64 0, .int .i64 0, .bool false, .bool false, .int .i64 0, .int .i64 0, .int .i64 0, .string ⟨#[]⟩, .int .i64 0, .int .i64 0] := rfl
def ti85 : TI := ⟨.struct [(0, 24), (12, 3), (13, 44), (16, 81), (17, 46), (46, 3), (47, 3), (48, 4), (49, 4), (50, 70)], 56, 536, [.int .i64 0, .int .i64 0, .int .i64 0, .slice none 0 0, .int .i64 0, .int .i64 0, .int .i64 0, .int .i64 0, .int .i64 0, .int .i64 0, .int .i64 0, .int .i64 0, .int .i64 0, .int .i64 0, .slice none 0 0, .int .i64 0, .pointer none, .int .i64 0, .int .i64 0, .int .i64 0, .int .i64 0, .int .i64 0, .int .i64 0, .int .i64 0, .int .i64 0, .string ⟨#[]⟩, .string ⟨#[]⟩, .int .i64 0, .int .i64 0, .string ⟨#[]⟩, .int .i64 0, .int .i64 0, .int .i64 0, .int .i64 0, .int .i64 0, .int .i64 0, .int .i64 0, .string ⟨#[]⟩, .string ⟨#[]⟩, .int .i64 0, .int .i64 0, .slice none 0 0, .int .i64 0, .int .i64 0, .int .i64 0, .int .i64 0, .int .i64 0, .int .i64 0, .bool false, .bool false, .int .i64 0, .int .i64 0, .int .i64 0, .string ⟨#[]⟩, .int .i64 0, .int .i64 0], false, false⟩
@[simp] theorem ti85_size : ti85.size = 56 := rfl
@[simp] theorem ti85_bytes : ti85.bytes = 536 := rfl
@[simp] theorem ti85_zero : ti85.zero = [.int .i64 0, .int .i64 0, .int .i64 0, .slice none 0 0, .int .i64 0, .int .i64 0, .int .i64 0, .int .i64 0, .int .i64 0, .int .i64 0, .int .i64 0, .int .i64 0, .int .i64 0, .int .i64 0, .slice none 0 0, .int .i64 0, .pointer none, .int .i64 0, .int .i64 0, .int .i64 0, .int .i64 0, .int .i64 0, .int .i64 0, .int .i64 0, .int .i64 0, .string ⟨#[]⟩, .string ⟨#[]⟩, .int .i64 0, .int .i64 0, .string ⟨#[]⟩, .int .i64 0, .int .i64 0, .int .i64 0, .int .i64 0, .int .i64 0, .int .i64 0, .int .i64 0, .string ⟨#[]⟩, .string ⟨#[]⟩, .int .i64 0, .int .i64 0, .slice none 0 0, .int .i64 0, .int .i64 0, .int .i64 0, .int .i64 0, .int .i64 0, .int .i64 0, .bool false, .bool false, .int .i64 0, .int .i64 0, .int .i64 0, .string ⟨#[]⟩, .int .i64 0, .int .i64 0] := rfl
def ti89 : TI := ⟨.struct [(0, 3), (1, 46)], 30, 296, [.int .i64 0, .int .i64 0, .int .i64 0, .int .i64 0, .int .i64 0, .int .i64 0, .int .i64 0, .int .i64 0, .int .i64 0, .string ⟨#[]⟩, .string ⟨#[]⟩, .int .i64 0, .int .i64 0, .string ⟨#[]⟩, .int .i64 0, .int .i64 0, .int .i64 0, .int .i64 0, .int .i64 0, .int .i64 0, .int .i64 0, .string ⟨#[]⟩, .string ⟨#[]⟩, .int .i64 0, .int .i64 0, .slice none 0 0, .int .i64 0, .int .i64 0, .int .i64 0, .int .i64 0], false, false⟩
@[simp] theorem ti89_size : ti89.size = 30 := rfl
@[simp] theorem ti89_bytes : ti89.bytes = 296 := rfl
@[simp] theorem ti89_zero : ti89.zero = [.int .i64 0, .int .i64 0, .int .i64 0, .int .i64 0, .int .i64 0, .int .i64 0, .int .i64 0, .int .i64 0, .int .i64 0, .string ⟨#[]⟩, .string ⟨#[]⟩, .int .i64 0, .int .i64 0, .string ⟨#[]⟩, .int .i64 0, .int .i64 0, .int .i64 0, .int .i64 0, .int .i64 0, .int .i64 0, .int .i64 0, .string ⟨#[]⟩, .string ⟨#[]⟩, .int .i64 0, .int .i64 0, .slice none 0 0, .int .i64 0, .int .i64 0, .int .i64 0, .int .i64 0] := rfl
def ti95 : TI := ⟨.struct [(0, 3), (1, 3)], 2, 16, [.int .i64 0, .int .i64 0], false, false⟩
@[simp] theorem ti95_size : ti95.size = 2 := rfl
@[simp] theorem ti95_bytes : ti95.bytes = 16 := rfl
@[simp] theorem ti95_zero : ti95.zero = [.int .i64 0, .int .i64 0] := rfl
def ti96 : TI := ⟨.struct [(0, 3), (1, 3)], 2, 16, [.int .i64 0, .int .i64 0], true, false⟩
@[simp] theorem ti96_size : ti96.size = 2 := rfl
@[simp] theorem ti96_bytes : ti96.bytes = 16 := rfl
@[simp] theorem ti96_zero : ti96.zero = [.int .i64 0, .int .i64 0] := rfl
set_option maxRecDepth 100000 in
set_option maxHeartbeats 4000000 in
theorem eq96 : ∀ xs ys b, EqC ti96.zero xs ys b → ∀ (x y : Operand) (w : World),
    (do eqGuard .eql 96 x y (.agg xs.toArray) (.agg ys.toArray); binOp .eql 96 (.agg xs.toArray) (.agg ys.toArray) : Sem Value).run Tryz.prog w = .ok (.bool b) w ∧
    (do eqGuard .neq 96 x y (.agg xs.toArray) (.agg ys.toArray); binOp .neq 96 (.agg xs.toArray) (.agg ys.toArray) : Sem Value).run Tryz.prog w = .ok (.bool !b) w := by
  intro xs ys b h x y w
  cases h with | int _ _ _ _ h =>
  cases h with | int _ _ _ _ h =>
  cases h with | nil =>
  constructor
  · simp [go_sem]
    try (repeat' (first | exact eq_one (by rw [Bool.eq_iff_iff]; simp) | refine eq_and (by rw [Bool.eq_iff_iff]; simp) ?_))
  · simp [go_sem]
    try (repeat' (first | exact ne_one (by rw [Bool.eq_iff_iff]; simp) | refine ne_or (by rw [Bool.eq_iff_iff]; simp) ?_))
def ti101 : TI := ⟨.struct [(0, 3), (1, 3), (2, 3), (3, 3), (4, 3)], 5, 40, [.int .i64 0, .int .i64 0, .int .i64 0, .int .i64 0, .int .i64 0], false, false⟩
@[simp] theorem ti101_size : ti101.size = 5 := rfl
@[simp] theorem ti101_bytes : ti101.bytes = 40 := rfl
@[simp] theorem ti101_zero : ti101.zero = [.int .i64 0, .int .i64 0, .int .i64 0, .int .i64 0, .int .i64 0] := rfl
def ti102 : TI := ⟨.struct [(0, 3), (1, 3), (2, 3), (3, 3), (4, 3)], 5, 40, [.int .i64 0, .int .i64 0, .int .i64 0, .int .i64 0, .int .i64 0], true, false⟩
@[simp] theorem ti102_size : ti102.size = 5 := rfl
@[simp] theorem ti102_bytes : ti102.bytes = 40 := rfl
@[simp] theorem ti102_zero : ti102.zero = [.int .i64 0, .int .i64 0, .int .i64 0, .int .i64 0, .int .i64 0] := rfl
set_option maxRecDepth 100000 in
set_option maxHeartbeats 4000000 in
theorem eq102 : ∀ xs ys b, EqC ti102.zero xs ys b → ∀ (x y : Operand) (w : World),
    (do eqGuard .eql 102 x y (.agg xs.toArray) (.agg ys.toArray); binOp .eql 102 (.agg xs.toArray) (.agg ys.toArray) : Sem Value).run Tryz.prog w = .ok (.bool b) w ∧
    (do eqGuard .neq 102 x y (.agg xs.toArray) (.agg ys.toArray); binOp .neq 102 (.agg xs.toArray) (.agg ys.toArray) : Sem Value).run Tryz.prog w = .ok (.bool !b) w := by
  intro xs ys b h x y w
  cases h with | int _ _ _ _ h =>
  cases h with | int _ _ _ _ h =>
  cases h with | int _ _ _ _ h =>
  cases h with | int _ _ _ _ h =>
  cases h with | int _ _ _ _ h =>
  cases h with | nil =>
  constructor
  · simp [go_sem]
    try (repeat' (first | exact eq_one (by rw [Bool.eq_iff_iff]; simp) | refine eq_and (by rw [Bool.eq_iff_iff]; simp) ?_))
  · simp [go_sem]
    try (repeat' (first | exact ne_one (by rw [Bool.eq_iff_iff]; simp) | refine ne_or (by rw [Bool.eq_iff_iff]; simp) ?_))
def ti104 : TI := ⟨.struct [(0, 3), (1, 3), (2, 3), (3, 3), (4, 3)], 5, 40, [.int .i64 0, .int .i64 0, .int .i64 0, .int .i64 0, .int .i64 0], false, false⟩
@[simp] theorem ti104_size : ti104.size = 5 := rfl
@[simp] theorem ti104_bytes : ti104.bytes = 40 := rfl
@[simp] theorem ti104_zero : ti104.zero = [.int .i64 0, .int .i64 0, .int .i64 0, .int .i64 0, .int .i64 0] := rfl
def ti105 : TI := ⟨.struct [(0, 3), (1, 3), (2, 3), (3, 3), (4, 3)], 5, 40, [.int .i64 0, .int .i64 0, .int .i64 0, .int .i64 0, .int .i64 0], true, false⟩
@[simp] theorem ti105_size : ti105.size = 5 := rfl
@[simp] theorem ti105_bytes : ti105.bytes = 40 := rfl
@[simp] theorem ti105_zero : ti105.zero = [.int .i64 0, .int .i64 0, .int .i64 0, .int .i64 0, .int .i64 0] := rfl
set_option maxRecDepth 100000 in
set_option maxHeartbeats 4000000 in
theorem eq105 : ∀ xs ys b, EqC ti105.zero xs ys b → ∀ (x y : Operand) (w : World),
    (do eqGuard .eql 105 x y (.agg xs.toArray) (.agg ys.toArray); binOp .eql 105 (.agg xs.toArray) (.agg ys.toArray) : Sem Value).run Tryz.prog w = .ok (.bool b) w ∧
    (do eqGuard .neq 105 x y (.agg xs.toArray) (.agg ys.toArray); binOp .neq 105 (.agg xs.toArray) (.agg ys.toArray) : Sem Value).run Tryz.prog w = .ok (.bool !b) w := by
  intro xs ys b h x y w
  cases h with | int _ _ _ _ h =>
  cases h with | int _ _ _ _ h =>
  cases h with | int _ _ _ _ h =>
  cases h with | int _ _ _ _ h =>
  cases h with | int _ _ _ _ h =>
  cases h with | nil =>
  constructor
  · simp [go_sem]
    try (repeat' (first | exact eq_one (by rw [Bool.eq_iff_iff]; simp) | refine eq_and (by rw [Bool.eq_iff_iff]; simp) ?_))
  · simp [go_sem]
    try (repeat' (first | exact ne_one (by rw [Bool.eq_iff_iff]; simp) | refine ne_or (by rw [Bool.eq_iff_iff]; simp) ?_))
def ti107 : TI := ⟨.struct [], 0, 0, [], false, false⟩
@[simp] theorem ti107_size : ti107.size = 0 := rfl
@[simp] theorem ti107_bytes : ti107.bytes = 0 := rfl
@[simp] theorem ti107_zero : ti107.zero = [] := rfl
def ti108 : TI := ⟨.struct [], 0, 0, [], false, false⟩
@[simp] theorem ti108_size : ti108.size = 0 := rfl
@[simp] theorem ti108_bytes : ti108.bytes = 0 := rfl
@[simp] theorem ti108_zero : ti108.zero = [] := rfl
def ti110 : TI := ⟨.int .u32, 1, 4, [.int .u32 0], false, false⟩
@[simp] theorem ti110_size : ti110.size = 1 := rfl
@[simp] theorem ti110_bytes : ti110.bytes = 4 := rfl
@[simp] theorem ti110_zero : ti110.zero = [.int .u32 0] := rfl
def ti111 : TI := ⟨.struct [(0, 109), (0, 110)], 1, 4, [.int .u32 0], false, false⟩
@[simp] theorem ti111_size : ti111.size = 1 := rfl
@[simp] theorem ti111_bytes : ti111.bytes = 4 := rfl
@[simp] theorem ti111_zero : ti111.zero = [.int .u32 0] := rfl
def ti113 : TI := ⟨.struct [(0, 21), (1, 110)], 2, 8, [.int .i32 0, .int .u32 0], false, false⟩
@[simp] theorem ti113_size : ti113.size = 2 := rfl
@[simp] theorem ti113_bytes : ti113.bytes = 8 := rfl
@[simp] theorem ti113_zero : ti113.zero = [.int .i32 0, .int .u32 0] := rfl
def ti115 : TI := ⟨.struct [(0, 108), (0, 114)], 2, 8, [.int .i32 0, .int .u32 0], false, false⟩
@[simp] theorem ti115_size : ti115.size = 2 := rfl
@[simp] theorem ti115_bytes : ti115.bytes = 8 := rfl
@[simp] theorem ti115_zero : ti115.zero = [.int .i32 0, .int .u32 0] := rfl
def ti116 : TI := ⟨.struct [(0, 108), (0, 114)], 2, 8, [.int .i32 0, .int .u32 0], false, false⟩
@[simp] theorem ti116_size : ti116.size = 2 := rfl
@[simp] theorem ti116_bytes : ti116.bytes = 8 := rfl
@[simp] theorem ti116_zero : ti116.zero = [.int .i32 0, .int .u32 0] := rfl
def ti117 : TI := ⟨.struct [(0, 108), (0, 112), (1, 116)], 3, 12, [.int .u32 0, .int .i32 0, .int .u32 0], false, false⟩
@[simp] theorem ti117_size : ti117.size = 3 := rfl
@[simp] theorem ti117_bytes : ti117.bytes = 12 := rfl
@[simp] theorem ti117_zero : ti117.zero = [.int .u32 0, .int .i32 0, .int .u32 0] := rfl
def ti118 : TI := ⟨.struct [(0, 108), (0, 112), (1, 116)], 3, 12, [.int .u32 0, .int .i32 0, .int .u32 0], false, false⟩
@[simp] theorem ti118_size : ti118.size = 3 := rfl
@[simp] theorem ti118_bytes : ti118.bytes = 12 := rfl
@[simp] theorem ti118_zero : ti118.zero = [.int .u32 0, .int .i32 0, .int .u32 0] := rfl
def ti119 : TI := ⟨.struct [(0, 4), (1, 118), (4, 112), (5, 70)], 11, 80, [.bool false, .int .u32 0, .int .i32 0, .int .u32 0, .int .u32 0, .int .i64 0, .int .i64 0, .int .i64 0, .string ⟨#[]⟩, .int .i64 0, .int .i64 0], false, false⟩
@[simp] theorem ti119_size : ti119.size = 11 := rfl
@[simp] theorem ti119_bytes : ti119.bytes = 80 := rfl
@[simp] theorem ti119_zero : ti119.zero = [.bool false, .int .u32 0, .int .i32 0, .int .u32 0, .int .u32 0, .int .i64 0, .int .i64 0, .int .i64 0, .string ⟨#[]⟩, .int .i64 0, .int .i64 0] := rfl
def ti120 : TI := ⟨.struct [(0, 4), (1, 118), (4, 112), (5, 70)], 11, 80, [.bool false, .int .u32 0, .int .i32 0, .int .u32 0, .int .u32 0, .int .i64 0, .int .i64 0, .int .i64 0, .string ⟨#[]⟩, .int .i64 0, .int .i64 0], false, false⟩
@[simp] theorem ti120_size : ti120.size = 11 := rfl
@[simp] theorem ti120_bytes : ti120.bytes = 80 := rfl
@[simp] theorem ti120_zero : ti120.zero = [.bool false, .int .u32 0, .int .i32 0, .int .u32 0, .int .u32 0, .int .i64 0, .int .i64 0, .int .i64 0, .string ⟨#[]⟩, .int .i64 0, .int .i64 0] := rfl
def ti129 : TI := ⟨.ptr 3, 1, 8, [.pointer none], false, false⟩
@[simp] theorem ti129_size : ti129.size = 1 := rfl
@[simp] theorem ti129_bytes : ti129.bytes = 8 := rfl
@[simp] theorem ti129_zero : ti129.zero = [.pointer none] := rfl
def ti134 : TI := ⟨.ptr 112, 1, 8, [.pointer none], false, false⟩
@[simp] theorem ti134_size : ti134.size = 1 := rfl
@[simp] theorem ti134_bytes : ti134.bytes = 8 := rfl
@[simp] theorem ti134_zero : ti134.zero = [.pointer none] := rfl
def ti136 : TI := ⟨.ptr 110, 1, 8, [.pointer none], false, false⟩
@[simp] theorem ti136_size : ti136.size = 1 := rfl
@[simp] theorem ti136_bytes : ti136.bytes = 8 := rfl
@[simp] theorem ti136_zero : ti136.zero = [.pointer none] := rfl
def ti137 : TI := ⟨.ptr 118, 1, 8, [.pointer none], false, false⟩
@[simp] theorem ti137_size : ti137.size = 1 := rfl
@[simp] theorem ti137_bytes : ti137.bytes = 8 := rfl
@[simp] theorem ti137_zero : ti137.zero = [.pointer none] := rfl
def ti140 : TI := ⟨.ptr 116, 1, 8, [.pointer none], false, false⟩
@[simp] theorem ti140_size : ti140.size = 1 := rfl
@[simp] theorem ti140_bytes : ti140.bytes = 8 := rfl
@[simp] theorem ti140_zero : ti140.zero = [.pointer none] := rfl
def ti141 : TI := ⟨.ptr 114, 1, 8, [.pointer none], false, false⟩
@[simp] theorem ti141_size : ti141.size = 1 := rfl
@[simp] theorem ti141_bytes : ti141.bytes = 8 := rfl
@[simp] theorem ti141_zero : ti141.zero = [.pointer none] := rfl
def ti143 : TI := ⟨.ptr 21, 1, 8, [.pointer none], false, false⟩
@[simp] theorem ti143_size : ti143.size = 1 := rfl
@[simp] theorem ti143_bytes : ti143.bytes = 8 := rfl
@[simp] theorem ti143_zero : ti143.zero = [.pointer none] := rfl
def ti148 : TI := ⟨.int .u64, 1, 8, [.int .u64 0], false, false⟩
@[simp] theorem ti148_size : ti148.size = 1 := rfl
@[simp] theorem ti148_bytes : ti148.bytes = 8 := rfl
@[simp] theorem ti148_zero : ti148.zero = [.int .u64 0] := rfl
def ti153 : TI := ⟨.struct [(0, 17), (1, 17), (2, 17), (3, 9)], 4, 40, [.pointer none, .pointer none, .pointer none, .string ⟨#[]⟩], false, false⟩
@[simp] theorem ti153_size : ti153.size = 4 := rfl
@[simp] theorem ti153_bytes : ti153.bytes = 40 := rfl
@[simp] theorem ti153_zero : ti153.zero = [.pointer none, .pointer none, .pointer none, .string ⟨#[]⟩] := rfl
def ti155 : TI := ⟨.arr 0 16, 0, 0, [], false, false⟩
@[simp] theorem ti155_size : ti155.size = 0 := rfl
@[simp] theorem ti155_bytes : ti155.bytes = 0 := rfl
@[simp] theorem ti155_zero : ti155.zero = [] := rfl
def ti156 : TI := ⟨.struct [(0, 155)], 0, 0, [], false, false⟩
@[simp] theorem ti156_size : ti156.size = 0 := rfl
@[simp] theorem ti156_bytes : ti156.bytes = 0 := rfl
@[simp] theorem ti156_zero : ti156.zero = [] := rfl
def ti161 : TI := ⟨.ptr 5, 1, 8, [.pointer none], false, false⟩
@[simp] theorem ti161_size : ti161.size = 1 := rfl
@[simp] theorem ti161_bytes : ti161.bytes = 8 := rfl
@[simp] theorem ti161_zero : ti161.zero = [.pointer none] := rfl
def ti164 : TI := ⟨.struct [(0, 12), (1, 12), (2, 110), (3, 158), (4, 5), (5, 5), (6, 159), (7, 160), (8, 161), (9, 162), (10, 163)], 11, 48, [.int .u64 0, .int .u64 0, .int .u32 0, .int .u8 0, .int .u8 0, .int .u8 0, .int .u8 0, .nilFunc, .pointer none, .int .i32 0, .int .i32 0], false, false⟩
@[simp] theorem ti164_size : ti164.size = 11 := rfl
@[simp] theorem ti164_bytes : ti164.bytes = 48 := rfl
@[simp] theorem ti164_zero : ti164.zero = [.int .u64 0, .int .u64 0, .int .u32 0, .int .u8 0, .int .u8 0, .int .u8 0, .int .u8 0, .nilFunc, .pointer none, .int .i32 0, .int .i32 0] := rfl
theorem ok2 : TyOK Tryz.prog 2 ti2 := ⟨⟨(Tryz.prog.info? 2).getD default, ((Tryz.prog.info? 2).getD default).zero.getD default, by kernel_rfl, by kernel_rfl, by kernel_rfl, by kernel_rfl, by kernel_rfl⟩, Tryz.underlying2, (fun h => by cases h), ⟨(Tryz.prog.info? 2).getD default, by kernel_rfl, by kernel_rfl⟩, (fun h => by cases h), (fun h => by cases h)⟩
theorem ok3 : TyOK Tryz.prog 3 ti3 := ⟨⟨(Tryz.prog.info? 3).getD default, ((Tryz.prog.info? 3).getD default).zero.getD default, by kernel_rfl, by kernel_rfl, by kernel_rfl, by kernel_rfl, by kernel_rfl⟩, Tryz.underlying3, (fun h => by cases h), ⟨(Tryz.prog.info? 3).getD default, by kernel_rfl, by kernel_rfl⟩, (fun h => by cases h), (fun h => by cases h)⟩
theorem ok4 : TyOK Tryz.prog 4 ti4 := ⟨⟨(Tryz.prog.info? 4).getD default, ((Tryz.prog.info? 4).getD default).zero.getD default, by kernel_rfl, by kernel_rfl, by kernel_rfl, by kernel_rfl, by kernel_rfl⟩, Tryz.underlying4, (fun h => by cases h), ⟨(Tryz.prog.info? 4).getD default, by kernel_rfl, by kernel_rfl⟩, (fun h => by cases h), (fun h => by cases h)⟩
theorem ok5 : TyOK Tryz.prog 5 ti5 := ⟨⟨(Tryz.prog.info? 5).getD default, ((Tryz.prog.info? 5).getD default).zero.getD default, by kernel_rfl, by kernel_rfl, by kernel_rfl, by kernel_rfl, by kernel_rfl⟩, Tryz.underlying5, (fun h => by cases h), ⟨(Tryz.prog.info? 5).getD default, by kernel_rfl, by kernel_rfl⟩, (fun h => by cases h), (fun h => by cases h)⟩
theorem ok7 : TyOK Tryz.prog 7 ti7 := ⟨⟨(Tryz.prog.info? 7).getD default, ((Tryz.prog.info? 7).getD default).zero.getD default, by kernel_rfl, by kernel_rfl, by kernel_rfl, by kernel_rfl, by kernel_rfl⟩, ⟨_, Tryz.underlying7, rfl⟩, (fun h => by cases h), ⟨(Tryz.prog.info? 7).getD default, by kernel_rfl, by kernel_rfl⟩, (fun h => by cases h), (fun h => by cases h)⟩
theorem ok9 : TyOK Tryz.prog 9 ti9 := ⟨⟨(Tryz.prog.info? 9).getD default, ((Tryz.prog.info? 9).getD default).zero.getD default, by kernel_rfl, by kernel_rfl, by kernel_rfl, by kernel_rfl, by kernel_rfl⟩, Tryz.underlying9, (fun h => by cases h), ⟨(Tryz.prog.info? 9).getD default, by kernel_rfl, by kernel_rfl⟩, (fun h => by cases h), (fun h => by cases h)⟩
theorem ok12 : TyOK Tryz.prog 12 ti12 := ⟨⟨(Tryz.prog.info? 12).getD default, ((Tryz.prog.info? 12).getD default).zero.getD default, by kernel_rfl, by kernel_rfl, by kernel_rfl, by kernel_rfl, by kernel_rfl⟩, Tryz.underlying12, (fun h => by cases h), ⟨(Tryz.prog.info? 12).getD default, by kernel_rfl, by kernel_rfl⟩, (fun h => by cases h), (fun h => by cases h)⟩
theorem ok13 : TyOK Tryz.prog 13 ti13 := ⟨⟨(Tryz.prog.info? 13).getD default, ((Tryz.prog.info? 13).getD default).zero.getD default, by kernel_rfl, by kernel_rfl, by kernel_rfl, by kernel_rfl, by kernel_rfl⟩, ⟨_, Tryz.underlying13, rfl⟩, (fun h => by cases h), ⟨(Tryz.prog.info? 13).getD default, by kernel_rfl, by kernel_rfl⟩, (fun h => by cases h), (fun h => by cases h)⟩
theorem ok15 : TyOK Tryz.prog 15 ti15 := ⟨⟨(Tryz.prog.info? 15).getD default, ((Tryz.prog.info? 15).getD default).zero.getD default, by kernel_rfl, by kernel_rfl, by kernel_rfl, by kernel_rfl, by kernel_rfl⟩, Tryz.underlying15, (fun h => by cases h), ⟨(Tryz.prog.info? 15).getD default, by kernel_rfl, by kernel_rfl⟩, (fun h => by cases h), (fun h => by cases h)⟩
theorem ok16 : TyOK Tryz.prog 16 ti16 := ⟨⟨(Tryz.prog.info? 16).getD default, ((Tryz.prog.info? 16).getD default).zero.getD default, by kernel_rfl, by kernel_rfl, by kernel_rfl, by kernel_rfl, by kernel_rfl⟩, Tryz.underlying16, (fun h => by cases h), ⟨(Tryz.prog.info? 16).getD default, by kernel_rfl, by kernel_rfl⟩, (fun h => by cases h), (fun h => by cases h)⟩
theorem ok17 : TyOK Tryz.prog 17 ti17 := ⟨⟨(Tryz.prog.info? 17).getD default, ((Tryz.prog.info? 17).getD default).zero.getD default, by kernel_rfl, by kernel_rfl, by kernel_rfl, by kernel_rfl, by kernel_rfl⟩, Tryz.underlying17, (fun h => by cases h), ⟨(Tryz.prog.info? 17).getD default, by kernel_rfl, by kernel_rfl⟩, (fun h => by cases h), (fun h => by cases h)⟩
theorem ok18 : TyOK Tryz.prog 18 ti18 := ⟨⟨(Tryz.prog.info? 18).getD default, ((Tryz.prog.info? 18).getD default).zero.getD default, by kernel_rfl, by kernel_rfl, by kernel_rfl, by kernel_rfl, by kernel_rfl⟩, ⟨_, Tryz.underlying18, rfl⟩, (fun h => by cases h), ⟨(Tryz.prog.info? 18).getD default, by kernel_rfl, by kernel_rfl⟩, (fun h => by cases h), (fun h => by cases h)⟩
theorem ok21 : TyOK Tryz.prog 21 ti21 := ⟨⟨(Tryz.prog.info? 21).getD default, ((Tryz.prog.info? 21).getD default).zero.getD default, by kernel_rfl, by kernel_rfl, by kernel_rfl, by kernel_rfl, by kernel_rfl⟩, Tryz.underlying21, (fun h => by cases h), ⟨(Tryz.prog.info? 21).getD default, by kernel_rfl, by kernel_rfl⟩, (fun h => by cases h), (fun h => by cases h)⟩
theorem ok22 : TyOK Tryz.prog 22 ti22 := ⟨⟨(Tryz.prog.info? 22).getD default, ((Tryz.prog.info? 22).getD default).zero.getD default, by kernel_rfl, by kernel_rfl, by kernel_rfl, by kernel_rfl, by kernel_rfl⟩, Tryz.underlying22, (fun h => by cases h), ⟨(Tryz.prog.info? 22).getD default, by kernel_rfl, by kernel_rfl⟩, (fun h => by cases h), (fun h => by cases h)⟩
theorem ok23 : TyOK Tryz.prog 23 ti23 := ⟨⟨(Tryz.prog.info? 23).getD default, ((Tryz.prog.info? 23).getD default).zero.getD default, by kernel_rfl, by kernel_rfl, by kernel_rfl, by kernel_rfl, by kernel_rfl⟩, ⟨_, Tryz.underlying23, rfl⟩, (fun h => by cases h), ⟨(Tryz.prog.info? 23).getD default, by kernel_rfl, by kernel_rfl⟩, (fun h => by cases h), (fun h => by cases h)⟩
theorem ok24 : TyOK Tryz.prog 24 ti24 := ⟨⟨(Tryz.prog.info? 24).getD default, ((Tryz.prog.info? 24).getD default).zero.getD default, by kernel_rfl, by kernel_rfl, by kernel_rfl, by kernel_rfl, by kernel_rfl⟩, ⟨_, Tryz.underlying24, rfl⟩, (fun h => by cases h), ⟨(Tryz.prog.info? 24).getD default, by kernel_rfl, by kernel_rfl⟩, (fun h => by cases h), (fun h => by cases h)⟩
theorem ok25 : TyOK Tryz.prog 25 ti25 := ⟨⟨(Tryz.prog.info? 25).getD default, ((Tryz.prog.info? 25).getD default).zero.getD default, by kernel_rfl, by kernel_rfl, by kernel_rfl, by kernel_rfl, by kernel_rfl⟩, Tryz.underlying25, (fun h => by cases h), ⟨(Tryz.prog.info? 25).getD default, by kernel_rfl, by kernel_rfl⟩, (fun h => by cases h), (fun h => by cases h)⟩
theorem ok29 : TyOK Tryz.prog 29 ti29 := ⟨⟨(Tryz.prog.info? 29).getD default, ((Tryz.prog.info? 29).getD default).zero.getD default, by kernel_rfl, by kernel_rfl, by kernel_rfl, by kernel_rfl, by kernel_rfl⟩, Tryz.underlying29, (fun h => by cases h), ⟨(Tryz.prog.info? 29).getD default, by kernel_rfl, by kernel_rfl⟩, (fun h => by cases h), (fun h => by cases h)⟩
theorem ok30 : TyOK Tryz.prog 30 ti30 := ⟨⟨(Tryz.prog.info? 30).getD default, ((Tryz.prog.info? 30).getD default).zero.getD default, by kernel_rfl, by kernel_rfl, by kernel_rfl, by kernel_rfl, by kernel_rfl⟩, Tryz.underlying30, (fun h => by cases h), ⟨(Tryz.prog.info? 30).getD default, by kernel_rfl, by kernel_rfl⟩, (fun h => by cases h), (fun h => by cases h)⟩
theorem ok33 : TyOK Tryz.prog 33 ti33 := ⟨⟨(Tryz.prog.info? 33).getD default, ((Tryz.prog.info? 33).getD default).zero.getD default, by kernel_rfl, by kernel_rfl, by kernel_rfl, by kernel_rfl, by kernel_rfl⟩, Tryz.underlying33, (fun h => by cases h), ⟨(Tryz.prog.info? 33).getD default, by kernel_rfl, by kernel_rfl⟩, (fun h => by cases h), (fun h => by cases h)⟩
theorem ok36 : TyOK Tryz.prog 36 ti36 := ⟨⟨(Tryz.prog.info? 36).getD default, ((Tryz.prog.info? 36).getD default).zero.getD default, by kernel_rfl, by kernel_rfl, by kernel_rfl, by kernel_rfl, by kernel_rfl⟩, ⟨_, Tryz.underlying36, rfl⟩, (fun h => by cases h), ⟨(Tryz.prog.info? 36).getD default, by kernel_rfl, by kernel_rfl⟩, (fun h => by cases h), (fun h => by cases h)⟩
theorem ok37 : TyOK Tryz.prog 37 ti37 := ⟨⟨(Tryz.prog.info? 37).getD default, ((Tryz.prog.info? 37).getD default).zero.getD default, by kernel_rfl, by kernel_rfl, by kernel_rfl, by kernel_rfl, by kernel_rfl⟩, ⟨_, Tryz.underlying37, rfl⟩, fun _ => eq37, ⟨(Tryz.prog.info? 37).getD default, by kernel_rfl, by kernel_rfl⟩, (fun h => by cases h), (fun h => by cases h)⟩
theorem ok38 : TyOK Tryz.prog 38 ti38 := ⟨⟨(Tryz.prog.info? 38).getD default, ((Tryz.prog.info? 38).getD default).zero.getD default, by kernel_rfl, by kernel_rfl, by kernel_rfl, by kernel_rfl, by kernel_rfl⟩, ⟨_, Tryz.underlying38, rfl⟩, (fun h => by cases h), ⟨(Tryz.prog.info? 38).getD default, by kernel_rfl, by kernel_rfl⟩, (fun h => by cases h), (fun h => by cases h)⟩
theorem ok39 : TyOK Tryz.prog 39 ti39 := ⟨⟨(Tryz.prog.info? 39).getD default, ((Tryz.prog.info? 39).getD default).zero.getD default, by kernel_rfl, by kernel_rfl, by kernel_rfl, by kernel_rfl, by kernel_rfl⟩, ⟨_, Tryz.underlying39, rfl⟩, fun _ => eq39, ⟨(Tryz.prog.info? 39).getD default, by kernel_rfl, by kernel_rfl⟩, (fun h => by cases h), (fun h => by cases h)⟩
theorem ok40 : TyOK Tryz.prog 40 ti40 := ⟨⟨(Tryz.prog.info? 40).getD default, ((Tryz.prog.info? 40).getD default).zero.getD default, by kernel_rfl, by kernel_rfl, by kernel_rfl, by kernel_rfl, by kernel_rfl⟩, ⟨_, Tryz.underlying40, rfl⟩, (fun h => by cases h), ⟨(Tryz.prog.info? 40).getD default, by kernel_rfl, by kernel_rfl⟩, (fun h => by cases h), (fun h => by cases h)⟩
theorem ok41 : TyOK Tryz.prog 41 ti41 := ⟨⟨(Tryz.prog.info? 41).getD default, ((Tryz.prog.info? 41).getD default).zero.getD default, by kernel_rfl, by kernel_rfl, by kernel_rfl, by kernel_rfl, by kernel_rfl⟩, ⟨_, Tryz.underlying41, rfl⟩, fun _ => eq41, ⟨(Tryz.prog.info? 41).getD default, by kernel_rfl, by kernel_rfl⟩, (fun h => by cases h), (fun h => by cases h)⟩
theorem ok42 : TyOK Tryz.prog 42 ti42 := ⟨⟨(Tryz.prog.info? 42).getD default, ((Tryz.prog.info? 42).getD default).zero.getD default, by kernel_rfl, by kernel_rfl, by kernel_rfl, by kernel_rfl, by kernel_rfl⟩, Tryz.underlying42, (fun h => by cases h), ⟨(Tryz.prog.info? 42).getD default, by kernel_rfl, by kernel_rfl⟩, (fun h => by cases h), (fun h => by cases h)⟩
theorem ok43 : TyOK Tryz.prog 43 ti43 := ⟨⟨(Tryz.prog.info? 43).getD default, ((Tryz.prog.info? 43).getD default).zero.getD default, by kernel_rfl, by kernel_rfl, by kernel_rfl, by kernel_rfl, by kernel_rfl⟩, ⟨_, Tryz.underlying43, rfl⟩, (fun h => by cases h), ⟨(Tryz.prog.info? 43).getD default, by kernel_rfl, by kernel_rfl⟩, (fun h => by cases h), (fun h => by cases h)⟩
theorem ok44 : TyOK Tryz.prog 44 ti44 := ⟨⟨(Tryz.prog.info? 44).getD default, ((Tryz.prog.info? 44).getD default).zero.getD default, by kernel_rfl, by kernel_rfl, by kernel_rfl, by kernel_rfl, by kernel_rfl⟩, ⟨_, Tryz.underlying44, rfl⟩, (fun h => by cases h), ⟨(Tryz.prog.info? 44).getD default, by kernel_rfl, by kernel_rfl⟩, (fun h => by cases h), (fun h => by cases h)⟩
theorem ok45 : TyOK Tryz.prog 45 ti45 := ⟨⟨(Tryz.prog.info? 45).getD default, ((Tryz.prog.info? 45).getD default).zero.getD default, by kernel_rfl, by kernel_rfl, by kernel_rfl, by kernel_rfl, by kernel_rfl⟩, ⟨_, Tryz.underlying45, rfl⟩, (fun h => by cases h), ⟨(Tryz.prog.info? 45).getD default, by kernel_rfl, by kernel_rfl⟩, (fun h => by cases h), (fun h => by cases h)⟩
theorem ok46 : TyOK Tryz.prog 46 ti46 := ⟨⟨(Tryz.prog.info? 46).getD default, ((Tryz.prog.info? 46).getD default).zero.getD default, by kernel_rfl, by kernel_rfl, by kernel_rfl, by kernel_rfl, by kernel_rfl⟩, ⟨_, Tryz.underlying46, rfl⟩, (fun h => by cases h), ⟨(Tryz.prog.info? 46).getD default, by kernel_rfl, by kernel_rfl⟩, (fun h => by cases h), (fun h => by cases h)⟩
theorem ok47 : TyOK Tryz.prog 47 ti47 := ⟨⟨(Tryz.prog.info? 47).getD default, ((Tryz.prog.info? 47).getD default).zero.getD default, by kernel_rfl, by kernel_rfl, by kernel_rfl, by kernel_rfl, by kernel_rfl⟩, Tryz.underlying47, fun _ => eq47, ⟨(Tryz.prog.info? 47).getD default, by kernel_rfl, by kernel_rfl⟩, (fun h => by cases h), (fun h => by cases h)⟩
theorem ok48 : TyOK Tryz.prog 48 ti48 := ⟨⟨(Tryz.prog.info? 48).getD default, ((Tryz.prog.info? 48).getD default).zero.getD default, by kernel_rfl, by kernel_rfl, by kernel_rfl, by kernel_rfl, by kernel_rfl⟩, ⟨_, Tryz.underlying48, rfl⟩, (fun h => by cases h), ⟨(Tryz.prog.info? 48).getD default, by kernel_rfl, by kernel_rfl⟩, (fun h => by cases h), (fun h => by cases h)⟩
theorem ok49 : TyOK Tryz.prog 49 ti49 := ⟨⟨(Tryz.prog.info? 49).getD default, ((Tryz.prog.info? 49).getD default).zero.getD default, by kernel_rfl, by kernel_rfl, by kernel_rfl, by kernel_rfl, by kernel_rfl⟩, ⟨_, Tryz.underlying49, rfl⟩, (fun h => by cases h), ⟨(Tryz.prog.info? 49).getD default, by kernel_rfl, by kernel_rfl⟩, (fun h => by cases h), (fun h => by cases h)⟩
theorem ok50 : TyOK Tryz.prog 50 ti50 := ⟨⟨(Tryz.prog.info? 50).getD default, ((Tryz.prog.info? 50).getD default).zero.getD default, by kernel_rfl, by kernel_rfl, by kernel_rfl, by kernel_rfl, by kernel_rfl⟩, Tryz.underlying50, (fun h => by cases h), ⟨(Tryz.prog.info? 50).getD default, by kernel_rfl, by kernel_rfl⟩, (fun h => by cases h), (fun h => by cases h)⟩
theorem ok53 : TyOK Tryz.prog 53 ti53 := ⟨⟨(Tryz.prog.info? 53).getD default, ((Tryz.prog.info? 53).getD default).zero.getD default, by kernel_rfl, by kernel_rfl, by kernel_rfl, by kernel_rfl, by kernel_rfl⟩, Tryz.underlying53, (fun h => by cases h), ⟨(Tryz.prog.info? 53).getD default, by kernel_rfl, by kernel_rfl⟩, (fun h => by cases h), (fun h => by cases h)⟩
theorem ok67 : TyOK Tryz.prog 67 ti67 := ⟨⟨(Tryz.prog.info? 67).getD default, ((Tryz.prog.info? 67).getD default).zero.getD default, by kernel_rfl, by kernel_rfl, by kernel_rfl, by kernel_rfl, by kernel_rfl⟩, ⟨_, Tryz.underlying67, rfl⟩, (fun h => by cases h), ⟨(Tryz.prog.info? 67).getD default, by kernel_rfl, by kernel_rfl⟩, (fun h => by cases h), (fun h => by cases h)⟩
theorem ok68 : TyOK Tryz.prog 68 ti68 := ⟨⟨(Tryz.prog.info? 68).getD default, ((Tryz.prog.info? 68).getD default).zero.getD default, by kernel_rfl, by kernel_rfl, by kernel_rfl, by kernel_rfl, by kernel_rfl⟩, ⟨_, Tryz.underlying68, rfl⟩, (fun h => by cases h), ⟨(Tryz.prog.info? 68).getD default, by kernel_rfl, by kernel_rfl⟩, (fun h => by cases h), (fun h => by cases h)⟩
theorem ok69 : TyOK Tryz.prog 69 ti69 := ⟨⟨(Tryz.prog.info? 69).getD default, ((Tryz.prog.info? 69).getD default).zero.getD default, by kernel_rfl, by kernel_rfl, by kernel_rfl, by kernel_rfl, by kernel_rfl⟩, ⟨_, Tryz.underlying69, rfl⟩, (fun h => by cases h), ⟨(Tryz.prog.info? 69).getD default, by kernel_rfl, by kernel_rfl⟩, (fun h => by cases h), (fun h => by cases h)⟩
theorem ok70 : TyOK Tryz.prog 70 ti70 := ⟨⟨(Tryz.prog.info? 70).getD default, ((Tryz.prog.info? 70).getD default).zero.getD default, by kernel_rfl, by kernel_rfl, by kernel_rfl, by kernel_rfl, by kernel_rfl⟩, ⟨_, Tryz.underlying70, rfl⟩, fun _ => eq70, ⟨(Tryz.prog.info? 70).getD default, by kernel_rfl, by kernel_rfl⟩, (fun h => by cases h), (fun h => by cases h)⟩
theorem ok75 : TyOK Tryz.prog 75 ti75 := ⟨⟨(Tryz.prog.info? 75).getD default, ((Tryz.prog.info? 75).getD default).zero.getD default, by kernel_rfl, by kernel_rfl, by kernel_rfl, by kernel_rfl, by kernel_rfl⟩, Tryz.underlying75, (fun h => by cases h), ⟨(Tryz.prog.info? 75).getD default, by kernel_rfl, by kernel_rfl⟩, (fun h => by cases h), (fun h => by cases h)⟩
theorem ok76 : TyOK Tryz.prog 76 ti76 := ⟨⟨(Tryz.prog.info? 76).getD default, ((Tryz.prog.info? 76).getD default).zero.getD default, by kernel_rfl, by kernel_rfl, by kernel_rfl, by kernel_rfl, by kernel_rfl⟩, Tryz.underlying76, (fun h => by cases h), ⟨(Tryz.prog.info? 76).getD default, by kernel_rfl, by kernel_rfl⟩, (fun h => by cases h), (fun h => by cases h)⟩
theorem ok77 : TyOK Tryz.prog 77 ti77 := ⟨⟨(Tryz.prog.info? 77).getD default, ((Tryz.prog.info? 77).getD default).zero.getD default, by kernel_rfl, by kernel_rfl, by kernel_rfl, by kernel_rfl, by kernel_rfl⟩, ⟨_, Tryz.underlying77, rfl⟩, (fun h => by cases h), ⟨(Tryz.prog.info? 77).getD default, by kernel_rfl, by kernel_rfl⟩, (fun h => by cases h), (fun h => by cases h)⟩
theorem ok78 : TyOK Tryz.prog 78 ti78 := ⟨⟨(Tryz.prog.info? 78).getD default, ((Tryz.prog.info? 78).getD default).zero.getD default, by kernel_rfl, by kernel_rfl, by kernel_rfl, by kernel_rfl, by kernel_rfl⟩, ⟨_, Tryz.underlying78, rfl⟩, (fun h => by cases h), ⟨(Tryz.prog.info? 78).getD default, by kernel_rfl, by kernel_rfl⟩, (fun h => by cases h), (fun h => by cases h)⟩
theorem ok81 : TyOK Tryz.prog 81 ti81 := ⟨⟨(Tryz.prog.info? 81).getD default, ((Tryz.prog.info? 81).getD default).zero.getD default, by kernel_rfl, by kernel_rfl, by kernel_rfl, by kernel_rfl, by kernel_rfl⟩, Tryz.underlying81, (fun h => by cases h), ⟨(Tryz.prog.info? 81).getD default, by kernel_rfl, by kernel_rfl⟩, (fun h => by cases h), (fun h => by cases h)⟩
theorem ok84 : TyOK Tryz.prog 84 ti84 := ⟨⟨(Tryz.prog.info? 84).getD default, ((Tryz.prog.info? 84).getD default).zero.getD default, by kernel_rfl, by kernel_rfl, by kernel_rfl, by kernel_rfl, by kernel_rfl⟩, ⟨_, Tryz.underlying84, rfl⟩, (fun h => by cases h), ⟨(Tryz.prog.info? 84).getD default, by kernel_rfl, by kernel_rfl⟩, (fun h => by cases h), (fun h => by cases h)⟩
theorem ok85 : TyOK Tryz.prog 85 ti85 := ⟨⟨(Tryz.prog.info? 85).getD default, ((Tryz.prog.info? 85).getD default).zero.getD default, by kernel_rfl, by kernel_rfl, by kernel_rfl, by kernel_rfl, by kernel_rfl⟩, ⟨_, Tryz.underlying85, rfl⟩, (fun h => by cases h), ⟨(Tryz.prog.info? 85).getD default, by kernel_rfl, by kernel_rfl⟩, (fun h => by cases h), (fun h => by cases h)⟩
theorem ok89 : TyOK Tryz.prog 89 ti89 := ⟨⟨(Tryz.prog.info? 89).getD default, ((Tryz.prog.info? 89).getD default).zero.getD default, by kernel_rfl, by kernel_rfl, by kernel_rfl, by kernel_rfl, by kernel_rfl⟩, ⟨_, Tryz.underlying89, rfl⟩, (fun h => by cases h), ⟨(Tryz.prog.info? 89).getD default, by kernel_rfl, by kernel_rfl⟩, (fun h => by cases h), (fun h => by cases h)⟩
theorem ok95 : TyOK Tryz.prog 95 ti95 := ⟨⟨(Tryz.prog.info? 95).getD default, ((Tryz.prog.info? 95).getD default).zero.getD default, by kernel_rfl, by kernel_rfl, by kernel_rfl, by kernel_rfl, by kernel_rfl⟩, ⟨_, Tryz.underlying95, rfl⟩, (fun h => by cases h), ⟨(Tryz.prog.info? 95).getD default, by kernel_rfl, by kernel_rfl⟩, (fun h => by cases h), (fun h => by cases h)⟩
theorem ok96 : TyOK Tryz.prog 96 ti96 := ⟨⟨(Tryz.prog.info? 96).getD default, ((Tryz.prog.info? 96).getD default).zero.getD default, by kernel_rfl, by kernel_rfl, by kernel_rfl, by kernel_rfl, by kernel_rfl⟩, ⟨_, Tryz.underlying96, rfl⟩, fun _ => eq96, ⟨(Tryz.prog.info? 96).getD default, by kernel_rfl, by kernel_rfl⟩, (fun h => by cases h), (fun h => by cases h)⟩
theorem ok101 : TyOK Tryz.prog 101 ti101 := ⟨⟨(Tryz.prog.info? 101).getD default, ((Tryz.prog.info? 101).getD default).zero.getD default, by kernel_rfl, by kernel_rfl, by kernel_rfl, by kernel_rfl, by kernel_rfl⟩, ⟨_, Tryz.underlying101, rfl⟩, (fun h => by cases h), ⟨(Tryz.prog.info? 101).getD default, by kernel_rfl, by kernel_rfl⟩, (fun h => by cases h), (fun h => by cases h)⟩
theorem ok102 : TyOK Tryz.prog 102 ti102 := ⟨⟨(Tryz.prog.info? 102).getD default, ((Tryz.prog.info? 102).getD default).zero.getD default, by kernel_rfl, by kernel_rfl, by kernel_rfl, by kernel_rfl, by kernel_rfl⟩, ⟨_, Tryz.underlying102, rfl⟩, fun _ => eq102, ⟨(Tryz.prog.info? 102).getD default, by kernel_rfl, by kernel_rfl⟩, (fun h => by cases h), (fun h => by cases h)⟩
theorem ok104 : TyOK Tryz.prog 104 ti104 := ⟨⟨(Tryz.prog.info? 104).getD default, ((Tryz.prog.info? 104).getD default).zero.getD default, by kernel_rfl, by kernel_rfl, by kernel_rfl, by kernel_rfl, by kernel_rfl⟩, ⟨_, Tryz.underlying104, rfl⟩, (fun h => by cases h), ⟨(Tryz.prog.info? 104).getD default, by kernel_rfl, by kernel_rfl⟩, (fun h => by cases h), (fun h => by cases h)⟩
theorem ok105 : TyOK Tryz.prog 105 ti105 := ⟨⟨(Tryz.prog.info? 105).getD default, ((Tryz.prog.info? 105).getD default).zero.getD default, by kernel_rfl, by kernel_rfl, by kernel_rfl, by kernel_rfl, by kernel_rfl⟩, ⟨_, Tryz.underlying105, rfl⟩, fun _ => eq105, ⟨(Tryz.prog.info? 105).getD default, by kernel_rfl, by kernel_rfl⟩, (fun h => by cases h), (fun h => by cases h)⟩
theorem ok107 : TyOK Tryz.prog 107 ti107 := ⟨⟨(Tryz.prog.info? 107).getD default, ((Tryz.prog.info? 107).getD default).zero.getD default, by kernel_rfl, by kernel_rfl, by kernel_rfl, by kernel_rfl, by kernel_rfl⟩, ⟨_, Tryz.underlying107, rfl⟩, (fun h => by cases h), ⟨(Tryz.prog.info? 107).getD default, by kernel_rfl, by kernel_rfl⟩, (fun h => by cases h), (fun h => by cases h)⟩
theorem ok108 : TyOK Tryz.prog 108 ti108 := ⟨⟨(Tryz.prog.info? 108).getD default, ((Tryz.prog.info? 108).getD default).zero.getD default, by kernel_rfl, by kernel_rfl, by kernel_rfl, by kernel_rfl, by kernel_rfl⟩, ⟨_, Tryz.underlying108, rfl⟩, (fun h => by cases h), ⟨(Tryz.prog.info? 108).getD default, by kernel_rfl, by kernel_rfl⟩, (fun h => by cases h), (fun h => by cases h)⟩
theorem ok110 : TyOK Tryz.prog 110 ti110 := ⟨⟨(Tryz.prog.info? 110).getD default, ((Tryz.prog.info? 110).getD default).zero.getD default, by kernel_rfl, by kernel_rfl, by kernel_rfl, by kernel_rfl, by kernel_rfl⟩, Tryz.underlying110, (fun h => by cases h), ⟨(Tryz.prog.info? 110).getD default, by kernel_rfl, by kernel_rfl⟩, (fun h => by cases h), (fun h => by cases h)⟩
theorem ok111 : TyOK Tryz.prog 111 ti111 := ⟨⟨(Tryz.prog.info? 111).getD default, ((Tryz.prog.info? 111).getD default).zero.getD default, by kernel_rfl, by kernel_rfl, by kernel_rfl, by kernel_rfl, by kernel_rfl⟩, ⟨_, Tryz.underlying111, rfl⟩, (fun h => by cases h), ⟨(Tryz.prog.info? 111).getD default, by kernel_rfl, by kernel_rfl⟩, (fun h => by cases h), (fun h => by cases h)⟩
theorem ok113 : TyOK Tryz.prog 113 ti113 := ⟨⟨(Tryz.prog.info? 113).getD default, ((Tryz.prog.info? 113).getD default).zero.getD default, by kernel_rfl, by kernel_rfl, by kernel_rfl, by kernel_rfl, by kernel_rfl⟩, ⟨_, Tryz.underlying113, rfl⟩, (fun h => by cases h), ⟨(Tryz.prog.info? 113).getD default, by kernel_rfl, by kernel_rfl⟩, (fun h => by cases h), (fun h => by cases h)⟩
theorem ok115 : TyOK Tryz.prog 115 ti115 := ⟨⟨(Tryz.prog.info? 115).getD default, ((Tryz.prog.info? 115).getD default).zero.getD default, by kernel_rfl, by kernel_rfl, by kernel_rfl, by kernel_rfl, by kernel_rfl⟩, ⟨_, Tryz.underlying115, rfl⟩, (fun h => by cases h), ⟨(Tryz.prog.info? 115).getD default, by kernel_rfl, by kernel_rfl⟩, (fun h => by cases h), (fun h => by cases h)⟩
theorem ok116 : TyOK Tryz.prog 116 ti116 := ⟨⟨(Tryz.prog.info? 116).getD default, ((Tryz.prog.info? 116).getD default).zero.getD default, by kernel_rfl, by kernel_rfl, by kernel_rfl, by kernel_rfl, by kernel_rfl⟩, ⟨_, Tryz.underlying116, rfl⟩, (fun h => by cases h), ⟨(Tryz.prog.info? 116).getD default, by kernel_rfl, by kernel_rfl⟩, (fun h => by cases h), (fun h => by cases h)⟩
theorem ok117 : TyOK Tryz.prog 117 ti117 := ⟨⟨(Tryz.prog.info? 117).getD default, ((Tryz.prog.info? 117).getD default).zero.getD default, by kernel_rfl, by kernel_rfl, by kernel_rfl, by kernel_rfl, by kernel_rfl⟩, ⟨_, Tryz.underlying117, rfl⟩, (fun h => by cases h), ⟨(Tryz.prog.info? 117).getD default, by kernel_rfl, by kernel_rfl⟩, (fun h => by cases h), (fun h => by cases h)⟩
theorem ok118 : TyOK Tryz.prog 118 ti118 := ⟨⟨(Tryz.prog.info? 118).getD default, ((Tryz.prog.info? 118).getD default).zero.getD default, by kernel_rfl, by kernel_rfl, by kernel_rfl, by kernel_rfl, by kernel_rfl⟩, ⟨_, Tryz.underlying118, rfl⟩, (fun h => by cases h), ⟨(Tryz.prog.info? 118).getD default, by kernel_rfl, by kernel_rfl⟩, (fun h => by cases h), (fun h => by cases h)⟩
theorem ok119 : TyOK Tryz.prog 119 ti119 := ⟨⟨(Tryz.prog.info? 119).getD default, ((Tryz.prog.info? 119).getD default).zero.getD default, by kernel_rfl, by kernel_rfl, by kernel_rfl, by kernel_rfl, by kernel_rfl⟩, ⟨_, Tryz.underlying119, rfl⟩, (fun h => by cases h), ⟨(Tryz.prog.info? 119).getD default, by kernel_rfl, by kernel_rfl⟩, (fun h => by cases h), (fun h => by cases h)⟩
theorem ok120 : TyOK Tryz.prog 120 ti120 := ⟨⟨(Tryz.prog.info? 120).getD default, ((Tryz.prog.info? 120).getD default).zero.getD default, by kernel_rfl, by kernel_rfl, by kernel_rfl, by kernel_rfl, by kernel_rfl⟩, ⟨_, Tryz.underlying120, rfl⟩, (fun h => by cases h), ⟨(Tryz.prog.info? 120).getD default, by kernel_rfl, by kernel_rfl⟩, (fun h => by cases h), (fun h => by cases h)⟩
theorem ok129 : TyOK Tryz.prog 129 ti129 := ⟨⟨(Tryz.prog.info? 129).getD default, ((Tryz.prog.info? 129).getD default).zero.getD default, by kernel_rfl, by kernel_rfl, by kernel_rfl, by kernel_rfl, by kernel_rfl⟩, Tryz.underlying129, (fun h => by cases h), ⟨(Tryz.prog.info? 129).getD default, by kernel_rfl, by kernel_rfl⟩, (fun h => by cases h), (fun h => by cases h)⟩
theorem ok134 : TyOK Tryz.prog 134 ti134 := ⟨⟨(Tryz.prog.info? 134).getD default, ((Tryz.prog.info? 134).getD default).zero.getD default, by kernel_rfl, by kernel_rfl, by kernel_rfl, by kernel_rfl, by kernel_rfl⟩, Tryz.underlying134, (fun h => by cases h), ⟨(Tryz.prog.info? 134).getD default, by kernel_rfl, by kernel_rfl⟩, (fun h => by cases h), (fun h => by cases h)⟩
theorem ok136 : TyOK Tryz.prog 136 ti136 := ⟨⟨(Tryz.prog.info? 136).getD default, ((Tryz.prog.info? 136).getD default).zero.getD default, by kernel_rfl, by kernel_rfl, by kernel_rfl, by kernel_rfl, by kernel_rfl⟩, Tryz.underlying136, (fun h => by cases h), ⟨(Tryz.prog.info? 136).getD default, by kernel_rfl, by kernel_rfl⟩, (fun h => by cases h), (fun h => by cases h)⟩
theorem ok137 : TyOK Tryz.prog 137 ti137 := ⟨⟨(Tryz.prog.info? 137).getD default, ((Tryz.prog.info? 137).getD default).zero.getD default, by kernel_rfl, by kernel_rfl, by kernel_rfl, by kernel_rfl, by kernel_rfl⟩, Tryz.underlying137, (fun h => by cases h), ⟨(Tryz.prog.info? 137).getD default, by kernel_rfl, by kernel_rfl⟩, (fun h => by cases h), (fun h => by cases h)⟩
theorem ok140 : TyOK Tryz.prog 140 ti140 := ⟨⟨(Tryz.prog.info? 140).getD default, ((Tryz.prog.info? 140).getD default).zero.getD default, by kernel_rfl, by kernel_rfl, by kernel_rfl, by kernel_rfl, by kernel_rfl⟩, Tryz.underlying140, (fun h => by cases h), ⟨(Tryz.prog.info? 140).getD default, by kernel_rfl, by kernel_rfl⟩, (fun h => by cases h), (fun h => by cases h)⟩
theorem ok141 : TyOK Tryz.prog 141 ti141 := ⟨⟨(Tryz.prog.info? 141).getD default, ((Tryz.prog.info? 141).getD default).zero.getD default, by kernel_rfl, by kernel_rfl, by kernel_rfl, by kernel_rfl, by kernel_rfl⟩, Tryz.underlying141, (fun h => by cases h), ⟨(Tryz.prog.info? 141).getD default, by kernel_rfl, by kernel_rfl⟩, (fun h => by cases h), (fun h => by cases h)⟩
theorem ok143 : TyOK Tryz.prog 143 ti143 := ⟨⟨(Tryz.prog.info? 143).getD default, ((Tryz.prog.info? 143).getD default).zero.getD default, by kernel_rfl, by kernel_rfl, by kernel_rfl, by kernel_rfl, by kernel_rfl⟩, Tryz.underlying143, (fun h => by cases h), ⟨(Tryz.prog.info? 143).getD default, by kernel_rfl, by kernel_rfl⟩, (fun h => by cases h), (fun h => by cases h)⟩
theorem ok148 : TyOK Tryz.prog 148 ti148 := ⟨⟨(Tryz.prog.info? 148).getD default, ((Tryz.prog.info? 148).getD default).zero.getD default, by kernel_rfl, by kernel_rfl, by kernel_rfl, by kernel_rfl, by kernel_rfl⟩, Tryz.underlying148, (fun h => by cases h), ⟨(Tryz.prog.info? 148).getD default, by kernel_rfl, by kernel_rfl⟩, (fun h => by cases h), (fun h => by cases h)⟩
theorem ok153 : TyOK Tryz.prog 153 ti153 := ⟨⟨(Tryz.prog.info? 153).getD default, ((Tryz.prog.info? 153).getD default).zero.getD default, by kernel_rfl, by kernel_rfl, by kernel_rfl, by kernel_rfl, by kernel_rfl⟩, ⟨_, Tryz.underlying153, rfl⟩, (fun h => by cases h), ⟨(Tryz.prog.info? 153).getD default, by kernel_rfl, by kernel_rfl⟩, (fun h => by cases h), (fun h => by cases h)⟩
theorem ok155 : TyOK Tryz.prog 155 ti155 := ⟨⟨(Tryz.prog.info? 155).getD default, ((Tryz.prog.info? 155).getD default).zero.getD default, by kernel_rfl, by kernel_rfl, by kernel_rfl, by kernel_rfl, by kernel_rfl⟩, Tryz.underlying155, (fun h => by cases h), ⟨(Tryz.prog.info? 155).getD default, by kernel_rfl, by kernel_rfl⟩, (fun h => by cases h), (fun h => by cases h)⟩
theorem ok156 : TyOK Tryz.prog 156 ti156 := ⟨⟨(Tryz.prog.info? 156).getD default, ((Tryz.prog.info? 156).getD default).zero.getD default, by kernel_rfl, by kernel_rfl, by kernel_rfl, by kernel_rfl, by kernel_rfl⟩, ⟨_, Tryz.underlying156, rfl⟩, (fun h => by cases h), ⟨(Tryz.prog.info? 156).getD default, by kernel_rfl, by kernel_rfl⟩, (fun h => by cases h), (fun h => by cases h)⟩
theorem ok161 : TyOK Tryz.prog 161 ti161 := ⟨⟨(Tryz.prog.info? 161).getD default, ((Tryz.prog.info? 161).getD default).zero.getD default, by kernel_rfl, by kernel_rfl, by kernel_rfl, by kernel_rfl, by kernel_rfl⟩, Tryz.underlying161, (fun h => by cases h), ⟨(Tryz.prog.info? 161).getD default, by kernel_rfl, by kernel_rfl⟩, (fun h => by cases h), (fun h => by cases h)⟩
theorem ok164 : TyOK Tryz.prog 164 ti164 := ⟨⟨(Tryz.prog.info? 164).getD default, ((Tryz.prog.info? 164).getD default).zero.getD default, by kernel_rfl, by kernel_rfl, by kernel_rfl, by kernel_rfl, by kernel_rfl⟩, ⟨_, Tryz.underlying164, rfl⟩, (fun h => by cases h), ⟨(Tryz.prog.info? 164).getD default, by kernel_rfl, by kernel_rfl⟩, (fun h => by cases h), (fun h => by cases h)⟩
def lookT : List (Nat × TI) → Nat → Option TI
  | [], _ => none
  | (i, x) :: r, n => match Nat.beq i n with
    | true => some x
    | false => lookT r n
theorem lookT_spec : ∀ (l : List (Nat × TI)) (n : Nat) (x : TI), lookT l n = some x → (n, x) ∈ l
  | [], _, _, h => by cases h
  | (i, y) :: r, n, x, h => by
    unfold lookT at h
    split at h
    · rename_i hb; cases h; rw [Nat.eq_of_beq_eq_true hb]; exact List.mem_cons_self ..
    · exact List.mem_cons_of_mem _ (lookT_spec r n x h)
def tyList : List (Nat × TI) := [(2, ti2), (3, ti3), (4, ti4), (5, ti5), (7, ti7), (9, ti9), (12, ti12), (13, ti13), (15, ti15), (16, ti16), (17, ti17), (18, ti18), (21, ti21), (22, ti22), (23, ti23), (24, ti24), (25, ti25), (29, ti29), (30, ti30), (33, ti33), (36, ti36), (37, ti37), (38, ti38), (39, ti39), (40, ti40), (41, ti41), (42, ti42), (43, ti43), (44, ti44), (45, ti45), (46, ti46), (47, ti47), (48, ti48), (49, ti49), (50, ti50), (53, ti53), (67, ti67), (68, ti68), (69, ti69), (70, ti70), (75, ti75), (76, ti76), (77, ti77), (78, ti78), (81, ti81), (84, ti84), (85, ti85), (89, ti89), (95, ti95), (96, ti96), (101, ti101), (102, ti102), (104, ti104), (105, ti105), (107, ti107), (108, ti108), (110, ti110), (111, ti111), (113, ti113), (115, ti115), (116, ti116), (117, ti117), (118, ti118), (119, ti119), (120, ti120), (129, ti129), (134, ti134), (136, ti136), (137, ti137), (140, ti140), (141, ti141), (143, ti143), (148, ti148), (153, ti153), (155, ti155), (156, ti156), (161, ti161), (164, ti164)]
def AllTy (P : Program) : List (Nat × TI) → Prop
  | [] => True
  | (t, x) :: r => TyOK P t x ∧ AllTy P r
theorem allTy_spec {P : Program} : ∀ {l : List (Nat × TI)}, AllTy P l → ∀ t x, (t, x) ∈ l → TyOK P t x
  | (_, _) :: r, h, t, x, hm => by
    rcases List.mem_cons.1 hm with he | hm
    · cases he; exact h.1
    · exact allTy_spec h.2 t x hm
theorem allOK : AllTy Tryz.prog tyList := ⟨ok2, ok3, ok4, ok5, ok7, ok9, ok12, ok13, ok15, ok16, ok17, ok18, ok21, ok22, ok23, ok24, ok25, ok29, ok30, ok33, ok36, ok37, ok38, ok39, ok40, ok41, ok42, ok43, ok44, ok45, ok46, ok47, ok48, ok49, ok50, ok53, ok67, ok68, ok69, ok70, ok75, ok76, ok77, ok78, ok81, ok84, ok85, ok89, ok95, ok96, ok101, ok102, ok104, ok105, ok107, ok108, ok110, ok111, ok113, ok115, ok116, ok117, ok118, ok119, ok120, ok129, ok134, ok136, ok137, ok140, ok141, ok143, ok148, ok153, ok155, ok156, ok161, ok164, trivial⟩
def tyL (n : Nat) : Option TI := lookT tyList n
def fnL : List Nat := [3, 4, 5, 6, 7, 8, 9, 10, 11, 12, 13, 14, 15, 16, 17, 18, 19, 20, 21, 22, 23, 24, 25, 26, 27, 28, 29, 30, 31, 32, 33, 34, 35, 36, 37, 38, 39, 40, 41, 42, 43, 44, 45, 46, 47, 48, 49, 50, 51, 52, 53, 54, 55, 56, 57, 58, 59, 60, 61, 62, 63, 64, 65, 66, 67, 68, 69, 70, 71, 72, 73, 74, 75, 76, 77, 78, 79, 80, 82, 83, 84, 86, 87, 88]
def memB : List Nat → Nat → Bool
  | [], _ => false
  | x :: xs, n => match Nat.beq x n with
    | true => true
    | false => memB xs n
theorem memB_spec : ∀ (l : List Nat) (n : Nat), memB l n = true → n ∈ l
  | x :: xs, n, h => by
    unfold memB at h
    split at h
    · rename_i hb; rw [Nat.eq_of_beq_eq_true hb]; exact List.mem_cons_self ..
    · exact List.mem_cons_of_mem _ (memB_spec xs n h)
def tab : Tab := ⟨tyL, memB fnL⟩
theorem fnOK : (fnL.all fun f => (Tryz.prog.funcs[f]?).any fun fn => !(fn.name == "runtime.NumGoroutine") && fn.body.isSome) = true := by kernel_rfl
theorem tabOK : TabOK Tryz.prog tab := by
  refine ⟨fun t ti h => ?_, fun f hf args w => ?_, by kernel_rfl⟩
  · exact allTy_spec allOK t ti (lookT_spec _ _ _ h)
  · have := List.all_eq_true.1 fnOK f (memB_spec fnL f hf)
    obtain ⟨fn, hfn, hb⟩ := (Option.any_eq_true _ _).1 this
    simp only [Bool.and_eq_true, Bool.not_eq_true'] at hb
    obtain ⟨c, hc⟩ := Option.isSome_iff_exists.1 hb.2
    exact MuLone.run_callFunc_enter hfn hb.1 hc args w
end Go.Proofs.YtghfigeepnbjaaaGreat
