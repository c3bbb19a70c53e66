/-
  The table of the types, for the executor. No condition.
-/
import Derived.Test.YtcogbepdjegheaaProg
import Derived.Test.YtcogbepdjegheaaRxB
import Derived.WalkKit
namespace Go.Proofs.Ytcogbepdjegheaa
def ti2 : TI := ⟨.int .i64, 1, 8, [.int .i64 0], false, false⟩
@[simp] theorem ti2_size : ti2.size = 1 := rfl
@[simp] theorem ti2_bytes : ti2.bytes = 8 := rfl
@[simp] theorem ti2_zero : ti2.zero = [.int .i64 0] := rfl
def ti3 : TI := ⟨.int .i64, 1, 8, [.int .i64 0], false, false⟩
@[simp] theorem ti3_size : ti3.size = 1 := rfl
@[simp] theorem ti3_bytes : ti3.bytes = 8 := rfl
@[simp] theorem ti3_zero : ti3.zero = [.int .i64 0] := rfl
def ti4 : TI := ⟨.bool, 1, 1, [.bool false], false, false⟩
@[simp] theorem ti4_size : ti4.size = 1 := rfl
@[simp] theorem ti4_bytes : ti4.bytes = 1 := rfl
@[simp] theorem ti4_zero : ti4.zero = [.bool false] := rfl
def ti5 : TI := ⟨.int .u8, 1, 1, [.int .u8 0], false, false⟩
@[simp] theorem ti5_size : ti5.size = 1 := rfl
@[simp] theorem ti5_bytes : ti5.bytes = 1 := rfl
@[simp] theorem ti5_zero : ti5.zero = [.int .u8 0] := rfl
def ti7 : TI := ⟨.struct [(0, 2), (1, 3), (2, 4), (3, 6)], 4, 24, [.int .i64 0, .int .i64 0, .bool false, .int .u8 0], false, false⟩
@[simp] theorem ti7_size : ti7.size = 4 := rfl
@[simp] theorem ti7_bytes : ti7.bytes = 24 := rfl
@[simp] theorem ti7_zero : ti7.zero = [.int .i64 0, .int .i64 0, .bool false, .int .u8 0] := rfl
def ti9 : TI := ⟨.str, 1, 16, [.string ⟨#[]⟩], false, false⟩
@[simp] theorem ti9_size : ti9.size = 1 := rfl
@[simp] theorem ti9_bytes : ti9.bytes = 16 := rfl
@[simp] theorem ti9_zero : ti9.zero = [.string ⟨#[]⟩] := rfl
def ti12 : TI := ⟨.int .u64, 1, 8, [.int .u64 0], false, false⟩
@[simp] theorem ti12_size : ti12.size = 1 := rfl
@[simp] theorem ti12_bytes : ti12.bytes = 8 := rfl
@[simp] theorem ti12_zero : ti12.zero = [.int .u64 0] := rfl
def ti13 : TI := ⟨.struct [(0, 9), (1, 12)], 2, 24, [.string ⟨#[]⟩, .int .u64 0], false, false⟩
@[simp] theorem ti13_size : ti13.size = 2 := rfl
@[simp] theorem ti13_bytes : ti13.bytes = 24 := rfl
@[simp] theorem ti13_zero : ti13.zero = [.string ⟨#[]⟩, .int .u64 0] := rfl
def ti15 : TI := ⟨.ptr 134, 1, 8, [.pointer none], false, false⟩
@[simp] theorem ti15_size : ti15.size = 1 := rfl
@[simp] theorem ti15_bytes : ti15.bytes = 8 := rfl
@[simp] theorem ti15_zero : ti15.zero = [.pointer none] := rfl
def ti16 : TI := ⟨.ptr 137, 1, 8, [.pointer none], false, false⟩
@[simp] theorem ti16_size : ti16.size = 1 := rfl
@[simp] theorem ti16_bytes : ti16.bytes = 8 := rfl
@[simp] theorem ti16_zero : ti16.zero = [.pointer none] := rfl
def ti17 : TI := ⟨.ptr 146, 1, 8, [.pointer none], false, false⟩
@[simp] theorem ti17_size : ti17.size = 1 := rfl
@[simp] theorem ti17_bytes : ti17.bytes = 8 := rfl
@[simp] theorem ti17_zero : ti17.zero = [.pointer none] := rfl
def ti18 : TI := ⟨.struct [(0, 17)], 1, 8, [.pointer none], false, false⟩
@[simp] theorem ti18_size : ti18.size = 1 := rfl
@[simp] theorem ti18_bytes : ti18.bytes = 8 := rfl
@[simp] theorem ti18_zero : ti18.zero = [.pointer none] := rfl
def ti21 : TI := ⟨.int .i32, 1, 4, [.int .i32 0], false, false⟩
@[simp] theorem ti21_size : ti21.size = 1 := rfl
@[simp] theorem ti21_bytes : ti21.bytes = 4 := rfl
@[simp] theorem ti21_zero : ti21.zero = [.int .i32 0] := rfl
def ti22 : TI := ⟨.slice 3, 1, 24, [.slice none 0 0], false, false⟩
@[simp] theorem ti22_size : ti22.size = 1 := rfl
@[simp] theorem ti22_bytes : ti22.bytes = 24 := rfl
@[simp] theorem ti22_zero : ti22.zero = [.slice none 0 0] := rfl
def ti23 : TI := ⟨.struct [(0, 3), (1, 3), (2, 3), (3, 22), (4, 3), (5, 3), (6, 3), (7, 3), (8, 3), (9, 3), (10, 3), (11, 3)], 12, 112, [.int .i64 0, .int .i64 0, .int .i64 0, .slice none 0 0, .int .i64 0, .int .i64 0, .int .i64 0, .int .i64 0, .int .i64 0, .int .i64 0, .int .i64 0, .int .i64 0], false, false⟩
@[simp] theorem ti23_size : ti23.size = 12 := rfl
@[simp] theorem ti23_bytes : ti23.bytes = 112 := rfl
@[simp] theorem ti23_zero : ti23.zero = [.int .i64 0, .int .i64 0, .int .i64 0, .slice none 0 0, .int .i64 0, .int .i64 0, .int .i64 0, .int .i64 0, .int .i64 0, .int .i64 0, .int .i64 0, .int .i64 0] := rfl
def ti24 : TI := ⟨.struct [(0, 3), (1, 3), (2, 3), (3, 22), (4, 3), (5, 3), (6, 3), (7, 3), (8, 3), (9, 3), (10, 3), (11, 3)], 12, 112, [.int .i64 0, .int .i64 0, .int .i64 0, .slice none 0 0, .int .i64 0, .int .i64 0, .int .i64 0, .int .i64 0, .int .i64 0, .int .i64 0, .int .i64 0, .int .i64 0], false, false⟩
@[simp] theorem ti24_size : ti24.size = 12 := rfl
@[simp] theorem ti24_bytes : ti24.bytes = 112 := rfl
@[simp] theorem ti24_zero : ti24.zero = [.int .i64 0, .int .i64 0, .int .i64 0, .slice none 0 0, .int .i64 0, .int .i64 0, .int .i64 0, .int .i64 0, .int .i64 0, .int .i64 0, .int .i64 0, .int .i64 0] := rfl
def ti28 : TI := ⟨.int .i64, 1, 8, [.int .i64 0], false, false⟩
@[simp] theorem ti28_size : ti28.size = 1 := rfl
@[simp] theorem ti28_bytes : ti28.bytes = 8 := rfl
@[simp] theorem ti28_zero : ti28.zero = [.int .i64 0] := rfl
def ti30 : TI := ⟨.slice 70, 1, 24, [.slice none 0 0], false, false⟩
@[simp] theorem ti30_size : ti30.size = 1 := rfl
@[simp] theorem ti30_bytes : ti30.bytes = 24 := rfl
@[simp] theorem ti30_zero : ti30.zero = [.slice none 0 0] := rfl
def ti31 : TI := ⟨.struct [(0, 3), (1, 30), (2, 3)], 3, 40, [.int .i64 0, .slice none 0 0, .int .i64 0], false, false⟩
@[simp] theorem ti31_size : ti31.size = 3 := rfl
@[simp] theorem ti31_bytes : ti31.bytes = 40 := rfl
@[simp] theorem ti31_zero : ti31.zero = [.int .i64 0, .slice none 0 0, .int .i64 0] := rfl
def ti32 : TI := ⟨.struct [(0, 3), (1, 30), (2, 3)], 3, 40, [.int .i64 0, .slice none 0 0, .int .i64 0], false, false⟩
@[simp] theorem ti32_size : ti32.size = 3 := rfl
@[simp] theorem ti32_bytes : ti32.bytes = 40 := rfl
@[simp] theorem ti32_zero : ti32.zero = [.int .i64 0, .slice none 0 0, .int .i64 0] := rfl
def ti37 : TI := ⟨.slice 43, 1, 24, [.slice none 0 0], false, false⟩
@[simp] theorem ti37_size : ti37.size = 1 := rfl
@[simp] theorem ti37_bytes : ti37.bytes = 24 := rfl
@[simp] theorem ti37_zero : ti37.zero = [.slice none 0 0] := rfl
def ti38 : TI := ⟨.ptr 62, 1, 8, [.pointer none], false, false⟩
@[simp] theorem ti38_size : ti38.size = 1 := rfl
@[simp] theorem ti38_bytes : ti38.bytes = 8 := rfl
@[simp] theorem ti38_zero : ti38.zero = [.pointer none] := rfl
def ti40 : TI := ⟨.struct [(0, 3), (1, 9), (2, 3), (3, 3)], 4, 40, [.int .i64 0, .string ⟨#[]⟩, .int .i64 0, .int .i64 0], false, false⟩
@[simp] theorem ti40_size : ti40.size = 4 := rfl
@[simp] theorem ti40_bytes : ti40.bytes = 40 := rfl
@[simp] theorem ti40_zero : ti40.zero = [.int .i64 0, .string ⟨#[]⟩, .int .i64 0, .int .i64 0] := rfl
def ti41 : TI := ⟨.struct [(0, 3), (1, 9), (2, 3), (3, 3)], 4, 40, [.int .i64 0, .string ⟨#[]⟩, .int .i64 0, .int .i64 0], true, false⟩
@[simp] theorem ti41_size : ti41.size = 4 := rfl
@[simp] theorem ti41_bytes : ti41.bytes = 40 := rfl
@[simp] theorem ti41_zero : ti41.zero = [.int .i64 0, .string ⟨#[]⟩, .int .i64 0, .int .i64 0] := rfl
set_option maxRecDepth 100000 in
set_option maxHeartbeats 4000000 in
theorem eq41 : ∀ xs ys b, EqC ti41.zero xs ys b → ∀ (x y : Operand) (w : World),
    (do eqGuard .eql 41 x y (.agg xs.toArray) (.agg ys.toArray); binOp .eql 41 (.agg xs.toArray) (.agg ys.toArray) : Sem Value).run Try.prog w = .ok (.bool b) w ∧
    (do eqGuard .neq 41 x y (.agg xs.toArray) (.agg ys.toArray); binOp .neq 41 (.agg xs.toArray) (.agg ys.toArray) : Sem Value).run Try.prog w = .ok (.bool !b) w := by
  intro xs ys b h x y w
  cases h with | int _ _ _ _ h =>
  cases h with | str _ _ _ h =>
  cases h with | int _ _ _ _ h =>
  cases h with | int _ _ _ _ h =>
  cases h with | nil =>
  constructor
  · simp [go_sem]
    try (repeat' (first | exact eq_one (by rw [Bool.eq_iff_iff]; simp) | refine eq_and (by rw [Bool.eq_iff_iff]; simp) ?_))
  · simp [go_sem]
    try (repeat' (first | exact ne_one (by rw [Bool.eq_iff_iff]; simp) | refine ne_or (by rw [Bool.eq_iff_iff]; simp) ?_))
def ti42 : TI := ⟨.struct [(0, 3), (1, 3), (2, 41)], 6, 56, [.int .i64 0, .int .i64 0, .int .i64 0, .string ⟨#[]⟩, .int .i64 0, .int .i64 0], false, false⟩
@[simp] theorem ti42_size : ti42.size = 6 := rfl
@[simp] theorem ti42_bytes : ti42.bytes = 56 := rfl
@[simp] theorem ti42_zero : ti42.zero = [.int .i64 0, .int .i64 0, .int .i64 0, .string ⟨#[]⟩, .int .i64 0, .int .i64 0] := rfl
def ti43 : TI := ⟨.struct [(0, 3), (1, 3), (2, 41)], 6, 56, [.int .i64 0, .int .i64 0, .int .i64 0, .string ⟨#[]⟩, .int .i64 0, .int .i64 0], true, false⟩
@[simp] theorem ti43_size : ti43.size = 6 := rfl
@[simp] theorem ti43_bytes : ti43.bytes = 56 := rfl
@[simp] theorem ti43_zero : ti43.zero = [.int .i64 0, .int .i64 0, .int .i64 0, .string ⟨#[]⟩, .int .i64 0, .int .i64 0] := rfl
set_option maxRecDepth 100000 in
set_option maxHeartbeats 4000000 in
theorem eq43 : ∀ xs ys b, EqC ti43.zero xs ys b → ∀ (x y : Operand) (w : World),
    (do eqGuard .eql 43 x y (.agg xs.toArray) (.agg ys.toArray); binOp .eql 43 (.agg xs.toArray) (.agg ys.toArray) : Sem Value).run Try.prog w = .ok (.bool b) w ∧
    (do eqGuard .neq 43 x y (.agg xs.toArray) (.agg ys.toArray); binOp .neq 43 (.agg xs.toArray) (.agg ys.toArray) : Sem Value).run Try.prog w = .ok (.bool !b) w := by
  intro xs ys b h x y w
  cases h with | int _ _ _ _ h =>
  cases h with | int _ _ _ _ h =>
  cases h with | int _ _ _ _ h =>
  cases h with | str _ _ _ h =>
  cases h with | int _ _ _ _ h =>
  cases h with | int _ _ _ _ h =>
  cases h with | nil =>
  constructor
  · simp [go_sem]
    try (repeat' (first | exact eq_one (by rw [Bool.eq_iff_iff]; simp) | refine eq_and (by rw [Bool.eq_iff_iff]; simp) ?_))
  · simp [go_sem]
    try (repeat' (first | exact ne_one (by rw [Bool.eq_iff_iff]; simp) | refine ne_or (by rw [Bool.eq_iff_iff]; simp) ?_))
def ti49 : TI := ⟨.struct [], 0, 0, [], false, false⟩
@[simp] theorem ti49_size : ti49.size = 0 := rfl
@[simp] theorem ti49_bytes : ti49.bytes = 0 := rfl
@[simp] theorem ti49_zero : ti49.zero = [] := rfl
def ti50 : TI := ⟨.struct [], 0, 0, [], false, false⟩
@[simp] theorem ti50_size : ti50.size = 0 := rfl
@[simp] theorem ti50_bytes : ti50.bytes = 0 := rfl
@[simp] theorem ti50_zero : ti50.zero = [] := rfl
def ti52 : TI := ⟨.int .u32, 1, 4, [.int .u32 0], false, false⟩
@[simp] theorem ti52_size : ti52.size = 1 := rfl
@[simp] theorem ti52_bytes : ti52.bytes = 4 := rfl
@[simp] theorem ti52_zero : ti52.zero = [.int .u32 0] := rfl
def ti53 : TI := ⟨.struct [(0, 51), (0, 52)], 1, 4, [.int .u32 0], false, false⟩
@[simp] theorem ti53_size : ti53.size = 1 := rfl
@[simp] theorem ti53_bytes : ti53.bytes = 4 := rfl
@[simp] theorem ti53_zero : ti53.zero = [.int .u32 0] := rfl
def ti55 : TI := ⟨.struct [(0, 21), (1, 52)], 2, 8, [.int .i32 0, .int .u32 0], false, false⟩
@[simp] theorem ti55_size : ti55.size = 2 := rfl
@[simp] theorem ti55_bytes : ti55.bytes = 8 := rfl
@[simp] theorem ti55_zero : ti55.zero = [.int .i32 0, .int .u32 0] := rfl
def ti57 : TI := ⟨.struct [(0, 50), (0, 56)], 2, 8, [.int .i32 0, .int .u32 0], false, false⟩
@[simp] theorem ti57_size : ti57.size = 2 := rfl
@[simp] theorem ti57_bytes : ti57.bytes = 8 := rfl
@[simp] theorem ti57_zero : ti57.zero = [.int .i32 0, .int .u32 0] := rfl
def ti58 : TI := ⟨.struct [(0, 50), (0, 56)], 2, 8, [.int .i32 0, .int .u32 0], false, false⟩
@[simp] theorem ti58_size : ti58.size = 2 := rfl
@[simp] theorem ti58_bytes : ti58.bytes = 8 := rfl
@[simp] theorem ti58_zero : ti58.zero = [.int .i32 0, .int .u32 0] := rfl
def ti59 : TI := ⟨.struct [(0, 50), (0, 54), (1, 58)], 3, 12, [.int .u32 0, .int .i32 0, .int .u32 0], false, false⟩
@[simp] theorem ti59_size : ti59.size = 3 := rfl
@[simp] theorem ti59_bytes : ti59.bytes = 12 := rfl
@[simp] theorem ti59_zero : ti59.zero = [.int .u32 0, .int .i32 0, .int .u32 0] := rfl
def ti60 : TI := ⟨.struct [(0, 50), (0, 54), (1, 58)], 3, 12, [.int .u32 0, .int .i32 0, .int .u32 0], false, false⟩
@[simp] theorem ti60_size : ti60.size = 3 := rfl
@[simp] theorem ti60_bytes : ti60.bytes = 12 := rfl
@[simp] theorem ti60_zero : ti60.zero = [.int .u32 0, .int .i32 0, .int .u32 0] := rfl
def ti61 : TI := ⟨.struct [(0, 4), (1, 60), (4, 54), (5, 43)], 11, 80, [.bool false, .int .u32 0, .int .i32 0, .int .u32 0, .int .u32 0, .int .i64 0, .int .i64 0, .int .i64 0, .string ⟨#[]⟩, .int .i64 0, .int .i64 0], false, false⟩
@[simp] theorem ti61_size : ti61.size = 11 := rfl
@[simp] theorem ti61_bytes : ti61.bytes = 80 := rfl
@[simp] theorem ti61_zero : ti61.zero = [.bool false, .int .u32 0, .int .i32 0, .int .u32 0, .int .u32 0, .int .i64 0, .int .i64 0, .int .i64 0, .string ⟨#[]⟩, .int .i64 0, .int .i64 0] := rfl
def ti62 : TI := ⟨.struct [(0, 4), (1, 60), (4, 54), (5, 43)], 11, 80, [.bool false, .int .u32 0, .int .i32 0, .int .u32 0, .int .u32 0, .int .i64 0, .int .i64 0, .int .i64 0, .string ⟨#[]⟩, .int .i64 0, .int .i64 0], false, false⟩
@[simp] theorem ti62_size : ti62.size = 11 := rfl
@[simp] theorem ti62_bytes : ti62.bytes = 80 := rfl
@[simp] theorem ti62_zero : ti62.zero = [.bool false, .int .u32 0, .int .i32 0, .int .u32 0, .int .u32 0, .int .i64 0, .int .i64 0, .int .i64 0, .string ⟨#[]⟩, .int .i64 0, .int .i64 0] := rfl
def ti69 : TI := ⟨.struct [(0, 3), (1, 3)], 2, 16, [.int .i64 0, .int .i64 0], false, false⟩
@[simp] theorem ti69_size : ti69.size = 2 := rfl
@[simp] theorem ti69_bytes : ti69.bytes = 16 := rfl
@[simp] theorem ti69_zero : ti69.zero = [.int .i64 0, .int .i64 0] := rfl
def ti70 : TI := ⟨.struct [(0, 3), (1, 3)], 2, 16, [.int .i64 0, .int .i64 0], true, false⟩
@[simp] theorem ti70_size : ti70.size = 2 := rfl
@[simp] theorem ti70_bytes : ti70.bytes = 16 := rfl
@[simp] theorem ti70_zero : ti70.zero = [.int .i64 0, .int .i64 0] := rfl
set_option maxRecDepth 100000 in
set_option maxHeartbeats 4000000 in
theorem eq70 : ∀ xs ys b, EqC ti70.zero xs ys b → ∀ (x y : Operand) (w : World),
    (do eqGuard .eql 70 x y (.agg xs.toArray) (.agg ys.toArray); binOp .eql 70 (.agg xs.toArray) (.agg ys.toArray) : Sem Value).run Try.prog w = .ok (.bool b) w ∧
    (do eqGuard .neq 70 x y (.agg xs.toArray) (.agg ys.toArray); binOp .neq 70 (.agg xs.toArray) (.agg ys.toArray) : Sem Value).run Try.prog w = .ok (.bool !b) w := by
  intro xs ys b h x y w
  cases h with | int _ _ _ _ h =>
  cases h with | int _ _ _ _ h =>
  cases h with | nil =>
  constructor
  · simp [go_sem]
    try (repeat' (first | exact eq_one (by rw [Bool.eq_iff_iff]; simp) | refine eq_and (by rw [Bool.eq_iff_iff]; simp) ?_))
  · simp [go_sem]
    try (repeat' (first | exact ne_one (by rw [Bool.eq_iff_iff]; simp) | refine ne_or (by rw [Bool.eq_iff_iff]; simp) ?_))
def ti81 : TI := ⟨.ptr 3, 1, 8, [.pointer none], false, false⟩
@[simp] theorem ti81_size : ti81.size = 1 := rfl
@[simp] theorem ti81_bytes : ti81.bytes = 8 := rfl
@[simp] theorem ti81_zero : ti81.zero = [.pointer none] := rfl
def ti106 : TI := ⟨.ptr 60, 1, 8, [.pointer none], false, false⟩
@[simp] theorem ti106_size : ti106.size = 1 := rfl
@[simp] theorem ti106_bytes : ti106.bytes = 8 := rfl
@[simp] theorem ti106_zero : ti106.zero = [.pointer none] := rfl
def ti107 : TI := ⟨.ptr 54, 1, 8, [.pointer none], false, false⟩
@[simp] theorem ti107_size : ti107.size = 1 := rfl
@[simp] theorem ti107_bytes : ti107.bytes = 8 := rfl
@[simp] theorem ti107_zero : ti107.zero = [.pointer none] := rfl
def ti109 : TI := ⟨.ptr 52, 1, 8, [.pointer none], false, false⟩
@[simp] theorem ti109_size : ti109.size = 1 := rfl
@[simp] theorem ti109_bytes : ti109.bytes = 8 := rfl
@[simp] theorem ti109_zero : ti109.zero = [.pointer none] := rfl
def ti114 : TI := ⟨.int .u64, 1, 8, [.int .u64 0], false, false⟩
@[simp] theorem ti114_size : ti114.size = 1 := rfl
@[simp] theorem ti114_bytes : ti114.bytes = 8 := rfl
@[simp] theorem ti114_zero : ti114.zero = [.int .u64 0] := rfl
def ti117 : TI := ⟨.slice 5, 1, 24, [.slice none 0 0], false, false⟩
@[simp] theorem ti117_size : ti117.size = 1 := rfl
@[simp] theorem ti117_bytes : ti117.bytes = 24 := rfl
@[simp] theorem ti117_zero : ti117.zero = [.slice none 0 0] := rfl
def ti118 : TI := ⟨.int .u64, 1, 8, [.int .u64 0], false, false⟩
@[simp] theorem ti118_size : ti118.size = 1 := rfl
@[simp] theorem ti118_bytes : ti118.bytes = 8 := rfl
@[simp] theorem ti118_zero : ti118.zero = [.int .u64 0] := rfl
def ti121 : TI := ⟨.ptr 58, 1, 8, [.pointer none], false, false⟩
@[simp] theorem ti121_size : ti121.size = 1 := rfl
@[simp] theorem ti121_bytes : ti121.bytes = 8 := rfl
@[simp] theorem ti121_zero : ti121.zero = [.pointer none] := rfl
def ti122 : TI := ⟨.ptr 56, 1, 8, [.pointer none], false, false⟩
@[simp] theorem ti122_size : ti122.size = 1 := rfl
@[simp] theorem ti122_bytes : ti122.bytes = 8 := rfl
@[simp] theorem ti122_zero : ti122.zero = [.pointer none] := rfl
def ti124 : TI := ⟨.ptr 21, 1, 8, [.pointer none], false, false⟩
@[simp] theorem ti124_size : ti124.size = 1 := rfl
@[simp] theorem ti124_bytes : ti124.bytes = 8 := rfl
@[simp] theorem ti124_zero : ti124.zero = [.pointer none] := rfl
def ti133 : TI := ⟨.struct [(0, 17), (1, 17), (2, 17), (3, 9)], 4, 40, [.pointer none, .pointer none, .pointer none, .string ⟨#[]⟩], false, false⟩
@[simp] theorem ti133_size : ti133.size = 4 := rfl
@[simp] theorem ti133_bytes : ti133.bytes = 40 := rfl
@[simp] theorem ti133_zero : ti133.zero = [.pointer none, .pointer none, .pointer none, .string ⟨#[]⟩] := rfl
def ti135 : TI := ⟨.arr 0 16, 0, 0, [], false, false⟩
@[simp] theorem ti135_size : ti135.size = 0 := rfl
@[simp] theorem ti135_bytes : ti135.bytes = 0 := rfl
@[simp] theorem ti135_zero : ti135.zero = [] := rfl
def ti136 : TI := ⟨.struct [(0, 135)], 0, 0, [], false, false⟩
@[simp] theorem ti136_size : ti136.size = 0 := rfl
@[simp] theorem ti136_bytes : ti136.bytes = 0 := rfl
@[simp] theorem ti136_zero : ti136.zero = [] := rfl
def ti142 : TI := ⟨.ptr 5, 1, 8, [.pointer none], false, false⟩
@[simp] theorem ti142_size : ti142.size = 1 := rfl
@[simp] theorem ti142_bytes : ti142.bytes = 8 := rfl
@[simp] theorem ti142_zero : ti142.zero = [.pointer none] := rfl
def ti145 : TI := ⟨.struct [(0, 12), (1, 12), (2, 52), (3, 139), (4, 5), (5, 5), (6, 140), (7, 141), (8, 142), (9, 143), (10, 144)], 11, 48, [.int .u64 0, .int .u64 0, .int .u32 0, .int .u8 0, .int .u8 0, .int .u8 0, .int .u8 0, .nilFunc, .pointer none, .int .i32 0, .int .i32 0], false, false⟩
@[simp] theorem ti145_size : ti145.size = 11 := rfl
@[simp] theorem ti145_bytes : ti145.bytes = 48 := rfl
@[simp] theorem ti145_zero : ti145.zero = [.int .u64 0, .int .u64 0, .int .u32 0, .int .u8 0, .int .u8 0, .int .u8 0, .int .u8 0, .nilFunc, .pointer none, .int .i32 0, .int .i32 0] := rfl
theorem ok2 : TyOK Try.prog 2 ti2 := ⟨⟨(Try.prog.info? 2).getD default, ((Try.prog.info? 2).getD default).zero.getD default, by kernel_rfl, by kernel_rfl, by kernel_rfl, by kernel_rfl, by kernel_rfl⟩, Try.underlying2, (fun h => by cases h), ⟨(Try.prog.info? 2).getD default, by kernel_rfl, by kernel_rfl⟩, (fun h => by cases h), (fun h => by cases h)⟩
theorem ok3 : TyOK Try.prog 3 ti3 := ⟨⟨(Try.prog.info? 3).getD default, ((Try.prog.info? 3).getD default).zero.getD default, by kernel_rfl, by kernel_rfl, by kernel_rfl, by kernel_rfl, by kernel_rfl⟩, Try.underlying3, (fun h => by cases h), ⟨(Try.prog.info? 3).getD default, by kernel_rfl, by kernel_rfl⟩, (fun h => by cases h), (fun h => by cases h)⟩
theorem ok4 : TyOK Try.prog 4 ti4 := ⟨⟨(Try.prog.info? 4).getD default, ((Try.prog.info? 4).getD default).zero.getD default, by kernel_rfl, by kernel_rfl, by kernel_rfl, by kernel_rfl, by kernel_rfl⟩, Try.underlying4, (fun h => by cases h), ⟨(Try.prog.info? 4).getD default, by kernel_rfl, by kernel_rfl⟩, (fun h => by cases h), (fun h => by cases h)⟩
theorem ok5 : TyOK Try.prog 5 ti5 := ⟨⟨(Try.prog.info? 5).getD default, ((Try.prog.info? 5).getD default).zero.getD default, by kernel_rfl, by kernel_rfl, by kernel_rfl, by kernel_rfl, by kernel_rfl⟩, Try.underlying5, (fun h => by cases h), ⟨(Try.prog.info? 5).getD default, by kernel_rfl, by kernel_rfl⟩, (fun h => by cases h), (fun h => by cases h)⟩
theorem ok7 : TyOK Try.prog 7 ti7 := ⟨⟨(Try.prog.info? 7).getD default, ((Try.prog.info? 7).getD default).zero.getD default, by kernel_rfl, by kernel_rfl, by kernel_rfl, by kernel_rfl, by kernel_rfl⟩, ⟨_, Try.underlying7, rfl⟩, (fun h => by cases h), ⟨(Try.prog.info? 7).getD default, by kernel_rfl, by kernel_rfl⟩, (fun h => by cases h), (fun h => by cases h)⟩
theorem ok9 : TyOK Try.prog 9 ti9 := ⟨⟨(Try.prog.info? 9).getD default, ((Try.prog.info? 9).getD default).zero.getD default, by kernel_rfl, by kernel_rfl, by kernel_rfl, by kernel_rfl, by kernel_rfl⟩, Try.underlying9, (fun h => by cases h), ⟨(Try.prog.info? 9).getD default, by kernel_rfl, by kernel_rfl⟩, (fun h => by cases h), (fun h => by cases h)⟩
theorem ok12 : TyOK Try.prog 12 ti12 := ⟨⟨(Try.prog.info? 12).getD default, ((Try.prog.info? 12).getD default).zero.getD default, by kernel_rfl, by kernel_rfl, by kernel_rfl, by kernel_rfl, by kernel_rfl⟩, Try.underlying12, (fun h => by cases h), ⟨(Try.prog.info? 12).getD default, by kernel_rfl, by kernel_rfl⟩, (fun h => by cases h), (fun h => by cases h)⟩
theorem ok13 : TyOK Try.prog 13 ti13 := ⟨⟨(Try.prog.info? 13).getD default, ((Try.prog.info? 13).getD default).zero.getD default, by kernel_rfl, by kernel_rfl, by kernel_rfl, by kernel_rfl, by kernel_rfl⟩, ⟨_, Try.underlying13, rfl⟩, (fun h => by cases h), ⟨(Try.prog.info? 13).getD default, by kernel_rfl, by kernel_rfl⟩, (fun h => by cases h), (fun h => by cases h)⟩
theorem ok15 : TyOK Try.prog 15 ti15 := ⟨⟨(Try.prog.info? 15).getD default, ((Try.prog.info? 15).getD default).zero.getD default, by kernel_rfl, by kernel_rfl, by kernel_rfl, by kernel_rfl, by kernel_rfl⟩, Try.underlying15, (fun h => by cases h), ⟨(Try.prog.info? 15).getD default, by kernel_rfl, by kernel_rfl⟩, (fun h => by cases h), (fun h => by cases h)⟩
theorem ok16 : TyOK Try.prog 16 ti16 := ⟨⟨(Try.prog.info? 16).getD default, ((Try.prog.info? 16).getD default).zero.getD default, by kernel_rfl, by kernel_rfl, by kernel_rfl, by kernel_rfl, by kernel_rfl⟩, Try.underlying16, (fun h => by cases h), ⟨(Try.prog.info? 16).getD default, by kernel_rfl, by kernel_rfl⟩, (fun h => by cases h), (fun h => by cases h)⟩
theorem ok17 : TyOK Try.prog 17 ti17 := ⟨⟨(Try.prog.info? 17).getD default, ((Try.prog.info? 17).getD default).zero.getD default, by kernel_rfl, by kernel_rfl, by kernel_rfl, by kernel_rfl, by kernel_rfl⟩, Try.underlying17, (fun h => by cases h), ⟨(Try.prog.info? 17).getD default, by kernel_rfl, by kernel_rfl⟩, (fun h => by cases h), (fun h => by cases h)⟩
theorem ok18 : TyOK Try.prog 18 ti18 := ⟨⟨(Try.prog.info? 18).getD default, ((Try.prog.info? 18).getD default).zero.getD default, by kernel_rfl, by kernel_rfl, by kernel_rfl, by kernel_rfl, by kernel_rfl⟩, ⟨_, Try.underlying18, rfl⟩, (fun h => by cases h), ⟨(Try.prog.info? 18).getD default, by kernel_rfl, by kernel_rfl⟩, (fun h => by cases h), (fun h => by cases h)⟩
theorem ok21 : TyOK Try.prog 21 ti21 := ⟨⟨(Try.prog.info? 21).getD default, ((Try.prog.info? 21).getD default).zero.getD default, by kernel_rfl, by kernel_rfl, by kernel_rfl, by kernel_rfl, by kernel_rfl⟩, Try.underlying21, (fun h => by cases h), ⟨(Try.prog.info? 21).getD default, by kernel_rfl, by kernel_rfl⟩, (fun h => by cases h), (fun h => by cases h)⟩
theorem ok22 : TyOK Try.prog 22 ti22 := ⟨⟨(Try.prog.info? 22).getD default, ((Try.prog.info? 22).getD default).zero.getD default, by kernel_rfl, by kernel_rfl, by kernel_rfl, by kernel_rfl, by kernel_rfl⟩, Try.underlying22, (fun h => by cases h), ⟨(Try.prog.info? 22).getD default, by kernel_rfl, by kernel_rfl⟩, (fun h => by cases h), (fun h => by cases h)⟩
theorem ok23 : TyOK Try.prog 23 ti23 := ⟨⟨(Try.prog.info? 23).getD default, ((Try.prog.info? 23).getD default).zero.getD default, by kernel_rfl, by kernel_rfl, by kernel_rfl, by kernel_rfl, by kernel_rfl⟩, ⟨_, Try.underlying23, rfl⟩, (fun h => by cases h), ⟨(Try.prog.info? 23).getD default, by kernel_rfl, by kernel_rfl⟩, (fun h => by cases h), (fun h => by cases h)⟩
theorem ok24 : TyOK Try.prog 24 ti24 := ⟨⟨(Try.prog.info? 24).getD default, ((Try.prog.info? 24).getD default).zero.getD default, by kernel_rfl, by kernel_rfl, by kernel_rfl, by kernel_rfl, by kernel_rfl⟩, ⟨_, Try.underlying24, rfl⟩, (fun h => by cases h), ⟨(Try.prog.info? 24).getD default, by kernel_rfl, by kernel_rfl⟩, (fun h => by cases h), (fun h => by cases h)⟩
theorem ok28 : TyOK Try.prog 28 ti28 := ⟨⟨(Try.prog.info? 28).getD default, ((Try.prog.info? 28).getD default).zero.getD default, by kernel_rfl, by kernel_rfl, by kernel_rfl, by kernel_rfl, by kernel_rfl⟩, Try.underlying28, (fun h => by cases h), ⟨(Try.prog.info? 28).getD default, by kernel_rfl, by kernel_rfl⟩, (fun h => by cases h), (fun h => by cases h)⟩
theorem ok30 : TyOK Try.prog 30 ti30 := ⟨⟨(Try.prog.info? 30).getD default, ((Try.prog.info? 30).getD default).zero.getD default, by kernel_rfl, by kernel_rfl, by kernel_rfl, by kernel_rfl, by kernel_rfl⟩, Try.underlying30, (fun h => by cases h), ⟨(Try.prog.info? 30).getD default, by kernel_rfl, by kernel_rfl⟩, (fun h => by cases h), (fun h => by cases h)⟩
theorem ok31 : TyOK Try.prog 31 ti31 := ⟨⟨(Try.prog.info? 31).getD default, ((Try.prog.info? 31).getD default).zero.getD default, by kernel_rfl, by kernel_rfl, by kernel_rfl, by kernel_rfl, by kernel_rfl⟩, ⟨_, Try.underlying31, rfl⟩, (fun h => by cases h), ⟨(Try.prog.info? 31).getD default, by kernel_rfl, by kernel_rfl⟩, (fun h => by cases h), (fun h => by cases h)⟩
theorem ok32 : TyOK Try.prog 32 ti32 := ⟨⟨(Try.prog.info? 32).getD default, ((Try.prog.info? 32).getD default).zero.getD default, by kernel_rfl, by kernel_rfl, by kernel_rfl, by kernel_rfl, by kernel_rfl⟩, ⟨_, Try.underlying32, rfl⟩, (fun h => by cases h), ⟨(Try.prog.info? 32).getD default, by kernel_rfl, by kernel_rfl⟩, (fun h => by cases h), (fun h => by cases h)⟩
theorem ok37 : TyOK Try.prog 37 ti37 := ⟨⟨(Try.prog.info? 37).getD default, ((Try.prog.info? 37).getD default).zero.getD default, by kernel_rfl, by kernel_rfl, by kernel_rfl, by kernel_rfl, by kernel_rfl⟩, Try.underlying37, (fun h => by cases h), ⟨(Try.prog.info? 37).getD default, by kernel_rfl, by kernel_rfl⟩, (fun h => by cases h), (fun h => by cases h)⟩
theorem ok38 : TyOK Try.prog 38 ti38 := ⟨⟨(Try.prog.info? 38).getD default, ((Try.prog.info? 38).getD default).zero.getD default, by kernel_rfl, by kernel_rfl, by kernel_rfl, by kernel_rfl, by kernel_rfl⟩, Try.underlying38, (fun h => by cases h), ⟨(Try.prog.info? 38).getD default, by kernel_rfl, by kernel_rfl⟩, (fun h => by cases h), (fun h => by cases h)⟩
theorem ok40 : TyOK Try.prog 40 ti40 := ⟨⟨(Try.prog.info? 40).getD default, ((Try.prog.info? 40).getD default).zero.getD default, by kernel_rfl, by kernel_rfl, by kernel_rfl, by kernel_rfl, by kernel_rfl⟩, ⟨_, Try.underlying40, rfl⟩, (fun h => by cases h), ⟨(Try.prog.info? 40).getD default, by kernel_rfl, by kernel_rfl⟩, (fun h => by cases h), (fun h => by cases h)⟩
theorem ok41 : TyOK Try.prog 41 ti41 := ⟨⟨(Try.prog.info? 41).getD default, ((Try.prog.info? 41).getD default).zero.getD default, by kernel_rfl, by kernel_rfl, by kernel_rfl, by kernel_rfl, by kernel_rfl⟩, ⟨_, Try.underlying41, rfl⟩, fun _ => eq41, ⟨(Try.prog.info? 41).getD default, by kernel_rfl, by kernel_rfl⟩, (fun h => by cases h), (fun h => by cases h)⟩
theorem ok42 : TyOK Try.prog 42 ti42 := ⟨⟨(Try.prog.info? 42).getD default, ((Try.prog.info? 42).getD default).zero.getD default, by kernel_rfl, by kernel_rfl, by kernel_rfl, by kernel_rfl, by kernel_rfl⟩, ⟨_, Try.underlying42, rfl⟩, (fun h => by cases h), ⟨(Try.prog.info? 42).getD default, by kernel_rfl, by kernel_rfl⟩, (fun h => by cases h), (fun h => by cases h)⟩
theorem ok43 : TyOK Try.prog 43 ti43 := ⟨⟨(Try.prog.info? 43).getD default, ((Try.prog.info? 43).getD default).zero.getD default, by kernel_rfl, by kernel_rfl, by kernel_rfl, by kernel_rfl, by kernel_rfl⟩, ⟨_, Try.underlying43, rfl⟩, fun _ => eq43, ⟨(Try.prog.info? 43).getD default, by kernel_rfl, by kernel_rfl⟩, (fun h => by cases h), (fun h => by cases h)⟩
theorem ok49 : TyOK Try.prog 49 ti49 := ⟨⟨(Try.prog.info? 49).getD default, ((Try.prog.info? 49).getD default).zero.getD default, by kernel_rfl, by kernel_rfl, by kernel_rfl, by kernel_rfl, by kernel_rfl⟩, ⟨_, Try.underlying49, rfl⟩, (fun h => by cases h), ⟨(Try.prog.info? 49).getD default, by kernel_rfl, by kernel_rfl⟩, (fun h => by cases h), (fun h => by cases h)⟩
theorem ok50 : TyOK Try.prog 50 ti50 := ⟨⟨(Try.prog.info? 50).getD default, ((Try.prog.info? 50).getD default).zero.getD default, by kernel_rfl, by kernel_rfl, by kernel_rfl, by kernel_rfl, by kernel_rfl⟩, ⟨_, Try.underlying50, rfl⟩, (fun h => by cases h), ⟨(Try.prog.info? 50).getD default, by kernel_rfl, by kernel_rfl⟩, (fun h => by cases h), (fun h => by cases h)⟩
theorem ok52 : TyOK Try.prog 52 ti52 := ⟨⟨(Try.prog.info? 52).getD default, ((Try.prog.info? 52).getD default).zero.getD default, by kernel_rfl, by kernel_rfl, by kernel_rfl, by kernel_rfl, by kernel_rfl⟩, Try.underlying52, (fun h => by cases h), ⟨(Try.prog.info? 52).getD default, by kernel_rfl, by kernel_rfl⟩, (fun h => by cases h), (fun h => by cases h)⟩
theorem ok53 : TyOK Try.prog 53 ti53 := ⟨⟨(Try.prog.info? 53).getD default, ((Try.prog.info? 53).getD default).zero.getD default, by kernel_rfl, by kernel_rfl, by kernel_rfl, by kernel_rfl, by kernel_rfl⟩, ⟨_, Try.underlying53, rfl⟩, (fun h => by cases h), ⟨(Try.prog.info? 53).getD default, by kernel_rfl, by kernel_rfl⟩, (fun h => by cases h), (fun h => by cases h)⟩
theorem ok55 : TyOK Try.prog 55 ti55 := ⟨⟨(Try.prog.info? 55).getD default, ((Try.prog.info? 55).getD default).zero.getD default, by kernel_rfl, by kernel_rfl, by kernel_rfl, by kernel_rfl, by kernel_rfl⟩, ⟨_, Try.underlying55, rfl⟩, (fun h => by cases h), ⟨(Try.prog.info? 55).getD default, by kernel_rfl, by kernel_rfl⟩, (fun h => by cases h), (fun h => by cases h)⟩
theorem ok57 : TyOK Try.prog 57 ti57 := ⟨⟨(Try.prog.info? 57).getD default, ((Try.prog.info? 57).getD default).zero.getD default, by kernel_rfl, by kernel_rfl, by kernel_rfl, by kernel_rfl, by kernel_rfl⟩, ⟨_, Try.underlying57, rfl⟩, (fun h => by cases h), ⟨(Try.prog.info? 57).getD default, by kernel_rfl, by kernel_rfl⟩, (fun h => by cases h), (fun h => by cases h)⟩
theorem ok58 : TyOK Try.prog 58 ti58 := ⟨⟨(Try.prog.info? 58).getD default, ((Try.prog.info? 58).getD default).zero.getD default, by kernel_rfl, by kernel_rfl, by kernel_rfl, by kernel_rfl, by kernel_rfl⟩, ⟨_, Try.underlying58, rfl⟩, (fun h => by cases h), ⟨(Try.prog.info? 58).getD default, by kernel_rfl, by kernel_rfl⟩, (fun h => by cases h), (fun h => by cases h)⟩
theorem ok59 : TyOK Try.prog 59 ti59 := ⟨⟨(Try.prog.info? 59).getD default, ((Try.prog.info? 59).getD default).zero.getD default, by kernel_rfl, by kernel_rfl, by kernel_rfl, by kernel_rfl, by kernel_rfl⟩, ⟨_, Try.underlying59, rfl⟩, (fun h => by cases h), ⟨(Try.prog.info? 59).getD default, by kernel_rfl, by kernel_rfl⟩, (fun h => by cases h), (fun h => by cases h)⟩
theorem ok60 : TyOK Try.prog 60 ti60 := ⟨⟨(Try.prog.info? 60).getD default, ((Try.prog.info? 60).getD default).zero.getD default, by kernel_rfl, by kernel_rfl, by kernel_rfl, by kernel_rfl, by kernel_rfl⟩, ⟨_, Try.underlying60, rfl⟩, (fun h => by cases h), ⟨(Try.prog.info? 60).getD default, by kernel_rfl, by kernel_rfl⟩, (fun h => by cases h), (fun h => by cases h)⟩
theorem ok61 : TyOK Try.prog 61 ti61 := ⟨⟨(Try.prog.info? 61).getD default, ((Try.prog.info? 61).getD default).zero.getD default, by kernel_rfl, by kernel_rfl, by kernel_rfl, by kernel_rfl, by kernel_rfl⟩, ⟨_, Try.underlying61, rfl⟩, (fun h => by cases h), ⟨(Try.prog.info? 61).getD default, by kernel_rfl, by kernel_rfl⟩, (fun h => by cases h), (fun h => by cases h)⟩
theorem ok62 : TyOK Try.prog 62 ti62 := ⟨⟨(Try.prog.info? 62).getD default, ((Try.prog.info? 62).getD default).zero.getD default, by kernel_rfl, by kernel_rfl, by kernel_rfl, by kernel_rfl, by kernel_rfl⟩, ⟨_, Try.underlying62, rfl⟩, (fun h => by cases h), ⟨(Try.prog.info? 62).getD default, by kernel_rfl, by kernel_rfl⟩, (fun h => by cases h), (fun h => by cases h)⟩
theorem ok69 : TyOK Try.prog 69 ti69 := ⟨⟨(Try.prog.info? 69).getD default, ((Try.prog.info? 69).getD default).zero.getD default, by kernel_rfl, by kernel_rfl, by kernel_rfl, by kernel_rfl, by kernel_rfl⟩, ⟨_, Try.underlying69, rfl⟩, (fun h => by cases h), ⟨(Try.prog.info? 69).getD default, by kernel_rfl, by kernel_rfl⟩, (fun h => by cases h), (fun h => by cases h)⟩
theorem ok70 : TyOK Try.prog 70 ti70 := ⟨⟨(Try.prog.info? 70).getD default, ((Try.prog.info? 70).getD default).zero.getD default, by kernel_rfl, by kernel_rfl, by kernel_rfl, by kernel_rfl, by kernel_rfl⟩, ⟨_, Try.underlying70, rfl⟩, fun _ => eq70, ⟨(Try.prog.info? 70).getD default, by kernel_rfl, by kernel_rfl⟩, (fun h => by cases h), (fun h => by cases h)⟩
theorem ok81 : TyOK Try.prog 81 ti81 := ⟨⟨(Try.prog.info? 81).getD default, ((Try.prog.info? 81).getD default).zero.getD default, by kernel_rfl, by kernel_rfl, by kernel_rfl, by kernel_rfl, by kernel_rfl⟩, Try.underlying81, (fun h => by cases h), ⟨(Try.prog.info? 81).getD default, by kernel_rfl, by kernel_rfl⟩, (fun h => by cases h), (fun h => by cases h)⟩
theorem ok106 : TyOK Try.prog 106 ti106 := ⟨⟨(Try.prog.info? 106).getD default, ((Try.prog.info? 106).getD default).zero.getD default, by kernel_rfl, by kernel_rfl, by kernel_rfl, by kernel_rfl, by kernel_rfl⟩, Try.underlying106, (fun h => by cases h), ⟨(Try.prog.info? 106).getD default, by kernel_rfl, by kernel_rfl⟩, (fun h => by cases h), (fun h => by cases h)⟩
theorem ok107 : TyOK Try.prog 107 ti107 := ⟨⟨(Try.prog.info? 107).getD default, ((Try.prog.info? 107).getD default).zero.getD default, by kernel_rfl, by kernel_rfl, by kernel_rfl, by kernel_rfl, by kernel_rfl⟩, Try.underlying107, (fun h => by cases h), ⟨(Try.prog.info? 107).getD default, by kernel_rfl, by kernel_rfl⟩, (fun h => by cases h), (fun h => by cases h)⟩
theorem ok109 : TyOK Try.prog 109 ti109 := ⟨⟨(Try.prog.info? 109).getD default, ((Try.prog.info? 109).getD default).zero.getD default, by kernel_rfl, by kernel_rfl, by kernel_rfl, by kernel_rfl, by kernel_rfl⟩, Try.underlying109, (fun h => by cases h), ⟨(Try.prog.info? 109).getD default, by kernel_rfl, by kernel_rfl⟩, (fun h => by cases h), (fun h => by cases h)⟩
theorem ok114 : TyOK Try.prog 114 ti114 := ⟨⟨(Try.prog.info? 114).getD default, ((Try.prog.info? 114).getD default).zero.getD default, by kernel_rfl, by kernel_rfl, by kernel_rfl, by kernel_rfl, by kernel_rfl⟩, Try.underlying114, (fun h => by cases h), ⟨(Try.prog.info? 114).getD default, by kernel_rfl, by kernel_rfl⟩, (fun h => by cases h), (fun h => by cases h)⟩
theorem ok117 : TyOK Try.prog 117 ti117 := ⟨⟨(Try.prog.info? 117).getD default, ((Try.prog.info? 117).getD default).zero.getD default, by kernel_rfl, by kernel_rfl, by kernel_rfl, by kernel_rfl, by kernel_rfl⟩, Try.underlying117, (fun h => by cases h), ⟨(Try.prog.info? 117).getD default, by kernel_rfl, by kernel_rfl⟩, (fun h => by cases h), (fun h => by cases h)⟩
theorem ok118 : TyOK Try.prog 118 ti118 := ⟨⟨(Try.prog.info? 118).getD default, ((Try.prog.info? 118).getD default).zero.getD default, by kernel_rfl, by kernel_rfl, by kernel_rfl, by kernel_rfl, by kernel_rfl⟩, Try.underlying118, (fun h => by cases h), ⟨(Try.prog.info? 118).getD default, by kernel_rfl, by kernel_rfl⟩, (fun h => by cases h), (fun h => by cases h)⟩
theorem ok121 : TyOK Try.prog 121 ti121 := ⟨⟨(Try.prog.info? 121).getD default, ((Try.prog.info? 121).getD default).zero.getD default, by kernel_rfl, by kernel_rfl, by kernel_rfl, by kernel_rfl, by kernel_rfl⟩, Try.underlying121, (fun h => by cases h), ⟨(Try.prog.info? 121).getD default, by kernel_rfl, by kernel_rfl⟩, (fun h => by cases h), (fun h => by cases h)⟩
theorem ok122 : TyOK Try.prog 122 ti122 := ⟨⟨(Try.prog.info? 122).getD default, ((Try.prog.info? 122).getD default).zero.getD default, by kernel_rfl, by kernel_rfl, by kernel_rfl, by kernel_rfl, by kernel_rfl⟩, Try.underlying122, (fun h => by cases h), ⟨(Try.prog.info? 122).getD default, by kernel_rfl, by kernel_rfl⟩, (fun h => by cases h), (fun h => by cases h)⟩
theorem ok124 : TyOK Try.prog 124 ti124 := ⟨⟨(Try.prog.info? 124).getD default, ((Try.prog.info? 124).getD default).zero.getD default, by kernel_rfl, by kernel_rfl, by kernel_rfl, by kernel_rfl, by kernel_rfl⟩, Try.underlying124, (fun h => by cases h), ⟨(Try.prog.info? 124).getD default, by kernel_rfl, by kernel_rfl⟩, (fun h => by cases h), (fun h => by cases h)⟩
theorem ok133 : TyOK Try.prog 133 ti133 := ⟨⟨(Try.prog.info? 133).getD default, ((Try.prog.info? 133).getD default).zero.getD default, by kernel_rfl, by kernel_rfl, by kernel_rfl, by kernel_rfl, by kernel_rfl⟩, ⟨_, Try.underlying133, rfl⟩, (fun h => by cases h), ⟨(Try.prog.info? 133).getD default, by kernel_rfl, by kernel_rfl⟩, (fun h => by cases h), (fun h => by cases h)⟩
theorem ok135 : TyOK Try.prog 135 ti135 := ⟨⟨(Try.prog.info? 135).getD default, ((Try.prog.info? 135).getD default).zero.getD default, by kernel_rfl, by kernel_rfl, by kernel_rfl, by kernel_rfl, by kernel_rfl⟩, Try.underlying135, (fun h => by cases h), ⟨(Try.prog.info? 135).getD default, by kernel_rfl, by kernel_rfl⟩, (fun h => by cases h), (fun h => by cases h)⟩
theorem ok136 : TyOK Try.prog 136 ti136 := ⟨⟨(Try.prog.info? 136).getD default, ((Try.prog.info? 136).getD default).zero.getD default, by kernel_rfl, by kernel_rfl, by kernel_rfl, by kernel_rfl, by kernel_rfl⟩, ⟨_, Try.underlying136, rfl⟩, (fun h => by cases h), ⟨(Try.prog.info? 136).getD default, by kernel_rfl, by kernel_rfl⟩, (fun h => by cases h), (fun h => by cases h)⟩
theorem ok142 : TyOK Try.prog 142 ti142 := ⟨⟨(Try.prog.info? 142).getD default, ((Try.prog.info? 142).getD default).zero.getD default, by kernel_rfl, by kernel_rfl, by kernel_rfl, by kernel_rfl, by kernel_rfl⟩, Try.underlying142, (fun h => by cases h), ⟨(Try.prog.info? 142).getD default, by kernel_rfl, by kernel_rfl⟩, (fun h => by cases h), (fun h => by cases h)⟩
theorem ok145 : TyOK Try.prog 145 ti145 := ⟨⟨(Try.prog.info? 145).getD default, ((Try.prog.info? 145).getD default).zero.getD default, by kernel_rfl, by kernel_rfl, by kernel_rfl, by kernel_rfl, by kernel_rfl⟩, ⟨_, Try.underlying145, rfl⟩, (fun h => by cases h), ⟨(Try.prog.info? 145).getD default, by kernel_rfl, by kernel_rfl⟩, (fun h => by cases h), (fun h => by cases h)⟩
def lookT : List (Nat × TI) → Nat → Option TI
  | [], _ => none
  | (i, x) :: r, n => match Nat.beq i n with
    | true => some x
    | false => lookT r n
theorem lookT_spec : ∀ (l : List (Nat × TI)) (n : Nat) (x : TI), lookT l n = some x → (n, x) ∈ l
  | [], _, _, h => by cases h
  | (i, y) :: r, n, x, h => by
    unfold lookT at h
    split at h
    · rename_i hb; cases h; rw [Nat.eq_of_beq_eq_true hb]; exact List.mem_cons_self ..
    · exact List.mem_cons_of_mem _ (lookT_spec r n x h)
def tyList : List (Nat × TI) := [(2, ti2), (3, ti3), (4, ti4), (5, ti5), (7, ti7), (9, ti9), (12, ti12), (13, ti13), (15, ti15), (16, ti16), (17, ti17), (18, ti18), (21, ti21), (22, ti22), (23, ti23), (24, ti24), (28, ti28), (30, ti30), (31, ti31), (32, ti32), (37, ti37), (38, ti38), (40, ti40), (41, ti41), (42, ti42), (43, ti43), (49, ti49), (50, ti50), (52, ti52), (53, ti53), (55, ti55), (57, ti57), (58, ti58), (59, ti59), (60, ti60), (61, ti61), (62, ti62), (69, ti69), (70, ti70), (81, ti81), (106, ti106), (107, ti107), (109, ti109), (114, ti114), (117, ti117), (118, ti118), (121, ti121), (122, ti122), (124, ti124), (133, ti133), (135, ti135), (136, ti136), (142, ti142), (145, ti145)]
def AllTy (P : Program) : List (Nat × TI) → Prop
  | [] => True
  | (t, x) :: r => TyOK P t x ∧ AllTy P r
theorem allTy_spec {P : Program} : ∀ {l : List (Nat × TI)}, AllTy P l → ∀ t x, (t, x) ∈ l → TyOK P t x
  | (_, _) :: r, h, t, x, hm => by
    rcases List.mem_cons.1 hm with he | hm
    · cases he; exact h.1
    · exact allTy_spec h.2 t x hm
theorem allOK : AllTy Try.prog tyList := ⟨ok2, ok3, ok4, ok5, ok7, ok9, ok12, ok13, ok15, ok16, ok17, ok18, ok21, ok22, ok23, ok24, ok28, ok30, ok31, ok32, ok37, ok38, ok40, ok41, ok42, ok43, ok49, ok50, ok52, ok53, ok55, ok57, ok58, ok59, ok60, ok61, ok62, ok69, ok70, ok81, ok106, ok107, ok109, ok114, ok117, ok118, ok121, ok122, ok124, ok133, ok135, ok136, ok142, ok145, trivial⟩
def tyL (n : Nat) : Option TI := lookT tyList n
def fnL : List Nat := [3, 4, 5, 6, 7, 8, 9, 10, 11, 12, 13, 14, 15, 16, 17, 18, 19, 20, 21, 22, 23, 24, 25, 26, 27, 28, 29, 30, 31, 32, 33, 34, 35, 36, 37, 38, 39, 40, 41, 42, 43, 44, 45, 46, 47, 48, 49, 50, 51, 52, 53, 54, 55, 56, 57, 58, 59, 60, 61, 62, 63, 64, 65, 66, 67, 68, 69, 70, 71, 72, 73, 74, 75, 76, 77, 78, 80, 82, 83, 84, 85, 86, 87, 88, 89, 90, 91, 92]
def memB : List Nat → Nat → Bool
  | [], _ => false
  | x :: xs, n => match Nat.beq x n with
    | true => true
    | false => memB xs n
theorem memB_spec : ∀ (l : List Nat) (n : Nat), memB l n = true → n ∈ l
  | x :: xs, n, h => by
    unfold memB at h
    split at h
    · rename_i hb; rw [Nat.eq_of_beq_eq_true hb]; exact List.mem_cons_self ..
    · exact List.mem_cons_of_mem _ (memB_spec xs n h)
def tab : Tab := ⟨tyL, memB fnL⟩
theorem fnOK : (fnL.all fun f => (Try.prog.funcs[f]?).any fun fn => !(fn.name == "runtime.NumGoroutine") && fn.body.isSome) = true := by kernel_rfl
theorem tabOK : TabOK Try.prog tab := by
  refine ⟨fun t ti h => ?_, fun f hf args w => ?_, by kernel_rfl⟩
  · exact allTy_spec allOK t ti (lookT_spec _ _ _ h)
  · have := List.all_eq_true.1 fnOK f (memB_spec fnL f hf)
    obtain ⟨fn, hfn, hb⟩ := (Option.any_eq_true _ _).1 this
    simp only [Bool.and_eq_true, Bool.not_eq_true'] at hb
    obtain ⟨c, hc⟩ := Option.isSome_iff_exists.1 hb.2
    exact MuLone.run_callFunc_enter hfn hb.1 hc args w
end Go.Proofs.Ytcogbepdjegheaa
