/-
  The table of the types, for the executor. No condition.
-/
import Derived.Test.YtfkbodonidkpoaaProg
import Derived.Test.YtfkbodonidkpoaaP3
import Derived.WalkKit
namespace Go.Proofs.Ytfkbodonidkpoaa
def ti2 : TI := ⟨.int .i64, 1, 8, [.int .i64 0], false, false⟩
@[simp] theorem ti2_size : ti2.size = 1 := rfl
@[simp] theorem ti2_bytes : ti2.bytes = 8 := rfl
@[simp] theorem ti2_zero : ti2.zero = [.int .i64 0] := rfl
def ti3 : TI := ⟨.int .i64, 1, 8, [.int .i64 0], false, false⟩
@[simp] theorem ti3_size : ti3.size = 1 := rfl
@[simp] theorem ti3_bytes : ti3.bytes = 8 := rfl
@[simp] theorem ti3_zero : ti3.zero = [.int .i64 0] := rfl
def ti4 : TI := ⟨.bool, 1, 1, [.bool false], false, false⟩
@[simp] theorem ti4_size : ti4.size = 1 := rfl
@[simp] theorem ti4_bytes : ti4.bytes = 1 := rfl
@[simp] theorem ti4_zero : ti4.zero = [.bool false] := rfl
def ti5 : TI := ⟨.int .u8, 1, 1, [.int .u8 0], false, false⟩
@[simp] theorem ti5_size : ti5.size = 1 := rfl
@[simp] theorem ti5_bytes : ti5.bytes = 1 := rfl
@[simp] theorem ti5_zero : ti5.zero = [.int .u8 0] := rfl
def ti7 : TI := ⟨.struct [(0, 2), (1, 3), (2, 4), (3, 6)], 4, 24, [.int .i64 0, .int .i64 0, .bool false, .int .u8 0], false, false⟩
@[simp] theorem ti7_size : ti7.size = 4 := rfl
@[simp] theorem ti7_bytes : ti7.bytes = 24 := rfl
@[simp] theorem ti7_zero : ti7.zero = [.int .i64 0, .int .i64 0, .bool false, .int .u8 0] := rfl
def ti9 : TI := ⟨.str, 1, 16, [.string ⟨#[]⟩], false, false⟩
@[simp] theorem ti9_size : ti9.size = 1 := rfl
@[simp] theorem ti9_bytes : ti9.bytes = 16 := rfl
@[simp] theorem ti9_zero : ti9.zero = [.string ⟨#[]⟩] := rfl
def ti12 : TI := ⟨.int .u64, 1, 8, [.int .u64 0], false, false⟩
@[simp] theorem ti12_size : ti12.size = 1 := rfl
@[simp] theorem ti12_bytes : ti12.bytes = 8 := rfl
@[simp] theorem ti12_zero : ti12.zero = [.int .u64 0] := rfl
def ti13 : TI := ⟨.struct [(0, 9), (1, 12)], 2, 24, [.string ⟨#[]⟩, .int .u64 0], false, false⟩
@[simp] theorem ti13_size : ti13.size = 2 := rfl
@[simp] theorem ti13_bytes : ti13.bytes = 24 := rfl
@[simp] theorem ti13_zero : ti13.zero = [.string ⟨#[]⟩, .int .u64 0] := rfl
def ti15 : TI := ⟨.ptr 228, 1, 8, [.pointer none], false, false⟩
@[simp] theorem ti15_size : ti15.size = 1 := rfl
@[simp] theorem ti15_bytes : ti15.bytes = 8 := rfl
@[simp] theorem ti15_zero : ti15.zero = [.pointer none] := rfl
def ti16 : TI := ⟨.ptr 231, 1, 8, [.pointer none], false, false⟩
@[simp] theorem ti16_size : ti16.size = 1 := rfl
@[simp] theorem ti16_bytes : ti16.bytes = 8 := rfl
@[simp] theorem ti16_zero : ti16.zero = [.pointer none] := rfl
def ti17 : TI := ⟨.ptr 238, 1, 8, [.pointer none], false, false⟩
@[simp] theorem ti17_size : ti17.size = 1 := rfl
@[simp] theorem ti17_bytes : ti17.bytes = 8 := rfl
@[simp] theorem ti17_zero : ti17.zero = [.pointer none] := rfl
def ti18 : TI := ⟨.struct [(0, 17)], 1, 8, [.pointer none], false, false⟩
@[simp] theorem ti18_size : ti18.size = 1 := rfl
@[simp] theorem ti18_bytes : ti18.bytes = 8 := rfl
@[simp] theorem ti18_zero : ti18.zero = [.pointer none] := rfl
def ti21 : TI := ⟨.int .i32, 1, 4, [.int .i32 0], false, false⟩
@[simp] theorem ti21_size : ti21.size = 1 := rfl
@[simp] theorem ti21_bytes : ti21.bytes = 4 := rfl
@[simp] theorem ti21_zero : ti21.zero = [.int .i32 0] := rfl
def ti22 : TI := ⟨.slice 38, 1, 24, [.slice none 0 0], false, false⟩
@[simp] theorem ti22_size : ti22.size = 1 := rfl
@[simp] theorem ti22_bytes : ti22.bytes = 24 := rfl
@[simp] theorem ti22_zero : ti22.zero = [.slice none 0 0] := rfl
def ti25 : TI := ⟨.ptr 76, 1, 8, [.pointer none], false, false⟩
@[simp] theorem ti25_size : ti25.size = 1 := rfl
@[simp] theorem ti25_bytes : ti25.bytes = 8 := rfl
@[simp] theorem ti25_zero : ti25.zero = [.pointer none] := rfl
def ti26 : TI := ⟨.int .i64, 1, 8, [.int .i64 0], false, false⟩
@[simp] theorem ti26_size : ti26.size = 1 := rfl
@[simp] theorem ti26_bytes : ti26.bytes = 8 := rfl
@[simp] theorem ti26_zero : ti26.zero = [.int .i64 0] := rfl
def ti29 : TI := ⟨.slice 104, 1, 24, [.slice none 0 0], false, false⟩
@[simp] theorem ti29_size : ti29.size = 1 := rfl
@[simp] theorem ti29_bytes : ti29.bytes = 24 := rfl
@[simp] theorem ti29_zero : ti29.zero = [.slice none 0 0] := rfl
def ti30 : TI := ⟨.slice 97, 1, 24, [.slice none 0 0], false, false⟩
@[simp] theorem ti30_size : ti30.size = 1 := rfl
@[simp] theorem ti30_bytes : ti30.bytes = 24 := rfl
@[simp] theorem ti30_zero : ti30.zero = [.slice none 0 0] := rfl
def ti31 : TI := ⟨.struct [(0, 3), (1, 29), (2, 30)], 3, 56, [.int .i64 0, .slice none 0 0, .slice none 0 0], false, false⟩
@[simp] theorem ti31_size : ti31.size = 3 := rfl
@[simp] theorem ti31_bytes : ti31.bytes = 56 := rfl
@[simp] theorem ti31_zero : ti31.zero = [.int .i64 0, .slice none 0 0, .slice none 0 0] := rfl
def ti32 : TI := ⟨.struct [(0, 3), (1, 29), (2, 30)], 3, 56, [.int .i64 0, .slice none 0 0, .slice none 0 0], false, false⟩
@[simp] theorem ti32_size : ti32.size = 3 := rfl
@[simp] theorem ti32_bytes : ti32.bytes = 56 := rfl
@[simp] theorem ti32_zero : ti32.zero = [.int .i64 0, .slice none 0 0, .slice none 0 0] := rfl
def ti33 : TI := ⟨.struct [(0, 3), (1, 9), (2, 9), (3, 3)], 4, 48, [.int .i64 0, .string ⟨#[]⟩, .string ⟨#[]⟩, .int .i64 0], false, false⟩
@[simp] theorem ti33_size : ti33.size = 4 := rfl
@[simp] theorem ti33_bytes : ti33.bytes = 48 := rfl
@[simp] theorem ti33_zero : ti33.zero = [.int .i64 0, .string ⟨#[]⟩, .string ⟨#[]⟩, .int .i64 0] := rfl
def ti34 : TI := ⟨.struct [(0, 3), (1, 9), (2, 9), (3, 3)], 4, 48, [.int .i64 0, .string ⟨#[]⟩, .string ⟨#[]⟩, .int .i64 0], true, false⟩
@[simp] theorem ti34_size : ti34.size = 4 := rfl
@[simp] theorem ti34_bytes : ti34.bytes = 48 := rfl
@[simp] theorem ti34_zero : ti34.zero = [.int .i64 0, .string ⟨#[]⟩, .string ⟨#[]⟩, .int .i64 0] := rfl
set_option maxRecDepth 100000 in
set_option maxHeartbeats 4000000 in
theorem eq34 : ∀ xs ys b, EqC ti34.zero xs ys b → ∀ (x y : Operand) (w : World),
    (do eqGuard .eql 34 x y (.agg xs.toArray) (.agg ys.toArray); binOp .eql 34 (.agg xs.toArray) (.agg ys.toArray) : Sem Value).run Try.prog w = .ok (.bool b) w ∧
    (do eqGuard .neq 34 x y (.agg xs.toArray) (.agg ys.toArray); binOp .neq 34 (.agg xs.toArray) (.agg ys.toArray) : Sem Value).run Try.prog w = .ok (.bool !b) w := by
  intro xs ys b h x y w
  cases h with | int _ _ _ _ h =>
  cases h with | str _ _ _ h =>
  cases h with | str _ _ _ h =>
  cases h with | int _ _ _ _ h =>
  cases h with | nil =>
  constructor
  · simp [go_sem]
    try (repeat' (first | exact eq_one (by rw [Bool.eq_iff_iff]; simp) | refine eq_and (by rw [Bool.eq_iff_iff]; simp) ?_))
  · simp [go_sem]
    try (repeat' (first | exact ne_one (by rw [Bool.eq_iff_iff]; simp) | refine ne_or (by rw [Bool.eq_iff_iff]; simp) ?_))
def ti35 : TI := ⟨.struct [(0, 3), (1, 3), (2, 3), (3, 34)], 7, 72, [.int .i64 0, .int .i64 0, .int .i64 0, .int .i64 0, .string ⟨#[]⟩, .string ⟨#[]⟩, .int .i64 0], false, false⟩
@[simp] theorem ti35_size : ti35.size = 7 := rfl
@[simp] theorem ti35_bytes : ti35.bytes = 72 := rfl
@[simp] theorem ti35_zero : ti35.zero = [.int .i64 0, .int .i64 0, .int .i64 0, .int .i64 0, .string ⟨#[]⟩, .string ⟨#[]⟩, .int .i64 0] := rfl
def ti36 : TI := ⟨.struct [(0, 3), (1, 3), (2, 3), (3, 34)], 7, 72, [.int .i64 0, .int .i64 0, .int .i64 0, .int .i64 0, .string ⟨#[]⟩, .string ⟨#[]⟩, .int .i64 0], true, false⟩
@[simp] theorem ti36_size : ti36.size = 7 := rfl
@[simp] theorem ti36_bytes : ti36.bytes = 72 := rfl
@[simp] theorem ti36_zero : ti36.zero = [.int .i64 0, .int .i64 0, .int .i64 0, .int .i64 0, .string ⟨#[]⟩, .string ⟨#[]⟩, .int .i64 0] := rfl
set_option maxRecDepth 100000 in
set_option maxHeartbeats 4000000 in
theorem eq36 : ∀ xs ys b, EqC ti36.zero xs ys b → ∀ (x y : Operand) (w : World),
    (do eqGuard .eql 36 x y (.agg xs.toArray) (.agg ys.toArray); binOp .eql 36 (.agg xs.toArray) (.agg ys.toArray) : Sem Value).run Try.prog w = .ok (.bool b) w ∧
    (do eqGuard .neq 36 x y (.agg xs.toArray) (.agg ys.toArray); binOp .neq 36 (.agg xs.toArray) (.agg ys.toArray) : Sem Value).run Try.prog w = .ok (.bool !b) w := by
  intro xs ys b h x y w
  cases h with | int _ _ _ _ h =>
  cases h with | int _ _ _ _ h =>
  cases h with | int _ _ _ _ h =>
  cases h with | int _ _ _ _ h =>
  cases h with | str _ _ _ h =>
  cases h with | str _ _ _ h =>
  cases h with | int _ _ _ _ h =>
  cases h with | nil =>
  constructor
  · simp [go_sem]
    try (repeat' (first | exact eq_one (by rw [Bool.eq_iff_iff]; simp) | refine eq_and (by rw [Bool.eq_iff_iff]; simp) ?_))
  · simp [go_sem]
    try (repeat' (first | exact ne_one (by rw [Bool.eq_iff_iff]; simp) | refine ne_or (by rw [Bool.eq_iff_iff]; simp) ?_))
def ti37 : TI := ⟨.struct [(0, 5), (1, 36), (8, 3)], 9, 88, [.int .u8 0, .int .i64 0, .int .i64 0, .int .i64 0, .int .i64 0, .string ⟨#[]⟩, .string ⟨#[]⟩, .int .i64 0, .int .i64 0], false, false⟩
@[simp] theorem ti37_size : ti37.size = 9 := rfl
@[simp] theorem ti37_bytes : ti37.bytes = 88 := rfl
@[simp] theorem ti37_zero : ti37.zero = [.int .u8 0, .int .i64 0, .int .i64 0, .int .i64 0, .int .i64 0, .string ⟨#[]⟩, .string ⟨#[]⟩, .int .i64 0, .int .i64 0] := rfl
def ti38 : TI := ⟨.struct [(0, 5), (1, 36), (8, 3)], 9, 88, [.int .u8 0, .int .i64 0, .int .i64 0, .int .i64 0, .int .i64 0, .string ⟨#[]⟩, .string ⟨#[]⟩, .int .i64 0, .int .i64 0], true, false⟩
@[simp] theorem ti38_size : ti38.size = 9 := rfl
@[simp] theorem ti38_bytes : ti38.bytes = 88 := rfl
@[simp] theorem ti38_zero : ti38.zero = [.int .u8 0, .int .i64 0, .int .i64 0, .int .i64 0, .int .i64 0, .string ⟨#[]⟩, .string ⟨#[]⟩, .int .i64 0, .int .i64 0] := rfl
set_option maxRecDepth 100000 in
set_option maxHeartbeats 4000000 in
theorem eq38 : ∀ xs ys b, EqC ti38.zero xs ys b → ∀ (x y : Operand) (w : World),
    (do eqGuard .eql 38 x y (.agg xs.toArray) (.agg ys.toArray); binOp .eql 38 (.agg xs.toArray) (.agg ys.toArray) : Sem Value).run Try.prog w = .ok (.bool b) w ∧
    (do eqGuard .neq 38 x y (.agg xs.toArray) (.agg ys.toArray); binOp .neq 38 (.agg xs.toArray) (.agg ys.toArray) : Sem Value).run Try.prog w = .ok (.bool !b) w := by
  intro xs ys b h x y w
  cases h with | int _ _ _ _ h =>
  cases h with | int _ _ _ _ h =>
  cases h with | int _ _ _ _ h =>
  cases h with | int _ _ _ _ h =>
  cases h with | int _ _ _ _ h =>
  cases h with | str _ _ _ h =>
  cases h with | str _ _ _ h =>
  cases h with | int _ _ _ _ h =>
  cases h with | int _ _ _ _ h =>
  cases h with | nil =>
  constructor
  · simp [go_sem]
    try (repeat' (first | exact eq_one (by rw [Bool.eq_iff_iff]; simp) | refine eq_and (by rw [Bool.eq_iff_iff]; simp) ?_))
  · simp [go_sem]
    try (repeat' (first | exact ne_one (by rw [Bool.eq_iff_iff]; simp) | refine ne_or (by rw [Bool.eq_iff_iff]; simp) ?_))
def ti40 : TI := ⟨.struct [(0, 3), (1, 9), (2, 3), (3, 3)], 4, 40, [.int .i64 0, .string ⟨#[]⟩, .int .i64 0, .int .i64 0], false, false⟩
@[simp] theorem ti40_size : ti40.size = 4 := rfl
@[simp] theorem ti40_bytes : ti40.bytes = 40 := rfl
@[simp] theorem ti40_zero : ti40.zero = [.int .i64 0, .string ⟨#[]⟩, .int .i64 0, .int .i64 0] := rfl
def ti41 : TI := ⟨.struct [(0, 3), (1, 9), (2, 3), (3, 3)], 4, 40, [.int .i64 0, .string ⟨#[]⟩, .int .i64 0, .int .i64 0], true, false⟩
@[simp] theorem ti41_size : ti41.size = 4 := rfl
@[simp] theorem ti41_bytes : ti41.bytes = 40 := rfl
@[simp] theorem ti41_zero : ti41.zero = [.int .i64 0, .string ⟨#[]⟩, .int .i64 0, .int .i64 0] := rfl
set_option maxRecDepth 100000 in
set_option maxHeartbeats 4000000 in
theorem eq41 : ∀ xs ys b, EqC ti41.zero xs ys b → ∀ (x y : Operand) (w : World),
    (do eqGuard .eql 41 x y (.agg xs.toArray) (.agg ys.toArray); binOp .eql 41 (.agg xs.toArray) (.agg ys.toArray) : Sem Value).run Try.prog w = .ok (.bool b) w ∧
    (do eqGuard .neq 41 x y (.agg xs.toArray) (.agg ys.toArray); binOp .neq 41 (.agg xs.toArray) (.agg ys.toArray) : Sem Value).run Try.prog w = .ok (.bool !b) w := by
  intro xs ys b h x y w
  cases h with | int _ _ _ _ h =>
  cases h with | str _ _ _ h =>
  cases h with | int _ _ _ _ h =>
  cases h with | int _ _ _ _ h =>
  cases h with | nil =>
  constructor
  · simp [go_sem]
    try (repeat' (first | exact eq_one (by rw [Bool.eq_iff_iff]; simp) | refine eq_and (by rw [Bool.eq_iff_iff]; simp) ?_))
  · simp [go_sem]
    try (repeat' (first | exact ne_one (by rw [Bool.eq_iff_iff]; simp) | refine ne_or (by rw [Bool.eq_iff_iff]; simp) ?_))
def ti48 : TI := ⟨.slice 36, 1, 24, [.slice none 0 0], false, false⟩
@[simp] theorem ti48_size : ti48.size = 1 := rfl
@[simp] theorem ti48_bytes : ti48.bytes = 24 := rfl
@[simp] theorem ti48_zero : ti48.zero = [.slice none 0 0] := rfl
def ti50 : TI := ⟨.slice 128, 1, 24, [.slice none 0 0], false, false⟩
@[simp] theorem ti50_size : ti50.size = 1 := rfl
@[simp] theorem ti50_bytes : ti50.bytes = 24 := rfl
@[simp] theorem ti50_zero : ti50.zero = [.slice none 0 0] := rfl
def ti51 : TI := ⟨.slice 100, 1, 24, [.slice none 0 0], false, false⟩
@[simp] theorem ti51_size : ti51.size = 1 := rfl
@[simp] theorem ti51_bytes : ti51.bytes = 24 := rfl
@[simp] theorem ti51_zero : ti51.zero = [.slice none 0 0] := rfl
def ti52 : TI := ⟨.struct [(0, 3), (1, 50), (2, 51)], 3, 56, [.int .i64 0, .slice none 0 0, .slice none 0 0], false, false⟩
@[simp] theorem ti52_size : ti52.size = 3 := rfl
@[simp] theorem ti52_bytes : ti52.bytes = 56 := rfl
@[simp] theorem ti52_zero : ti52.zero = [.int .i64 0, .slice none 0 0, .slice none 0 0] := rfl
def ti53 : TI := ⟨.struct [(0, 3), (1, 50), (2, 51)], 3, 56, [.int .i64 0, .slice none 0 0, .slice none 0 0], false, false⟩
@[simp] theorem ti53_size : ti53.size = 3 := rfl
@[simp] theorem ti53_bytes : ti53.bytes = 56 := rfl
@[simp] theorem ti53_zero : ti53.zero = [.int .i64 0, .slice none 0 0, .slice none 0 0] := rfl
def ti58 : TI := ⟨.ptr 63, 1, 8, [.pointer none], false, false⟩
@[simp] theorem ti58_size : ti58.size = 1 := rfl
@[simp] theorem ti58_bytes : ti58.bytes = 8 := rfl
@[simp] theorem ti58_zero : ti58.zero = [.pointer none] := rfl
def ti62 : TI := ⟨.struct [(0, 53), (3, 48), (4, 3)], 5, 88, [.int .i64 0, .slice none 0 0, .slice none 0 0, .slice none 0 0, .int .i64 0], false, false⟩
@[simp] theorem ti62_size : ti62.size = 5 := rfl
@[simp] theorem ti62_bytes : ti62.bytes = 88 := rfl
@[simp] theorem ti62_zero : ti62.zero = [.int .i64 0, .slice none 0 0, .slice none 0 0, .slice none 0 0, .int .i64 0] := rfl
def ti63 : TI := ⟨.struct [(0, 53), (3, 48), (4, 3)], 5, 88, [.int .i64 0, .slice none 0 0, .slice none 0 0, .slice none 0 0, .int .i64 0], false, false⟩
@[simp] theorem ti63_size : ti63.size = 5 := rfl
@[simp] theorem ti63_bytes : ti63.bytes = 88 := rfl
@[simp] theorem ti63_zero : ti63.zero = [.int .i64 0, .slice none 0 0, .slice none 0 0, .slice none 0 0, .int .i64 0] := rfl
def ti74 : TI := ⟨.slice 117, 1, 24, [.slice none 0 0], false, false⟩
@[simp] theorem ti74_size : ti74.size = 1 := rfl
@[simp] theorem ti74_bytes : ti74.bytes = 24 := rfl
@[simp] theorem ti74_zero : ti74.zero = [.slice none 0 0] := rfl
def ti75 : TI := ⟨.struct [(0, 4), (1, 32), (4, 74), (5, 32)], 8, 144, [.bool false, .int .i64 0, .slice none 0 0, .slice none 0 0, .slice none 0 0, .int .i64 0, .slice none 0 0, .slice none 0 0], false, false⟩
@[simp] theorem ti75_size : ti75.size = 8 := rfl
@[simp] theorem ti75_bytes : ti75.bytes = 144 := rfl
@[simp] theorem ti75_zero : ti75.zero = [.bool false, .int .i64 0, .slice none 0 0, .slice none 0 0, .slice none 0 0, .int .i64 0, .slice none 0 0, .slice none 0 0] := rfl
def ti76 : TI := ⟨.struct [(0, 4), (1, 32), (4, 74), (5, 32)], 8, 144, [.bool false, .int .i64 0, .slice none 0 0, .slice none 0 0, .slice none 0 0, .int .i64 0, .slice none 0 0, .slice none 0 0], false, false⟩
@[simp] theorem ti76_size : ti76.size = 8 := rfl
@[simp] theorem ti76_bytes : ti76.bytes = 144 := rfl
@[simp] theorem ti76_zero : ti76.zero = [.bool false, .int .i64 0, .slice none 0 0, .slice none 0 0, .slice none 0 0, .int .i64 0, .slice none 0 0, .slice none 0 0] := rfl
def ti82 : TI := ⟨.ptr 150, 1, 8, [.pointer none], false, false⟩
@[simp] theorem ti82_size : ti82.size = 1 := rfl
@[simp] theorem ti82_bytes : ti82.bytes = 8 := rfl
@[simp] theorem ti82_zero : ti82.zero = [.pointer none] := rfl
def ti84 : TI := ⟨.ptr 152, 1, 8, [.pointer none], false, false⟩
@[simp] theorem ti84_size : ti84.size = 1 := rfl
@[simp] theorem ti84_bytes : ti84.bytes = 8 := rfl
@[simp] theorem ti84_zero : ti84.zero = [.pointer none] := rfl
def ti96 : TI := ⟨.struct [(0, 3), (1, 3), (2, 41)], 6, 56, [.int .i64 0, .int .i64 0, .int .i64 0, .string ⟨#[]⟩, .int .i64 0, .int .i64 0], false, false⟩
@[simp] theorem ti96_size : ti96.size = 6 := rfl
@[simp] theorem ti96_bytes : ti96.bytes = 56 := rfl
@[simp] theorem ti96_zero : ti96.zero = [.int .i64 0, .int .i64 0, .int .i64 0, .string ⟨#[]⟩, .int .i64 0, .int .i64 0] := rfl
def ti97 : TI := ⟨.struct [(0, 3), (1, 3), (2, 41)], 6, 56, [.int .i64 0, .int .i64 0, .int .i64 0, .string ⟨#[]⟩, .int .i64 0, .int .i64 0], true, false⟩
@[simp] theorem ti97_size : ti97.size = 6 := rfl
@[simp] theorem ti97_bytes : ti97.bytes = 56 := rfl
@[simp] theorem ti97_zero : ti97.zero = [.int .i64 0, .int .i64 0, .int .i64 0, .string ⟨#[]⟩, .int .i64 0, .int .i64 0] := rfl
set_option maxRecDepth 100000 in
set_option maxHeartbeats 4000000 in
theorem eq97 : ∀ xs ys b, EqC ti97.zero xs ys b → ∀ (x y : Operand) (w : World),
    (do eqGuard .eql 97 x y (.agg xs.toArray) (.agg ys.toArray); binOp .eql 97 (.agg xs.toArray) (.agg ys.toArray) : Sem Value).run Try.prog w = .ok (.bool b) w ∧
    (do eqGuard .neq 97 x y (.agg xs.toArray) (.agg ys.toArray); binOp .neq 97 (.agg xs.toArray) (.agg ys.toArray) : Sem Value).run Try.prog w = .ok (.bool !b) w := by
  intro xs ys b h x y w
  cases h with | int _ _ _ _ h =>
  cases h with | int _ _ _ _ h =>
  cases h with | int _ _ _ _ h =>
  cases h with | str _ _ _ h =>
  cases h with | int _ _ _ _ h =>
  cases h with | int _ _ _ _ h =>
  cases h with | nil =>
  constructor
  · simp [go_sem]
    try (repeat' (first | exact eq_one (by rw [Bool.eq_iff_iff]; simp) | refine eq_and (by rw [Bool.eq_iff_iff]; simp) ?_))
  · simp [go_sem]
    try (repeat' (first | exact ne_one (by rw [Bool.eq_iff_iff]; simp) | refine ne_or (by rw [Bool.eq_iff_iff]; simp) ?_))
def ti100 : TI := ⟨.struct [(0, 3), (1, 3), (2, 41)], 6, 56, [.int .i64 0, .int .i64 0, .int .i64 0, .string ⟨#[]⟩, .int .i64 0, .int .i64 0], true, false⟩
@[simp] theorem ti100_size : ti100.size = 6 := rfl
@[simp] theorem ti100_bytes : ti100.bytes = 56 := rfl
@[simp] theorem ti100_zero : ti100.zero = [.int .i64 0, .int .i64 0, .int .i64 0, .string ⟨#[]⟩, .int .i64 0, .int .i64 0] := rfl
set_option maxRecDepth 100000 in
set_option maxHeartbeats 4000000 in
theorem eq100 : ∀ xs ys b, EqC ti100.zero xs ys b → ∀ (x y : Operand) (w : World),
    (do eqGuard .eql 100 x y (.agg xs.toArray) (.agg ys.toArray); binOp .eql 100 (.agg xs.toArray) (.agg ys.toArray) : Sem Value).run Try.prog w = .ok (.bool b) w ∧
    (do eqGuard .neq 100 x y (.agg xs.toArray) (.agg ys.toArray); binOp .neq 100 (.agg xs.toArray) (.agg ys.toArray) : Sem Value).run Try.prog w = .ok (.bool !b) w := by
  intro xs ys b h x y w
  cases h with | int _ _ _ _ h =>
  cases h with | int _ _ _ _ h =>
  cases h with | int _ _ _ _ h =>
  cases h with | str _ _ _ h =>
  cases h with | int _ _ _ _ h =>
  cases h with | int _ _ _ _ h =>
  cases h with | nil =>
  constructor
  · simp [go_sem]
    try (repeat' (first | exact eq_one (by rw [Bool.eq_iff_iff]; simp) | refine eq_and (by rw [Bool.eq_iff_iff]; simp) ?_))
  · simp [go_sem]
    try (repeat' (first | exact ne_one (by rw [Bool.eq_iff_iff]; simp) | refine ne_or (by rw [Bool.eq_iff_iff]; simp) ?_))
def ti103 : TI := ⟨.struct [(0, 9), (1, 9), (2, 3)], 3, 40, [.string ⟨#[]⟩, .string ⟨#[]⟩, .int .i64 0], false, false⟩
@[simp] theorem ti103_size : ti103.size = 3 := rfl
@[simp] theorem ti103_bytes : ti103.bytes = 40 := rfl
@[simp] theorem ti103_zero : ti103.zero = [.string ⟨#[]⟩, .string ⟨#[]⟩, .int .i64 0] := rfl
def ti104 : TI := ⟨.struct [(0, 9), (1, 9), (2, 3)], 3, 40, [.string ⟨#[]⟩, .string ⟨#[]⟩, .int .i64 0], true, false⟩
@[simp] theorem ti104_size : ti104.size = 3 := rfl
@[simp] theorem ti104_bytes : ti104.bytes = 40 := rfl
@[simp] theorem ti104_zero : ti104.zero = [.string ⟨#[]⟩, .string ⟨#[]⟩, .int .i64 0] := rfl
set_option maxRecDepth 100000 in
set_option maxHeartbeats 4000000 in
theorem eq104 : ∀ xs ys b, EqC ti104.zero xs ys b → ∀ (x y : Operand) (w : World),
    (do eqGuard .eql 104 x y (.agg xs.toArray) (.agg ys.toArray); binOp .eql 104 (.agg xs.toArray) (.agg ys.toArray) : Sem Value).run Try.prog w = .ok (.bool b) w ∧
    (do eqGuard .neq 104 x y (.agg xs.toArray) (.agg ys.toArray); binOp .neq 104 (.agg xs.toArray) (.agg ys.toArray) : Sem Value).run Try.prog w = .ok (.bool !b) w := by
  intro xs ys b h x y w
  cases h with | str _ _ _ h =>
  cases h with | str _ _ _ h =>
  cases h with | int _ _ _ _ h =>
  cases h with | nil =>
  constructor
  · simp [go_sem]
    try (repeat' (first | exact eq_one (by rw [Bool.eq_iff_iff]; simp) | refine eq_and (by rw [Bool.eq_iff_iff]; simp) ?_))
  · simp [go_sem]
    try (repeat' (first | exact ne_one (by rw [Bool.eq_iff_iff]; simp) | refine ne_or (by rw [Bool.eq_iff_iff]; simp) ?_))
def ti113 : TI := ⟨.int .u16, 1, 2, [.int .u16 0], false, false⟩
@[simp] theorem ti113_size : ti113.size = 1 := rfl
@[simp] theorem ti113_bytes : ti113.bytes = 2 := rfl
@[simp] theorem ti113_zero : ti113.zero = [.int .u16 0] := rfl
def ti116 : TI := ⟨.struct [(0, 36), (7, 41)], 11, 112, [.int .i64 0, .int .i64 0, .int .i64 0, .int .i64 0, .string ⟨#[]⟩, .string ⟨#[]⟩, .int .i64 0, .int .i64 0, .string ⟨#[]⟩, .int .i64 0, .int .i64 0], false, false⟩
@[simp] theorem ti116_size : ti116.size = 11 := rfl
@[simp] theorem ti116_bytes : ti116.bytes = 112 := rfl
@[simp] theorem ti116_zero : ti116.zero = [.int .i64 0, .int .i64 0, .int .i64 0, .int .i64 0, .string ⟨#[]⟩, .string ⟨#[]⟩, .int .i64 0, .int .i64 0, .string ⟨#[]⟩, .int .i64 0, .int .i64 0] := rfl
def ti117 : TI := ⟨.struct [(0, 36), (7, 41)], 11, 112, [.int .i64 0, .int .i64 0, .int .i64 0, .int .i64 0, .string ⟨#[]⟩, .string ⟨#[]⟩, .int .i64 0, .int .i64 0, .string ⟨#[]⟩, .int .i64 0, .int .i64 0], true, false⟩
@[simp] theorem ti117_size : ti117.size = 11 := rfl
@[simp] theorem ti117_bytes : ti117.bytes = 112 := rfl
@[simp] theorem ti117_zero : ti117.zero = [.int .i64 0, .int .i64 0, .int .i64 0, .int .i64 0, .string ⟨#[]⟩, .string ⟨#[]⟩, .int .i64 0, .int .i64 0, .string ⟨#[]⟩, .int .i64 0, .int .i64 0] := rfl
set_option maxRecDepth 100000 in
set_option maxHeartbeats 4000000 in
theorem eq117 : ∀ xs ys b, EqC ti117.zero xs ys b → ∀ (x y : Operand) (w : World),
    (do eqGuard .eql 117 x y (.agg xs.toArray) (.agg ys.toArray); binOp .eql 117 (.agg xs.toArray) (.agg ys.toArray) : Sem Value).run Try.prog w = .ok (.bool b) w ∧
    (do eqGuard .neq 117 x y (.agg xs.toArray) (.agg ys.toArray); binOp .neq 117 (.agg xs.toArray) (.agg ys.toArray) : Sem Value).run Try.prog w = .ok (.bool !b) w := by
  intro xs ys b h x y w
  cases h with | int _ _ _ _ h =>
  cases h with | int _ _ _ _ h =>
  cases h with | int _ _ _ _ h =>
  cases h with | int _ _ _ _ h =>
  cases h with | str _ _ _ h =>
  cases h with | str _ _ _ h =>
  cases h with | int _ _ _ _ h =>
  cases h with | int _ _ _ _ h =>
  cases h with | str _ _ _ h =>
  cases h with | int _ _ _ _ h =>
  cases h with | int _ _ _ _ h =>
  cases h with | nil =>
  constructor
  · simp [go_sem]
    try (repeat' (first | exact eq_one (by rw [Bool.eq_iff_iff]; simp) | refine eq_and (by rw [Bool.eq_iff_iff]; simp) ?_))
  · simp [go_sem]
    try (repeat' (first | exact ne_one (by rw [Bool.eq_iff_iff]; simp) | refine ne_or (by rw [Bool.eq_iff_iff]; simp) ?_))
def ti124 : TI := ⟨.slice 129, 1, 24, [.slice none 0 0], false, false⟩
@[simp] theorem ti124_size : ti124.size = 1 := rfl
@[simp] theorem ti124_bytes : ti124.bytes = 24 := rfl
@[simp] theorem ti124_zero : ti124.zero = [.slice none 0 0] := rfl
def ti128 : TI := ⟨.struct [(0, 9), (1, 9), (2, 3)], 3, 40, [.string ⟨#[]⟩, .string ⟨#[]⟩, .int .i64 0], true, false⟩
@[simp] theorem ti128_size : ti128.size = 3 := rfl
@[simp] theorem ti128_bytes : ti128.bytes = 40 := rfl
@[simp] theorem ti128_zero : ti128.zero = [.string ⟨#[]⟩, .string ⟨#[]⟩, .int .i64 0] := rfl
set_option maxRecDepth 100000 in
set_option maxHeartbeats 4000000 in
theorem eq128 : ∀ xs ys b, EqC ti128.zero xs ys b → ∀ (x y : Operand) (w : World),
    (do eqGuard .eql 128 x y (.agg xs.toArray) (.agg ys.toArray); binOp .eql 128 (.agg xs.toArray) (.agg ys.toArray) : Sem Value).run Try.prog w = .ok (.bool b) w ∧
    (do eqGuard .neq 128 x y (.agg xs.toArray) (.agg ys.toArray); binOp .neq 128 (.agg xs.toArray) (.agg ys.toArray) : Sem Value).run Try.prog w = .ok (.bool !b) w := by
  intro xs ys b h x y w
  cases h with | str _ _ _ h =>
  cases h with | str _ _ _ h =>
  cases h with | int _ _ _ _ h =>
  cases h with | nil =>
  constructor
  · simp [go_sem]
    try (repeat' (first | exact eq_one (by rw [Bool.eq_iff_iff]; simp) | refine eq_and (by rw [Bool.eq_iff_iff]; simp) ?_))
  · simp [go_sem]
    try (repeat' (first | exact ne_one (by rw [Bool.eq_iff_iff]; simp) | refine ne_or (by rw [Bool.eq_iff_iff]; simp) ?_))
def ti129 : TI := ⟨.struct [(0, 9), (1, 9), (2, 3)], 3, 40, [.string ⟨#[]⟩, .string ⟨#[]⟩, .int .i64 0], true, false⟩
@[simp] theorem ti129_size : ti129.size = 3 := rfl
@[simp] theorem ti129_bytes : ti129.bytes = 40 := rfl
@[simp] theorem ti129_zero : ti129.zero = [.string ⟨#[]⟩, .string ⟨#[]⟩, .int .i64 0] := rfl
set_option maxRecDepth 100000 in
set_option maxHeartbeats 4000000 in
theorem eq129 : ∀ xs ys b, EqC ti129.zero xs ys b → ∀ (x y : Operand) (w : World),
    (do eqGuard .eql 129 x y (.agg xs.toArray) (.agg ys.toArray); binOp .eql 129 (.agg xs.toArray) (.agg ys.toArray) : Sem Value).run Try.prog w = .ok (.bool b) w ∧
    (do eqGuard .neq 129 x y (.agg xs.toArray) (.agg ys.toArray); binOp .neq 129 (.agg xs.toArray) (.agg ys.toArray) : Sem Value).run Try.prog w = .ok (.bool !b) w := by
  intro xs ys b h x y w
  cases h with | str _ _ _ h =>
  cases h with | str _ _ _ h =>
  cases h with | int _ _ _ _ h =>
  cases h with | nil =>
  constructor
  · simp [go_sem]
    try (repeat' (first | exact eq_one (by rw [Bool.eq_iff_iff]; simp) | refine eq_and (by rw [Bool.eq_iff_iff]; simp) ?_))
  · simp [go_sem]
    try (repeat' (first | exact ne_one (by rw [Bool.eq_iff_iff]; simp) | refine ne_or (by rw [Bool.eq_iff_iff]; simp) ?_))
def ti133 : TI := ⟨.ptr 185, 1, 8, [.pointer none], false, false⟩
@[simp] theorem ti133_size : ti133.size = 1 := rfl
@[simp] theorem ti133_bytes : ti133.bytes = 8 := rfl
@[simp] theorem ti133_zero : ti133.zero = [.pointer none] := rfl
def ti145 : TI := ⟨.slice 41, 1, 24, [.slice none 0 0], false, false⟩
@[simp] theorem ti145_size : ti145.size = 1 := rfl
@[simp] theorem ti145_bytes : ti145.bytes = 24 := rfl
@[simp] theorem ti145_zero : ti145.zero = [.slice none 0 0] := rfl
def ti146 : TI := ⟨.struct [(0, 3), (1, 3)], 2, 16, [.int .i64 0, .int .i64 0], false, false⟩
@[simp] theorem ti146_size : ti146.size = 2 := rfl
@[simp] theorem ti146_bytes : ti146.bytes = 16 := rfl
@[simp] theorem ti146_zero : ti146.zero = [.int .i64 0, .int .i64 0] := rfl
def ti147 : TI := ⟨.struct [(0, 3), (1, 3)], 2, 16, [.int .i64 0, .int .i64 0], true, false⟩
@[simp] theorem ti147_size : ti147.size = 2 := rfl
@[simp] theorem ti147_bytes : ti147.bytes = 16 := rfl
@[simp] theorem ti147_zero : ti147.zero = [.int .i64 0, .int .i64 0] := rfl
set_option maxRecDepth 100000 in
set_option maxHeartbeats 4000000 in
theorem eq147 : ∀ xs ys b, EqC ti147.zero xs ys b → ∀ (x y : Operand) (w : World),
    (do eqGuard .eql 147 x y (.agg xs.toArray) (.agg ys.toArray); binOp .eql 147 (.agg xs.toArray) (.agg ys.toArray) : Sem Value).run Try.prog w = .ok (.bool b) w ∧
    (do eqGuard .neq 147 x y (.agg xs.toArray) (.agg ys.toArray); binOp .neq 147 (.agg xs.toArray) (.agg ys.toArray) : Sem Value).run Try.prog w = .ok (.bool !b) w := by
  intro xs ys b h x y w
  cases h with | int _ _ _ _ h =>
  cases h with | int _ _ _ _ h =>
  cases h with | nil =>
  constructor
  · simp [go_sem]
    try (repeat' (first | exact eq_one (by rw [Bool.eq_iff_iff]; simp) | refine eq_and (by rw [Bool.eq_iff_iff]; simp) ?_))
  · simp [go_sem]
    try (repeat' (first | exact ne_one (by rw [Bool.eq_iff_iff]; simp) | refine ne_or (by rw [Bool.eq_iff_iff]; simp) ?_))
def ti148 : TI := ⟨.arr 6 147, 12, 96, [.int .i64 0, .int .i64 0, .int .i64 0, .int .i64 0, .int .i64 0, .int .i64 0, .int .i64 0, .int .i64 0, .int .i64 0, .int .i64 0, .int .i64 0, .int .i64 0], false, false⟩
@[simp] theorem ti148_size : ti148.size = 12 := rfl
@[simp] theorem ti148_bytes : ti148.bytes = 96 := rfl
@[simp] theorem ti148_zero : ti148.zero = [.int .i64 0, .int .i64 0, .int .i64 0, .int .i64 0, .int .i64 0, .int .i64 0, .int .i64 0, .int .i64 0, .int .i64 0, .int .i64 0, .int .i64 0, .int .i64 0] := rfl
def ti149 : TI := ⟨.struct [(0, 133), (1, 48), (2, 145), (3, 148)], 15, 152, [.pointer none, .slice none 0 0, .slice none 0 0, .int .i64 0, .int .i64 0, .int .i64 0, .int .i64 0, .int .i64 0, .int .i64 0, .int .i64 0, .int .i64 0, .int .i64 0, .int .i64 0, .int .i64 0, .int .i64 0], false, false⟩
@[simp] theorem ti149_size : ti149.size = 15 := rfl
@[simp] theorem ti149_bytes : ti149.bytes = 152 := rfl
@[simp] theorem ti149_zero : ti149.zero = [.pointer none, .slice none 0 0, .slice none 0 0, .int .i64 0, .int .i64 0, .int .i64 0, .int .i64 0, .int .i64 0, .int .i64 0, .int .i64 0, .int .i64 0, .int .i64 0, .int .i64 0, .int .i64 0, .int .i64 0] := rfl
def ti150 : TI := ⟨.struct [(0, 133), (1, 48), (2, 145), (3, 148)], 15, 152, [.pointer none, .slice none 0 0, .slice none 0 0, .int .i64 0, .int .i64 0, .int .i64 0, .int .i64 0, .int .i64 0, .int .i64 0, .int .i64 0, .int .i64 0, .int .i64 0, .int .i64 0, .int .i64 0, .int .i64 0], false, false⟩
@[simp] theorem ti150_size : ti150.size = 15 := rfl
@[simp] theorem ti150_bytes : ti150.bytes = 152 := rfl
@[simp] theorem ti150_zero : ti150.zero = [.pointer none, .slice none 0 0, .slice none 0 0, .int .i64 0, .int .i64 0, .int .i64 0, .int .i64 0, .int .i64 0, .int .i64 0, .int .i64 0, .int .i64 0, .int .i64 0, .int .i64 0, .int .i64 0, .int .i64 0] := rfl
def ti151 : TI := ⟨.struct [(0, 48)], 1, 24, [.slice none 0 0], false, false⟩
@[simp] theorem ti151_size : ti151.size = 1 := rfl
@[simp] theorem ti151_bytes : ti151.bytes = 24 := rfl
@[simp] theorem ti151_zero : ti151.zero = [.slice none 0 0] := rfl
def ti152 : TI := ⟨.struct [(0, 48)], 1, 24, [.slice none 0 0], false, false⟩
@[simp] theorem ti152_size : ti152.size = 1 := rfl
@[simp] theorem ti152_bytes : ti152.bytes = 24 := rfl
@[simp] theorem ti152_zero : ti152.zero = [.slice none 0 0] := rfl
def ti156 : TI := ⟨.slice 9, 1, 24, [.slice none 0 0], false, false⟩
@[simp] theorem ti156_size : ti156.size = 1 := rfl
@[simp] theorem ti156_bytes : ti156.bytes = 24 := rfl
@[simp] theorem ti156_zero : ti156.zero = [.slice none 0 0] := rfl
def ti159 : TI := ⟨.ptr 162, 1, 8, [.pointer none], false, false⟩
@[simp] theorem ti159_size : ti159.size = 1 := rfl
@[simp] theorem ti159_bytes : ti159.bytes = 8 := rfl
@[simp] theorem ti159_zero : ti159.zero = [.pointer none] := rfl
def ti160 : TI := ⟨.slice 5, 1, 24, [.slice none 0 0], false, false⟩
@[simp] theorem ti160_size : ti160.size = 1 := rfl
@[simp] theorem ti160_bytes : ti160.bytes = 24 := rfl
@[simp] theorem ti160_zero : ti160.zero = [.slice none 0 0] := rfl
def ti161 : TI := ⟨.struct [(0, 159), (1, 160)], 2, 32, [.pointer none, .slice none 0 0], false, false⟩
@[simp] theorem ti161_size : ti161.size = 2 := rfl
@[simp] theorem ti161_bytes : ti161.bytes = 32 := rfl
@[simp] theorem ti161_zero : ti161.zero = [.pointer none, .slice none 0 0] := rfl
def ti162 : TI := ⟨.struct [(0, 159), (1, 160)], 2, 32, [.pointer none, .slice none 0 0], false, false⟩
@[simp] theorem ti162_size : ti162.size = 2 := rfl
@[simp] theorem ti162_bytes : ti162.bytes = 32 := rfl
@[simp] theorem ti162_zero : ti162.zero = [.pointer none, .slice none 0 0] := rfl
def ti174 : TI := ⟨.ptr 176, 1, 8, [.pointer none], false, false⟩
@[simp] theorem ti174_size : ti174.size = 1 := rfl
@[simp] theorem ti174_bytes : ti174.bytes = 8 := rfl
@[simp] theorem ti174_zero : ti174.zero = [.pointer none] := rfl
def ti175 : TI := ⟨.struct [(0, 9), (1, 4)], 2, 24, [.string ⟨#[]⟩, .bool false], false, false⟩
@[simp] theorem ti175_size : ti175.size = 2 := rfl
@[simp] theorem ti175_bytes : ti175.bytes = 24 := rfl
@[simp] theorem ti175_zero : ti175.zero = [.string ⟨#[]⟩, .bool false] := rfl
def ti176 : TI := ⟨.struct [(0, 9), (1, 4)], 2, 24, [.string ⟨#[]⟩, .bool false], true, false⟩
@[simp] theorem ti176_size : ti176.size = 2 := rfl
@[simp] theorem ti176_bytes : ti176.bytes = 24 := rfl
@[simp] theorem ti176_zero : ti176.zero = [.string ⟨#[]⟩, .bool false] := rfl
set_option maxRecDepth 100000 in
set_option maxHeartbeats 4000000 in
theorem eq176 : ∀ xs ys b, EqC ti176.zero xs ys b → ∀ (x y : Operand) (w : World),
    (do eqGuard .eql 176 x y (.agg xs.toArray) (.agg ys.toArray); binOp .eql 176 (.agg xs.toArray) (.agg ys.toArray) : Sem Value).run Try.prog w = .ok (.bool b) w ∧
    (do eqGuard .neq 176 x y (.agg xs.toArray) (.agg ys.toArray); binOp .neq 176 (.agg xs.toArray) (.agg ys.toArray) : Sem Value).run Try.prog w = .ok (.bool !b) w := by
  intro xs ys b h x y w
  cases h with | str _ _ _ h =>
  cases h with | bool _ _ _ h =>
  cases h with | nil =>
  constructor
  · simp [go_sem]
    try (repeat' (first | exact eq_one (by rw [Bool.eq_iff_iff]; simp) | refine eq_and (by rw [Bool.eq_iff_iff]; simp) ?_))
  · simp [go_sem]
    try (repeat' (first | exact ne_one (by rw [Bool.eq_iff_iff]; simp) | refine ne_or (by rw [Bool.eq_iff_iff]; simp) ?_))
def ti183 : TI := ⟨.map 9 189, 1, 8, [.map none], false, false⟩
@[simp] theorem ti183_size : ti183.size = 1 := rfl
@[simp] theorem ti183_bytes : ti183.bytes = 8 := rfl
@[simp] theorem ti183_zero : ti183.zero = [.map none] := rfl
def ti184 : TI := ⟨.struct [(0, 183)], 1, 8, [.map none], false, false⟩
@[simp] theorem ti184_size : ti184.size = 1 := rfl
@[simp] theorem ti184_bytes : ti184.bytes = 8 := rfl
@[simp] theorem ti184_zero : ti184.zero = [.map none] := rfl
def ti185 : TI := ⟨.struct [(0, 183)], 1, 8, [.map none], false, false⟩
@[simp] theorem ti185_size : ti185.size = 1 := rfl
@[simp] theorem ti185_bytes : ti185.bytes = 8 := rfl
@[simp] theorem ti185_zero : ti185.zero = [.map none] := rfl
def ti188 : TI := ⟨.struct [(0, 9), (1, 3)], 2, 24, [.string ⟨#[]⟩, .int .i64 0], false, false⟩
@[simp] theorem ti188_size : ti188.size = 2 := rfl
@[simp] theorem ti188_bytes : ti188.bytes = 24 := rfl
@[simp] theorem ti188_zero : ti188.zero = [.string ⟨#[]⟩, .int .i64 0] := rfl
def ti189 : TI := ⟨.struct [(0, 9), (1, 3)], 2, 24, [.string ⟨#[]⟩, .int .i64 0], true, false⟩
@[simp] theorem ti189_size : ti189.size = 2 := rfl
@[simp] theorem ti189_bytes : ti189.bytes = 24 := rfl
@[simp] theorem ti189_zero : ti189.zero = [.string ⟨#[]⟩, .int .i64 0] := rfl
set_option maxRecDepth 100000 in
set_option maxHeartbeats 4000000 in
theorem eq189 : ∀ xs ys b, EqC ti189.zero xs ys b → ∀ (x y : Operand) (w : World),
    (do eqGuard .eql 189 x y (.agg xs.toArray) (.agg ys.toArray); binOp .eql 189 (.agg xs.toArray) (.agg ys.toArray) : Sem Value).run Try.prog w = .ok (.bool b) w ∧
    (do eqGuard .neq 189 x y (.agg xs.toArray) (.agg ys.toArray); binOp .neq 189 (.agg xs.toArray) (.agg ys.toArray) : Sem Value).run Try.prog w = .ok (.bool !b) w := by
  intro xs ys b h x y w
  cases h with | str _ _ _ h =>
  cases h with | int _ _ _ _ h =>
  cases h with | nil =>
  constructor
  · simp [go_sem]
    try (repeat' (first | exact eq_one (by rw [Bool.eq_iff_iff]; simp) | refine eq_and (by rw [Bool.eq_iff_iff]; simp) ?_))
  · simp [go_sem]
    try (repeat' (first | exact ne_one (by rw [Bool.eq_iff_iff]; simp) | refine ne_or (by rw [Bool.eq_iff_iff]; simp) ?_))
def ti196 : TI := ⟨.int .u64, 1, 8, [.int .u64 0], false, false⟩
@[simp] theorem ti196_size : ti196.size = 1 := rfl
@[simp] theorem ti196_bytes : ti196.bytes = 8 := rfl
@[simp] theorem ti196_zero : ti196.zero = [.int .u64 0] := rfl
def ti198 : TI := ⟨.int .u64, 1, 8, [.int .u64 0], false, false⟩
@[simp] theorem ti198_size : ti198.size = 1 := rfl
@[simp] theorem ti198_bytes : ti198.bytes = 8 := rfl
@[simp] theorem ti198_zero : ti198.zero = [.int .u64 0] := rfl
def ti199 : TI := ⟨.ptr 5, 1, 8, [.pointer none], false, false⟩
@[simp] theorem ti199_size : ti199.size = 1 := rfl
@[simp] theorem ti199_bytes : ti199.bytes = 8 := rfl
@[simp] theorem ti199_zero : ti199.zero = [.pointer none] := rfl
def ti203 : TI := ⟨.int .i64, 1, 8, [.int .i64 0], false, false⟩
@[simp] theorem ti203_size : ti203.size = 1 := rfl
@[simp] theorem ti203_bytes : ti203.bytes = 8 := rfl
@[simp] theorem ti203_zero : ti203.zero = [.int .i64 0] := rfl
def ti211 : TI := ⟨.int .u32, 1, 4, [.int .u32 0], false, false⟩
@[simp] theorem ti211_size : ti211.size = 1 := rfl
@[simp] theorem ti211_bytes : ti211.bytes = 4 := rfl
@[simp] theorem ti211_zero : ti211.zero = [.int .u32 0] := rfl
def ti219 : TI := ⟨.int .u64, 1, 8, [.int .u64 0], false, false⟩
@[simp] theorem ti219_size : ti219.size = 1 := rfl
@[simp] theorem ti219_bytes : ti219.bytes = 8 := rfl
@[simp] theorem ti219_zero : ti219.zero = [.int .u64 0] := rfl
def ti223 : TI := ⟨.ptr 3, 1, 8, [.pointer none], false, false⟩
@[simp] theorem ti223_size : ti223.size = 1 := rfl
@[simp] theorem ti223_bytes : ti223.bytes = 8 := rfl
@[simp] theorem ti223_zero : ti223.zero = [.pointer none] := rfl
def ti225 : TI := ⟨.ptr 219, 1, 8, [.pointer none], false, false⟩
@[simp] theorem ti225_size : ti225.size = 1 := rfl
@[simp] theorem ti225_bytes : ti225.bytes = 8 := rfl
@[simp] theorem ti225_zero : ti225.zero = [.pointer none] := rfl
def ti227 : TI := ⟨.struct [(0, 17), (1, 17), (2, 17), (3, 9)], 4, 40, [.pointer none, .pointer none, .pointer none, .string ⟨#[]⟩], false, false⟩
@[simp] theorem ti227_size : ti227.size = 4 := rfl
@[simp] theorem ti227_bytes : ti227.bytes = 40 := rfl
@[simp] theorem ti227_zero : ti227.zero = [.pointer none, .pointer none, .pointer none, .string ⟨#[]⟩] := rfl
def ti229 : TI := ⟨.arr 0 16, 0, 0, [], false, false⟩
@[simp] theorem ti229_size : ti229.size = 0 := rfl
@[simp] theorem ti229_bytes : ti229.bytes = 0 := rfl
@[simp] theorem ti229_zero : ti229.zero = [] := rfl
def ti230 : TI := ⟨.struct [(0, 229)], 0, 0, [], false, false⟩
@[simp] theorem ti230_size : ti230.size = 0 := rfl
@[simp] theorem ti230_bytes : ti230.bytes = 0 := rfl
@[simp] theorem ti230_zero : ti230.zero = [] := rfl
def ti237 : TI := ⟨.struct [(0, 12), (1, 12), (2, 211), (3, 232), (4, 5), (5, 5), (6, 233), (7, 234), (8, 199), (9, 235), (10, 236)], 11, 48, [.int .u64 0, .int .u64 0, .int .u32 0, .int .u8 0, .int .u8 0, .int .u8 0, .int .u8 0, .nilFunc, .pointer none, .int .i32 0, .int .i32 0], false, false⟩
@[simp] theorem ti237_size : ti237.size = 11 := rfl
@[simp] theorem ti237_bytes : ti237.bytes = 48 := rfl
@[simp] theorem ti237_zero : ti237.zero = [.int .u64 0, .int .u64 0, .int .u32 0, .int .u8 0, .int .u8 0, .int .u8 0, .int .u8 0, .nilFunc, .pointer none, .int .i32 0, .int .i32 0] := rfl
theorem ok2 : TyOK Try.prog 2 ti2 := ⟨⟨(Try.prog.info? 2).getD default, ((Try.prog.info? 2).getD default).zero.getD default, by kernel_rfl, by kernel_rfl, by kernel_rfl, by kernel_rfl, by kernel_rfl⟩, Try.underlying2, (fun h => by cases h), ⟨(Try.prog.info? 2).getD default, by kernel_rfl, by kernel_rfl⟩, (fun h => by cases h), (fun h => by cases h)⟩
theorem ok3 : TyOK Try.prog 3 ti3 := ⟨⟨(Try.prog.info? 3).getD default, ((Try.prog.info? 3).getD default).zero.getD default, by kernel_rfl, by kernel_rfl, by kernel_rfl, by kernel_rfl, by kernel_rfl⟩, Try.underlying3, (fun h => by cases h), ⟨(Try.prog.info? 3).getD default, by kernel_rfl, by kernel_rfl⟩, (fun h => by cases h), (fun h => by cases h)⟩
theorem ok4 : TyOK Try.prog 4 ti4 := ⟨⟨(Try.prog.info? 4).getD default, ((Try.prog.info? 4).getD default).zero.getD default, by kernel_rfl, by kernel_rfl, by kernel_rfl, by kernel_rfl, by kernel_rfl⟩, Try.underlying4, (fun h => by cases h), ⟨(Try.prog.info? 4).getD default, by kernel_rfl, by kernel_rfl⟩, (fun h => by cases h), (fun h => by cases h)⟩
theorem ok5 : TyOK Try.prog 5 ti5 := ⟨⟨(Try.prog.info? 5).getD default, ((Try.prog.info? 5).getD default).zero.getD default, by kernel_rfl, by kernel_rfl, by kernel_rfl, by kernel_rfl, by kernel_rfl⟩, Try.underlying5, (fun h => by cases h), ⟨(Try.prog.info? 5).getD default, by kernel_rfl, by kernel_rfl⟩, (fun h => by cases h), (fun h => by cases h)⟩
theorem ok7 : TyOK Try.prog 7 ti7 := ⟨⟨(Try.prog.info? 7).getD default, ((Try.prog.info? 7).getD default).zero.getD default, by kernel_rfl, by kernel_rfl, by kernel_rfl, by kernel_rfl, by kernel_rfl⟩, ⟨_, Try.underlying7, rfl⟩, (fun h => by cases h), ⟨(Try.prog.info? 7).getD default, by kernel_rfl, by kernel_rfl⟩, (fun h => by cases h), (fun h => by cases h)⟩
theorem ok9 : TyOK Try.prog 9 ti9 := ⟨⟨(Try.prog.info? 9).getD default, ((Try.prog.info? 9).getD default).zero.getD default, by kernel_rfl, by kernel_rfl, by kernel_rfl, by kernel_rfl, by kernel_rfl⟩, Try.underlying9, (fun h => by cases h), ⟨(Try.prog.info? 9).getD default, by kernel_rfl, by kernel_rfl⟩, (fun h => by cases h), (fun h => by cases h)⟩
theorem ok12 : TyOK Try.prog 12 ti12 := ⟨⟨(Try.prog.info? 12).getD default, ((Try.prog.info? 12).getD default).zero.getD default, by kernel_rfl, by kernel_rfl, by kernel_rfl, by kernel_rfl, by kernel_rfl⟩, Try.underlying12, (fun h => by cases h), ⟨(Try.prog.info? 12).getD default, by kernel_rfl, by kernel_rfl⟩, (fun h => by cases h), (fun h => by cases h)⟩
theorem ok13 : TyOK Try.prog 13 ti13 := ⟨⟨(Try.prog.info? 13).getD default, ((Try.prog.info? 13).getD default).zero.getD default, by kernel_rfl, by kernel_rfl, by kernel_rfl, by kernel_rfl, by kernel_rfl⟩, ⟨_, Try.underlying13, rfl⟩, (fun h => by cases h), ⟨(Try.prog.info? 13).getD default, by kernel_rfl, by kernel_rfl⟩, (fun h => by cases h), (fun h => by cases h)⟩
theorem ok15 : TyOK Try.prog 15 ti15 := ⟨⟨(Try.prog.info? 15).getD default, ((Try.prog.info? 15).getD default).zero.getD default, by kernel_rfl, by kernel_rfl, by kernel_rfl, by kernel_rfl, by kernel_rfl⟩, Try.underlying15, (fun h => by cases h), ⟨(Try.prog.info? 15).getD default, by kernel_rfl, by kernel_rfl⟩, (fun h => by cases h), (fun h => by cases h)⟩
theorem ok16 : TyOK Try.prog 16 ti16 := ⟨⟨(Try.prog.info? 16).getD default, ((Try.prog.info? 16).getD default).zero.getD default, by kernel_rfl, by kernel_rfl, by kernel_rfl, by kernel_rfl, by kernel_rfl⟩, Try.underlying16, (fun h => by cases h), ⟨(Try.prog.info? 16).getD default, by kernel_rfl, by kernel_rfl⟩, (fun h => by cases h), (fun h => by cases h)⟩
theorem ok17 : TyOK Try.prog 17 ti17 := ⟨⟨(Try.prog.info? 17).getD default, ((Try.prog.info? 17).getD default).zero.getD default, by kernel_rfl, by kernel_rfl, by kernel_rfl, by kernel_rfl, by kernel_rfl⟩, Try.underlying17, (fun h => by cases h), ⟨(Try.prog.info? 17).getD default, by kernel_rfl, by kernel_rfl⟩, (fun h => by cases h), (fun h => by cases h)⟩
theorem ok18 : TyOK Try.prog 18 ti18 := ⟨⟨(Try.prog.info? 18).getD default, ((Try.prog.info? 18).getD default).zero.getD default, by kernel_rfl, by kernel_rfl, by kernel_rfl, by kernel_rfl, by kernel_rfl⟩, ⟨_, Try.underlying18, rfl⟩, (fun h => by cases h), ⟨(Try.prog.info? 18).getD default, by kernel_rfl, by kernel_rfl⟩, (fun h => by cases h), (fun h => by cases h)⟩
theorem ok21 : TyOK Try.prog 21 ti21 := ⟨⟨(Try.prog.info? 21).getD default, ((Try.prog.info? 21).getD default).zero.getD default, by kernel_rfl, by kernel_rfl, by kernel_rfl, by kernel_rfl, by kernel_rfl⟩, Try.underlying21, (fun h => by cases h), ⟨(Try.prog.info? 21).getD default, by kernel_rfl, by kernel_rfl⟩, (fun h => by cases h), (fun h => by cases h)⟩
theorem ok22 : TyOK Try.prog 22 ti22 := ⟨⟨(Try.prog.info? 22).getD default, ((Try.prog.info? 22).getD default).zero.getD default, by kernel_rfl, by kernel_rfl, by kernel_rfl, by kernel_rfl, by kernel_rfl⟩, Try.underlying22, (fun h => by cases h), ⟨(Try.prog.info? 22).getD default, by kernel_rfl, by kernel_rfl⟩, (fun h => by cases h), (fun h => by cases h)⟩
theorem ok25 : TyOK Try.prog 25 ti25 := ⟨⟨(Try.prog.info? 25).getD default, ((Try.prog.info? 25).getD default).zero.getD default, by kernel_rfl, by kernel_rfl, by kernel_rfl, by kernel_rfl, by kernel_rfl⟩, Try.underlying25, (fun h => by cases h), ⟨(Try.prog.info? 25).getD default, by kernel_rfl, by kernel_rfl⟩, (fun h => by cases h), (fun h => by cases h)⟩
theorem ok26 : TyOK Try.prog 26 ti26 := ⟨⟨(Try.prog.info? 26).getD default, ((Try.prog.info? 26).getD default).zero.getD default, by kernel_rfl, by kernel_rfl, by kernel_rfl, by kernel_rfl, by kernel_rfl⟩, Try.underlying26, (fun h => by cases h), ⟨(Try.prog.info? 26).getD default, by kernel_rfl, by kernel_rfl⟩, (fun h => by cases h), (fun h => by cases h)⟩
theorem ok29 : TyOK Try.prog 29 ti29 := ⟨⟨(Try.prog.info? 29).getD default, ((Try.prog.info? 29).getD default).zero.getD default, by kernel_rfl, by kernel_rfl, by kernel_rfl, by kernel_rfl, by kernel_rfl⟩, Try.underlying29, (fun h => by cases h), ⟨(Try.prog.info? 29).getD default, by kernel_rfl, by kernel_rfl⟩, (fun h => by cases h), (fun h => by cases h)⟩
theorem ok30 : TyOK Try.prog 30 ti30 := ⟨⟨(Try.prog.info? 30).getD default, ((Try.prog.info? 30).getD default).zero.getD default, by kernel_rfl, by kernel_rfl, by kernel_rfl, by kernel_rfl, by kernel_rfl⟩, Try.underlying30, (fun h => by cases h), ⟨(Try.prog.info? 30).getD default, by kernel_rfl, by kernel_rfl⟩, (fun h => by cases h), (fun h => by cases h)⟩
theorem ok31 : TyOK Try.prog 31 ti31 := ⟨⟨(Try.prog.info? 31).getD default, ((Try.prog.info? 31).getD default).zero.getD default, by kernel_rfl, by kernel_rfl, by kernel_rfl, by kernel_rfl, by kernel_rfl⟩, ⟨_, Try.underlying31, rfl⟩, (fun h => by cases h), ⟨(Try.prog.info? 31).getD default, by kernel_rfl, by kernel_rfl⟩, (fun h => by cases h), (fun h => by cases h)⟩
theorem ok32 : TyOK Try.prog 32 ti32 := ⟨⟨(Try.prog.info? 32).getD default, ((Try.prog.info? 32).getD default).zero.getD default, by kernel_rfl, by kernel_rfl, by kernel_rfl, by kernel_rfl, by kernel_rfl⟩, ⟨_, Try.underlying32, rfl⟩, (fun h => by cases h), ⟨(Try.prog.info? 32).getD default, by kernel_rfl, by kernel_rfl⟩, (fun h => by cases h), (fun h => by cases h)⟩
theorem ok33 : TyOK Try.prog 33 ti33 := ⟨⟨(Try.prog.info? 33).getD default, ((Try.prog.info? 33).getD default).zero.getD default, by kernel_rfl, by kernel_rfl, by kernel_rfl, by kernel_rfl, by kernel_rfl⟩, ⟨_, Try.underlying33, rfl⟩, (fun h => by cases h), ⟨(Try.prog.info? 33).getD default, by kernel_rfl, by kernel_rfl⟩, (fun h => by cases h), (fun h => by cases h)⟩
theorem ok34 : TyOK Try.prog 34 ti34 := ⟨⟨(Try.prog.info? 34).getD default, ((Try.prog.info? 34).getD default).zero.getD default, by kernel_rfl, by kernel_rfl, by kernel_rfl, by kernel_rfl, by kernel_rfl⟩, ⟨_, Try.underlying34, rfl⟩, fun _ => eq34, ⟨(Try.prog.info? 34).getD default, by kernel_rfl, by kernel_rfl⟩, (fun h => by cases h), (fun h => by cases h)⟩
theorem ok35 : TyOK Try.prog 35 ti35 := ⟨⟨(Try.prog.info? 35).getD default, ((Try.prog.info? 35).getD default).zero.getD default, by kernel_rfl, by kernel_rfl, by kernel_rfl, by kernel_rfl, by kernel_rfl⟩, ⟨_, Try.underlying35, rfl⟩, (fun h => by cases h), ⟨(Try.prog.info? 35).getD default, by kernel_rfl, by kernel_rfl⟩, (fun h => by cases h), (fun h => by cases h)⟩
theorem ok36 : TyOK Try.prog 36 ti36 := ⟨⟨(Try.prog.info? 36).getD default, ((Try.prog.info? 36).getD default).zero.getD default, by kernel_rfl, by kernel_rfl, by kernel_rfl, by kernel_rfl, by kernel_rfl⟩, ⟨_, Try.underlying36, rfl⟩, fun _ => eq36, ⟨(Try.prog.info? 36).getD default, by kernel_rfl, by kernel_rfl⟩, (fun h => by cases h), (fun h => by cases h)⟩
theorem ok37 : TyOK Try.prog 37 ti37 := ⟨⟨(Try.prog.info? 37).getD default, ((Try.prog.info? 37).getD default).zero.getD default, by kernel_rfl, by kernel_rfl, by kernel_rfl, by kernel_rfl, by kernel_rfl⟩, ⟨_, Try.underlying37, rfl⟩, (fun h => by cases h), ⟨(Try.prog.info? 37).getD default, by kernel_rfl, by kernel_rfl⟩, (fun h => by cases h), (fun h => by cases h)⟩
theorem ok38 : TyOK Try.prog 38 ti38 := ⟨⟨(Try.prog.info? 38).getD default, ((Try.prog.info? 38).getD default).zero.getD default, by kernel_rfl, by kernel_rfl, by kernel_rfl, by kernel_rfl, by kernel_rfl⟩, ⟨_, Try.underlying38, rfl⟩, fun _ => eq38, ⟨(Try.prog.info? 38).getD default, by kernel_rfl, by kernel_rfl⟩, (fun h => by cases h), (fun h => by cases h)⟩
theorem ok40 : TyOK Try.prog 40 ti40 := ⟨⟨(Try.prog.info? 40).getD default, ((Try.prog.info? 40).getD default).zero.getD default, by kernel_rfl, by kernel_rfl, by kernel_rfl, by kernel_rfl, by kernel_rfl⟩, ⟨_, Try.underlying40, rfl⟩, (fun h => by cases h), ⟨(Try.prog.info? 40).getD default, by kernel_rfl, by kernel_rfl⟩, (fun h => by cases h), (fun h => by cases h)⟩
theorem ok41 : TyOK Try.prog 41 ti41 := ⟨⟨(Try.prog.info? 41).getD default, ((Try.prog.info? 41).getD default).zero.getD default, by kernel_rfl, by kernel_rfl, by kernel_rfl, by kernel_rfl, by kernel_rfl⟩, ⟨_, Try.underlying41, rfl⟩, fun _ => eq41, ⟨(Try.prog.info? 41).getD default, by kernel_rfl, by kernel_rfl⟩, (fun h => by cases h), (fun h => by cases h)⟩
theorem ok48 : TyOK Try.prog 48 ti48 := ⟨⟨(Try.prog.info? 48).getD default, ((Try.prog.info? 48).getD default).zero.getD default, by kernel_rfl, by kernel_rfl, by kernel_rfl, by kernel_rfl, by kernel_rfl⟩, Try.underlying48, (fun h => by cases h), ⟨(Try.prog.info? 48).getD default, by kernel_rfl, by kernel_rfl⟩, (fun h => by cases h), (fun h => by cases h)⟩
theorem ok50 : TyOK Try.prog 50 ti50 := ⟨⟨(Try.prog.info? 50).getD default, ((Try.prog.info? 50).getD default).zero.getD default, by kernel_rfl, by kernel_rfl, by kernel_rfl, by kernel_rfl, by kernel_rfl⟩, Try.underlying50, (fun h => by cases h), ⟨(Try.prog.info? 50).getD default, by kernel_rfl, by kernel_rfl⟩, (fun h => by cases h), (fun h => by cases h)⟩
theorem ok51 : TyOK Try.prog 51 ti51 := ⟨⟨(Try.prog.info? 51).getD default, ((Try.prog.info? 51).getD default).zero.getD default, by kernel_rfl, by kernel_rfl, by kernel_rfl, by kernel_rfl, by kernel_rfl⟩, Try.underlying51, (fun h => by cases h), ⟨(Try.prog.info? 51).getD default, by kernel_rfl, by kernel_rfl⟩, (fun h => by cases h), (fun h => by cases h)⟩
theorem ok52 : TyOK Try.prog 52 ti52 := ⟨⟨(Try.prog.info? 52).getD default, ((Try.prog.info? 52).getD default).zero.getD default, by kernel_rfl, by kernel_rfl, by kernel_rfl, by kernel_rfl, by kernel_rfl⟩, ⟨_, Try.underlying52, rfl⟩, (fun h => by cases h), ⟨(Try.prog.info? 52).getD default, by kernel_rfl, by kernel_rfl⟩, (fun h => by cases h), (fun h => by cases h)⟩
theorem ok53 : TyOK Try.prog 53 ti53 := ⟨⟨(Try.prog.info? 53).getD default, ((Try.prog.info? 53).getD default).zero.getD default, by kernel_rfl, by kernel_rfl, by kernel_rfl, by kernel_rfl, by kernel_rfl⟩, ⟨_, Try.underlying53, rfl⟩, (fun h => by cases h), ⟨(Try.prog.info? 53).getD default, by kernel_rfl, by kernel_rfl⟩, (fun h => by cases h), (fun h => by cases h)⟩
theorem ok58 : TyOK Try.prog 58 ti58 := ⟨⟨(Try.prog.info? 58).getD default, ((Try.prog.info? 58).getD default).zero.getD default, by kernel_rfl, by kernel_rfl, by kernel_rfl, by kernel_rfl, by kernel_rfl⟩, Try.underlying58, (fun h => by cases h), ⟨(Try.prog.info? 58).getD default, by kernel_rfl, by kernel_rfl⟩, (fun h => by cases h), (fun h => by cases h)⟩
theorem ok62 : TyOK Try.prog 62 ti62 := ⟨⟨(Try.prog.info? 62).getD default, ((Try.prog.info? 62).getD default).zero.getD default, by kernel_rfl, by kernel_rfl, by kernel_rfl, by kernel_rfl, by kernel_rfl⟩, ⟨_, Try.underlying62, rfl⟩, (fun h => by cases h), ⟨(Try.prog.info? 62).getD default, by kernel_rfl, by kernel_rfl⟩, (fun h => by cases h), (fun h => by cases h)⟩
theorem ok63 : TyOK Try.prog 63 ti63 := ⟨⟨(Try.prog.info? 63).getD default, ((Try.prog.info? 63).getD default).zero.getD default, by kernel_rfl, by kernel_rfl, by kernel_rfl, by kernel_rfl, by kernel_rfl⟩, ⟨_, Try.underlying63, rfl⟩, (fun h => by cases h), ⟨(Try.prog.info? 63).getD default, by kernel_rfl, by kernel_rfl⟩, (fun h => by cases h), (fun h => by cases h)⟩
theorem ok74 : TyOK Try.prog 74 ti74 := ⟨⟨(Try.prog.info? 74).getD default, ((Try.prog.info? 74).getD default).zero.getD default, by kernel_rfl, by kernel_rfl, by kernel_rfl, by kernel_rfl, by kernel_rfl⟩, Try.underlying74, (fun h => by cases h), ⟨(Try.prog.info? 74).getD default, by kernel_rfl, by kernel_rfl⟩, (fun h => by cases h), (fun h => by cases h)⟩
theorem ok75 : TyOK Try.prog 75 ti75 := ⟨⟨(Try.prog.info? 75).getD default, ((Try.prog.info? 75).getD default).zero.getD default, by kernel_rfl, by kernel_rfl, by kernel_rfl, by kernel_rfl, by kernel_rfl⟩, ⟨_, Try.underlying75, rfl⟩, (fun h => by cases h), ⟨(Try.prog.info? 75).getD default, by kernel_rfl, by kernel_rfl⟩, (fun h => by cases h), (fun h => by cases h)⟩
theorem ok76 : TyOK Try.prog 76 ti76 := ⟨⟨(Try.prog.info? 76).getD default, ((Try.prog.info? 76).getD default).zero.getD default, by kernel_rfl, by kernel_rfl, by kernel_rfl, by kernel_rfl, by kernel_rfl⟩, ⟨_, Try.underlying76, rfl⟩, (fun h => by cases h), ⟨(Try.prog.info? 76).getD default, by kernel_rfl, by kernel_rfl⟩, (fun h => by cases h), (fun h => by cases h)⟩
theorem ok82 : TyOK Try.prog 82 ti82 := ⟨⟨(Try.prog.info? 82).getD default, ((Try.prog.info? 82).getD default).zero.getD default, by kernel_rfl, by kernel_rfl, by kernel_rfl, by kernel_rfl, by kernel_rfl⟩, Try.underlying82, (fun h => by cases h), ⟨(Try.prog.info? 82).getD default, by kernel_rfl, by kernel_rfl⟩, (fun h => by cases h), (fun h => by cases h)⟩
theorem ok84 : TyOK Try.prog 84 ti84 := ⟨⟨(Try.prog.info? 84).getD default, ((Try.prog.info? 84).getD default).zero.getD default, by kernel_rfl, by kernel_rfl, by kernel_rfl, by kernel_rfl, by kernel_rfl⟩, Try.underlying84, (fun h => by cases h), ⟨(Try.prog.info? 84).getD default, by kernel_rfl, by kernel_rfl⟩, (fun h => by cases h), (fun h => by cases h)⟩
theorem ok96 : TyOK Try.prog 96 ti96 := ⟨⟨(Try.prog.info? 96).getD default, ((Try.prog.info? 96).getD default).zero.getD default, by kernel_rfl, by kernel_rfl, by kernel_rfl, by kernel_rfl, by kernel_rfl⟩, ⟨_, Try.underlying96, rfl⟩, (fun h => by cases h), ⟨(Try.prog.info? 96).getD default, by kernel_rfl, by kernel_rfl⟩, (fun h => by cases h), (fun h => by cases h)⟩
theorem ok97 : TyOK Try.prog 97 ti97 := ⟨⟨(Try.prog.info? 97).getD default, ((Try.prog.info? 97).getD default).zero.getD default, by kernel_rfl, by kernel_rfl, by kernel_rfl, by kernel_rfl, by kernel_rfl⟩, ⟨_, Try.underlying97, rfl⟩, fun _ => eq97, ⟨(Try.prog.info? 97).getD default, by kernel_rfl, by kernel_rfl⟩, (fun h => by cases h), (fun h => by cases h)⟩
theorem ok100 : TyOK Try.prog 100 ti100 := ⟨⟨(Try.prog.info? 100).getD default, ((Try.prog.info? 100).getD default).zero.getD default, by kernel_rfl, by kernel_rfl, by kernel_rfl, by kernel_rfl, by kernel_rfl⟩, ⟨_, Try.underlying100, rfl⟩, fun _ => eq100, ⟨(Try.prog.info? 100).getD default, by kernel_rfl, by kernel_rfl⟩, (fun h => by cases h), (fun h => by cases h)⟩
theorem ok103 : TyOK Try.prog 103 ti103 := ⟨⟨(Try.prog.info? 103).getD default, ((Try.prog.info? 103).getD default).zero.getD default, by kernel_rfl, by kernel_rfl, by kernel_rfl, by kernel_rfl, by kernel_rfl⟩, ⟨_, Try.underlying103, rfl⟩, (fun h => by cases h), ⟨(Try.prog.info? 103).getD default, by kernel_rfl, by kernel_rfl⟩, (fun h => by cases h), (fun h => by cases h)⟩
theorem ok104 : TyOK Try.prog 104 ti104 := ⟨⟨(Try.prog.info? 104).getD default, ((Try.prog.info? 104).getD default).zero.getD default, by kernel_rfl, by kernel_rfl, by kernel_rfl, by kernel_rfl, by kernel_rfl⟩, ⟨_, Try.underlying104, rfl⟩, fun _ => eq104, ⟨(Try.prog.info? 104).getD default, by kernel_rfl, by kernel_rfl⟩, (fun h => by cases h), (fun h => by cases h)⟩
theorem ok113 : TyOK Try.prog 113 ti113 := ⟨⟨(Try.prog.info? 113).getD default, ((Try.prog.info? 113).getD default).zero.getD default, by kernel_rfl, by kernel_rfl, by kernel_rfl, by kernel_rfl, by kernel_rfl⟩, Try.underlying113, (fun h => by cases h), ⟨(Try.prog.info? 113).getD default, by kernel_rfl, by kernel_rfl⟩, (fun h => by cases h), (fun h => by cases h)⟩
theorem ok116 : TyOK Try.prog 116 ti116 := ⟨⟨(Try.prog.info? 116).getD default, ((Try.prog.info? 116).getD default).zero.getD default, by kernel_rfl, by kernel_rfl, by kernel_rfl, by kernel_rfl, by kernel_rfl⟩, ⟨_, Try.underlying116, rfl⟩, (fun h => by cases h), ⟨(Try.prog.info? 116).getD default, by kernel_rfl, by kernel_rfl⟩, (fun h => by cases h), (fun h => by cases h)⟩
theorem ok117 : TyOK Try.prog 117 ti117 := ⟨⟨(Try.prog.info? 117).getD default, ((Try.prog.info? 117).getD default).zero.getD default, by kernel_rfl, by kernel_rfl, by kernel_rfl, by kernel_rfl, by kernel_rfl⟩, ⟨_, Try.underlying117, rfl⟩, fun _ => eq117, ⟨(Try.prog.info? 117).getD default, by kernel_rfl, by kernel_rfl⟩, (fun h => by cases h), (fun h => by cases h)⟩
theorem ok124 : TyOK Try.prog 124 ti124 := ⟨⟨(Try.prog.info? 124).getD default, ((Try.prog.info? 124).getD default).zero.getD default, by kernel_rfl, by kernel_rfl, by kernel_rfl, by kernel_rfl, by kernel_rfl⟩, Try.underlying124, (fun h => by cases h), ⟨(Try.prog.info? 124).getD default, by kernel_rfl, by kernel_rfl⟩, (fun h => by cases h), (fun h => by cases h)⟩
theorem ok128 : TyOK Try.prog 128 ti128 := ⟨⟨(Try.prog.info? 128).getD default, ((Try.prog.info? 128).getD default).zero.getD default, by kernel_rfl, by kernel_rfl, by kernel_rfl, by kernel_rfl, by kernel_rfl⟩, ⟨_, Try.underlying128, rfl⟩, fun _ => eq128, ⟨(Try.prog.info? 128).getD default, by kernel_rfl, by kernel_rfl⟩, (fun h => by cases h), (fun h => by cases h)⟩
theorem ok129 : TyOK Try.prog 129 ti129 := ⟨⟨(Try.prog.info? 129).getD default, ((Try.prog.info? 129).getD default).zero.getD default, by kernel_rfl, by kernel_rfl, by kernel_rfl, by kernel_rfl, by kernel_rfl⟩, ⟨_, Try.underlying129, rfl⟩, fun _ => eq129, ⟨(Try.prog.info? 129).getD default, by kernel_rfl, by kernel_rfl⟩, (fun h => by cases h), (fun h => by cases h)⟩
theorem ok133 : TyOK Try.prog 133 ti133 := ⟨⟨(Try.prog.info? 133).getD default, ((Try.prog.info? 133).getD default).zero.getD default, by kernel_rfl, by kernel_rfl, by kernel_rfl, by kernel_rfl, by kernel_rfl⟩, Try.underlying133, (fun h => by cases h), ⟨(Try.prog.info? 133).getD default, by kernel_rfl, by kernel_rfl⟩, (fun h => by cases h), (fun h => by cases h)⟩
theorem ok145 : TyOK Try.prog 145 ti145 := ⟨⟨(Try.prog.info? 145).getD default, ((Try.prog.info? 145).getD default).zero.getD default, by kernel_rfl, by kernel_rfl, by kernel_rfl, by kernel_rfl, by kernel_rfl⟩, Try.underlying145, (fun h => by cases h), ⟨(Try.prog.info? 145).getD default, by kernel_rfl, by kernel_rfl⟩, (fun h => by cases h), (fun h => by cases h)⟩
theorem ok146 : TyOK Try.prog 146 ti146 := ⟨⟨(Try.prog.info? 146).getD default, ((Try.prog.info? 146).getD default).zero.getD default, by kernel_rfl, by kernel_rfl, by kernel_rfl, by kernel_rfl, by kernel_rfl⟩, ⟨_, Try.underlying146, rfl⟩, (fun h => by cases h), ⟨(Try.prog.info? 146).getD default, by kernel_rfl, by kernel_rfl⟩, (fun h => by cases h), (fun h => by cases h)⟩
theorem ok147 : TyOK Try.prog 147 ti147 := ⟨⟨(Try.prog.info? 147).getD default, ((Try.prog.info? 147).getD default).zero.getD default, by kernel_rfl, by kernel_rfl, by kernel_rfl, by kernel_rfl, by kernel_rfl⟩, ⟨_, Try.underlying147, rfl⟩, fun _ => eq147, ⟨(Try.prog.info? 147).getD default, by kernel_rfl, by kernel_rfl⟩, (fun h => by cases h), (fun h => by cases h)⟩
theorem ok148 : TyOK Try.prog 148 ti148 := ⟨⟨(Try.prog.info? 148).getD default, ((Try.prog.info? 148).getD default).zero.getD default, by kernel_rfl, by kernel_rfl, by kernel_rfl, by kernel_rfl, by kernel_rfl⟩, Try.underlying148, (fun h => by cases h), ⟨(Try.prog.info? 148).getD default, by kernel_rfl, by kernel_rfl⟩, (fun h => by cases h), (fun h => by cases h)⟩
theorem ok149 : TyOK Try.prog 149 ti149 := ⟨⟨(Try.prog.info? 149).getD default, ((Try.prog.info? 149).getD default).zero.getD default, by kernel_rfl, by kernel_rfl, by kernel_rfl, by kernel_rfl, by kernel_rfl⟩, ⟨_, Try.underlying149, rfl⟩, (fun h => by cases h), ⟨(Try.prog.info? 149).getD default, by kernel_rfl, by kernel_rfl⟩, (fun h => by cases h), (fun h => by cases h)⟩
theorem ok150 : TyOK Try.prog 150 ti150 := ⟨⟨(Try.prog.info? 150).getD default, ((Try.prog.info? 150).getD default).zero.getD default, by kernel_rfl, by kernel_rfl, by kernel_rfl, by kernel_rfl, by kernel_rfl⟩, ⟨_, Try.underlying150, rfl⟩, (fun h => by cases h), ⟨(Try.prog.info? 150).getD default, by kernel_rfl, by kernel_rfl⟩, (fun h => by cases h), (fun h => by cases h)⟩
theorem ok151 : TyOK Try.prog 151 ti151 := ⟨⟨(Try.prog.info? 151).getD default, ((Try.prog.info? 151).getD default).zero.getD default, by kernel_rfl, by kernel_rfl, by kernel_rfl, by kernel_rfl, by kernel_rfl⟩, ⟨_, Try.underlying151, rfl⟩, (fun h => by cases h), ⟨(Try.prog.info? 151).getD default, by kernel_rfl, by kernel_rfl⟩, (fun h => by cases h), (fun h => by cases h)⟩
theorem ok152 : TyOK Try.prog 152 ti152 := ⟨⟨(Try.prog.info? 152).getD default, ((Try.prog.info? 152).getD default).zero.getD default, by kernel_rfl, by kernel_rfl, by kernel_rfl, by kernel_rfl, by kernel_rfl⟩, ⟨_, Try.underlying152, rfl⟩, (fun h => by cases h), ⟨(Try.prog.info? 152).getD default, by kernel_rfl, by kernel_rfl⟩, (fun h => by cases h), (fun h => by cases h)⟩
theorem ok156 : TyOK Try.prog 156 ti156 := ⟨⟨(Try.prog.info? 156).getD default, ((Try.prog.info? 156).getD default).zero.getD default, by kernel_rfl, by kernel_rfl, by kernel_rfl, by kernel_rfl, by kernel_rfl⟩, Try.underlying156, (fun h => by cases h), ⟨(Try.prog.info? 156).getD default, by kernel_rfl, by kernel_rfl⟩, (fun h => by cases h), (fun h => by cases h)⟩
theorem ok159 : TyOK Try.prog 159 ti159 := ⟨⟨(Try.prog.info? 159).getD default, ((Try.prog.info? 159).getD default).zero.getD default, by kernel_rfl, by kernel_rfl, by kernel_rfl, by kernel_rfl, by kernel_rfl⟩, Try.underlying159, (fun h => by cases h), ⟨(Try.prog.info? 159).getD default, by kernel_rfl, by kernel_rfl⟩, (fun h => by cases h), (fun h => by cases h)⟩
theorem ok160 : TyOK Try.prog 160 ti160 := ⟨⟨(Try.prog.info? 160).getD default, ((Try.prog.info? 160).getD default).zero.getD default, by kernel_rfl, by kernel_rfl, by kernel_rfl, by kernel_rfl, by kernel_rfl⟩, Try.underlying160, (fun h => by cases h), ⟨(Try.prog.info? 160).getD default, by kernel_rfl, by kernel_rfl⟩, (fun h => by cases h), (fun h => by cases h)⟩
theorem ok161 : TyOK Try.prog 161 ti161 := ⟨⟨(Try.prog.info? 161).getD default, ((Try.prog.info? 161).getD default).zero.getD default, by kernel_rfl, by kernel_rfl, by kernel_rfl, by kernel_rfl, by kernel_rfl⟩, ⟨_, Try.underlying161, rfl⟩, (fun h => by cases h), ⟨(Try.prog.info? 161).getD default, by kernel_rfl, by kernel_rfl⟩, (fun h => by cases h), (fun h => by cases h)⟩
theorem ok162 : TyOK Try.prog 162 ti162 := ⟨⟨(Try.prog.info? 162).getD default, ((Try.prog.info? 162).getD default).zero.getD default, by kernel_rfl, by kernel_rfl, by kernel_rfl, by kernel_rfl, by kernel_rfl⟩, ⟨_, Try.underlying162, rfl⟩, (fun h => by cases h), ⟨(Try.prog.info? 162).getD default, by kernel_rfl, by kernel_rfl⟩, (fun h => by cases h), (fun h => by cases h)⟩
theorem ok174 : TyOK Try.prog 174 ti174 := ⟨⟨(Try.prog.info? 174).getD default, ((Try.prog.info? 174).getD default).zero.getD default, by kernel_rfl, by kernel_rfl, by kernel_rfl, by kernel_rfl, by kernel_rfl⟩, Try.underlying174, (fun h => by cases h), ⟨(Try.prog.info? 174).getD default, by kernel_rfl, by kernel_rfl⟩, (fun h => by cases h), (fun h => by cases h)⟩
theorem ok175 : TyOK Try.prog 175 ti175 := ⟨⟨(Try.prog.info? 175).getD default, ((Try.prog.info? 175).getD default).zero.getD default, by kernel_rfl, by kernel_rfl, by kernel_rfl, by kernel_rfl, by kernel_rfl⟩, ⟨_, Try.underlying175, rfl⟩, (fun h => by cases h), ⟨(Try.prog.info? 175).getD default, by kernel_rfl, by kernel_rfl⟩, (fun h => by cases h), (fun h => by cases h)⟩
theorem ok176 : TyOK Try.prog 176 ti176 := ⟨⟨(Try.prog.info? 176).getD default, ((Try.prog.info? 176).getD default).zero.getD default, by kernel_rfl, by kernel_rfl, by kernel_rfl, by kernel_rfl, by kernel_rfl⟩, ⟨_, Try.underlying176, rfl⟩, fun _ => eq176, ⟨(Try.prog.info? 176).getD default, by kernel_rfl, by kernel_rfl⟩, (fun h => by cases h), (fun h => by cases h)⟩
theorem ok183 : TyOK Try.prog 183 ti183 := ⟨⟨(Try.prog.info? 183).getD default, ((Try.prog.info? 183).getD default).zero.getD default, by kernel_rfl, by kernel_rfl, by kernel_rfl, by kernel_rfl, by kernel_rfl⟩, Try.underlying183, (fun h => by cases h), ⟨(Try.prog.info? 183).getD default, by kernel_rfl, by kernel_rfl⟩, (fun h => by cases h), (fun h => by cases h)⟩
theorem ok184 : TyOK Try.prog 184 ti184 := ⟨⟨(Try.prog.info? 184).getD default, ((Try.prog.info? 184).getD default).zero.getD default, by kernel_rfl, by kernel_rfl, by kernel_rfl, by kernel_rfl, by kernel_rfl⟩, ⟨_, Try.underlying184, rfl⟩, (fun h => by cases h), ⟨(Try.prog.info? 184).getD default, by kernel_rfl, by kernel_rfl⟩, (fun h => by cases h), (fun h => by cases h)⟩
theorem ok185 : TyOK Try.prog 185 ti185 := ⟨⟨(Try.prog.info? 185).getD default, ((Try.prog.info? 185).getD default).zero.getD default, by kernel_rfl, by kernel_rfl, by kernel_rfl, by kernel_rfl, by kernel_rfl⟩, ⟨_, Try.underlying185, rfl⟩, (fun h => by cases h), ⟨(Try.prog.info? 185).getD default, by kernel_rfl, by kernel_rfl⟩, (fun h => by cases h), (fun h => by cases h)⟩
theorem ok188 : TyOK Try.prog 188 ti188 := ⟨⟨(Try.prog.info? 188).getD default, ((Try.prog.info? 188).getD default).zero.getD default, by kernel_rfl, by kernel_rfl, by kernel_rfl, by kernel_rfl, by kernel_rfl⟩, ⟨_, Try.underlying188, rfl⟩, (fun h => by cases h), ⟨(Try.prog.info? 188).getD default, by kernel_rfl, by kernel_rfl⟩, (fun h => by cases h), (fun h => by cases h)⟩
theorem ok189 : TyOK Try.prog 189 ti189 := ⟨⟨(Try.prog.info? 189).getD default, ((Try.prog.info? 189).getD default).zero.getD default, by kernel_rfl, by kernel_rfl, by kernel_rfl, by kernel_rfl, by kernel_rfl⟩, ⟨_, Try.underlying189, rfl⟩, fun _ => eq189, ⟨(Try.prog.info? 189).getD default, by kernel_rfl, by kernel_rfl⟩, (fun h => by cases h), (fun h => by cases h)⟩
theorem ok196 : TyOK Try.prog 196 ti196 := ⟨⟨(Try.prog.info? 196).getD default, ((Try.prog.info? 196).getD default).zero.getD default, by kernel_rfl, by kernel_rfl, by kernel_rfl, by kernel_rfl, by kernel_rfl⟩, Try.underlying196, (fun h => by cases h), ⟨(Try.prog.info? 196).getD default, by kernel_rfl, by kernel_rfl⟩, (fun h => by cases h), (fun h => by cases h)⟩
theorem ok198 : TyOK Try.prog 198 ti198 := ⟨⟨(Try.prog.info? 198).getD default, ((Try.prog.info? 198).getD default).zero.getD default, by kernel_rfl, by kernel_rfl, by kernel_rfl, by kernel_rfl, by kernel_rfl⟩, Try.underlying198, (fun h => by cases h), ⟨(Try.prog.info? 198).getD default, by kernel_rfl, by kernel_rfl⟩, (fun h => by cases h), (fun h => by cases h)⟩
theorem ok199 : TyOK Try.prog 199 ti199 := ⟨⟨(Try.prog.info? 199).getD default, ((Try.prog.info? 199).getD default).zero.getD default, by kernel_rfl, by kernel_rfl, by kernel_rfl, by kernel_rfl, by kernel_rfl⟩, Try.underlying199, (fun h => by cases h), ⟨(Try.prog.info? 199).getD default, by kernel_rfl, by kernel_rfl⟩, (fun h => by cases h), (fun h => by cases h)⟩
theorem ok203 : TyOK Try.prog 203 ti203 := ⟨⟨(Try.prog.info? 203).getD default, ((Try.prog.info? 203).getD default).zero.getD default, by kernel_rfl, by kernel_rfl, by kernel_rfl, by kernel_rfl, by kernel_rfl⟩, Try.underlying203, (fun h => by cases h), ⟨(Try.prog.info? 203).getD default, by kernel_rfl, by kernel_rfl⟩, (fun h => by cases h), (fun h => by cases h)⟩
theorem ok211 : TyOK Try.prog 211 ti211 := ⟨⟨(Try.prog.info? 211).getD default, ((Try.prog.info? 211).getD default).zero.getD default, by kernel_rfl, by kernel_rfl, by kernel_rfl, by kernel_rfl, by kernel_rfl⟩, Try.underlying211, (fun h => by cases h), ⟨(Try.prog.info? 211).getD default, by kernel_rfl, by kernel_rfl⟩, (fun h => by cases h), (fun h => by cases h)⟩
theorem ok219 : TyOK Try.prog 219 ti219 := ⟨⟨(Try.prog.info? 219).getD default, ((Try.prog.info? 219).getD default).zero.getD default, by kernel_rfl, by kernel_rfl, by kernel_rfl, by kernel_rfl, by kernel_rfl⟩, Try.underlying219, (fun h => by cases h), ⟨(Try.prog.info? 219).getD default, by kernel_rfl, by kernel_rfl⟩, (fun h => by cases h), (fun h => by cases h)⟩
theorem ok223 : TyOK Try.prog 223 ti223 := ⟨⟨(Try.prog.info? 223).getD default, ((Try.prog.info? 223).getD default).zero.getD default, by kernel_rfl, by kernel_rfl, by kernel_rfl, by kernel_rfl, by kernel_rfl⟩, Try.underlying223, (fun h => by cases h), ⟨(Try.prog.info? 223).getD default, by kernel_rfl, by kernel_rfl⟩, (fun h => by cases h), (fun h => by cases h)⟩
theorem ok225 : TyOK Try.prog 225 ti225 := ⟨⟨(Try.prog.info? 225).getD default, ((Try.prog.info? 225).getD default).zero.getD default, by kernel_rfl, by kernel_rfl, by kernel_rfl, by kernel_rfl, by kernel_rfl⟩, Try.underlying225, (fun h => by cases h), ⟨(Try.prog.info? 225).getD default, by kernel_rfl, by kernel_rfl⟩, (fun h => by cases h), (fun h => by cases h)⟩
theorem ok227 : TyOK Try.prog 227 ti227 := ⟨⟨(Try.prog.info? 227).getD default, ((Try.prog.info? 227).getD default).zero.getD default, by kernel_rfl, by kernel_rfl, by kernel_rfl, by kernel_rfl, by kernel_rfl⟩, ⟨_, Try.underlying227, rfl⟩, (fun h => by cases h), ⟨(Try.prog.info? 227).getD default, by kernel_rfl, by kernel_rfl⟩, (fun h => by cases h), (fun h => by cases h)⟩
theorem ok229 : TyOK Try.prog 229 ti229 := ⟨⟨(Try.prog.info? 229).getD default, ((Try.prog.info? 229).getD default).zero.getD default, by kernel_rfl, by kernel_rfl, by kernel_rfl, by kernel_rfl, by kernel_rfl⟩, Try.underlying229, (fun h => by cases h), ⟨(Try.prog.info? 229).getD default, by kernel_rfl, by kernel_rfl⟩, (fun h => by cases h), (fun h => by cases h)⟩
theorem ok230 : TyOK Try.prog 230 ti230 := ⟨⟨(Try.prog.info? 230).getD default, ((Try.prog.info? 230).getD default).zero.getD default, by kernel_rfl, by kernel_rfl, by kernel_rfl, by kernel_rfl, by kernel_rfl⟩, ⟨_, Try.underlying230, rfl⟩, (fun h => by cases h), ⟨(Try.prog.info? 230).getD default, by kernel_rfl, by kernel_rfl⟩, (fun h => by cases h), (fun h => by cases h)⟩
theorem ok237 : TyOK Try.prog 237 ti237 := ⟨⟨(Try.prog.info? 237).getD default, ((Try.prog.info? 237).getD default).zero.getD default, by kernel_rfl, by kernel_rfl, by kernel_rfl, by kernel_rfl, by kernel_rfl⟩, ⟨_, Try.underlying237, rfl⟩, (fun h => by cases h), ⟨(Try.prog.info? 237).getD default, by kernel_rfl, by kernel_rfl⟩, (fun h => by cases h), (fun h => by cases h)⟩
def lookT : List (Nat × TI) → Nat → Option TI
  | [], _ => none
  | (i, x) :: r, n => match Nat.beq i n with
    | true => some x
    | false => lookT r n
theorem lookT_spec : ∀ (l : List (Nat × TI)) (n : Nat) (x : TI), lookT l n = some x → (n, x) ∈ l
  | [], _, _, h => by cases h
  | (i, y) :: r, n, x, h => by
    unfold lookT at h
    split at h
    · rename_i hb; cases h; rw [Nat.eq_of_beq_eq_true hb]; exact List.mem_cons_self ..
    · exact List.mem_cons_of_mem _ (lookT_spec r n x h)
def tyList : List (Nat × TI) := [(2, ti2), (3, ti3), (4, ti4), (5, ti5), (7, ti7), (9, ti9), (12, ti12), (13, ti13), (15, ti15), (16, ti16), (17, ti17), (18, ti18), (21, ti21), (22, ti22), (25, ti25), (26, ti26), (29, ti29), (30, ti30), (31, ti31), (32, ti32), (33, ti33), (34, ti34), (35, ti35), (36, ti36), (37, ti37), (38, ti38), (40, ti40), (41, ti41), (48, ti48), (50, ti50), (51, ti51), (52, ti52), (53, ti53), (58, ti58), (62, ti62), (63, ti63), (74, ti74), (75, ti75), (76, ti76), (82, ti82), (84, ti84), (96, ti96), (97, ti97), (100, ti100), (103, ti103), (104, ti104), (113, ti113), (116, ti116), (117, ti117), (124, ti124), (128, ti128), (129, ti129), (133, ti133), (145, ti145), (146, ti146), (147, ti147), (148, ti148), (149, ti149), (150, ti150), (151, ti151), (152, ti152), (156, ti156), (159, ti159), (160, ti160), (161, ti161), (162, ti162), (174, ti174), (175, ti175), (176, ti176), (183, ti183), (184, ti184), (185, ti185), (188, ti188), (189, ti189), (196, ti196), (198, ti198), (199, ti199), (203, ti203), (211, ti211), (219, ti219), (223, ti223), (225, ti225), (227, ti227), (229, ti229), (230, ti230), (237, ti237)]
def AllTy (P : Program) : List (Nat × TI) → Prop
  | [] => True
  | (t, x) :: r => TyOK P t x ∧ AllTy P r
theorem allTy_spec {P : Program} : ∀ {l : List (Nat × TI)}, AllTy P l → ∀ t x, (t, x) ∈ l → TyOK P t x
  | (_, _) :: r, h, t, x, hm => by
    rcases List.mem_cons.1 hm with he | hm
    · cases he; exact h.1
    · exact allTy_spec h.2 t x hm
theorem allOK : AllTy Try.prog tyList := ⟨ok2, ok3, ok4, ok5, ok7, ok9, ok12, ok13, ok15, ok16, ok17, ok18, ok21, ok22, ok25, ok26, ok29, ok30, ok31, ok32, ok33, ok34, ok35, ok36, ok37, ok38, ok40, ok41, ok48, ok50, ok51, ok52, ok53, ok58, ok62, ok63, ok74, ok75, ok76, ok82, ok84, ok96, ok97, ok100, ok103, ok104, ok113, ok116, ok117, ok124, ok128, ok129, ok133, ok145, ok146, ok147, ok148, ok149, ok150, ok151, ok152, ok156, ok159, ok160, ok161, ok162, ok174, ok175, ok176, ok183, ok184, ok185, ok188, ok189, ok196, ok198, ok199, ok203, ok211, ok219, ok223, ok225, ok227, ok229, ok230, ok237, trivial⟩
def tyL (n : Nat) : Option TI := lookT tyList n
def fnL : List Nat := [3, 4, 5, 6, 7, 8, 9, 10, 11, 12, 13, 14, 15, 16, 17, 18, 19, 20, 21, 22, 23, 24, 25, 26, 27, 28, 29, 30, 31, 32, 33, 34, 35, 36, 37, 38, 39, 40, 41, 42, 43, 44, 45, 46, 47, 48, 49, 50, 51, 52, 53, 54, 55, 56, 57, 58, 59, 60, 61, 62, 63, 64, 65, 66, 67, 68, 69, 70, 71, 72, 73, 74, 75, 76, 77, 78, 79, 80, 81, 82, 83, 84, 85, 86, 87, 88, 89, 90, 91, 92, 93, 94, 95, 96, 97, 98, 99, 100, 101, 102, 103, 104, 105, 106, 107, 108, 109, 110, 111, 112, 113, 114, 115, 116, 118, 119, 121, 122, 123, 124, 126, 127, 128, 129, 130, 131, 132, 133, 134, 135, 136, 137, 138, 139, 140, 141, 142, 146, 147, 148, 149, 150, 151, 152, 154, 155, 156, 157]
def memB : List Nat → Nat → Bool
  | [], _ => false
  | x :: xs, n => match Nat.beq x n with
    | true => true
    | false => memB xs n
theorem memB_spec : ∀ (l : List Nat) (n : Nat), memB l n = true → n ∈ l
  | x :: xs, n, h => by
    unfold memB at h
    split at h
    · rename_i hb; rw [Nat.eq_of_beq_eq_true hb]; exact List.mem_cons_self ..
    · exact List.mem_cons_of_mem _ (memB_spec xs n h)
def tab : Tab := ⟨tyL, memB fnL⟩
theorem fnOK : (fnL.all fun f => (Try.prog.funcs[f]?).any fun fn => !(fn.name == "runtime.NumGoroutine") && fn.body.isSome) = true := by kernel_rfl
theorem tabOK : TabOK Try.prog tab := by
  refine ⟨fun t ti h => ?_, fun f hf args w => ?_, by kernel_rfl⟩
  · exact allTy_spec allOK t ti (lookT_spec _ _ _ h)
  · have := List.all_eq_true.1 fnOK f (memB_spec fnL f hf)
    obtain ⟨fn, hfn, hb⟩ := (Option.any_eq_true _ _).1 this
    simp only [Bool.and_eq_true, Bool.not_eq_true'] at hb
    obtain ⟨c, hc⟩ := Option.isSome_iff_exists.1 hb.2
    exact MuLone.run_callFunc_enter hfn hb.1 hc args w
end Go.Proofs.Ytfkbodonidkpoaa
