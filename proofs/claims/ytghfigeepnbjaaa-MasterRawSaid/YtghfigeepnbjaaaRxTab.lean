/-
  The table of the types, for the executor. No condition.
-/
import Derived.Test.YtghfigeepnbjaaaProg
import Derived.Test.YtghfigeepnbjaaaP3
import Derived.WalkKit
namespace Go.Proofs.Ytghfigeepnbjaaa
def ti2 : TI := ⟨.int .i64, 1, 8, [.int .i64 0], false, false⟩
@[simp] theorem ti2_size : ti2.size = 1 := rfl
@[simp] theorem ti2_bytes : ti2.bytes = 8 := rfl
@[simp] theorem ti2_zero : ti2.zero = [.int .i64 0] := rfl
def ti3 : TI := ⟨.int .i64, 1, 8, [.int .i64 0], false, false⟩
@[simp] theorem ti3_size : ti3.size = 1 := rfl
@[simp] theorem ti3_bytes : ti3.bytes = 8 := rfl
@[simp] theorem ti3_zero : ti3.zero = [.int .i64 0] := rfl
def ti4 : TI := ⟨.bool, 1, 1, [.bool false], false, false⟩
@[simp] theorem ti4_size : ti4.size = 1 := rfl
@[simp] theorem ti4_bytes : ti4.bytes = 1 := rfl
@[simp] theorem ti4_zero : ti4.zero = [.bool false] := rfl
def ti5 : TI := ⟨.int .u8, 1, 1, [.int .u8 0], false, false⟩
@[simp] theorem ti5_size : ti5.size = 1 := rfl
@[simp] theorem ti5_bytes : ti5.bytes = 1 := rfl
@[simp] theorem ti5_zero : ti5.zero = [.int .u8 0] := rfl
def ti7 : TI := ⟨.struct [(0, 2), (1, 3), (2, 4), (3, 6)], 4, 24, [.int .i64 0, .int .i64 0, .bool false, .int .u8 0], false, false⟩
@[simp] theorem ti7_size : ti7.size = 4 := rfl
@[simp] theorem ti7_bytes : ti7.bytes = 24 := rfl
@[simp] theorem ti7_zero : ti7.zero = [.int .i64 0, .int .i64 0, .bool false, .int .u8 0] := rfl
def ti9 : TI := ⟨.str, 1, 16, [.string ⟨#[]⟩], false, false⟩
@[simp] theorem ti9_size : ti9.size = 1 := rfl
@[simp] theorem ti9_bytes : ti9.bytes = 16 := rfl
@[simp] theorem ti9_zero : ti9.zero = [.string ⟨#[]⟩] := rfl
def ti12 : TI := ⟨.int .u64, 1, 8, [.int .u64 0], false, false⟩
@[simp] theorem ti12_size : ti12.size = 1 := rfl
@[simp] theorem ti12_bytes : ti12.bytes = 8 := rfl
@[simp] theorem ti12_zero : ti12.zero = [.int .u64 0] := rfl
def ti13 : TI := ⟨.struct [(0, 9), (1, 12)], 2, 24, [.string ⟨#[]⟩, .int .u64 0], false, false⟩
@[simp] theorem ti13_size : ti13.size = 2 := rfl
@[simp] theorem ti13_bytes : ti13.bytes = 24 := rfl
@[simp] theorem ti13_zero : ti13.zero = [.string ⟨#[]⟩, .int .u64 0] := rfl
def ti15 : TI := ⟨.ptr 200, 1, 8, [.pointer none], false, false⟩
@[simp] theorem ti15_size : ti15.size = 1 := rfl
@[simp] theorem ti15_bytes : ti15.bytes = 8 := rfl
@[simp] theorem ti15_zero : ti15.zero = [.pointer none] := rfl
def ti16 : TI := ⟨.ptr 203, 1, 8, [.pointer none], false, false⟩
@[simp] theorem ti16_size : ti16.size = 1 := rfl
@[simp] theorem ti16_bytes : ti16.bytes = 8 := rfl
@[simp] theorem ti16_zero : ti16.zero = [.pointer none] := rfl
def ti17 : TI := ⟨.ptr 211, 1, 8, [.pointer none], false, false⟩
@[simp] theorem ti17_size : ti17.size = 1 := rfl
@[simp] theorem ti17_bytes : ti17.bytes = 8 := rfl
@[simp] theorem ti17_zero : ti17.zero = [.pointer none] := rfl
def ti18 : TI := ⟨.struct [(0, 17)], 1, 8, [.pointer none], false, false⟩
@[simp] theorem ti18_size : ti18.size = 1 := rfl
@[simp] theorem ti18_bytes : ti18.bytes = 8 := rfl
@[simp] theorem ti18_zero : ti18.zero = [.pointer none] := rfl
def ti21 : TI := ⟨.int .i32, 1, 4, [.int .i32 0], false, false⟩
@[simp] theorem ti21_size : ti21.size = 1 := rfl
@[simp] theorem ti21_bytes : ti21.bytes = 4 := rfl
@[simp] theorem ti21_zero : ti21.zero = [.int .i32 0] := rfl
def ti22 : TI := ⟨.slice 3, 1, 24, [.slice none 0 0], false, false⟩
@[simp] theorem ti22_size : ti22.size = 1 := rfl
@[simp] theorem ti22_bytes : ti22.bytes = 24 := rfl
@[simp] theorem ti22_zero : ti22.zero = [.slice none 0 0] := rfl
def ti23 : TI := ⟨.struct [(0, 3), (1, 3), (2, 3), (3, 22), (4, 3), (5, 3), (6, 3), (7, 3), (8, 3), (9, 3), (10, 3), (11, 3)], 12, 112, [.int .i64 0, .int .i64 0, .int .i64 0, .slice none 0 0, .int .i64 0, .int .i64 0, .int .i64 0, .int .i64 0, .int .i64 0, .int .i64 0, .int .i64 0, .int .i64 0], false, false⟩
@[simp] theorem ti23_size : ti23.size = 12 := rfl
@[simp] theorem ti23_bytes : ti23.bytes = 112 := rfl
@[simp] theorem ti23_zero : ti23.zero = [.int .i64 0, .int .i64 0, .int .i64 0, .slice none 0 0, .int .i64 0, .int .i64 0, .int .i64 0, .int .i64 0, .int .i64 0, .int .i64 0, .int .i64 0, .int .i64 0] := rfl
def ti24 : TI := ⟨.struct [(0, 3), (1, 3), (2, 3), (3, 22), (4, 3), (5, 3), (6, 3), (7, 3), (8, 3), (9, 3), (10, 3), (11, 3)], 12, 112, [.int .i64 0, .int .i64 0, .int .i64 0, .slice none 0 0, .int .i64 0, .int .i64 0, .int .i64 0, .int .i64 0, .int .i64 0, .int .i64 0, .int .i64 0, .int .i64 0], false, false⟩
@[simp] theorem ti24_size : ti24.size = 12 := rfl
@[simp] theorem ti24_bytes : ti24.bytes = 112 := rfl
@[simp] theorem ti24_zero : ti24.zero = [.int .i64 0, .int .i64 0, .int .i64 0, .slice none 0 0, .int .i64 0, .int .i64 0, .int .i64 0, .int .i64 0, .int .i64 0, .int .i64 0, .int .i64 0, .int .i64 0] := rfl
def ti25 : TI := ⟨.slice 47, 1, 24, [.slice none 0 0], false, false⟩
@[simp] theorem ti25_size : ti25.size = 1 := rfl
@[simp] theorem ti25_bytes : ti25.bytes = 24 := rfl
@[simp] theorem ti25_zero : ti25.zero = [.slice none 0 0] := rfl
def ti26 : TI := ⟨.slice 5, 1, 24, [.slice none 0 0], false, false⟩
@[simp] theorem ti26_size : ti26.size = 1 := rfl
@[simp] theorem ti26_bytes : ti26.bytes = 24 := rfl
@[simp] theorem ti26_zero : ti26.zero = [.slice none 0 0] := rfl
def ti30 : TI := ⟨.ptr 77, 1, 8, [.pointer none], false, false⟩
@[simp] theorem ti30_size : ti30.size = 1 := rfl
@[simp] theorem ti30_bytes : ti30.bytes = 8 := rfl
@[simp] theorem ti30_zero : ti30.zero = [.pointer none] := rfl
def ti31 : TI := ⟨.int .i64, 1, 8, [.int .i64 0], false, false⟩
@[simp] theorem ti31_size : ti31.size = 1 := rfl
@[simp] theorem ti31_bytes : ti31.bytes = 8 := rfl
@[simp] theorem ti31_zero : ti31.zero = [.int .i64 0] := rfl
def ti34 : TI := ⟨.arr 6 3, 6, 48, [.int .i64 0, .int .i64 0, .int .i64 0, .int .i64 0, .int .i64 0, .int .i64 0], true, false⟩
@[simp] theorem ti34_size : ti34.size = 6 := rfl
@[simp] theorem ti34_bytes : ti34.bytes = 48 := rfl
@[simp] theorem ti34_zero : ti34.zero = [.int .i64 0, .int .i64 0, .int .i64 0, .int .i64 0, .int .i64 0, .int .i64 0] := rfl
set_option maxRecDepth 100000 in
set_option maxHeartbeats 4000000 in
theorem eq34 : ∀ xs ys b, EqC ti34.zero xs ys b → ∀ (x y : Operand) (w : World),
    (do eqGuard .eql 34 x y (.agg xs.toArray) (.agg ys.toArray); binOp .eql 34 (.agg xs.toArray) (.agg ys.toArray) : Sem Value).run Try.prog w = .ok (.bool b) w ∧
    (do eqGuard .neq 34 x y (.agg xs.toArray) (.agg ys.toArray); binOp .neq 34 (.agg xs.toArray) (.agg ys.toArray) : Sem Value).run Try.prog w = .ok (.bool !b) w := by
  intro xs ys b h x y w
  cases h with | int _ _ _ _ h =>
  cases h with | int _ _ _ _ h =>
  cases h with | int _ _ _ _ h =>
  cases h with | int _ _ _ _ h =>
  cases h with | int _ _ _ _ h =>
  cases h with | int _ _ _ _ h =>
  cases h with | nil =>
  have hi : Try.prog.info? 3 = some ((Try.prog.info? 3).getD default) := by kernel_rfl
  have hc : Try.prog.cellsOf 3 = 1 := by kernel_rfl
  constructor
  · simp [go_sem, run_equalIn_array w 9999 _ _ Try.underlying34 hi, hc, Op.eqItems, List.range_succ]
    try (repeat' (first | exact eq_one (by rw [Bool.eq_iff_iff]; simp) | refine eq_and (by rw [Bool.eq_iff_iff]; simp) ?_))
  · simp [go_sem, run_equalIn_array w 9999 _ _ Try.underlying34 hi, hc, Op.eqItems, List.range_succ]
    try (repeat' (first | exact ne_one (by rw [Bool.eq_iff_iff]; simp) | refine ne_or (by rw [Bool.eq_iff_iff]; simp) ?_))
def ti35 : TI := ⟨.struct [(0, 3), (1, 9), (2, 9), (3, 3)], 4, 48, [.int .i64 0, .string ⟨#[]⟩, .string ⟨#[]⟩, .int .i64 0], false, false⟩
@[simp] theorem ti35_size : ti35.size = 4 := rfl
@[simp] theorem ti35_bytes : ti35.bytes = 48 := rfl
@[simp] theorem ti35_zero : ti35.zero = [.int .i64 0, .string ⟨#[]⟩, .string ⟨#[]⟩, .int .i64 0] := rfl
def ti36 : TI := ⟨.struct [(0, 3), (1, 9), (2, 9), (3, 3)], 4, 48, [.int .i64 0, .string ⟨#[]⟩, .string ⟨#[]⟩, .int .i64 0], true, false⟩
@[simp] theorem ti36_size : ti36.size = 4 := rfl
@[simp] theorem ti36_bytes : ti36.bytes = 48 := rfl
@[simp] theorem ti36_zero : ti36.zero = [.int .i64 0, .string ⟨#[]⟩, .string ⟨#[]⟩, .int .i64 0] := rfl
set_option maxRecDepth 100000 in
set_option maxHeartbeats 4000000 in
theorem eq36 : ∀ xs ys b, EqC ti36.zero xs ys b → ∀ (x y : Operand) (w : World),
    (do eqGuard .eql 36 x y (.agg xs.toArray) (.agg ys.toArray); binOp .eql 36 (.agg xs.toArray) (.agg ys.toArray) : Sem Value).run Try.prog w = .ok (.bool b) w ∧
    (do eqGuard .neq 36 x y (.agg xs.toArray) (.agg ys.toArray); binOp .neq 36 (.agg xs.toArray) (.agg ys.toArray) : Sem Value).run Try.prog w = .ok (.bool !b) w := by
  intro xs ys b h x y w
  cases h with | int _ _ _ _ h =>
  cases h with | str _ _ _ h =>
  cases h with | str _ _ _ h =>
  cases h with | int _ _ _ _ h =>
  cases h with | nil =>
  constructor
  · simp [go_sem]
    try (repeat' (first | exact eq_one (by rw [Bool.eq_iff_iff]; simp) | refine eq_and (by rw [Bool.eq_iff_iff]; simp) ?_))
  · simp [go_sem]
    try (repeat' (first | exact ne_one (by rw [Bool.eq_iff_iff]; simp) | refine ne_or (by rw [Bool.eq_iff_iff]; simp) ?_))
def ti37 : TI := ⟨.struct [(0, 3), (1, 9), (2, 3), (3, 3)], 4, 40, [.int .i64 0, .string ⟨#[]⟩, .int .i64 0, .int .i64 0], false, false⟩
@[simp] theorem ti37_size : ti37.size = 4 := rfl
@[simp] theorem ti37_bytes : ti37.bytes = 40 := rfl
@[simp] theorem ti37_zero : ti37.zero = [.int .i64 0, .string ⟨#[]⟩, .int .i64 0, .int .i64 0] := rfl
def ti38 : TI := ⟨.struct [(0, 3), (1, 9), (2, 3), (3, 3)], 4, 40, [.int .i64 0, .string ⟨#[]⟩, .int .i64 0, .int .i64 0], true, false⟩
@[simp] theorem ti38_size : ti38.size = 4 := rfl
@[simp] theorem ti38_bytes : ti38.bytes = 40 := rfl
@[simp] theorem ti38_zero : ti38.zero = [.int .i64 0, .string ⟨#[]⟩, .int .i64 0, .int .i64 0] := rfl
set_option maxRecDepth 100000 in
set_option maxHeartbeats 4000000 in
theorem eq38 : ∀ xs ys b, EqC ti38.zero xs ys b → ∀ (x y : Operand) (w : World),
    (do eqGuard .eql 38 x y (.agg xs.toArray) (.agg ys.toArray); binOp .eql 38 (.agg xs.toArray) (.agg ys.toArray) : Sem Value).run Try.prog w = .ok (.bool b) w ∧
    (do eqGuard .neq 38 x y (.agg xs.toArray) (.agg ys.toArray); binOp .neq 38 (.agg xs.toArray) (.agg ys.toArray) : Sem Value).run Try.prog w = .ok (.bool !b) w := by
  intro xs ys b h x y w
  cases h with | int _ _ _ _ h =>
  cases h with | str _ _ _ h =>
  cases h with | int _ _ _ _ h =>
  cases h with | int _ _ _ _ h =>
  cases h with | nil =>
  constructor
  · simp [go_sem]
    try (repeat' (first | exact eq_one (by rw [Bool.eq_iff_iff]; simp) | refine eq_and (by rw [Bool.eq_iff_iff]; simp) ?_))
  · simp [go_sem]
    try (repeat' (first | exact ne_one (by rw [Bool.eq_iff_iff]; simp) | refine ne_or (by rw [Bool.eq_iff_iff]; simp) ?_))
def ti39 : TI := ⟨.struct [(0, 3), (1, 3), (2, 3), (3, 36)], 7, 72, [.int .i64 0, .int .i64 0, .int .i64 0, .int .i64 0, .string ⟨#[]⟩, .string ⟨#[]⟩, .int .i64 0], false, false⟩
@[simp] theorem ti39_size : ti39.size = 7 := rfl
@[simp] theorem ti39_bytes : ti39.bytes = 72 := rfl
@[simp] theorem ti39_zero : ti39.zero = [.int .i64 0, .int .i64 0, .int .i64 0, .int .i64 0, .string ⟨#[]⟩, .string ⟨#[]⟩, .int .i64 0] := rfl
def ti40 : TI := ⟨.struct [(0, 3), (1, 3), (2, 3), (3, 36)], 7, 72, [.int .i64 0, .int .i64 0, .int .i64 0, .int .i64 0, .string ⟨#[]⟩, .string ⟨#[]⟩, .int .i64 0], true, false⟩
@[simp] theorem ti40_size : ti40.size = 7 := rfl
@[simp] theorem ti40_bytes : ti40.bytes = 72 := rfl
@[simp] theorem ti40_zero : ti40.zero = [.int .i64 0, .int .i64 0, .int .i64 0, .int .i64 0, .string ⟨#[]⟩, .string ⟨#[]⟩, .int .i64 0] := rfl
set_option maxRecDepth 100000 in
set_option maxHeartbeats 4000000 in
theorem eq40 : ∀ xs ys b, EqC ti40.zero xs ys b → ∀ (x y : Operand) (w : World),
    (do eqGuard .eql 40 x y (.agg xs.toArray) (.agg ys.toArray); binOp .eql 40 (.agg xs.toArray) (.agg ys.toArray) : Sem Value).run Try.prog w = .ok (.bool b) w ∧
    (do eqGuard .neq 40 x y (.agg xs.toArray) (.agg ys.toArray); binOp .neq 40 (.agg xs.toArray) (.agg ys.toArray) : Sem Value).run Try.prog w = .ok (.bool !b) w := by
  intro xs ys b h x y w
  cases h with | int _ _ _ _ h =>
  cases h with | int _ _ _ _ h =>
  cases h with | int _ _ _ _ h =>
  cases h with | int _ _ _ _ h =>
  cases h with | str _ _ _ h =>
  cases h with | str _ _ _ h =>
  cases h with | int _ _ _ _ h =>
  cases h with | nil =>
  constructor
  · simp [go_sem]
    try (repeat' (first | exact eq_one (by rw [Bool.eq_iff_iff]; simp) | refine eq_and (by rw [Bool.eq_iff_iff]; simp) ?_))
  · simp [go_sem]
    try (repeat' (first | exact ne_one (by rw [Bool.eq_iff_iff]; simp) | refine ne_or (by rw [Bool.eq_iff_iff]; simp) ?_))
def ti41 : TI := ⟨.slice 56, 1, 24, [.slice none 0 0], false, false⟩
@[simp] theorem ti41_size : ti41.size = 1 := rfl
@[simp] theorem ti41_bytes : ti41.bytes = 24 := rfl
@[simp] theorem ti41_zero : ti41.zero = [.slice none 0 0] := rfl
def ti42 : TI := ⟨.struct [(0, 3), (1, 41), (2, 3)], 3, 40, [.int .i64 0, .slice none 0 0, .int .i64 0], false, false⟩
@[simp] theorem ti42_size : ti42.size = 3 := rfl
@[simp] theorem ti42_bytes : ti42.bytes = 40 := rfl
@[simp] theorem ti42_zero : ti42.zero = [.int .i64 0, .slice none 0 0, .int .i64 0] := rfl
def ti43 : TI := ⟨.struct [(0, 3), (1, 41), (2, 3)], 3, 40, [.int .i64 0, .slice none 0 0, .int .i64 0], false, false⟩
@[simp] theorem ti43_size : ti43.size = 3 := rfl
@[simp] theorem ti43_bytes : ti43.bytes = 40 := rfl
@[simp] theorem ti43_zero : ti43.zero = [.int .i64 0, .slice none 0 0, .int .i64 0] := rfl
def ti44 : TI := ⟨.struct [(0, 3), (1, 3), (2, 3), (3, 3), (4, 3), (5, 3), (6, 3), (7, 36), (11, 38), (15, 3), (16, 40), (23, 43), (26, 3), (27, 3), (28, 3)], 29, 288, [.int .i64 0, .int .i64 0, .int .i64 0, .int .i64 0, .int .i64 0, .int .i64 0, .int .i64 0, .int .i64 0, .string ⟨#[]⟩, .string ⟨#[]⟩, .int .i64 0, .int .i64 0, .string ⟨#[]⟩, .int .i64 0, .int .i64 0, .int .i64 0, .int .i64 0, .int .i64 0, .int .i64 0, .int .i64 0, .string ⟨#[]⟩, .string ⟨#[]⟩, .int .i64 0, .int .i64 0, .slice none 0 0, .int .i64 0, .int .i64 0, .int .i64 0, .int .i64 0], false, false⟩
@[simp] theorem ti44_size : ti44.size = 29 := rfl
@[simp] theorem ti44_bytes : ti44.bytes = 288 := rfl
@[simp] theorem ti44_zero : ti44.zero = [.int .i64 0, .int .i64 0, .int .i64 0, .int .i64 0, .int .i64 0, .int .i64 0, .int .i64 0, .int .i64 0, .string ⟨#[]⟩, .string ⟨#[]⟩, .int .i64 0, .int .i64 0, .string ⟨#[]⟩, .int .i64 0, .int .i64 0, .int .i64 0, .int .i64 0, .int .i64 0, .int .i64 0, .int .i64 0, .string ⟨#[]⟩, .string ⟨#[]⟩, .int .i64 0, .int .i64 0, .slice none 0 0, .int .i64 0, .int .i64 0, .int .i64 0, .int .i64 0] := rfl
def ti45 : TI := ⟨.struct [(0, 3), (1, 3), (2, 3), (3, 3), (4, 3), (5, 3), (6, 3), (7, 36), (11, 38), (15, 3), (16, 40), (23, 43), (26, 3), (27, 3), (28, 3)], 29, 288, [.int .i64 0, .int .i64 0, .int .i64 0, .int .i64 0, .int .i64 0, .int .i64 0, .int .i64 0, .int .i64 0, .string ⟨#[]⟩, .string ⟨#[]⟩, .int .i64 0, .int .i64 0, .string ⟨#[]⟩, .int .i64 0, .int .i64 0, .int .i64 0, .int .i64 0, .int .i64 0, .int .i64 0, .int .i64 0, .string ⟨#[]⟩, .string ⟨#[]⟩, .int .i64 0, .int .i64 0, .slice none 0 0, .int .i64 0, .int .i64 0, .int .i64 0, .int .i64 0], false, false⟩
@[simp] theorem ti45_size : ti45.size = 29 := rfl
@[simp] theorem ti45_bytes : ti45.bytes = 288 := rfl
@[simp] theorem ti45_zero : ti45.zero = [.int .i64 0, .int .i64 0, .int .i64 0, .int .i64 0, .int .i64 0, .int .i64 0, .int .i64 0, .int .i64 0, .string ⟨#[]⟩, .string ⟨#[]⟩, .int .i64 0, .int .i64 0, .string ⟨#[]⟩, .int .i64 0, .int .i64 0, .int .i64 0, .int .i64 0, .int .i64 0, .int .i64 0, .int .i64 0, .string ⟨#[]⟩, .string ⟨#[]⟩, .int .i64 0, .int .i64 0, .slice none 0 0, .int .i64 0, .int .i64 0, .int .i64 0, .int .i64 0] := rfl
def ti46 : TI := ⟨.struct [(0, 5), (1, 5), (2, 5), (3, 3), (4, 45)], 33, 304, [.int .u8 0, .int .u8 0, .int .u8 0, .int .i64 0, .int .i64 0, .int .i64 0, .int .i64 0, .int .i64 0, .int .i64 0, .int .i64 0, .int .i64 0, .int .i64 0, .string ⟨#[]⟩, .string ⟨#[]⟩, .int .i64 0, .int .i64 0, .string ⟨#[]⟩, .int .i64 0, .int .i64 0, .int .i64 0, .int .i64 0, .int .i64 0, .int .i64 0, .int .i64 0, .string ⟨#[]⟩, .string ⟨#[]⟩, .int .i64 0, .int .i64 0, .slice none 0 0, .int .i64 0, .int .i64 0, .int .i64 0, .int .i64 0], false, false⟩
@[simp] theorem ti46_size : ti46.size = 33 := rfl
@[simp] theorem ti46_bytes : ti46.bytes = 304 := rfl
@[simp] theorem ti46_zero : ti46.zero = [.int .u8 0, .int .u8 0, .int .u8 0, .int .i64 0, .int .i64 0, .int .i64 0, .int .i64 0, .int .i64 0, .int .i64 0, .int .i64 0, .int .i64 0, .int .i64 0, .string ⟨#[]⟩, .string ⟨#[]⟩, .int .i64 0, .int .i64 0, .string ⟨#[]⟩, .int .i64 0, .int .i64 0, .int .i64 0, .int .i64 0, .int .i64 0, .int .i64 0, .int .i64 0, .string ⟨#[]⟩, .string ⟨#[]⟩, .int .i64 0, .int .i64 0, .slice none 0 0, .int .i64 0, .int .i64 0, .int .i64 0, .int .i64 0] := rfl
def ti47 : TI := ⟨.struct [(0, 5), (1, 5), (2, 5), (3, 3), (4, 45)], 33, 304, [.int .u8 0, .int .u8 0, .int .u8 0, .int .i64 0, .int .i64 0, .int .i64 0, .int .i64 0, .int .i64 0, .int .i64 0, .int .i64 0, .int .i64 0, .int .i64 0, .string ⟨#[]⟩, .string ⟨#[]⟩, .int .i64 0, .int .i64 0, .string ⟨#[]⟩, .int .i64 0, .int .i64 0, .int .i64 0, .int .i64 0, .int .i64 0, .int .i64 0, .int .i64 0, .string ⟨#[]⟩, .string ⟨#[]⟩, .int .i64 0, .int .i64 0, .slice none 0 0, .int .i64 0, .int .i64 0, .int .i64 0, .int .i64 0], false, false⟩
@[simp] theorem ti47_size : ti47.size = 33 := rfl
@[simp] theorem ti47_bytes : ti47.bytes = 304 := rfl
@[simp] theorem ti47_zero : ti47.zero = [.int .u8 0, .int .u8 0, .int .u8 0, .int .i64 0, .int .i64 0, .int .i64 0, .int .i64 0, .int .i64 0, .int .i64 0, .int .i64 0, .int .i64 0, .int .i64 0, .string ⟨#[]⟩, .string ⟨#[]⟩, .int .i64 0, .int .i64 0, .string ⟨#[]⟩, .int .i64 0, .int .i64 0, .int .i64 0, .int .i64 0, .int .i64 0, .int .i64 0, .int .i64 0, .string ⟨#[]⟩, .string ⟨#[]⟩, .int .i64 0, .int .i64 0, .slice none 0 0, .int .i64 0, .int .i64 0, .int .i64 0, .int .i64 0] := rfl
def ti48 : TI := ⟨.slice 83, 1, 24, [.slice none 0 0], false, false⟩
@[simp] theorem ti48_size : ti48.size = 1 := rfl
@[simp] theorem ti48_bytes : ti48.bytes = 24 := rfl
@[simp] theorem ti48_zero : ti48.zero = [.slice none 0 0] := rfl
def ti55 : TI := ⟨.struct [(0, 3), (1, 3)], 2, 16, [.int .i64 0, .int .i64 0], false, false⟩
@[simp] theorem ti55_size : ti55.size = 2 := rfl
@[simp] theorem ti55_bytes : ti55.bytes = 16 := rfl
@[simp] theorem ti55_zero : ti55.zero = [.int .i64 0, .int .i64 0] := rfl
def ti56 : TI := ⟨.struct [(0, 3), (1, 3)], 2, 16, [.int .i64 0, .int .i64 0], true, false⟩
@[simp] theorem ti56_size : ti56.size = 2 := rfl
@[simp] theorem ti56_bytes : ti56.bytes = 16 := rfl
@[simp] theorem ti56_zero : ti56.zero = [.int .i64 0, .int .i64 0] := rfl
set_option maxRecDepth 100000 in
set_option maxHeartbeats 4000000 in
theorem eq56 : ∀ xs ys b, EqC ti56.zero xs ys b → ∀ (x y : Operand) (w : World),
    (do eqGuard .eql 56 x y (.agg xs.toArray) (.agg ys.toArray); binOp .eql 56 (.agg xs.toArray) (.agg ys.toArray) : Sem Value).run Try.prog w = .ok (.bool b) w ∧
    (do eqGuard .neq 56 x y (.agg xs.toArray) (.agg ys.toArray); binOp .neq 56 (.agg xs.toArray) (.agg ys.toArray) : Sem Value).run Try.prog w = .ok (.bool !b) w := by
  intro xs ys b h x y w
  cases h with | int _ _ _ _ h =>
  cases h with | int _ _ _ _ h =>
  cases h with | nil =>
  constructor
  · simp [go_sem]
    try (repeat' (first | exact eq_one (by rw [Bool.eq_iff_iff]; simp) | refine eq_and (by rw [Bool.eq_iff_iff]; simp) ?_))
  · simp [go_sem]
    try (repeat' (first | exact ne_one (by rw [Bool.eq_iff_iff]; simp) | refine ne_or (by rw [Bool.eq_iff_iff]; simp) ?_))
def ti61 : TI := ⟨.ptr 125, 1, 8, [.pointer none], false, false⟩
@[simp] theorem ti61_size : ti61.size = 1 := rfl
@[simp] theorem ti61_bytes : ti61.bytes = 8 := rfl
@[simp] theorem ti61_zero : ti61.zero = [.pointer none] := rfl
def ti65 : TI := ⟨.slice 127, 1, 24, [.slice none 0 0], false, false⟩
@[simp] theorem ti65_size : ti65.size = 1 := rfl
@[simp] theorem ti65_bytes : ti65.bytes = 24 := rfl
@[simp] theorem ti65_zero : ti65.zero = [.slice none 0 0] := rfl
def ti74 : TI := ⟨.arr 2 3, 2, 16, [.int .i64 0, .int .i64 0], true, false⟩
@[simp] theorem ti74_size : ti74.size = 2 := rfl
@[simp] theorem ti74_bytes : ti74.bytes = 16 := rfl
@[simp] theorem ti74_zero : ti74.zero = [.int .i64 0, .int .i64 0] := rfl
set_option maxRecDepth 100000 in
set_option maxHeartbeats 4000000 in
theorem eq74 : ∀ xs ys b, EqC ti74.zero xs ys b → ∀ (x y : Operand) (w : World),
    (do eqGuard .eql 74 x y (.agg xs.toArray) (.agg ys.toArray); binOp .eql 74 (.agg xs.toArray) (.agg ys.toArray) : Sem Value).run Try.prog w = .ok (.bool b) w ∧
    (do eqGuard .neq 74 x y (.agg xs.toArray) (.agg ys.toArray); binOp .neq 74 (.agg xs.toArray) (.agg ys.toArray) : Sem Value).run Try.prog w = .ok (.bool !b) w := by
  intro xs ys b h x y w
  cases h with | int _ _ _ _ h =>
  cases h with | int _ _ _ _ h =>
  cases h with | nil =>
  have hi : Try.prog.info? 3 = some ((Try.prog.info? 3).getD default) := by kernel_rfl
  have hc : Try.prog.cellsOf 3 = 1 := by kernel_rfl
  constructor
  · simp [go_sem, run_equalIn_array w 9999 _ _ Try.underlying74 hi, hc, Op.eqItems, List.range_succ]
    try (repeat' (first | exact eq_one (by rw [Bool.eq_iff_iff]; simp) | refine eq_and (by rw [Bool.eq_iff_iff]; simp) ?_))
  · simp [go_sem, run_equalIn_array w 9999 _ _ Try.underlying74 hi, hc, Op.eqItems, List.range_succ]
    try (repeat' (first | exact ne_one (by rw [Bool.eq_iff_iff]; simp) | refine ne_or (by rw [Bool.eq_iff_iff]; simp) ?_))
def ti75 : TI := ⟨.arr 6 4, 6, 6, [.bool false, .bool false, .bool false, .bool false, .bool false, .bool false], true, false⟩
@[simp] theorem ti75_size : ti75.size = 6 := rfl
@[simp] theorem ti75_bytes : ti75.bytes = 6 := rfl
@[simp] theorem ti75_zero : ti75.zero = [.bool false, .bool false, .bool false, .bool false, .bool false, .bool false] := rfl
set_option maxRecDepth 100000 in
set_option maxHeartbeats 4000000 in
theorem eq75 : ∀ xs ys b, EqC ti75.zero xs ys b → ∀ (x y : Operand) (w : World),
    (do eqGuard .eql 75 x y (.agg xs.toArray) (.agg ys.toArray); binOp .eql 75 (.agg xs.toArray) (.agg ys.toArray) : Sem Value).run Try.prog w = .ok (.bool b) w ∧
    (do eqGuard .neq 75 x y (.agg xs.toArray) (.agg ys.toArray); binOp .neq 75 (.agg xs.toArray) (.agg ys.toArray) : Sem Value).run Try.prog w = .ok (.bool !b) w := by
  intro xs ys b h x y w
  cases h with | bool _ _ _ h =>
  cases h with | bool _ _ _ h =>
  cases h with | bool _ _ _ h =>
  cases h with | bool _ _ _ h =>
  cases h with | bool _ _ _ h =>
  cases h with | bool _ _ _ h =>
  cases h with | nil =>
  have hi : Try.prog.info? 4 = some ((Try.prog.info? 4).getD default) := by kernel_rfl
  have hc : Try.prog.cellsOf 4 = 1 := by kernel_rfl
  constructor
  · simp [go_sem, run_equalIn_array w 9999 _ _ Try.underlying75 hi, hc, Op.eqItems, List.range_succ]
    try (repeat' (first | exact eq_one (by rw [Bool.eq_iff_iff]; simp) | refine eq_and (by rw [Bool.eq_iff_iff]; simp) ?_))
  · simp [go_sem, run_equalIn_array w 9999 _ _ Try.underlying75 hi, hc, Op.eqItems, List.range_succ]
    try (repeat' (first | exact ne_one (by rw [Bool.eq_iff_iff]; simp) | refine ne_or (by rw [Bool.eq_iff_iff]; simp) ?_))
def ti76 : TI := ⟨.struct [(0, 3), (1, 3), (2, 43), (5, 34), (11, 75)], 17, 112, [.int .i64 0, .int .i64 0, .int .i64 0, .slice none 0 0, .int .i64 0, .int .i64 0, .int .i64 0, .int .i64 0, .int .i64 0, .int .i64 0, .int .i64 0, .bool false, .bool false, .bool false, .bool false, .bool false, .bool false], false, false⟩
@[simp] theorem ti76_size : ti76.size = 17 := rfl
@[simp] theorem ti76_bytes : ti76.bytes = 112 := rfl
@[simp] theorem ti76_zero : ti76.zero = [.int .i64 0, .int .i64 0, .int .i64 0, .slice none 0 0, .int .i64 0, .int .i64 0, .int .i64 0, .int .i64 0, .int .i64 0, .int .i64 0, .int .i64 0, .bool false, .bool false, .bool false, .bool false, .bool false, .bool false] := rfl
def ti77 : TI := ⟨.struct [(0, 3), (1, 3), (2, 43), (5, 34), (11, 75)], 17, 112, [.int .i64 0, .int .i64 0, .int .i64 0, .slice none 0 0, .int .i64 0, .int .i64 0, .int .i64 0, .int .i64 0, .int .i64 0, .int .i64 0, .int .i64 0, .bool false, .bool false, .bool false, .bool false, .bool false, .bool false], false, false⟩
@[simp] theorem ti77_size : ti77.size = 17 := rfl
@[simp] theorem ti77_bytes : ti77.bytes = 112 := rfl
@[simp] theorem ti77_zero : ti77.zero = [.int .i64 0, .int .i64 0, .int .i64 0, .slice none 0 0, .int .i64 0, .int .i64 0, .int .i64 0, .int .i64 0, .int .i64 0, .int .i64 0, .int .i64 0, .bool false, .bool false, .bool false, .bool false, .bool false, .bool false] := rfl
def ti82 : TI := ⟨.struct [(0, 3), (1, 45)], 30, 296, [.int .i64 0, .int .i64 0, .int .i64 0, .int .i64 0, .int .i64 0, .int .i64 0, .int .i64 0, .int .i64 0, .int .i64 0, .string ⟨#[]⟩, .string ⟨#[]⟩, .int .i64 0, .int .i64 0, .string ⟨#[]⟩, .int .i64 0, .int .i64 0, .int .i64 0, .int .i64 0, .int .i64 0, .int .i64 0, .int .i64 0, .string ⟨#[]⟩, .string ⟨#[]⟩, .int .i64 0, .int .i64 0, .slice none 0 0, .int .i64 0, .int .i64 0, .int .i64 0, .int .i64 0], false, false⟩
@[simp] theorem ti82_size : ti82.size = 30 := rfl
@[simp] theorem ti82_bytes : ti82.bytes = 296 := rfl
@[simp] theorem ti82_zero : ti82.zero = [.int .i64 0, .int .i64 0, .int .i64 0, .int .i64 0, .int .i64 0, .int .i64 0, .int .i64 0, .int .i64 0, .int .i64 0, .string ⟨#[]⟩, .string ⟨#[]⟩, .int .i64 0, .int .i64 0, .string ⟨#[]⟩, .int .i64 0, .int .i64 0, .int .i64 0, .int .i64 0, .int .i64 0, .int .i64 0, .int .i64 0, .string ⟨#[]⟩, .string ⟨#[]⟩, .int .i64 0, .int .i64 0, .slice none 0 0, .int .i64 0, .int .i64 0, .int .i64 0, .int .i64 0] := rfl
def ti83 : TI := ⟨.struct [(0, 3), (1, 45)], 30, 296, [.int .i64 0, .int .i64 0, .int .i64 0, .int .i64 0, .int .i64 0, .int .i64 0, .int .i64 0, .int .i64 0, .int .i64 0, .string ⟨#[]⟩, .string ⟨#[]⟩, .int .i64 0, .int .i64 0, .string ⟨#[]⟩, .int .i64 0, .int .i64 0, .int .i64 0, .int .i64 0, .int .i64 0, .int .i64 0, .int .i64 0, .string ⟨#[]⟩, .string ⟨#[]⟩, .int .i64 0, .int .i64 0, .slice none 0 0, .int .i64 0, .int .i64 0, .int .i64 0, .int .i64 0], false, false⟩
@[simp] theorem ti83_size : ti83.size = 30 := rfl
@[simp] theorem ti83_bytes : ti83.bytes = 296 := rfl
@[simp] theorem ti83_zero : ti83.zero = [.int .i64 0, .int .i64 0, .int .i64 0, .int .i64 0, .int .i64 0, .int .i64 0, .int .i64 0, .int .i64 0, .int .i64 0, .string ⟨#[]⟩, .string ⟨#[]⟩, .int .i64 0, .int .i64 0, .string ⟨#[]⟩, .int .i64 0, .int .i64 0, .int .i64 0, .int .i64 0, .int .i64 0, .int .i64 0, .int .i64 0, .string ⟨#[]⟩, .string ⟨#[]⟩, .int .i64 0, .int .i64 0, .slice none 0 0, .int .i64 0, .int .i64 0, .int .i64 0, .int .i64 0] := rfl
def ti85 : TI := ⟨.arr 3 3, 3, 24, [.int .i64 0, .int .i64 0, .int .i64 0], true, false⟩
@[simp] theorem ti85_size : ti85.size = 3 := rfl
@[simp] theorem ti85_bytes : ti85.bytes = 24 := rfl
@[simp] theorem ti85_zero : ti85.zero = [.int .i64 0, .int .i64 0, .int .i64 0] := rfl
set_option maxRecDepth 100000 in
set_option maxHeartbeats 4000000 in
theorem eq85 : ∀ xs ys b, EqC ti85.zero xs ys b → ∀ (x y : Operand) (w : World),
    (do eqGuard .eql 85 x y (.agg xs.toArray) (.agg ys.toArray); binOp .eql 85 (.agg xs.toArray) (.agg ys.toArray) : Sem Value).run Try.prog w = .ok (.bool b) w ∧
    (do eqGuard .neq 85 x y (.agg xs.toArray) (.agg ys.toArray); binOp .neq 85 (.agg xs.toArray) (.agg ys.toArray) : Sem Value).run Try.prog w = .ok (.bool !b) w := by
  intro xs ys b h x y w
  cases h with | int _ _ _ _ h =>
  cases h with | int _ _ _ _ h =>
  cases h with | int _ _ _ _ h =>
  cases h with | nil =>
  have hi : Try.prog.info? 3 = some ((Try.prog.info? 3).getD default) := by kernel_rfl
  have hc : Try.prog.cellsOf 3 = 1 := by kernel_rfl
  constructor
  · simp [go_sem, run_equalIn_array w 9999 _ _ Try.underlying85 hi, hc, Op.eqItems, List.range_succ]
    try (repeat' (first | exact eq_one (by rw [Bool.eq_iff_iff]; simp) | refine eq_and (by rw [Bool.eq_iff_iff]; simp) ?_))
  · simp [go_sem, run_equalIn_array w 9999 _ _ Try.underlying85 hi, hc, Op.eqItems, List.range_succ]
    try (repeat' (first | exact ne_one (by rw [Bool.eq_iff_iff]; simp) | refine ne_or (by rw [Bool.eq_iff_iff]; simp) ?_))
def ti86 : TI := ⟨.struct [(0, 5), (1, 5), (2, 5), (3, 36), (7, 45), (36, 85)], 39, 368, [.int .u8 0, .int .u8 0, .int .u8 0, .int .i64 0, .string ⟨#[]⟩, .string ⟨#[]⟩, .int .i64 0, .int .i64 0, .int .i64 0, .int .i64 0, .int .i64 0, .int .i64 0, .int .i64 0, .int .i64 0, .int .i64 0, .string ⟨#[]⟩, .string ⟨#[]⟩, .int .i64 0, .int .i64 0, .string ⟨#[]⟩, .int .i64 0, .int .i64 0, .int .i64 0, .int .i64 0, .int .i64 0, .int .i64 0, .int .i64 0, .string ⟨#[]⟩, .string ⟨#[]⟩, .int .i64 0, .int .i64 0, .slice none 0 0, .int .i64 0, .int .i64 0, .int .i64 0, .int .i64 0, .int .i64 0, .int .i64 0, .int .i64 0], false, false⟩
@[simp] theorem ti86_size : ti86.size = 39 := rfl
@[simp] theorem ti86_bytes : ti86.bytes = 368 := rfl
@[simp] theorem ti86_zero : ti86.zero = [.int .u8 0, .int .u8 0, .int .u8 0, .int .i64 0, .string ⟨#[]⟩, .string ⟨#[]⟩, .int .i64 0, .int .i64 0, .int .i64 0, .int .i64 0, .int .i64 0, .int .i64 0, .int .i64 0, .int .i64 0, .int .i64 0, .string ⟨#[]⟩, .string ⟨#[]⟩, .int .i64 0, .int .i64 0, .string ⟨#[]⟩, .int .i64 0, .int .i64 0, .int .i64 0, .int .i64 0, .int .i64 0, .int .i64 0, .int .i64 0, .string ⟨#[]⟩, .string ⟨#[]⟩, .int .i64 0, .int .i64 0, .slice none 0 0, .int .i64 0, .int .i64 0, .int .i64 0, .int .i64 0, .int .i64 0, .int .i64 0, .int .i64 0] := rfl
def ti87 : TI := ⟨.struct [(0, 5), (1, 5), (2, 5), (3, 36), (7, 45), (36, 85)], 39, 368, [.int .u8 0, .int .u8 0, .int .u8 0, .int .i64 0, .string ⟨#[]⟩, .string ⟨#[]⟩, .int .i64 0, .int .i64 0, .int .i64 0, .int .i64 0, .int .i64 0, .int .i64 0, .int .i64 0, .int .i64 0, .int .i64 0, .string ⟨#[]⟩, .string ⟨#[]⟩, .int .i64 0, .int .i64 0, .string ⟨#[]⟩, .int .i64 0, .int .i64 0, .int .i64 0, .int .i64 0, .int .i64 0, .int .i64 0, .int .i64 0, .string ⟨#[]⟩, .string ⟨#[]⟩, .int .i64 0, .int .i64 0, .slice none 0 0, .int .i64 0, .int .i64 0, .int .i64 0, .int .i64 0, .int .i64 0, .int .i64 0, .int .i64 0], false, false⟩
@[simp] theorem ti87_size : ti87.size = 39 := rfl
@[simp] theorem ti87_bytes : ti87.bytes = 368 := rfl
@[simp] theorem ti87_zero : ti87.zero = [.int .u8 0, .int .u8 0, .int .u8 0, .int .i64 0, .string ⟨#[]⟩, .string ⟨#[]⟩, .int .i64 0, .int .i64 0, .int .i64 0, .int .i64 0, .int .i64 0, .int .i64 0, .int .i64 0, .int .i64 0, .int .i64 0, .string ⟨#[]⟩, .string ⟨#[]⟩, .int .i64 0, .int .i64 0, .string ⟨#[]⟩, .int .i64 0, .int .i64 0, .int .i64 0, .int .i64 0, .int .i64 0, .int .i64 0, .int .i64 0, .string ⟨#[]⟩, .string ⟨#[]⟩, .int .i64 0, .int .i64 0, .slice none 0 0, .int .i64 0, .int .i64 0, .int .i64 0, .int .i64 0, .int .i64 0, .int .i64 0, .int .i64 0] := rfl
def ti89 : TI := ⟨.slice 87, 1, 24, [.slice none 0 0], false, false⟩
@[simp] theorem ti89_size : ti89.size = 1 := rfl
@[simp] theorem ti89_bytes : ti89.bytes = 24 := rfl
@[simp] theorem ti89_zero : ti89.zero = [.slice none 0 0] := rfl
def ti90 : TI := ⟨.ptr 101, 1, 8, [.pointer none], false, false⟩
@[simp] theorem ti90_size : ti90.size = 1 := rfl
@[simp] theorem ti90_bytes : ti90.bytes = 8 := rfl
@[simp] theorem ti90_zero : ti90.zero = [.pointer none] := rfl
def ti92 : TI := ⟨.struct [(0, 3), (1, 3), (2, 38)], 6, 56, [.int .i64 0, .int .i64 0, .int .i64 0, .string ⟨#[]⟩, .int .i64 0, .int .i64 0], false, false⟩
@[simp] theorem ti92_size : ti92.size = 6 := rfl
@[simp] theorem ti92_bytes : ti92.bytes = 56 := rfl
@[simp] theorem ti92_zero : ti92.zero = [.int .i64 0, .int .i64 0, .int .i64 0, .string ⟨#[]⟩, .int .i64 0, .int .i64 0] := rfl
def ti93 : TI := ⟨.struct [(0, 3), (1, 3), (2, 38)], 6, 56, [.int .i64 0, .int .i64 0, .int .i64 0, .string ⟨#[]⟩, .int .i64 0, .int .i64 0], true, false⟩
@[simp] theorem ti93_size : ti93.size = 6 := rfl
@[simp] theorem ti93_bytes : ti93.bytes = 56 := rfl
@[simp] theorem ti93_zero : ti93.zero = [.int .i64 0, .int .i64 0, .int .i64 0, .string ⟨#[]⟩, .int .i64 0, .int .i64 0] := rfl
set_option maxRecDepth 100000 in
set_option maxHeartbeats 4000000 in
theorem eq93 : ∀ xs ys b, EqC ti93.zero xs ys b → ∀ (x y : Operand) (w : World),
    (do eqGuard .eql 93 x y (.agg xs.toArray) (.agg ys.toArray); binOp .eql 93 (.agg xs.toArray) (.agg ys.toArray) : Sem Value).run Try.prog w = .ok (.bool b) w ∧
    (do eqGuard .neq 93 x y (.agg xs.toArray) (.agg ys.toArray); binOp .neq 93 (.agg xs.toArray) (.agg ys.toArray) : Sem Value).run Try.prog w = .ok (.bool !b) w := by
  intro xs ys b h x y w
  cases h with | int _ _ _ _ h =>
  cases h with | int _ _ _ _ h =>
  cases h with | int _ _ _ _ h =>
  cases h with | str _ _ _ h =>
  cases h with | int _ _ _ _ h =>
  cases h with | int _ _ _ _ h =>
  cases h with | nil =>
  constructor
  · simp [go_sem]
    try (repeat' (first | exact eq_one (by rw [Bool.eq_iff_iff]; simp) | refine eq_and (by rw [Bool.eq_iff_iff]; simp) ?_))
  · simp [go_sem]
    try (repeat' (first | exact ne_one (by rw [Bool.eq_iff_iff]; simp) | refine ne_or (by rw [Bool.eq_iff_iff]; simp) ?_))
def ti98 : TI := ⟨.ptr 171, 1, 8, [.pointer none], false, false⟩
@[simp] theorem ti98_size : ti98.size = 1 := rfl
@[simp] theorem ti98_bytes : ti98.bytes = 8 := rfl
@[simp] theorem ti98_zero : ti98.zero = [.pointer none] := rfl
def ti99 : TI := ⟨.ptr 165, 1, 8, [.pointer none], false, false⟩
@[simp] theorem ti99_size : ti99.size = 1 := rfl
@[simp] theorem ti99_bytes : ti99.bytes = 8 := rfl
@[simp] theorem ti99_zero : ti99.zero = [.pointer none] := rfl
def ti100 : TI := ⟨.struct [(0, 3), (1, 3), (2, 3), (3, 3), (4, 98), (5, 43), (8, 99), (9, 3), (10, 3), (11, 3), (12, 4), (13, 3), (14, 3), (15, 3), (16, 3), (17, 36)], 21, 200, [.int .i64 0, .int .i64 0, .int .i64 0, .int .i64 0, .pointer none, .int .i64 0, .slice none 0 0, .int .i64 0, .pointer none, .int .i64 0, .int .i64 0, .int .i64 0, .bool false, .int .i64 0, .int .i64 0, .int .i64 0, .int .i64 0, .int .i64 0, .string ⟨#[]⟩, .string ⟨#[]⟩, .int .i64 0], false, false⟩
@[simp] theorem ti100_size : ti100.size = 21 := rfl
@[simp] theorem ti100_bytes : ti100.bytes = 200 := rfl
@[simp] theorem ti100_zero : ti100.zero = [.int .i64 0, .int .i64 0, .int .i64 0, .int .i64 0, .pointer none, .int .i64 0, .slice none 0 0, .int .i64 0, .pointer none, .int .i64 0, .int .i64 0, .int .i64 0, .bool false, .int .i64 0, .int .i64 0, .int .i64 0, .int .i64 0, .int .i64 0, .string ⟨#[]⟩, .string ⟨#[]⟩, .int .i64 0] := rfl
def ti101 : TI := ⟨.struct [(0, 3), (1, 3), (2, 3), (3, 3), (4, 98), (5, 43), (8, 99), (9, 3), (10, 3), (11, 3), (12, 4), (13, 3), (14, 3), (15, 3), (16, 3), (17, 36)], 21, 200, [.int .i64 0, .int .i64 0, .int .i64 0, .int .i64 0, .pointer none, .int .i64 0, .slice none 0 0, .int .i64 0, .pointer none, .int .i64 0, .int .i64 0, .int .i64 0, .bool false, .int .i64 0, .int .i64 0, .int .i64 0, .int .i64 0, .int .i64 0, .string ⟨#[]⟩, .string ⟨#[]⟩, .int .i64 0], false, false⟩
@[simp] theorem ti101_size : ti101.size = 21 := rfl
@[simp] theorem ti101_bytes : ti101.bytes = 200 := rfl
@[simp] theorem ti101_zero : ti101.zero = [.int .i64 0, .int .i64 0, .int .i64 0, .int .i64 0, .pointer none, .int .i64 0, .slice none 0 0, .int .i64 0, .pointer none, .int .i64 0, .int .i64 0, .int .i64 0, .bool false, .int .i64 0, .int .i64 0, .int .i64 0, .int .i64 0, .int .i64 0, .string ⟨#[]⟩, .string ⟨#[]⟩, .int .i64 0] := rfl
def ti104 : TI := ⟨.ptr 147, 1, 8, [.pointer none], false, false⟩
@[simp] theorem ti104_size : ti104.size = 1 := rfl
@[simp] theorem ti104_bytes : ti104.bytes = 8 := rfl
@[simp] theorem ti104_zero : ti104.zero = [.pointer none] := rfl
def ti110 : TI := ⟨.slice 111, 1, 24, [.slice none 0 0], false, false⟩
@[simp] theorem ti110_size : ti110.size = 1 := rfl
@[simp] theorem ti110_bytes : ti110.bytes = 24 := rfl
@[simp] theorem ti110_zero : ti110.zero = [.slice none 0 0] := rfl
def ti111 : TI := ⟨.arr 2 5, 2, 2, [.int .u8 0, .int .u8 0], true, false⟩
@[simp] theorem ti111_size : ti111.size = 2 := rfl
@[simp] theorem ti111_bytes : ti111.bytes = 2 := rfl
@[simp] theorem ti111_zero : ti111.zero = [.int .u8 0, .int .u8 0] := rfl
set_option maxRecDepth 100000 in
set_option maxHeartbeats 4000000 in
theorem eq111 : ∀ xs ys b, EqC ti111.zero xs ys b → ∀ (x y : Operand) (w : World),
    (do eqGuard .eql 111 x y (.agg xs.toArray) (.agg ys.toArray); binOp .eql 111 (.agg xs.toArray) (.agg ys.toArray) : Sem Value).run Try.prog w = .ok (.bool b) w ∧
    (do eqGuard .neq 111 x y (.agg xs.toArray) (.agg ys.toArray); binOp .neq 111 (.agg xs.toArray) (.agg ys.toArray) : Sem Value).run Try.prog w = .ok (.bool !b) w := by
  intro xs ys b h x y w
  cases h with | int _ _ _ _ h =>
  cases h with | int _ _ _ _ h =>
  cases h with | nil =>
  have hi : Try.prog.info? 5 = some ((Try.prog.info? 5).getD default) := by kernel_rfl
  have hc : Try.prog.cellsOf 5 = 1 := by kernel_rfl
  constructor
  · simp [go_sem, run_equalIn_array w 9999 _ _ Try.underlying111 hi, hc, Op.eqItems, List.range_succ]
    try (repeat' (first | exact eq_one (by rw [Bool.eq_iff_iff]; simp) | refine eq_and (by rw [Bool.eq_iff_iff]; simp) ?_))
  · simp [go_sem, run_equalIn_array w 9999 _ _ Try.underlying111 hi, hc, Op.eqItems, List.range_succ]
    try (repeat' (first | exact ne_one (by rw [Bool.eq_iff_iff]; simp) | refine ne_or (by rw [Bool.eq_iff_iff]; simp) ?_))
def ti124 : TI := ⟨.struct [(0, 24), (12, 43), (15, 34), (21, 22)], 22, 224, [.int .i64 0, .int .i64 0, .int .i64 0, .slice none 0 0, .int .i64 0, .int .i64 0, .int .i64 0, .int .i64 0, .int .i64 0, .int .i64 0, .int .i64 0, .int .i64 0, .int .i64 0, .slice none 0 0, .int .i64 0, .int .i64 0, .int .i64 0, .int .i64 0, .int .i64 0, .int .i64 0, .int .i64 0, .slice none 0 0], false, false⟩
@[simp] theorem ti124_size : ti124.size = 22 := rfl
@[simp] theorem ti124_bytes : ti124.bytes = 224 := rfl
@[simp] theorem ti124_zero : ti124.zero = [.int .i64 0, .int .i64 0, .int .i64 0, .slice none 0 0, .int .i64 0, .int .i64 0, .int .i64 0, .int .i64 0, .int .i64 0, .int .i64 0, .int .i64 0, .int .i64 0, .int .i64 0, .slice none 0 0, .int .i64 0, .int .i64 0, .int .i64 0, .int .i64 0, .int .i64 0, .int .i64 0, .int .i64 0, .slice none 0 0] := rfl
def ti125 : TI := ⟨.struct [(0, 24), (12, 43), (15, 34), (21, 22)], 22, 224, [.int .i64 0, .int .i64 0, .int .i64 0, .slice none 0 0, .int .i64 0, .int .i64 0, .int .i64 0, .int .i64 0, .int .i64 0, .int .i64 0, .int .i64 0, .int .i64 0, .int .i64 0, .slice none 0 0, .int .i64 0, .int .i64 0, .int .i64 0, .int .i64 0, .int .i64 0, .int .i64 0, .int .i64 0, .slice none 0 0], false, false⟩
@[simp] theorem ti125_size : ti125.size = 22 := rfl
@[simp] theorem ti125_bytes : ti125.bytes = 224 := rfl
@[simp] theorem ti125_zero : ti125.zero = [.int .i64 0, .int .i64 0, .int .i64 0, .slice none 0 0, .int .i64 0, .int .i64 0, .int .i64 0, .int .i64 0, .int .i64 0, .int .i64 0, .int .i64 0, .int .i64 0, .int .i64 0, .slice none 0 0, .int .i64 0, .int .i64 0, .int .i64 0, .int .i64 0, .int .i64 0, .int .i64 0, .int .i64 0, .slice none 0 0] := rfl
def ti127 : TI := ⟨.struct [(0, 3), (1, 45)], 30, 296, [.int .i64 0, .int .i64 0, .int .i64 0, .int .i64 0, .int .i64 0, .int .i64 0, .int .i64 0, .int .i64 0, .int .i64 0, .string ⟨#[]⟩, .string ⟨#[]⟩, .int .i64 0, .int .i64 0, .string ⟨#[]⟩, .int .i64 0, .int .i64 0, .int .i64 0, .int .i64 0, .int .i64 0, .int .i64 0, .int .i64 0, .string ⟨#[]⟩, .string ⟨#[]⟩, .int .i64 0, .int .i64 0, .slice none 0 0, .int .i64 0, .int .i64 0, .int .i64 0, .int .i64 0], false, false⟩
@[simp] theorem ti127_size : ti127.size = 30 := rfl
@[simp] theorem ti127_bytes : ti127.bytes = 296 := rfl
@[simp] theorem ti127_zero : ti127.zero = [.int .i64 0, .int .i64 0, .int .i64 0, .int .i64 0, .int .i64 0, .int .i64 0, .int .i64 0, .int .i64 0, .int .i64 0, .string ⟨#[]⟩, .string ⟨#[]⟩, .int .i64 0, .int .i64 0, .string ⟨#[]⟩, .int .i64 0, .int .i64 0, .int .i64 0, .int .i64 0, .int .i64 0, .int .i64 0, .int .i64 0, .string ⟨#[]⟩, .string ⟨#[]⟩, .int .i64 0, .int .i64 0, .slice none 0 0, .int .i64 0, .int .i64 0, .int .i64 0, .int .i64 0] := rfl
def ti131 : TI := ⟨.ptr 3, 1, 8, [.pointer none], false, false⟩
@[simp] theorem ti131_size : ti131.size = 1 := rfl
@[simp] theorem ti131_bytes : ti131.bytes = 8 := rfl
@[simp] theorem ti131_zero : ti131.zero = [.pointer none] := rfl
def ti143 : TI := ⟨.ptr 174, 1, 8, [.pointer none], false, false⟩
@[simp] theorem ti143_size : ti143.size = 1 := rfl
@[simp] theorem ti143_bytes : ti143.bytes = 8 := rfl
@[simp] theorem ti143_zero : ti143.zero = [.pointer none] := rfl
def ti146 : TI := ⟨.struct [(0, 24), (12, 3), (13, 43), (16, 143), (17, 45), (46, 3), (47, 3), (48, 4), (49, 4), (50, 93)], 56, 536, [.int .i64 0, .int .i64 0, .int .i64 0, .slice none 0 0, .int .i64 0, .int .i64 0, .int .i64 0, .int .i64 0, .int .i64 0, .int .i64 0, .int .i64 0, .int .i64 0, .int .i64 0, .int .i64 0, .slice none 0 0, .int .i64 0, .pointer none, .int .i64 0, .int .i64 0, .int .i64 0, .int .i64 0, .int .i64 0, .int .i64 0, .int .i64 0, .int .i64 0, .string ⟨#[]⟩, .string ⟨#[]⟩, .int .i64 0, .int .i64 0, .string ⟨#[]⟩, .int .i64 0, .int .i64 0, .int .i64 0, .int .i64 0, .int .i64 0, .int .i64 0, .int .i64 0, .string ⟨#[]⟩, .string ⟨#[]⟩, .int .i64 0, .int .i64 0, .slice none 0 0, .int .i64 0, .int .i64 0, .int .i64 0, .int .i64 0, .int .i64 0, .int .i64 0, .bool false, .bool false, .int .i64 0, .int .i64 0, .int .i64 0, .string ⟨#[]⟩, .int .i64 0, .int .i64 0], false, false⟩
@[simp] theorem ti146_size : ti146.size = 56 := rfl
@[simp] theorem ti146_bytes : ti146.bytes = 536 := rfl
@[simp] theorem ti146_zero : ti146.zero = [.int .i64 0, .int .i64 0, .int .i64 0, .slice none 0 0, .int .i64 0, .int .i64 0, .int .i64 0, .int .i64 0, .int .i64 0, .int .i64 0, .int .i64 0, .int .i64 0, .int .i64 0, .int .i64 0, .slice none 0 0, .int .i64 0, .pointer none, .int .i64 0, .int .i64 0, .int .i64 0, .int .i64 0, .int .i64 0, .int .i64 0, .int .i64 0, .int .i64 0, .string ⟨#[]⟩, .string ⟨#[]⟩, .int .i64 0, .int .i64 0, .string ⟨#[]⟩, .int .i64 0, .int .i64 0, .int .i64 0, .int .i64 0, .int .i64 0, .int .i64 0, .int .i64 0, .string ⟨#[]⟩, .string ⟨#[]⟩, .int .i64 0, .int .i64 0, .slice none 0 0, .int .i64 0, .int .i64 0, .int .i64 0, .int .i64 0, .int .i64 0, .int .i64 0, .bool false, .bool false, .int .i64 0, .int .i64 0, .int .i64 0, .string ⟨#[]⟩, .int .i64 0, .int .i64 0] := rfl
def ti147 : TI := ⟨.struct [(0, 24), (12, 3), (13, 43), (16, 143), (17, 45), (46, 3), (47, 3), (48, 4), (49, 4), (50, 93)], 56, 536, [.int .i64 0, .int .i64 0, .int .i64 0, .slice none 0 0, .int .i64 0, .int .i64 0, .int .i64 0, .int .i64 0, .int .i64 0, .int .i64 0, .int .i64 0, .int .i64 0, .int .i64 0, .int .i64 0, .slice none 0 0, .int .i64 0, .pointer none, .int .i64 0, .int .i64 0, .int .i64 0, .int .i64 0, .int .i64 0, .int .i64 0, .int .i64 0, .int .i64 0, .string ⟨#[]⟩, .string ⟨#[]⟩, .int .i64 0, .int .i64 0, .string ⟨#[]⟩, .int .i64 0, .int .i64 0, .int .i64 0, .int .i64 0, .int .i64 0, .int .i64 0, .int .i64 0, .string ⟨#[]⟩, .string ⟨#[]⟩, .int .i64 0, .int .i64 0, .slice none 0 0, .int .i64 0, .int .i64 0, .int .i64 0, .int .i64 0, .int .i64 0, .int .i64 0, .bool false, .bool false, .int .i64 0, .int .i64 0, .int .i64 0, .string ⟨#[]⟩, .int .i64 0, .int .i64 0], false, false⟩
@[simp] theorem ti147_size : ti147.size = 56 := rfl
@[simp] theorem ti147_bytes : ti147.bytes = 536 := rfl
@[simp] theorem ti147_zero : ti147.zero = [.int .i64 0, .int .i64 0, .int .i64 0, .slice none 0 0, .int .i64 0, .int .i64 0, .int .i64 0, .int .i64 0, .int .i64 0, .int .i64 0, .int .i64 0, .int .i64 0, .int .i64 0, .int .i64 0, .slice none 0 0, .int .i64 0, .pointer none, .int .i64 0, .int .i64 0, .int .i64 0, .int .i64 0, .int .i64 0, .int .i64 0, .int .i64 0, .int .i64 0, .string ⟨#[]⟩, .string ⟨#[]⟩, .int .i64 0, .int .i64 0, .string ⟨#[]⟩, .int .i64 0, .int .i64 0, .int .i64 0, .int .i64 0, .int .i64 0, .int .i64 0, .int .i64 0, .string ⟨#[]⟩, .string ⟨#[]⟩, .int .i64 0, .int .i64 0, .slice none 0 0, .int .i64 0, .int .i64 0, .int .i64 0, .int .i64 0, .int .i64 0, .int .i64 0, .bool false, .bool false, .int .i64 0, .int .i64 0, .int .i64 0, .string ⟨#[]⟩, .int .i64 0, .int .i64 0] := rfl
def ti152 : TI := ⟨.struct [], 0, 0, [], false, false⟩
@[simp] theorem ti152_size : ti152.size = 0 := rfl
@[simp] theorem ti152_bytes : ti152.bytes = 0 := rfl
@[simp] theorem ti152_zero : ti152.zero = [] := rfl
def ti153 : TI := ⟨.struct [], 0, 0, [], false, false⟩
@[simp] theorem ti153_size : ti153.size = 0 := rfl
@[simp] theorem ti153_bytes : ti153.bytes = 0 := rfl
@[simp] theorem ti153_zero : ti153.zero = [] := rfl
def ti155 : TI := ⟨.int .u32, 1, 4, [.int .u32 0], false, false⟩
@[simp] theorem ti155_size : ti155.size = 1 := rfl
@[simp] theorem ti155_bytes : ti155.bytes = 4 := rfl
@[simp] theorem ti155_zero : ti155.zero = [.int .u32 0] := rfl
def ti156 : TI := ⟨.struct [(0, 154), (0, 155)], 1, 4, [.int .u32 0], false, false⟩
@[simp] theorem ti156_size : ti156.size = 1 := rfl
@[simp] theorem ti156_bytes : ti156.bytes = 4 := rfl
@[simp] theorem ti156_zero : ti156.zero = [.int .u32 0] := rfl
def ti158 : TI := ⟨.struct [(0, 21), (1, 155)], 2, 8, [.int .i32 0, .int .u32 0], false, false⟩
@[simp] theorem ti158_size : ti158.size = 2 := rfl
@[simp] theorem ti158_bytes : ti158.bytes = 8 := rfl
@[simp] theorem ti158_zero : ti158.zero = [.int .i32 0, .int .u32 0] := rfl
def ti160 : TI := ⟨.struct [(0, 153), (0, 159)], 2, 8, [.int .i32 0, .int .u32 0], false, false⟩
@[simp] theorem ti160_size : ti160.size = 2 := rfl
@[simp] theorem ti160_bytes : ti160.bytes = 8 := rfl
@[simp] theorem ti160_zero : ti160.zero = [.int .i32 0, .int .u32 0] := rfl
def ti161 : TI := ⟨.struct [(0, 153), (0, 159)], 2, 8, [.int .i32 0, .int .u32 0], false, false⟩
@[simp] theorem ti161_size : ti161.size = 2 := rfl
@[simp] theorem ti161_bytes : ti161.bytes = 8 := rfl
@[simp] theorem ti161_zero : ti161.zero = [.int .i32 0, .int .u32 0] := rfl
def ti162 : TI := ⟨.struct [(0, 153), (0, 157), (1, 161)], 3, 12, [.int .u32 0, .int .i32 0, .int .u32 0], false, false⟩
@[simp] theorem ti162_size : ti162.size = 3 := rfl
@[simp] theorem ti162_bytes : ti162.bytes = 12 := rfl
@[simp] theorem ti162_zero : ti162.zero = [.int .u32 0, .int .i32 0, .int .u32 0] := rfl
def ti163 : TI := ⟨.struct [(0, 153), (0, 157), (1, 161)], 3, 12, [.int .u32 0, .int .i32 0, .int .u32 0], false, false⟩
@[simp] theorem ti163_size : ti163.size = 3 := rfl
@[simp] theorem ti163_bytes : ti163.bytes = 12 := rfl
@[simp] theorem ti163_zero : ti163.zero = [.int .u32 0, .int .i32 0, .int .u32 0] := rfl
def ti164 : TI := ⟨.struct [(0, 4), (1, 163), (4, 157), (5, 93)], 11, 80, [.bool false, .int .u32 0, .int .i32 0, .int .u32 0, .int .u32 0, .int .i64 0, .int .i64 0, .int .i64 0, .string ⟨#[]⟩, .int .i64 0, .int .i64 0], false, false⟩
@[simp] theorem ti164_size : ti164.size = 11 := rfl
@[simp] theorem ti164_bytes : ti164.bytes = 80 := rfl
@[simp] theorem ti164_zero : ti164.zero = [.bool false, .int .u32 0, .int .i32 0, .int .u32 0, .int .u32 0, .int .i64 0, .int .i64 0, .int .i64 0, .string ⟨#[]⟩, .int .i64 0, .int .i64 0] := rfl
def ti165 : TI := ⟨.struct [(0, 4), (1, 163), (4, 157), (5, 93)], 11, 80, [.bool false, .int .u32 0, .int .i32 0, .int .u32 0, .int .u32 0, .int .i64 0, .int .i64 0, .int .i64 0, .string ⟨#[]⟩, .int .i64 0, .int .i64 0], false, false⟩
@[simp] theorem ti165_size : ti165.size = 11 := rfl
@[simp] theorem ti165_bytes : ti165.bytes = 80 := rfl
@[simp] theorem ti165_zero : ti165.zero = [.bool false, .int .u32 0, .int .i32 0, .int .u32 0, .int .u32 0, .int .i64 0, .int .i64 0, .int .i64 0, .string ⟨#[]⟩, .int .i64 0, .int .i64 0] := rfl
def ti170 : TI := ⟨.struct [(0, 3), (1, 3), (2, 3), (3, 3), (4, 3)], 5, 40, [.int .i64 0, .int .i64 0, .int .i64 0, .int .i64 0, .int .i64 0], false, false⟩
@[simp] theorem ti170_size : ti170.size = 5 := rfl
@[simp] theorem ti170_bytes : ti170.bytes = 40 := rfl
@[simp] theorem ti170_zero : ti170.zero = [.int .i64 0, .int .i64 0, .int .i64 0, .int .i64 0, .int .i64 0] := rfl
def ti171 : TI := ⟨.struct [(0, 3), (1, 3), (2, 3), (3, 3), (4, 3)], 5, 40, [.int .i64 0, .int .i64 0, .int .i64 0, .int .i64 0, .int .i64 0], true, false⟩
@[simp] theorem ti171_size : ti171.size = 5 := rfl
@[simp] theorem ti171_bytes : ti171.bytes = 40 := rfl
@[simp] theorem ti171_zero : ti171.zero = [.int .i64 0, .int .i64 0, .int .i64 0, .int .i64 0, .int .i64 0] := rfl
set_option maxRecDepth 100000 in
set_option maxHeartbeats 4000000 in
theorem eq171 : ∀ xs ys b, EqC ti171.zero xs ys b → ∀ (x y : Operand) (w : World),
    (do eqGuard .eql 171 x y (.agg xs.toArray) (.agg ys.toArray); binOp .eql 171 (.agg xs.toArray) (.agg ys.toArray) : Sem Value).run Try.prog w = .ok (.bool b) w ∧
    (do eqGuard .neq 171 x y (.agg xs.toArray) (.agg ys.toArray); binOp .neq 171 (.agg xs.toArray) (.agg ys.toArray) : Sem Value).run Try.prog w = .ok (.bool !b) w := by
  intro xs ys b h x y w
  cases h with | int _ _ _ _ h =>
  cases h with | int _ _ _ _ h =>
  cases h with | int _ _ _ _ h =>
  cases h with | int _ _ _ _ h =>
  cases h with | int _ _ _ _ h =>
  cases h with | nil =>
  constructor
  · simp [go_sem]
    try (repeat' (first | exact eq_one (by rw [Bool.eq_iff_iff]; simp) | refine eq_and (by rw [Bool.eq_iff_iff]; simp) ?_))
  · simp [go_sem]
    try (repeat' (first | exact ne_one (by rw [Bool.eq_iff_iff]; simp) | refine ne_or (by rw [Bool.eq_iff_iff]; simp) ?_))
def ti173 : TI := ⟨.struct [(0, 3), (1, 3), (2, 3), (3, 3), (4, 3)], 5, 40, [.int .i64 0, .int .i64 0, .int .i64 0, .int .i64 0, .int .i64 0], false, false⟩
@[simp] theorem ti173_size : ti173.size = 5 := rfl
@[simp] theorem ti173_bytes : ti173.bytes = 40 := rfl
@[simp] theorem ti173_zero : ti173.zero = [.int .i64 0, .int .i64 0, .int .i64 0, .int .i64 0, .int .i64 0] := rfl
def ti174 : TI := ⟨.struct [(0, 3), (1, 3), (2, 3), (3, 3), (4, 3)], 5, 40, [.int .i64 0, .int .i64 0, .int .i64 0, .int .i64 0, .int .i64 0], true, false⟩
@[simp] theorem ti174_size : ti174.size = 5 := rfl
@[simp] theorem ti174_bytes : ti174.bytes = 40 := rfl
@[simp] theorem ti174_zero : ti174.zero = [.int .i64 0, .int .i64 0, .int .i64 0, .int .i64 0, .int .i64 0] := rfl
set_option maxRecDepth 100000 in
set_option maxHeartbeats 4000000 in
theorem eq174 : ∀ xs ys b, EqC ti174.zero xs ys b → ∀ (x y : Operand) (w : World),
    (do eqGuard .eql 174 x y (.agg xs.toArray) (.agg ys.toArray); binOp .eql 174 (.agg xs.toArray) (.agg ys.toArray) : Sem Value).run Try.prog w = .ok (.bool b) w ∧
    (do eqGuard .neq 174 x y (.agg xs.toArray) (.agg ys.toArray); binOp .neq 174 (.agg xs.toArray) (.agg ys.toArray) : Sem Value).run Try.prog w = .ok (.bool !b) w := by
  intro xs ys b h x y w
  cases h with | int _ _ _ _ h =>
  cases h with | int _ _ _ _ h =>
  cases h with | int _ _ _ _ h =>
  cases h with | int _ _ _ _ h =>
  cases h with | int _ _ _ _ h =>
  cases h with | nil =>
  constructor
  · simp [go_sem]
    try (repeat' (first | exact eq_one (by rw [Bool.eq_iff_iff]; simp) | refine eq_and (by rw [Bool.eq_iff_iff]; simp) ?_))
  · simp [go_sem]
    try (repeat' (first | exact ne_one (by rw [Bool.eq_iff_iff]; simp) | refine ne_or (by rw [Bool.eq_iff_iff]; simp) ?_))
def ti177 : TI := ⟨.ptr 157, 1, 8, [.pointer none], false, false⟩
@[simp] theorem ti177_size : ti177.size = 1 := rfl
@[simp] theorem ti177_bytes : ti177.bytes = 8 := rfl
@[simp] theorem ti177_zero : ti177.zero = [.pointer none] := rfl
def ti179 : TI := ⟨.ptr 155, 1, 8, [.pointer none], false, false⟩
@[simp] theorem ti179_size : ti179.size = 1 := rfl
@[simp] theorem ti179_bytes : ti179.bytes = 8 := rfl
@[simp] theorem ti179_zero : ti179.zero = [.pointer none] := rfl
def ti182 : TI := ⟨.ptr 163, 1, 8, [.pointer none], false, false⟩
@[simp] theorem ti182_size : ti182.size = 1 := rfl
@[simp] theorem ti182_bytes : ti182.bytes = 8 := rfl
@[simp] theorem ti182_zero : ti182.zero = [.pointer none] := rfl
def ti186 : TI := ⟨.ptr 161, 1, 8, [.pointer none], false, false⟩
@[simp] theorem ti186_size : ti186.size = 1 := rfl
@[simp] theorem ti186_bytes : ti186.bytes = 8 := rfl
@[simp] theorem ti186_zero : ti186.zero = [.pointer none] := rfl
def ti187 : TI := ⟨.ptr 159, 1, 8, [.pointer none], false, false⟩
@[simp] theorem ti187_size : ti187.size = 1 := rfl
@[simp] theorem ti187_bytes : ti187.bytes = 8 := rfl
@[simp] theorem ti187_zero : ti187.zero = [.pointer none] := rfl
def ti189 : TI := ⟨.ptr 21, 1, 8, [.pointer none], false, false⟩
@[simp] theorem ti189_size : ti189.size = 1 := rfl
@[simp] theorem ti189_bytes : ti189.bytes = 8 := rfl
@[simp] theorem ti189_zero : ti189.zero = [.pointer none] := rfl
def ti194 : TI := ⟨.int .u64, 1, 8, [.int .u64 0], false, false⟩
@[simp] theorem ti194_size : ti194.size = 1 := rfl
@[simp] theorem ti194_bytes : ti194.bytes = 8 := rfl
@[simp] theorem ti194_zero : ti194.zero = [.int .u64 0] := rfl
def ti199 : TI := ⟨.struct [(0, 17), (1, 17), (2, 17), (3, 9)], 4, 40, [.pointer none, .pointer none, .pointer none, .string ⟨#[]⟩], false, false⟩
@[simp] theorem ti199_size : ti199.size = 4 := rfl
@[simp] theorem ti199_bytes : ti199.bytes = 40 := rfl
@[simp] theorem ti199_zero : ti199.zero = [.pointer none, .pointer none, .pointer none, .string ⟨#[]⟩] := rfl
def ti201 : TI := ⟨.arr 0 16, 0, 0, [], false, false⟩
@[simp] theorem ti201_size : ti201.size = 0 := rfl
@[simp] theorem ti201_bytes : ti201.bytes = 0 := rfl
@[simp] theorem ti201_zero : ti201.zero = [] := rfl
def ti202 : TI := ⟨.struct [(0, 201)], 0, 0, [], false, false⟩
@[simp] theorem ti202_size : ti202.size = 0 := rfl
@[simp] theorem ti202_bytes : ti202.bytes = 0 := rfl
@[simp] theorem ti202_zero : ti202.zero = [] := rfl
def ti207 : TI := ⟨.ptr 5, 1, 8, [.pointer none], false, false⟩
@[simp] theorem ti207_size : ti207.size = 1 := rfl
@[simp] theorem ti207_bytes : ti207.bytes = 8 := rfl
@[simp] theorem ti207_zero : ti207.zero = [.pointer none] := rfl
def ti210 : TI := ⟨.struct [(0, 12), (1, 12), (2, 155), (3, 204), (4, 5), (5, 5), (6, 205), (7, 206), (8, 207), (9, 208), (10, 209)], 11, 48, [.int .u64 0, .int .u64 0, .int .u32 0, .int .u8 0, .int .u8 0, .int .u8 0, .int .u8 0, .nilFunc, .pointer none, .int .i32 0, .int .i32 0], false, false⟩
@[simp] theorem ti210_size : ti210.size = 11 := rfl
@[simp] theorem ti210_bytes : ti210.bytes = 48 := rfl
@[simp] theorem ti210_zero : ti210.zero = [.int .u64 0, .int .u64 0, .int .u32 0, .int .u8 0, .int .u8 0, .int .u8 0, .int .u8 0, .nilFunc, .pointer none, .int .i32 0, .int .i32 0] := rfl
theorem ok2 : TyOK Try.prog 2 ti2 := ⟨⟨(Try.prog.info? 2).getD default, ((Try.prog.info? 2).getD default).zero.getD default, by kernel_rfl, by kernel_rfl, by kernel_rfl, by kernel_rfl, by kernel_rfl⟩, Try.underlying2, (fun h => by cases h), ⟨(Try.prog.info? 2).getD default, by kernel_rfl, by kernel_rfl⟩, (fun h => by cases h), (fun h => by cases h)⟩
theorem ok3 : TyOK Try.prog 3 ti3 := ⟨⟨(Try.prog.info? 3).getD default, ((Try.prog.info? 3).getD default).zero.getD default, by kernel_rfl, by kernel_rfl, by kernel_rfl, by kernel_rfl, by kernel_rfl⟩, Try.underlying3, (fun h => by cases h), ⟨(Try.prog.info? 3).getD default, by kernel_rfl, by kernel_rfl⟩, (fun h => by cases h), (fun h => by cases h)⟩
theorem ok4 : TyOK Try.prog 4 ti4 := ⟨⟨(Try.prog.info? 4).getD default, ((Try.prog.info? 4).getD default).zero.getD default, by kernel_rfl, by kernel_rfl, by kernel_rfl, by kernel_rfl, by kernel_rfl⟩, Try.underlying4, (fun h => by cases h), ⟨(Try.prog.info? 4).getD default, by kernel_rfl, by kernel_rfl⟩, (fun h => by cases h), (fun h => by cases h)⟩
theorem ok5 : TyOK Try.prog 5 ti5 := ⟨⟨(Try.prog.info? 5).getD default, ((Try.prog.info? 5).getD default).zero.getD default, by kernel_rfl, by kernel_rfl, by kernel_rfl, by kernel_rfl, by kernel_rfl⟩, Try.underlying5, (fun h => by cases h), ⟨(Try.prog.info? 5).getD default, by kernel_rfl, by kernel_rfl⟩, (fun h => by cases h), (fun h => by cases h)⟩
theorem ok7 : TyOK Try.prog 7 ti7 := ⟨⟨(Try.prog.info? 7).getD default, ((Try.prog.info? 7).getD default).zero.getD default, by kernel_rfl, by kernel_rfl, by kernel_rfl, by kernel_rfl, by kernel_rfl⟩, ⟨_, Try.underlying7, rfl⟩, (fun h => by cases h), ⟨(Try.prog.info? 7).getD default, by kernel_rfl, by kernel_rfl⟩, (fun h => by cases h), (fun h => by cases h)⟩
theorem ok9 : TyOK Try.prog 9 ti9 := ⟨⟨(Try.prog.info? 9).getD default, ((Try.prog.info? 9).getD default).zero.getD default, by kernel_rfl, by kernel_rfl, by kernel_rfl, by kernel_rfl, by kernel_rfl⟩, Try.underlying9, (fun h => by cases h), ⟨(Try.prog.info? 9).getD default, by kernel_rfl, by kernel_rfl⟩, (fun h => by cases h), (fun h => by cases h)⟩
theorem ok12 : TyOK Try.prog 12 ti12 := ⟨⟨(Try.prog.info? 12).getD default, ((Try.prog.info? 12).getD default).zero.getD default, by kernel_rfl, by kernel_rfl, by kernel_rfl, by kernel_rfl, by kernel_rfl⟩, Try.underlying12, (fun h => by cases h), ⟨(Try.prog.info? 12).getD default, by kernel_rfl, by kernel_rfl⟩, (fun h => by cases h), (fun h => by cases h)⟩
theorem ok13 : TyOK Try.prog 13 ti13 := ⟨⟨(Try.prog.info? 13).getD default, ((Try.prog.info? 13).getD default).zero.getD default, by kernel_rfl, by kernel_rfl, by kernel_rfl, by kernel_rfl, by kernel_rfl⟩, ⟨_, Try.underlying13, rfl⟩, (fun h => by cases h), ⟨(Try.prog.info? 13).getD default, by kernel_rfl, by kernel_rfl⟩, (fun h => by cases h), (fun h => by cases h)⟩
theorem ok15 : TyOK Try.prog 15 ti15 := ⟨⟨(Try.prog.info? 15).getD default, ((Try.prog.info? 15).getD default).zero.getD default, by kernel_rfl, by kernel_rfl, by kernel_rfl, by kernel_rfl, by kernel_rfl⟩, Try.underlying15, (fun h => by cases h), ⟨(Try.prog.info? 15).getD default, by kernel_rfl, by kernel_rfl⟩, (fun h => by cases h), (fun h => by cases h)⟩
theorem ok16 : TyOK Try.prog 16 ti16 := ⟨⟨(Try.prog.info? 16).getD default, ((Try.prog.info? 16).getD default).zero.getD default, by kernel_rfl, by kernel_rfl, by kernel_rfl, by kernel_rfl, by kernel_rfl⟩, Try.underlying16, (fun h => by cases h), ⟨(Try.prog.info? 16).getD default, by kernel_rfl, by kernel_rfl⟩, (fun h => by cases h), (fun h => by cases h)⟩
theorem ok17 : TyOK Try.prog 17 ti17 := ⟨⟨(Try.prog.info? 17).getD default, ((Try.prog.info? 17).getD default).zero.getD default, by kernel_rfl, by kernel_rfl, by kernel_rfl, by kernel_rfl, by kernel_rfl⟩, Try.underlying17, (fun h => by cases h), ⟨(Try.prog.info? 17).getD default, by kernel_rfl, by kernel_rfl⟩, (fun h => by cases h), (fun h => by cases h)⟩
theorem ok18 : TyOK Try.prog 18 ti18 := ⟨⟨(Try.prog.info? 18).getD default, ((Try.prog.info? 18).getD default).zero.getD default, by kernel_rfl, by kernel_rfl, by kernel_rfl, by kernel_rfl, by kernel_rfl⟩, ⟨_, Try.underlying18, rfl⟩, (fun h => by cases h), ⟨(Try.prog.info? 18).getD default, by kernel_rfl, by kernel_rfl⟩, (fun h => by cases h), (fun h => by cases h)⟩
theorem ok21 : TyOK Try.prog 21 ti21 := ⟨⟨(Try.prog.info? 21).getD default, ((Try.prog.info? 21).getD default).zero.getD default, by kernel_rfl, by kernel_rfl, by kernel_rfl, by kernel_rfl, by kernel_rfl⟩, Try.underlying21, (fun h => by cases h), ⟨(Try.prog.info? 21).getD default, by kernel_rfl, by kernel_rfl⟩, (fun h => by cases h), (fun h => by cases h)⟩
theorem ok22 : TyOK Try.prog 22 ti22 := ⟨⟨(Try.prog.info? 22).getD default, ((Try.prog.info? 22).getD default).zero.getD default, by kernel_rfl, by kernel_rfl, by kernel_rfl, by kernel_rfl, by kernel_rfl⟩, Try.underlying22, (fun h => by cases h), ⟨(Try.prog.info? 22).getD default, by kernel_rfl, by kernel_rfl⟩, (fun h => by cases h), (fun h => by cases h)⟩
theorem ok23 : TyOK Try.prog 23 ti23 := ⟨⟨(Try.prog.info? 23).getD default, ((Try.prog.info? 23).getD default).zero.getD default, by kernel_rfl, by kernel_rfl, by kernel_rfl, by kernel_rfl, by kernel_rfl⟩, ⟨_, Try.underlying23, rfl⟩, (fun h => by cases h), ⟨(Try.prog.info? 23).getD default, by kernel_rfl, by kernel_rfl⟩, (fun h => by cases h), (fun h => by cases h)⟩
theorem ok24 : TyOK Try.prog 24 ti24 := ⟨⟨(Try.prog.info? 24).getD default, ((Try.prog.info? 24).getD default).zero.getD default, by kernel_rfl, by kernel_rfl, by kernel_rfl, by kernel_rfl, by kernel_rfl⟩, ⟨_, Try.underlying24, rfl⟩, (fun h => by cases h), ⟨(Try.prog.info? 24).getD default, by kernel_rfl, by kernel_rfl⟩, (fun h => by cases h), (fun h => by cases h)⟩
theorem ok25 : TyOK Try.prog 25 ti25 := ⟨⟨(Try.prog.info? 25).getD default, ((Try.prog.info? 25).getD default).zero.getD default, by kernel_rfl, by kernel_rfl, by kernel_rfl, by kernel_rfl, by kernel_rfl⟩, Try.underlying25, (fun h => by cases h), ⟨(Try.prog.info? 25).getD default, by kernel_rfl, by kernel_rfl⟩, (fun h => by cases h), (fun h => by cases h)⟩
theorem ok26 : TyOK Try.prog 26 ti26 := ⟨⟨(Try.prog.info? 26).getD default, ((Try.prog.info? 26).getD default).zero.getD default, by kernel_rfl, by kernel_rfl, by kernel_rfl, by kernel_rfl, by kernel_rfl⟩, Try.underlying26, (fun h => by cases h), ⟨(Try.prog.info? 26).getD default, by kernel_rfl, by kernel_rfl⟩, (fun h => by cases h), (fun h => by cases h)⟩
theorem ok30 : TyOK Try.prog 30 ti30 := ⟨⟨(Try.prog.info? 30).getD default, ((Try.prog.info? 30).getD default).zero.getD default, by kernel_rfl, by kernel_rfl, by kernel_rfl, by kernel_rfl, by kernel_rfl⟩, Try.underlying30, (fun h => by cases h), ⟨(Try.prog.info? 30).getD default, by kernel_rfl, by kernel_rfl⟩, (fun h => by cases h), (fun h => by cases h)⟩
theorem ok31 : TyOK Try.prog 31 ti31 := ⟨⟨(Try.prog.info? 31).getD default, ((Try.prog.info? 31).getD default).zero.getD default, by kernel_rfl, by kernel_rfl, by kernel_rfl, by kernel_rfl, by kernel_rfl⟩, Try.underlying31, (fun h => by cases h), ⟨(Try.prog.info? 31).getD default, by kernel_rfl, by kernel_rfl⟩, (fun h => by cases h), (fun h => by cases h)⟩
theorem ok34 : TyOK Try.prog 34 ti34 := ⟨⟨(Try.prog.info? 34).getD default, ((Try.prog.info? 34).getD default).zero.getD default, by kernel_rfl, by kernel_rfl, by kernel_rfl, by kernel_rfl, by kernel_rfl⟩, Try.underlying34, fun _ => eq34, ⟨(Try.prog.info? 34).getD default, by kernel_rfl, by kernel_rfl⟩, (fun h => by cases h), (fun h => by cases h)⟩
theorem ok35 : TyOK Try.prog 35 ti35 := ⟨⟨(Try.prog.info? 35).getD default, ((Try.prog.info? 35).getD default).zero.getD default, by kernel_rfl, by kernel_rfl, by kernel_rfl, by kernel_rfl, by kernel_rfl⟩, ⟨_, Try.underlying35, rfl⟩, (fun h => by cases h), ⟨(Try.prog.info? 35).getD default, by kernel_rfl, by kernel_rfl⟩, (fun h => by cases h), (fun h => by cases h)⟩
theorem ok36 : TyOK Try.prog 36 ti36 := ⟨⟨(Try.prog.info? 36).getD default, ((Try.prog.info? 36).getD default).zero.getD default, by kernel_rfl, by kernel_rfl, by kernel_rfl, by kernel_rfl, by kernel_rfl⟩, ⟨_, Try.underlying36, rfl⟩, fun _ => eq36, ⟨(Try.prog.info? 36).getD default, by kernel_rfl, by kernel_rfl⟩, (fun h => by cases h), (fun h => by cases h)⟩
theorem ok37 : TyOK Try.prog 37 ti37 := ⟨⟨(Try.prog.info? 37).getD default, ((Try.prog.info? 37).getD default).zero.getD default, by kernel_rfl, by kernel_rfl, by kernel_rfl, by kernel_rfl, by kernel_rfl⟩, ⟨_, Try.underlying37, rfl⟩, (fun h => by cases h), ⟨(Try.prog.info? 37).getD default, by kernel_rfl, by kernel_rfl⟩, (fun h => by cases h), (fun h => by cases h)⟩
theorem ok38 : TyOK Try.prog 38 ti38 := ⟨⟨(Try.prog.info? 38).getD default, ((Try.prog.info? 38).getD default).zero.getD default, by kernel_rfl, by kernel_rfl, by kernel_rfl, by kernel_rfl, by kernel_rfl⟩, ⟨_, Try.underlying38, rfl⟩, fun _ => eq38, ⟨(Try.prog.info? 38).getD default, by kernel_rfl, by kernel_rfl⟩, (fun h => by cases h), (fun h => by cases h)⟩
theorem ok39 : TyOK Try.prog 39 ti39 := ⟨⟨(Try.prog.info? 39).getD default, ((Try.prog.info? 39).getD default).zero.getD default, by kernel_rfl, by kernel_rfl, by kernel_rfl, by kernel_rfl, by kernel_rfl⟩, ⟨_, Try.underlying39, rfl⟩, (fun h => by cases h), ⟨(Try.prog.info? 39).getD default, by kernel_rfl, by kernel_rfl⟩, (fun h => by cases h), (fun h => by cases h)⟩
theorem ok40 : TyOK Try.prog 40 ti40 := ⟨⟨(Try.prog.info? 40).getD default, ((Try.prog.info? 40).getD default).zero.getD default, by kernel_rfl, by kernel_rfl, by kernel_rfl, by kernel_rfl, by kernel_rfl⟩, ⟨_, Try.underlying40, rfl⟩, fun _ => eq40, ⟨(Try.prog.info? 40).getD default, by kernel_rfl, by kernel_rfl⟩, (fun h => by cases h), (fun h => by cases h)⟩
theorem ok41 : TyOK Try.prog 41 ti41 := ⟨⟨(Try.prog.info? 41).getD default, ((Try.prog.info? 41).getD default).zero.getD default, by kernel_rfl, by kernel_rfl, by kernel_rfl, by kernel_rfl, by kernel_rfl⟩, Try.underlying41, (fun h => by cases h), ⟨(Try.prog.info? 41).getD default, by kernel_rfl, by kernel_rfl⟩, (fun h => by cases h), (fun h => by cases h)⟩
theorem ok42 : TyOK Try.prog 42 ti42 := ⟨⟨(Try.prog.info? 42).getD default, ((Try.prog.info? 42).getD default).zero.getD default, by kernel_rfl, by kernel_rfl, by kernel_rfl, by kernel_rfl, by kernel_rfl⟩, ⟨_, Try.underlying42, rfl⟩, (fun h => by cases h), ⟨(Try.prog.info? 42).getD default, by kernel_rfl, by kernel_rfl⟩, (fun h => by cases h), (fun h => by cases h)⟩
theorem ok43 : TyOK Try.prog 43 ti43 := ⟨⟨(Try.prog.info? 43).getD default, ((Try.prog.info? 43).getD default).zero.getD default, by kernel_rfl, by kernel_rfl, by kernel_rfl, by kernel_rfl, by kernel_rfl⟩, ⟨_, Try.underlying43, rfl⟩, (fun h => by cases h), ⟨(Try.prog.info? 43).getD default, by kernel_rfl, by kernel_rfl⟩, (fun h => by cases h), (fun h => by cases h)⟩
theorem ok44 : TyOK Try.prog 44 ti44 := ⟨⟨(Try.prog.info? 44).getD default, ((Try.prog.info? 44).getD default).zero.getD default, by kernel_rfl, by kernel_rfl, by kernel_rfl, by kernel_rfl, by kernel_rfl⟩, ⟨_, Try.underlying44, rfl⟩, (fun h => by cases h), ⟨(Try.prog.info? 44).getD default, by kernel_rfl, by kernel_rfl⟩, (fun h => by cases h), (fun h => by cases h)⟩
theorem ok45 : TyOK Try.prog 45 ti45 := ⟨⟨(Try.prog.info? 45).getD default, ((Try.prog.info? 45).getD default).zero.getD default, by kernel_rfl, by kernel_rfl, by kernel_rfl, by kernel_rfl, by kernel_rfl⟩, ⟨_, Try.underlying45, rfl⟩, (fun h => by cases h), ⟨(Try.prog.info? 45).getD default, by kernel_rfl, by kernel_rfl⟩, (fun h => by cases h), (fun h => by cases h)⟩
theorem ok46 : TyOK Try.prog 46 ti46 := ⟨⟨(Try.prog.info? 46).getD default, ((Try.prog.info? 46).getD default).zero.getD default, by kernel_rfl, by kernel_rfl, by kernel_rfl, by kernel_rfl, by kernel_rfl⟩, ⟨_, Try.underlying46, rfl⟩, (fun h => by cases h), ⟨(Try.prog.info? 46).getD default, by kernel_rfl, by kernel_rfl⟩, (fun h => by cases h), (fun h => by cases h)⟩
theorem ok47 : TyOK Try.prog 47 ti47 := ⟨⟨(Try.prog.info? 47).getD default, ((Try.prog.info? 47).getD default).zero.getD default, by kernel_rfl, by kernel_rfl, by kernel_rfl, by kernel_rfl, by kernel_rfl⟩, ⟨_, Try.underlying47, rfl⟩, (fun h => by cases h), ⟨(Try.prog.info? 47).getD default, by kernel_rfl, by kernel_rfl⟩, (fun h => by cases h), (fun h => by cases h)⟩
theorem ok48 : TyOK Try.prog 48 ti48 := ⟨⟨(Try.prog.info? 48).getD default, ((Try.prog.info? 48).getD default).zero.getD default, by kernel_rfl, by kernel_rfl, by kernel_rfl, by kernel_rfl, by kernel_rfl⟩, Try.underlying48, (fun h => by cases h), ⟨(Try.prog.info? 48).getD default, by kernel_rfl, by kernel_rfl⟩, (fun h => by cases h), (fun h => by cases h)⟩
theorem ok55 : TyOK Try.prog 55 ti55 := ⟨⟨(Try.prog.info? 55).getD default, ((Try.prog.info? 55).getD default).zero.getD default, by kernel_rfl, by kernel_rfl, by kernel_rfl, by kernel_rfl, by kernel_rfl⟩, ⟨_, Try.underlying55, rfl⟩, (fun h => by cases h), ⟨(Try.prog.info? 55).getD default, by kernel_rfl, by kernel_rfl⟩, (fun h => by cases h), (fun h => by cases h)⟩
theorem ok56 : TyOK Try.prog 56 ti56 := ⟨⟨(Try.prog.info? 56).getD default, ((Try.prog.info? 56).getD default).zero.getD default, by kernel_rfl, by kernel_rfl, by kernel_rfl, by kernel_rfl, by kernel_rfl⟩, ⟨_, Try.underlying56, rfl⟩, fun _ => eq56, ⟨(Try.prog.info? 56).getD default, by kernel_rfl, by kernel_rfl⟩, (fun h => by cases h), (fun h => by cases h)⟩
theorem ok61 : TyOK Try.prog 61 ti61 := ⟨⟨(Try.prog.info? 61).getD default, ((Try.prog.info? 61).getD default).zero.getD default, by kernel_rfl, by kernel_rfl, by kernel_rfl, by kernel_rfl, by kernel_rfl⟩, Try.underlying61, (fun h => by cases h), ⟨(Try.prog.info? 61).getD default, by kernel_rfl, by kernel_rfl⟩, (fun h => by cases h), (fun h => by cases h)⟩
theorem ok65 : TyOK Try.prog 65 ti65 := ⟨⟨(Try.prog.info? 65).getD default, ((Try.prog.info? 65).getD default).zero.getD default, by kernel_rfl, by kernel_rfl, by kernel_rfl, by kernel_rfl, by kernel_rfl⟩, Try.underlying65, (fun h => by cases h), ⟨(Try.prog.info? 65).getD default, by kernel_rfl, by kernel_rfl⟩, (fun h => by cases h), (fun h => by cases h)⟩
theorem ok74 : TyOK Try.prog 74 ti74 := ⟨⟨(Try.prog.info? 74).getD default, ((Try.prog.info? 74).getD default).zero.getD default, by kernel_rfl, by kernel_rfl, by kernel_rfl, by kernel_rfl, by kernel_rfl⟩, Try.underlying74, fun _ => eq74, ⟨(Try.prog.info? 74).getD default, by kernel_rfl, by kernel_rfl⟩, (fun h => by cases h), (fun h => by cases h)⟩
theorem ok75 : TyOK Try.prog 75 ti75 := ⟨⟨(Try.prog.info? 75).getD default, ((Try.prog.info? 75).getD default).zero.getD default, by kernel_rfl, by kernel_rfl, by kernel_rfl, by kernel_rfl, by kernel_rfl⟩, Try.underlying75, fun _ => eq75, ⟨(Try.prog.info? 75).getD default, by kernel_rfl, by kernel_rfl⟩, (fun h => by cases h), (fun h => by cases h)⟩
theorem ok76 : TyOK Try.prog 76 ti76 := ⟨⟨(Try.prog.info? 76).getD default, ((Try.prog.info? 76).getD default).zero.getD default, by kernel_rfl, by kernel_rfl, by kernel_rfl, by kernel_rfl, by kernel_rfl⟩, ⟨_, Try.underlying76, rfl⟩, (fun h => by cases h), ⟨(Try.prog.info? 76).getD default, by kernel_rfl, by kernel_rfl⟩, (fun h => by cases h), (fun h => by cases h)⟩
theorem ok77 : TyOK Try.prog 77 ti77 := ⟨⟨(Try.prog.info? 77).getD default, ((Try.prog.info? 77).getD default).zero.getD default, by kernel_rfl, by kernel_rfl, by kernel_rfl, by kernel_rfl, by kernel_rfl⟩, ⟨_, Try.underlying77, rfl⟩, (fun h => by cases h), ⟨(Try.prog.info? 77).getD default, by kernel_rfl, by kernel_rfl⟩, (fun h => by cases h), (fun h => by cases h)⟩
theorem ok82 : TyOK Try.prog 82 ti82 := ⟨⟨(Try.prog.info? 82).getD default, ((Try.prog.info? 82).getD default).zero.getD default, by kernel_rfl, by kernel_rfl, by kernel_rfl, by kernel_rfl, by kernel_rfl⟩, ⟨_, Try.underlying82, rfl⟩, (fun h => by cases h), ⟨(Try.prog.info? 82).getD default, by kernel_rfl, by kernel_rfl⟩, (fun h => by cases h), (fun h => by cases h)⟩
theorem ok83 : TyOK Try.prog 83 ti83 := ⟨⟨(Try.prog.info? 83).getD default, ((Try.prog.info? 83).getD default).zero.getD default, by kernel_rfl, by kernel_rfl, by kernel_rfl, by kernel_rfl, by kernel_rfl⟩, ⟨_, Try.underlying83, rfl⟩, (fun h => by cases h), ⟨(Try.prog.info? 83).getD default, by kernel_rfl, by kernel_rfl⟩, (fun h => by cases h), (fun h => by cases h)⟩
theorem ok85 : TyOK Try.prog 85 ti85 := ⟨⟨(Try.prog.info? 85).getD default, ((Try.prog.info? 85).getD default).zero.getD default, by kernel_rfl, by kernel_rfl, by kernel_rfl, by kernel_rfl, by kernel_rfl⟩, Try.underlying85, fun _ => eq85, ⟨(Try.prog.info? 85).getD default, by kernel_rfl, by kernel_rfl⟩, (fun h => by cases h), (fun h => by cases h)⟩
theorem ok86 : TyOK Try.prog 86 ti86 := ⟨⟨(Try.prog.info? 86).getD default, ((Try.prog.info? 86).getD default).zero.getD default, by kernel_rfl, by kernel_rfl, by kernel_rfl, by kernel_rfl, by kernel_rfl⟩, ⟨_, Try.underlying86, rfl⟩, (fun h => by cases h), ⟨(Try.prog.info? 86).getD default, by kernel_rfl, by kernel_rfl⟩, (fun h => by cases h), (fun h => by cases h)⟩
theorem ok87 : TyOK Try.prog 87 ti87 := ⟨⟨(Try.prog.info? 87).getD default, ((Try.prog.info? 87).getD default).zero.getD default, by kernel_rfl, by kernel_rfl, by kernel_rfl, by kernel_rfl, by kernel_rfl⟩, ⟨_, Try.underlying87, rfl⟩, (fun h => by cases h), ⟨(Try.prog.info? 87).getD default, by kernel_rfl, by kernel_rfl⟩, (fun h => by cases h), (fun h => by cases h)⟩
theorem ok89 : TyOK Try.prog 89 ti89 := ⟨⟨(Try.prog.info? 89).getD default, ((Try.prog.info? 89).getD default).zero.getD default, by kernel_rfl, by kernel_rfl, by kernel_rfl, by kernel_rfl, by kernel_rfl⟩, Try.underlying89, (fun h => by cases h), ⟨(Try.prog.info? 89).getD default, by kernel_rfl, by kernel_rfl⟩, (fun h => by cases h), (fun h => by cases h)⟩
theorem ok90 : TyOK Try.prog 90 ti90 := ⟨⟨(Try.prog.info? 90).getD default, ((Try.prog.info? 90).getD default).zero.getD default, by kernel_rfl, by kernel_rfl, by kernel_rfl, by kernel_rfl, by kernel_rfl⟩, Try.underlying90, (fun h => by cases h), ⟨(Try.prog.info? 90).getD default, by kernel_rfl, by kernel_rfl⟩, (fun h => by cases h), (fun h => by cases h)⟩
theorem ok92 : TyOK Try.prog 92 ti92 := ⟨⟨(Try.prog.info? 92).getD default, ((Try.prog.info? 92).getD default).zero.getD default, by kernel_rfl, by kernel_rfl, by kernel_rfl, by kernel_rfl, by kernel_rfl⟩, ⟨_, Try.underlying92, rfl⟩, (fun h => by cases h), ⟨(Try.prog.info? 92).getD default, by kernel_rfl, by kernel_rfl⟩, (fun h => by cases h), (fun h => by cases h)⟩
theorem ok93 : TyOK Try.prog 93 ti93 := ⟨⟨(Try.prog.info? 93).getD default, ((Try.prog.info? 93).getD default).zero.getD default, by kernel_rfl, by kernel_rfl, by kernel_rfl, by kernel_rfl, by kernel_rfl⟩, ⟨_, Try.underlying93, rfl⟩, fun _ => eq93, ⟨(Try.prog.info? 93).getD default, by kernel_rfl, by kernel_rfl⟩, (fun h => by cases h), (fun h => by cases h)⟩
theorem ok98 : TyOK Try.prog 98 ti98 := ⟨⟨(Try.prog.info? 98).getD default, ((Try.prog.info? 98).getD default).zero.getD default, by kernel_rfl, by kernel_rfl, by kernel_rfl, by kernel_rfl, by kernel_rfl⟩, Try.underlying98, (fun h => by cases h), ⟨(Try.prog.info? 98).getD default, by kernel_rfl, by kernel_rfl⟩, (fun h => by cases h), (fun h => by cases h)⟩
theorem ok99 : TyOK Try.prog 99 ti99 := ⟨⟨(Try.prog.info? 99).getD default, ((Try.prog.info? 99).getD default).zero.getD default, by kernel_rfl, by kernel_rfl, by kernel_rfl, by kernel_rfl, by kernel_rfl⟩, Try.underlying99, (fun h => by cases h), ⟨(Try.prog.info? 99).getD default, by kernel_rfl, by kernel_rfl⟩, (fun h => by cases h), (fun h => by cases h)⟩
theorem ok100 : TyOK Try.prog 100 ti100 := ⟨⟨(Try.prog.info? 100).getD default, ((Try.prog.info? 100).getD default).zero.getD default, by kernel_rfl, by kernel_rfl, by kernel_rfl, by kernel_rfl, by kernel_rfl⟩, ⟨_, Try.underlying100, rfl⟩, (fun h => by cases h), ⟨(Try.prog.info? 100).getD default, by kernel_rfl, by kernel_rfl⟩, (fun h => by cases h), (fun h => by cases h)⟩
theorem ok101 : TyOK Try.prog 101 ti101 := ⟨⟨(Try.prog.info? 101).getD default, ((Try.prog.info? 101).getD default).zero.getD default, by kernel_rfl, by kernel_rfl, by kernel_rfl, by kernel_rfl, by kernel_rfl⟩, ⟨_, Try.underlying101, rfl⟩, (fun h => by cases h), ⟨(Try.prog.info? 101).getD default, by kernel_rfl, by kernel_rfl⟩, (fun h => by cases h), (fun h => by cases h)⟩
theorem ok104 : TyOK Try.prog 104 ti104 := ⟨⟨(Try.prog.info? 104).getD default, ((Try.prog.info? 104).getD default).zero.getD default, by kernel_rfl, by kernel_rfl, by kernel_rfl, by kernel_rfl, by kernel_rfl⟩, Try.underlying104, (fun h => by cases h), ⟨(Try.prog.info? 104).getD default, by kernel_rfl, by kernel_rfl⟩, (fun h => by cases h), (fun h => by cases h)⟩
theorem ok110 : TyOK Try.prog 110 ti110 := ⟨⟨(Try.prog.info? 110).getD default, ((Try.prog.info? 110).getD default).zero.getD default, by kernel_rfl, by kernel_rfl, by kernel_rfl, by kernel_rfl, by kernel_rfl⟩, Try.underlying110, (fun h => by cases h), ⟨(Try.prog.info? 110).getD default, by kernel_rfl, by kernel_rfl⟩, (fun h => by cases h), (fun h => by cases h)⟩
theorem ok111 : TyOK Try.prog 111 ti111 := ⟨⟨(Try.prog.info? 111).getD default, ((Try.prog.info? 111).getD default).zero.getD default, by kernel_rfl, by kernel_rfl, by kernel_rfl, by kernel_rfl, by kernel_rfl⟩, Try.underlying111, fun _ => eq111, ⟨(Try.prog.info? 111).getD default, by kernel_rfl, by kernel_rfl⟩, (fun h => by cases h), (fun h => by cases h)⟩
theorem ok124 : TyOK Try.prog 124 ti124 := ⟨⟨(Try.prog.info? 124).getD default, ((Try.prog.info? 124).getD default).zero.getD default, by kernel_rfl, by kernel_rfl, by kernel_rfl, by kernel_rfl, by kernel_rfl⟩, ⟨_, Try.underlying124, rfl⟩, (fun h => by cases h), ⟨(Try.prog.info? 124).getD default, by kernel_rfl, by kernel_rfl⟩, (fun h => by cases h), (fun h => by cases h)⟩
theorem ok125 : TyOK Try.prog 125 ti125 := ⟨⟨(Try.prog.info? 125).getD default, ((Try.prog.info? 125).getD default).zero.getD default, by kernel_rfl, by kernel_rfl, by kernel_rfl, by kernel_rfl, by kernel_rfl⟩, ⟨_, Try.underlying125, rfl⟩, (fun h => by cases h), ⟨(Try.prog.info? 125).getD default, by kernel_rfl, by kernel_rfl⟩, (fun h => by cases h), (fun h => by cases h)⟩
theorem ok127 : TyOK Try.prog 127 ti127 := ⟨⟨(Try.prog.info? 127).getD default, ((Try.prog.info? 127).getD default).zero.getD default, by kernel_rfl, by kernel_rfl, by kernel_rfl, by kernel_rfl, by kernel_rfl⟩, ⟨_, Try.underlying127, rfl⟩, (fun h => by cases h), ⟨(Try.prog.info? 127).getD default, by kernel_rfl, by kernel_rfl⟩, (fun h => by cases h), (fun h => by cases h)⟩
theorem ok131 : TyOK Try.prog 131 ti131 := ⟨⟨(Try.prog.info? 131).getD default, ((Try.prog.info? 131).getD default).zero.getD default, by kernel_rfl, by kernel_rfl, by kernel_rfl, by kernel_rfl, by kernel_rfl⟩, Try.underlying131, (fun h => by cases h), ⟨(Try.prog.info? 131).getD default, by kernel_rfl, by kernel_rfl⟩, (fun h => by cases h), (fun h => by cases h)⟩
theorem ok143 : TyOK Try.prog 143 ti143 := ⟨⟨(Try.prog.info? 143).getD default, ((Try.prog.info? 143).getD default).zero.getD default, by kernel_rfl, by kernel_rfl, by kernel_rfl, by kernel_rfl, by kernel_rfl⟩, Try.underlying143, (fun h => by cases h), ⟨(Try.prog.info? 143).getD default, by kernel_rfl, by kernel_rfl⟩, (fun h => by cases h), (fun h => by cases h)⟩
theorem ok146 : TyOK Try.prog 146 ti146 := ⟨⟨(Try.prog.info? 146).getD default, ((Try.prog.info? 146).getD default).zero.getD default, by kernel_rfl, by kernel_rfl, by kernel_rfl, by kernel_rfl, by kernel_rfl⟩, ⟨_, Try.underlying146, rfl⟩, (fun h => by cases h), ⟨(Try.prog.info? 146).getD default, by kernel_rfl, by kernel_rfl⟩, (fun h => by cases h), (fun h => by cases h)⟩
theorem ok147 : TyOK Try.prog 147 ti147 := ⟨⟨(Try.prog.info? 147).getD default, ((Try.prog.info? 147).getD default).zero.getD default, by kernel_rfl, by kernel_rfl, by kernel_rfl, by kernel_rfl, by kernel_rfl⟩, ⟨_, Try.underlying147, rfl⟩, (fun h => by cases h), ⟨(Try.prog.info? 147).getD default, by kernel_rfl, by kernel_rfl⟩, (fun h => by cases h), (fun h => by cases h)⟩
theorem ok152 : TyOK Try.prog 152 ti152 := ⟨⟨(Try.prog.info? 152).getD default, ((Try.prog.info? 152).getD default).zero.getD default, by kernel_rfl, by kernel_rfl, by kernel_rfl, by kernel_rfl, by kernel_rfl⟩, ⟨_, Try.underlying152, rfl⟩, (fun h => by cases h), ⟨(Try.prog.info? 152).getD default, by kernel_rfl, by kernel_rfl⟩, (fun h => by cases h), (fun h => by cases h)⟩
theorem ok153 : TyOK Try.prog 153 ti153 := ⟨⟨(Try.prog.info? 153).getD default, ((Try.prog.info? 153).getD default).zero.getD default, by kernel_rfl, by kernel_rfl, by kernel_rfl, by kernel_rfl, by kernel_rfl⟩, ⟨_, Try.underlying153, rfl⟩, (fun h => by cases h), ⟨(Try.prog.info? 153).getD default, by kernel_rfl, by kernel_rfl⟩, (fun h => by cases h), (fun h => by cases h)⟩
theorem ok155 : TyOK Try.prog 155 ti155 := ⟨⟨(Try.prog.info? 155).getD default, ((Try.prog.info? 155).getD default).zero.getD default, by kernel_rfl, by kernel_rfl, by kernel_rfl, by kernel_rfl, by kernel_rfl⟩, Try.underlying155, (fun h => by cases h), ⟨(Try.prog.info? 155).getD default, by kernel_rfl, by kernel_rfl⟩, (fun h => by cases h), (fun h => by cases h)⟩
theorem ok156 : TyOK Try.prog 156 ti156 := ⟨⟨(Try.prog.info? 156).getD default, ((Try.prog.info? 156).getD default).zero.getD default, by kernel_rfl, by kernel_rfl, by kernel_rfl, by kernel_rfl, by kernel_rfl⟩, ⟨_, Try.underlying156, rfl⟩, (fun h => by cases h), ⟨(Try.prog.info? 156).getD default, by kernel_rfl, by kernel_rfl⟩, (fun h => by cases h), (fun h => by cases h)⟩
theorem ok158 : TyOK Try.prog 158 ti158 := ⟨⟨(Try.prog.info? 158).getD default, ((Try.prog.info? 158).getD default).zero.getD default, by kernel_rfl, by kernel_rfl, by kernel_rfl, by kernel_rfl, by kernel_rfl⟩, ⟨_, Try.underlying158, rfl⟩, (fun h => by cases h), ⟨(Try.prog.info? 158).getD default, by kernel_rfl, by kernel_rfl⟩, (fun h => by cases h), (fun h => by cases h)⟩
theorem ok160 : TyOK Try.prog 160 ti160 := ⟨⟨(Try.prog.info? 160).getD default, ((Try.prog.info? 160).getD default).zero.getD default, by kernel_rfl, by kernel_rfl, by kernel_rfl, by kernel_rfl, by kernel_rfl⟩, ⟨_, Try.underlying160, rfl⟩, (fun h => by cases h), ⟨(Try.prog.info? 160).getD default, by kernel_rfl, by kernel_rfl⟩, (fun h => by cases h), (fun h => by cases h)⟩
theorem ok161 : TyOK Try.prog 161 ti161 := ⟨⟨(Try.prog.info? 161).getD default, ((Try.prog.info? 161).getD default).zero.getD default, by kernel_rfl, by kernel_rfl, by kernel_rfl, by kernel_rfl, by kernel_rfl⟩, ⟨_, Try.underlying161, rfl⟩, (fun h => by cases h), ⟨(Try.prog.info? 161).getD default, by kernel_rfl, by kernel_rfl⟩, (fun h => by cases h), (fun h => by cases h)⟩
theorem ok162 : TyOK Try.prog 162 ti162 := ⟨⟨(Try.prog.info? 162).getD default, ((Try.prog.info? 162).getD default).zero.getD default, by kernel_rfl, by kernel_rfl, by kernel_rfl, by kernel_rfl, by kernel_rfl⟩, ⟨_, Try.underlying162, rfl⟩, (fun h => by cases h), ⟨(Try.prog.info? 162).getD default, by kernel_rfl, by kernel_rfl⟩, (fun h => by cases h), (fun h => by cases h)⟩
theorem ok163 : TyOK Try.prog 163 ti163 := ⟨⟨(Try.prog.info? 163).getD default, ((Try.prog.info? 163).getD default).zero.getD default, by kernel_rfl, by kernel_rfl, by kernel_rfl, by kernel_rfl, by kernel_rfl⟩, ⟨_, Try.underlying163, rfl⟩, (fun h => by cases h), ⟨(Try.prog.info? 163).getD default, by kernel_rfl, by kernel_rfl⟩, (fun h => by cases h), (fun h => by cases h)⟩
theorem ok164 : TyOK Try.prog 164 ti164 := ⟨⟨(Try.prog.info? 164).getD default, ((Try.prog.info? 164).getD default).zero.getD default, by kernel_rfl, by kernel_rfl, by kernel_rfl, by kernel_rfl, by kernel_rfl⟩, ⟨_, Try.underlying164, rfl⟩, (fun h => by cases h), ⟨(Try.prog.info? 164).getD default, by kernel_rfl, by kernel_rfl⟩, (fun h => by cases h), (fun h => by cases h)⟩
theorem ok165 : TyOK Try.prog 165 ti165 := ⟨⟨(Try.prog.info? 165).getD default, ((Try.prog.info? 165).getD default).zero.getD default, by kernel_rfl, by kernel_rfl, by kernel_rfl, by kernel_rfl, by kernel_rfl⟩, ⟨_, Try.underlying165, rfl⟩, (fun h => by cases h), ⟨(Try.prog.info? 165).getD default, by kernel_rfl, by kernel_rfl⟩, (fun h => by cases h), (fun h => by cases h)⟩
theorem ok170 : TyOK Try.prog 170 ti170 := ⟨⟨(Try.prog.info? 170).getD default, ((Try.prog.info? 170).getD default).zero.getD default, by kernel_rfl, by kernel_rfl, by kernel_rfl, by kernel_rfl, by kernel_rfl⟩, ⟨_, Try.underlying170, rfl⟩, (fun h => by cases h), ⟨(Try.prog.info? 170).getD default, by kernel_rfl, by kernel_rfl⟩, (fun h => by cases h), (fun h => by cases h)⟩
theorem ok171 : TyOK Try.prog 171 ti171 := ⟨⟨(Try.prog.info? 171).getD default, ((Try.prog.info? 171).getD default).zero.getD default, by kernel_rfl, by kernel_rfl, by kernel_rfl, by kernel_rfl, by kernel_rfl⟩, ⟨_, Try.underlying171, rfl⟩, fun _ => eq171, ⟨(Try.prog.info? 171).getD default, by kernel_rfl, by kernel_rfl⟩, (fun h => by cases h), (fun h => by cases h)⟩
theorem ok173 : TyOK Try.prog 173 ti173 := ⟨⟨(Try.prog.info? 173).getD default, ((Try.prog.info? 173).getD default).zero.getD default, by kernel_rfl, by kernel_rfl, by kernel_rfl, by kernel_rfl, by kernel_rfl⟩, ⟨_, Try.underlying173, rfl⟩, (fun h => by cases h), ⟨(Try.prog.info? 173).getD default, by kernel_rfl, by kernel_rfl⟩, (fun h => by cases h), (fun h => by cases h)⟩
theorem ok174 : TyOK Try.prog 174 ti174 := ⟨⟨(Try.prog.info? 174).getD default, ((Try.prog.info? 174).getD default).zero.getD default, by kernel_rfl, by kernel_rfl, by kernel_rfl, by kernel_rfl, by kernel_rfl⟩, ⟨_, Try.underlying174, rfl⟩, fun _ => eq174, ⟨(Try.prog.info? 174).getD default, by kernel_rfl, by kernel_rfl⟩, (fun h => by cases h), (fun h => by cases h)⟩
theorem ok177 : TyOK Try.prog 177 ti177 := ⟨⟨(Try.prog.info? 177).getD default, ((Try.prog.info? 177).getD default).zero.getD default, by kernel_rfl, by kernel_rfl, by kernel_rfl, by kernel_rfl, by kernel_rfl⟩, Try.underlying177, (fun h => by cases h), ⟨(Try.prog.info? 177).getD default, by kernel_rfl, by kernel_rfl⟩, (fun h => by cases h), (fun h => by cases h)⟩
theorem ok179 : TyOK Try.prog 179 ti179 := ⟨⟨(Try.prog.info? 179).getD default, ((Try.prog.info? 179).getD default).zero.getD default, by kernel_rfl, by kernel_rfl, by kernel_rfl, by kernel_rfl, by kernel_rfl⟩, Try.underlying179, (fun h => by cases h), ⟨(Try.prog.info? 179).getD default, by kernel_rfl, by kernel_rfl⟩, (fun h => by cases h), (fun h => by cases h)⟩
theorem ok182 : TyOK Try.prog 182 ti182 := ⟨⟨(Try.prog.info? 182).getD default, ((Try.prog.info? 182).getD default).zero.getD default, by kernel_rfl, by kernel_rfl, by kernel_rfl, by kernel_rfl, by kernel_rfl⟩, Try.underlying182, (fun h => by cases h), ⟨(Try.prog.info? 182).getD default, by kernel_rfl, by kernel_rfl⟩, (fun h => by cases h), (fun h => by cases h)⟩
theorem ok186 : TyOK Try.prog 186 ti186 := ⟨⟨(Try.prog.info? 186).getD default, ((Try.prog.info? 186).getD default).zero.getD default, by kernel_rfl, by kernel_rfl, by kernel_rfl, by kernel_rfl, by kernel_rfl⟩, Try.underlying186, (fun h => by cases h), ⟨(Try.prog.info? 186).getD default, by kernel_rfl, by kernel_rfl⟩, (fun h => by cases h), (fun h => by cases h)⟩
theorem ok187 : TyOK Try.prog 187 ti187 := ⟨⟨(Try.prog.info? 187).getD default, ((Try.prog.info? 187).getD default).zero.getD default, by kernel_rfl, by kernel_rfl, by kernel_rfl, by kernel_rfl, by kernel_rfl⟩, Try.underlying187, (fun h => by cases h), ⟨(Try.prog.info? 187).getD default, by kernel_rfl, by kernel_rfl⟩, (fun h => by cases h), (fun h => by cases h)⟩
theorem ok189 : TyOK Try.prog 189 ti189 := ⟨⟨(Try.prog.info? 189).getD default, ((Try.prog.info? 189).getD default).zero.getD default, by kernel_rfl, by kernel_rfl, by kernel_rfl, by kernel_rfl, by kernel_rfl⟩, Try.underlying189, (fun h => by cases h), ⟨(Try.prog.info? 189).getD default, by kernel_rfl, by kernel_rfl⟩, (fun h => by cases h), (fun h => by cases h)⟩
theorem ok194 : TyOK Try.prog 194 ti194 := ⟨⟨(Try.prog.info? 194).getD default, ((Try.prog.info? 194).getD default).zero.getD default, by kernel_rfl, by kernel_rfl, by kernel_rfl, by kernel_rfl, by kernel_rfl⟩, Try.underlying194, (fun h => by cases h), ⟨(Try.prog.info? 194).getD default, by kernel_rfl, by kernel_rfl⟩, (fun h => by cases h), (fun h => by cases h)⟩
theorem ok199 : TyOK Try.prog 199 ti199 := ⟨⟨(Try.prog.info? 199).getD default, ((Try.prog.info? 199).getD default).zero.getD default, by kernel_rfl, by kernel_rfl, by kernel_rfl, by kernel_rfl, by kernel_rfl⟩, ⟨_, Try.underlying199, rfl⟩, (fun h => by cases h), ⟨(Try.prog.info? 199).getD default, by kernel_rfl, by kernel_rfl⟩, (fun h => by cases h), (fun h => by cases h)⟩
theorem ok201 : TyOK Try.prog 201 ti201 := ⟨⟨(Try.prog.info? 201).getD default, ((Try.prog.info? 201).getD default).zero.getD default, by kernel_rfl, by kernel_rfl, by kernel_rfl, by kernel_rfl, by kernel_rfl⟩, Try.underlying201, (fun h => by cases h), ⟨(Try.prog.info? 201).getD default, by kernel_rfl, by kernel_rfl⟩, (fun h => by cases h), (fun h => by cases h)⟩
theorem ok202 : TyOK Try.prog 202 ti202 := ⟨⟨(Try.prog.info? 202).getD default, ((Try.prog.info? 202).getD default).zero.getD default, by kernel_rfl, by kernel_rfl, by kernel_rfl, by kernel_rfl, by kernel_rfl⟩, ⟨_, Try.underlying202, rfl⟩, (fun h => by cases h), ⟨(Try.prog.info? 202).getD default, by kernel_rfl, by kernel_rfl⟩, (fun h => by cases h), (fun h => by cases h)⟩
theorem ok207 : TyOK Try.prog 207 ti207 := ⟨⟨(Try.prog.info? 207).getD default, ((Try.prog.info? 207).getD default).zero.getD default, by kernel_rfl, by kernel_rfl, by kernel_rfl, by kernel_rfl, by kernel_rfl⟩, Try.underlying207, (fun h => by cases h), ⟨(Try.prog.info? 207).getD default, by kernel_rfl, by kernel_rfl⟩, (fun h => by cases h), (fun h => by cases h)⟩
theorem ok210 : TyOK Try.prog 210 ti210 := ⟨⟨(Try.prog.info? 210).getD default, ((Try.prog.info? 210).getD default).zero.getD default, by kernel_rfl, by kernel_rfl, by kernel_rfl, by kernel_rfl, by kernel_rfl⟩, ⟨_, Try.underlying210, rfl⟩, (fun h => by cases h), ⟨(Try.prog.info? 210).getD default, by kernel_rfl, by kernel_rfl⟩, (fun h => by cases h), (fun h => by cases h)⟩
def lookT : List (Nat × TI) → Nat → Option TI
  | [], _ => none
  | (i, x) :: r, n => match Nat.beq i n with
    | true => some x
    | false => lookT r n
theorem lookT_spec : ∀ (l : List (Nat × TI)) (n : Nat) (x : TI), lookT l n = some x → (n, x) ∈ l
  | [], _, _, h => by cases h
  | (i, y) :: r, n, x, h => by
    unfold lookT at h
    split at h
    · rename_i hb; cases h; rw [Nat.eq_of_beq_eq_true hb]; exact List.mem_cons_self ..
    · exact List.mem_cons_of_mem _ (lookT_spec r n x h)
def tyList : List (Nat × TI) := [(2, ti2), (3, ti3), (4, ti4), (5, ti5), (7, ti7), (9, ti9), (12, ti12), (13, ti13), (15, ti15), (16, ti16), (17, ti17), (18, ti18), (21, ti21), (22, ti22), (23, ti23), (24, ti24), (25, ti25), (26, ti26), (30, ti30), (31, ti31), (34, ti34), (35, ti35), (36, ti36), (37, ti37), (38, ti38), (39, ti39), (40, ti40), (41, ti41), (42, ti42), (43, ti43), (44, ti44), (45, ti45), (46, ti46), (47, ti47), (48, ti48), (55, ti55), (56, ti56), (61, ti61), (65, ti65), (74, ti74), (75, ti75), (76, ti76), (77, ti77), (82, ti82), (83, ti83), (85, ti85), (86, ti86), (87, ti87), (89, ti89), (90, ti90), (92, ti92), (93, ti93), (98, ti98), (99, ti99), (100, ti100), (101, ti101), (104, ti104), (110, ti110), (111, ti111), (124, ti124), (125, ti125), (127, ti127), (131, ti131), (143, ti143), (146, ti146), (147, ti147), (152, ti152), (153, ti153), (155, ti155), (156, ti156), (158, ti158), (160, ti160), (161, ti161), (162, ti162), (163, ti163), (164, ti164), (165, ti165), (170, ti170), (171, ti171), (173, ti173), (174, ti174), (177, ti177), (179, ti179), (182, ti182), (186, ti186), (187, ti187), (189, ti189), (194, ti194), (199, ti199), (201, ti201), (202, ti202), (207, ti207), (210, ti210)]
def AllTy (P : Program) : List (Nat × TI) → Prop
  | [] => True
  | (t, x) :: r => TyOK P t x ∧ AllTy P r
theorem allTy_spec {P : Program} : ∀ {l : List (Nat × TI)}, AllTy P l → ∀ t x, (t, x) ∈ l → TyOK P t x
  | (_, _) :: r, h, t, x, hm => by
    rcases List.mem_cons.1 hm with he | hm
    · cases he; exact h.1
    · exact allTy_spec h.2 t x hm
theorem allOK : AllTy Try.prog tyList := ⟨ok2, ok3, ok4, ok5, ok7, ok9, ok12, ok13, ok15, ok16, ok17, ok18, ok21, ok22, ok23, ok24, ok25, ok26, ok30, ok31, ok34, ok35, ok36, ok37, ok38, ok39, ok40, ok41, ok42, ok43, ok44, ok45, ok46, ok47, ok48, ok55, ok56, ok61, ok65, ok74, ok75, ok76, ok77, ok82, ok83, ok85, ok86, ok87, ok89, ok90, ok92, ok93, ok98, ok99, ok100, ok101, ok104, ok110, ok111, ok124, ok125, ok127, ok131, ok143, ok146, ok147, ok152, ok153, ok155, ok156, ok158, ok160, ok161, ok162, ok163, ok164, ok165, ok170, ok171, ok173, ok174, ok177, ok179, ok182, ok186, ok187, ok189, ok194, ok199, ok201, ok202, ok207, ok210, trivial⟩
def tyL (n : Nat) : Option TI := lookT tyList n
def fnL : List Nat := [3, 4, 5, 6, 7, 8, 9, 10, 11, 12, 13, 14, 15, 16, 17, 18, 19, 20, 21, 22, 23, 24, 25, 26, 27, 28, 29, 30, 31, 32, 33, 34, 35, 36, 37, 38, 39, 40, 41, 42, 43, 44, 45, 46, 47, 48, 49, 50, 51, 52, 53, 54, 55, 56, 57, 58, 59, 60, 61, 62, 63, 64, 65, 66, 67, 68, 69, 70, 71, 72, 73, 74, 75, 76, 77, 78, 79, 80, 81, 82, 83, 84, 85, 86, 87, 88, 89, 90, 91, 92, 93, 94, 95, 96, 97, 98, 99, 100, 101, 102, 103, 104, 105, 106, 107, 108, 109, 110, 111, 112, 113, 114, 115, 116, 117, 118, 119, 121, 122, 123, 124, 125, 127, 128, 129, 130, 131]
def memB : List Nat → Nat → Bool
  | [], _ => false
  | x :: xs, n => match Nat.beq x n with
    | true => true
    | false => memB xs n
theorem memB_spec : ∀ (l : List Nat) (n : Nat), memB l n = true → n ∈ l
  | x :: xs, n, h => by
    unfold memB at h
    split at h
    · rename_i hb; rw [Nat.eq_of_beq_eq_true hb]; exact List.mem_cons_self ..
    · exact List.mem_cons_of_mem _ (memB_spec xs n h)
def tab : Tab := ⟨tyL, memB fnL⟩
theorem fnOK : (fnL.all fun f => (Try.prog.funcs[f]?).any fun fn => !(fn.name == "runtime.NumGoroutine") && fn.body.isSome) = true := by kernel_rfl
theorem tabOK : TabOK Try.prog tab := by
  refine ⟨fun t ti h => ?_, fun f hf args w => ?_, by kernel_rfl⟩
  · exact allTy_spec allOK t ti (lookT_spec _ _ _ h)
  · have := List.all_eq_true.1 fnOK f (memB_spec fnL f hf)
    obtain ⟨fn, hfn, hb⟩ := (Option.any_eq_true _ _).1 this
    simp only [Bool.and_eq_true, Bool.not_eq_true'] at hb
    obtain ⟨c, hc⟩ := Option.isSome_iff_exists.1 hb.2
    exact MuLone.run_callFunc_enter hfn hb.1 hc args w
end Go.Proofs.Ytghfigeepnbjaaa
