/-
  The table of the types, for the executor. No condition.
-/
import Derived.Test.YtlphkjbadjdleaaProg
import Derived.Test.YtlphkjbadjdleaaP3
import Derived.WalkKit
namespace Go.Proofs.Ytlphkjbadjdleaa
def ti2 : TI := ⟨.int .i64, 1, 8, [.int .i64 0], false, false⟩
@[simp] theorem ti2_size : ti2.size = 1 := rfl
@[simp] theorem ti2_bytes : ti2.bytes = 8 := rfl
@[simp] theorem ti2_zero : ti2.zero = [.int .i64 0] := rfl
def ti3 : TI := ⟨.int .i64, 1, 8, [.int .i64 0], false, false⟩
@[simp] theorem ti3_size : ti3.size = 1 := rfl
@[simp] theorem ti3_bytes : ti3.bytes = 8 := rfl
@[simp] theorem ti3_zero : ti3.zero = [.int .i64 0] := rfl
def ti4 : TI := ⟨.bool, 1, 1, [.bool false], false, false⟩
@[simp] theorem ti4_size : ti4.size = 1 := rfl
@[simp] theorem ti4_bytes : ti4.bytes = 1 := rfl
@[simp] theorem ti4_zero : ti4.zero = [.bool false] := rfl
def ti5 : TI := ⟨.int .u8, 1, 1, [.int .u8 0], false, false⟩
@[simp] theorem ti5_size : ti5.size = 1 := rfl
@[simp] theorem ti5_bytes : ti5.bytes = 1 := rfl
@[simp] theorem ti5_zero : ti5.zero = [.int .u8 0] := rfl
def ti7 : TI := ⟨.struct [(0, 2), (1, 3), (2, 4), (3, 6)], 4, 24, [.int .i64 0, .int .i64 0, .bool false, .int .u8 0], false, false⟩
@[simp] theorem ti7_size : ti7.size = 4 := rfl
@[simp] theorem ti7_bytes : ti7.bytes = 24 := rfl
@[simp] theorem ti7_zero : ti7.zero = [.int .i64 0, .int .i64 0, .bool false, .int .u8 0] := rfl
def ti9 : TI := ⟨.str, 1, 16, [.string ⟨#[]⟩], false, false⟩
@[simp] theorem ti9_size : ti9.size = 1 := rfl
@[simp] theorem ti9_bytes : ti9.bytes = 16 := rfl
@[simp] theorem ti9_zero : ti9.zero = [.string ⟨#[]⟩] := rfl
def ti12 : TI := ⟨.int .u64, 1, 8, [.int .u64 0], false, false⟩
@[simp] theorem ti12_size : ti12.size = 1 := rfl
@[simp] theorem ti12_bytes : ti12.bytes = 8 := rfl
@[simp] theorem ti12_zero : ti12.zero = [.int .u64 0] := rfl
def ti13 : TI := ⟨.struct [(0, 9), (1, 12)], 2, 24, [.string ⟨#[]⟩, .int .u64 0], false, false⟩
@[simp] theorem ti13_size : ti13.size = 2 := rfl
@[simp] theorem ti13_bytes : ti13.bytes = 24 := rfl
@[simp] theorem ti13_zero : ti13.zero = [.string ⟨#[]⟩, .int .u64 0] := rfl
def ti15 : TI := ⟨.ptr 201, 1, 8, [.pointer none], false, false⟩
@[simp] theorem ti15_size : ti15.size = 1 := rfl
@[simp] theorem ti15_bytes : ti15.bytes = 8 := rfl
@[simp] theorem ti15_zero : ti15.zero = [.pointer none] := rfl
def ti16 : TI := ⟨.ptr 204, 1, 8, [.pointer none], false, false⟩
@[simp] theorem ti16_size : ti16.size = 1 := rfl
@[simp] theorem ti16_bytes : ti16.bytes = 8 := rfl
@[simp] theorem ti16_zero : ti16.zero = [.pointer none] := rfl
def ti17 : TI := ⟨.ptr 213, 1, 8, [.pointer none], false, false⟩
@[simp] theorem ti17_size : ti17.size = 1 := rfl
@[simp] theorem ti17_bytes : ti17.bytes = 8 := rfl
@[simp] theorem ti17_zero : ti17.zero = [.pointer none] := rfl
def ti18 : TI := ⟨.struct [(0, 17)], 1, 8, [.pointer none], false, false⟩
@[simp] theorem ti18_size : ti18.size = 1 := rfl
@[simp] theorem ti18_bytes : ti18.bytes = 8 := rfl
@[simp] theorem ti18_zero : ti18.zero = [.pointer none] := rfl
def ti21 : TI := ⟨.int .i32, 1, 4, [.int .i32 0], false, false⟩
@[simp] theorem ti21_size : ti21.size = 1 := rfl
@[simp] theorem ti21_bytes : ti21.bytes = 4 := rfl
@[simp] theorem ti21_zero : ti21.zero = [.int .i32 0] := rfl
def ti22 : TI := ⟨.slice 32, 1, 24, [.slice none 0 0], false, false⟩
@[simp] theorem ti22_size : ti22.size = 1 := rfl
@[simp] theorem ti22_bytes : ti22.bytes = 24 := rfl
@[simp] theorem ti22_zero : ti22.zero = [.slice none 0 0] := rfl
def ti25 : TI := ⟨.ptr 85, 1, 8, [.pointer none], false, false⟩
@[simp] theorem ti25_size : ti25.size = 1 := rfl
@[simp] theorem ti25_bytes : ti25.bytes = 8 := rfl
@[simp] theorem ti25_zero : ti25.zero = [.pointer none] := rfl
def ti27 : TI := ⟨.struct [(0, 3), (1, 9), (2, 9), (3, 3)], 4, 48, [.int .i64 0, .string ⟨#[]⟩, .string ⟨#[]⟩, .int .i64 0], false, false⟩
@[simp] theorem ti27_size : ti27.size = 4 := rfl
@[simp] theorem ti27_bytes : ti27.bytes = 48 := rfl
@[simp] theorem ti27_zero : ti27.zero = [.int .i64 0, .string ⟨#[]⟩, .string ⟨#[]⟩, .int .i64 0] := rfl
def ti28 : TI := ⟨.struct [(0, 3), (1, 9), (2, 9), (3, 3)], 4, 48, [.int .i64 0, .string ⟨#[]⟩, .string ⟨#[]⟩, .int .i64 0], true, false⟩
@[simp] theorem ti28_size : ti28.size = 4 := rfl
@[simp] theorem ti28_bytes : ti28.bytes = 48 := rfl
@[simp] theorem ti28_zero : ti28.zero = [.int .i64 0, .string ⟨#[]⟩, .string ⟨#[]⟩, .int .i64 0] := rfl
set_option maxRecDepth 100000 in
set_option maxHeartbeats 4000000 in
theorem eq28 : ∀ xs ys b, EqC ti28.zero xs ys b → ∀ (x y : Operand) (w : World),
    (do eqGuard .eql 28 x y (.agg xs.toArray) (.agg ys.toArray); binOp .eql 28 (.agg xs.toArray) (.agg ys.toArray) : Sem Value).run Try.prog w = .ok (.bool b) w ∧
    (do eqGuard .neq 28 x y (.agg xs.toArray) (.agg ys.toArray); binOp .neq 28 (.agg xs.toArray) (.agg ys.toArray) : Sem Value).run Try.prog w = .ok (.bool !b) w := by
  intro xs ys b h x y w
  cases h with | int _ _ _ _ h =>
  cases h with | str _ _ _ h =>
  cases h with | str _ _ _ h =>
  cases h with | int _ _ _ _ h =>
  cases h with | nil =>
  constructor
  · simp [go_sem]
    try (repeat' (first | exact eq_one (by rw [Bool.eq_iff_iff]; simp) | refine eq_and (by rw [Bool.eq_iff_iff]; simp) ?_))
  · simp [go_sem]
    try (repeat' (first | exact ne_one (by rw [Bool.eq_iff_iff]; simp) | refine ne_or (by rw [Bool.eq_iff_iff]; simp) ?_))
def ti29 : TI := ⟨.struct [(0, 3), (1, 3), (2, 3), (3, 28)], 7, 72, [.int .i64 0, .int .i64 0, .int .i64 0, .int .i64 0, .string ⟨#[]⟩, .string ⟨#[]⟩, .int .i64 0], false, false⟩
@[simp] theorem ti29_size : ti29.size = 7 := rfl
@[simp] theorem ti29_bytes : ti29.bytes = 72 := rfl
@[simp] theorem ti29_zero : ti29.zero = [.int .i64 0, .int .i64 0, .int .i64 0, .int .i64 0, .string ⟨#[]⟩, .string ⟨#[]⟩, .int .i64 0] := rfl
def ti30 : TI := ⟨.struct [(0, 3), (1, 3), (2, 3), (3, 28)], 7, 72, [.int .i64 0, .int .i64 0, .int .i64 0, .int .i64 0, .string ⟨#[]⟩, .string ⟨#[]⟩, .int .i64 0], true, false⟩
@[simp] theorem ti30_size : ti30.size = 7 := rfl
@[simp] theorem ti30_bytes : ti30.bytes = 72 := rfl
@[simp] theorem ti30_zero : ti30.zero = [.int .i64 0, .int .i64 0, .int .i64 0, .int .i64 0, .string ⟨#[]⟩, .string ⟨#[]⟩, .int .i64 0] := rfl
set_option maxRecDepth 100000 in
set_option maxHeartbeats 4000000 in
theorem eq30 : ∀ xs ys b, EqC ti30.zero xs ys b → ∀ (x y : Operand) (w : World),
    (do eqGuard .eql 30 x y (.agg xs.toArray) (.agg ys.toArray); binOp .eql 30 (.agg xs.toArray) (.agg ys.toArray) : Sem Value).run Try.prog w = .ok (.bool b) w ∧
    (do eqGuard .neq 30 x y (.agg xs.toArray) (.agg ys.toArray); binOp .neq 30 (.agg xs.toArray) (.agg ys.toArray) : Sem Value).run Try.prog w = .ok (.bool !b) w := by
  intro xs ys b h x y w
  cases h with | int _ _ _ _ h =>
  cases h with | int _ _ _ _ h =>
  cases h with | int _ _ _ _ h =>
  cases h with | int _ _ _ _ h =>
  cases h with | str _ _ _ h =>
  cases h with | str _ _ _ h =>
  cases h with | int _ _ _ _ h =>
  cases h with | nil =>
  constructor
  · simp [go_sem]
    try (repeat' (first | exact eq_one (by rw [Bool.eq_iff_iff]; simp) | refine eq_and (by rw [Bool.eq_iff_iff]; simp) ?_))
  · simp [go_sem]
    try (repeat' (first | exact ne_one (by rw [Bool.eq_iff_iff]; simp) | refine ne_or (by rw [Bool.eq_iff_iff]; simp) ?_))
def ti31 : TI := ⟨.struct [(0, 5), (1, 30)], 8, 80, [.int .u8 0, .int .i64 0, .int .i64 0, .int .i64 0, .int .i64 0, .string ⟨#[]⟩, .string ⟨#[]⟩, .int .i64 0], false, false⟩
@[simp] theorem ti31_size : ti31.size = 8 := rfl
@[simp] theorem ti31_bytes : ti31.bytes = 80 := rfl
@[simp] theorem ti31_zero : ti31.zero = [.int .u8 0, .int .i64 0, .int .i64 0, .int .i64 0, .int .i64 0, .string ⟨#[]⟩, .string ⟨#[]⟩, .int .i64 0] := rfl
def ti32 : TI := ⟨.struct [(0, 5), (1, 30)], 8, 80, [.int .u8 0, .int .i64 0, .int .i64 0, .int .i64 0, .int .i64 0, .string ⟨#[]⟩, .string ⟨#[]⟩, .int .i64 0], true, false⟩
@[simp] theorem ti32_size : ti32.size = 8 := rfl
@[simp] theorem ti32_bytes : ti32.bytes = 80 := rfl
@[simp] theorem ti32_zero : ti32.zero = [.int .u8 0, .int .i64 0, .int .i64 0, .int .i64 0, .int .i64 0, .string ⟨#[]⟩, .string ⟨#[]⟩, .int .i64 0] := rfl
set_option maxRecDepth 100000 in
set_option maxHeartbeats 4000000 in
theorem eq32 : ∀ xs ys b, EqC ti32.zero xs ys b → ∀ (x y : Operand) (w : World),
    (do eqGuard .eql 32 x y (.agg xs.toArray) (.agg ys.toArray); binOp .eql 32 (.agg xs.toArray) (.agg ys.toArray) : Sem Value).run Try.prog w = .ok (.bool b) w ∧
    (do eqGuard .neq 32 x y (.agg xs.toArray) (.agg ys.toArray); binOp .neq 32 (.agg xs.toArray) (.agg ys.toArray) : Sem Value).run Try.prog w = .ok (.bool !b) w := by
  intro xs ys b h x y w
  cases h with | int _ _ _ _ h =>
  cases h with | int _ _ _ _ h =>
  cases h with | int _ _ _ _ h =>
  cases h with | int _ _ _ _ h =>
  cases h with | int _ _ _ _ h =>
  cases h with | str _ _ _ h =>
  cases h with | str _ _ _ h =>
  cases h with | int _ _ _ _ h =>
  cases h with | nil =>
  constructor
  · simp [go_sem]
    try (repeat' (first | exact eq_one (by rw [Bool.eq_iff_iff]; simp) | refine eq_and (by rw [Bool.eq_iff_iff]; simp) ?_))
  · simp [go_sem]
    try (repeat' (first | exact ne_one (by rw [Bool.eq_iff_iff]; simp) | refine ne_or (by rw [Bool.eq_iff_iff]; simp) ?_))
def ti35 : TI := ⟨.struct [(0, 3), (1, 9), (2, 3), (3, 3)], 4, 40, [.int .i64 0, .string ⟨#[]⟩, .int .i64 0, .int .i64 0], false, false⟩
@[simp] theorem ti35_size : ti35.size = 4 := rfl
@[simp] theorem ti35_bytes : ti35.bytes = 40 := rfl
@[simp] theorem ti35_zero : ti35.zero = [.int .i64 0, .string ⟨#[]⟩, .int .i64 0, .int .i64 0] := rfl
def ti36 : TI := ⟨.struct [(0, 3), (1, 9), (2, 3), (3, 3)], 4, 40, [.int .i64 0, .string ⟨#[]⟩, .int .i64 0, .int .i64 0], true, false⟩
@[simp] theorem ti36_size : ti36.size = 4 := rfl
@[simp] theorem ti36_bytes : ti36.bytes = 40 := rfl
@[simp] theorem ti36_zero : ti36.zero = [.int .i64 0, .string ⟨#[]⟩, .int .i64 0, .int .i64 0] := rfl
set_option maxRecDepth 100000 in
set_option maxHeartbeats 4000000 in
theorem eq36 : ∀ xs ys b, EqC ti36.zero xs ys b → ∀ (x y : Operand) (w : World),
    (do eqGuard .eql 36 x y (.agg xs.toArray) (.agg ys.toArray); binOp .eql 36 (.agg xs.toArray) (.agg ys.toArray) : Sem Value).run Try.prog w = .ok (.bool b) w ∧
    (do eqGuard .neq 36 x y (.agg xs.toArray) (.agg ys.toArray); binOp .neq 36 (.agg xs.toArray) (.agg ys.toArray) : Sem Value).run Try.prog w = .ok (.bool !b) w := by
  intro xs ys b h x y w
  cases h with | int _ _ _ _ h =>
  cases h with | str _ _ _ h =>
  cases h with | int _ _ _ _ h =>
  cases h with | int _ _ _ _ h =>
  cases h with | nil =>
  constructor
  · simp [go_sem]
    try (repeat' (first | exact eq_one (by rw [Bool.eq_iff_iff]; simp) | refine eq_and (by rw [Bool.eq_iff_iff]; simp) ?_))
  · simp [go_sem]
    try (repeat' (first | exact ne_one (by rw [Bool.eq_iff_iff]; simp) | refine ne_or (by rw [Bool.eq_iff_iff]; simp) ?_))
def ti37 : TI := ⟨.int .i64, 1, 8, [.int .i64 0], false, false⟩
@[simp] theorem ti37_size : ti37.size = 1 := rfl
@[simp] theorem ti37_bytes : ti37.bytes = 8 := rfl
@[simp] theorem ti37_zero : ti37.zero = [.int .i64 0] := rfl
def ti42 : TI := ⟨.slice 30, 1, 24, [.slice none 0 0], false, false⟩
@[simp] theorem ti42_size : ti42.size = 1 := rfl
@[simp] theorem ti42_bytes : ti42.bytes = 24 := rfl
@[simp] theorem ti42_zero : ti42.zero = [.slice none 0 0] := rfl
def ti45 : TI := ⟨.slice 52, 1, 24, [.slice none 0 0], false, false⟩
@[simp] theorem ti45_size : ti45.size = 1 := rfl
@[simp] theorem ti45_bytes : ti45.bytes = 24 := rfl
@[simp] theorem ti45_zero : ti45.zero = [.slice none 0 0] := rfl
def ti47 : TI := ⟨.slice 51, 1, 24, [.slice none 0 0], false, false⟩
@[simp] theorem ti47_size : ti47.size = 1 := rfl
@[simp] theorem ti47_bytes : ti47.bytes = 24 := rfl
@[simp] theorem ti47_zero : ti47.zero = [.slice none 0 0] := rfl
def ti48 : TI := ⟨.struct [(0, 3), (1, 3), (2, 36)], 6, 56, [.int .i64 0, .int .i64 0, .int .i64 0, .string ⟨#[]⟩, .int .i64 0, .int .i64 0], false, false⟩
@[simp] theorem ti48_size : ti48.size = 6 := rfl
@[simp] theorem ti48_bytes : ti48.bytes = 56 := rfl
@[simp] theorem ti48_zero : ti48.zero = [.int .i64 0, .int .i64 0, .int .i64 0, .string ⟨#[]⟩, .int .i64 0, .int .i64 0] := rfl
def ti49 : TI := ⟨.struct [(0, 3), (1, 3), (2, 36)], 6, 56, [.int .i64 0, .int .i64 0, .int .i64 0, .string ⟨#[]⟩, .int .i64 0, .int .i64 0], true, false⟩
@[simp] theorem ti49_size : ti49.size = 6 := rfl
@[simp] theorem ti49_bytes : ti49.bytes = 56 := rfl
@[simp] theorem ti49_zero : ti49.zero = [.int .i64 0, .int .i64 0, .int .i64 0, .string ⟨#[]⟩, .int .i64 0, .int .i64 0] := rfl
set_option maxRecDepth 100000 in
set_option maxHeartbeats 4000000 in
theorem eq49 : ∀ xs ys b, EqC ti49.zero xs ys b → ∀ (x y : Operand) (w : World),
    (do eqGuard .eql 49 x y (.agg xs.toArray) (.agg ys.toArray); binOp .eql 49 (.agg xs.toArray) (.agg ys.toArray) : Sem Value).run Try.prog w = .ok (.bool b) w ∧
    (do eqGuard .neq 49 x y (.agg xs.toArray) (.agg ys.toArray); binOp .neq 49 (.agg xs.toArray) (.agg ys.toArray) : Sem Value).run Try.prog w = .ok (.bool !b) w := by
  intro xs ys b h x y w
  cases h with | int _ _ _ _ h =>
  cases h with | int _ _ _ _ h =>
  cases h with | int _ _ _ _ h =>
  cases h with | str _ _ _ h =>
  cases h with | int _ _ _ _ h =>
  cases h with | int _ _ _ _ h =>
  cases h with | nil =>
  constructor
  · simp [go_sem]
    try (repeat' (first | exact eq_one (by rw [Bool.eq_iff_iff]; simp) | refine eq_and (by rw [Bool.eq_iff_iff]; simp) ?_))
  · simp [go_sem]
    try (repeat' (first | exact ne_one (by rw [Bool.eq_iff_iff]; simp) | refine ne_or (by rw [Bool.eq_iff_iff]; simp) ?_))
def ti50 : TI := ⟨.struct [(0, 3), (1, 3), (2, 28), (6, 3), (7, 3), (8, 49)], 14, 136, [.int .i64 0, .int .i64 0, .int .i64 0, .string ⟨#[]⟩, .string ⟨#[]⟩, .int .i64 0, .int .i64 0, .int .i64 0, .int .i64 0, .int .i64 0, .int .i64 0, .string ⟨#[]⟩, .int .i64 0, .int .i64 0], false, false⟩
@[simp] theorem ti50_size : ti50.size = 14 := rfl
@[simp] theorem ti50_bytes : ti50.bytes = 136 := rfl
@[simp] theorem ti50_zero : ti50.zero = [.int .i64 0, .int .i64 0, .int .i64 0, .string ⟨#[]⟩, .string ⟨#[]⟩, .int .i64 0, .int .i64 0, .int .i64 0, .int .i64 0, .int .i64 0, .int .i64 0, .string ⟨#[]⟩, .int .i64 0, .int .i64 0] := rfl
def ti51 : TI := ⟨.struct [(0, 3), (1, 3), (2, 28), (6, 3), (7, 3), (8, 49)], 14, 136, [.int .i64 0, .int .i64 0, .int .i64 0, .string ⟨#[]⟩, .string ⟨#[]⟩, .int .i64 0, .int .i64 0, .int .i64 0, .int .i64 0, .int .i64 0, .int .i64 0, .string ⟨#[]⟩, .int .i64 0, .int .i64 0], true, false⟩
@[simp] theorem ti51_size : ti51.size = 14 := rfl
@[simp] theorem ti51_bytes : ti51.bytes = 136 := rfl
@[simp] theorem ti51_zero : ti51.zero = [.int .i64 0, .int .i64 0, .int .i64 0, .string ⟨#[]⟩, .string ⟨#[]⟩, .int .i64 0, .int .i64 0, .int .i64 0, .int .i64 0, .int .i64 0, .int .i64 0, .string ⟨#[]⟩, .int .i64 0, .int .i64 0] := rfl
set_option maxRecDepth 100000 in
set_option maxHeartbeats 4000000 in
theorem eq51 : ∀ xs ys b, EqC ti51.zero xs ys b → ∀ (x y : Operand) (w : World),
    (do eqGuard .eql 51 x y (.agg xs.toArray) (.agg ys.toArray); binOp .eql 51 (.agg xs.toArray) (.agg ys.toArray) : Sem Value).run Try.prog w = .ok (.bool b) w ∧
    (do eqGuard .neq 51 x y (.agg xs.toArray) (.agg ys.toArray); binOp .neq 51 (.agg xs.toArray) (.agg ys.toArray) : Sem Value).run Try.prog w = .ok (.bool !b) w := by
  intro xs ys b h x y w
  cases h with | int _ _ _ _ h =>
  cases h with | int _ _ _ _ h =>
  cases h with | int _ _ _ _ h =>
  cases h with | str _ _ _ h =>
  cases h with | str _ _ _ h =>
  cases h with | int _ _ _ _ h =>
  cases h with | int _ _ _ _ h =>
  cases h with | int _ _ _ _ h =>
  cases h with | int _ _ _ _ h =>
  cases h with | int _ _ _ _ h =>
  cases h with | int _ _ _ _ h =>
  cases h with | str _ _ _ h =>
  cases h with | int _ _ _ _ h =>
  cases h with | int _ _ _ _ h =>
  cases h with | nil =>
  constructor
  · simp [go_sem]
    try (repeat' (first | exact eq_one (by rw [Bool.eq_iff_iff]; simp) | refine eq_and (by rw [Bool.eq_iff_iff]; simp) ?_))
  · simp [go_sem]
    try (repeat' (first | exact ne_one (by rw [Bool.eq_iff_iff]; simp) | refine ne_or (by rw [Bool.eq_iff_iff]; simp) ?_))
def ti52 : TI := ⟨.struct [(0, 3), (1, 3), (2, 28), (6, 3), (7, 3), (8, 49)], 14, 136, [.int .i64 0, .int .i64 0, .int .i64 0, .string ⟨#[]⟩, .string ⟨#[]⟩, .int .i64 0, .int .i64 0, .int .i64 0, .int .i64 0, .int .i64 0, .int .i64 0, .string ⟨#[]⟩, .int .i64 0, .int .i64 0], true, false⟩
@[simp] theorem ti52_size : ti52.size = 14 := rfl
@[simp] theorem ti52_bytes : ti52.bytes = 136 := rfl
@[simp] theorem ti52_zero : ti52.zero = [.int .i64 0, .int .i64 0, .int .i64 0, .string ⟨#[]⟩, .string ⟨#[]⟩, .int .i64 0, .int .i64 0, .int .i64 0, .int .i64 0, .int .i64 0, .int .i64 0, .string ⟨#[]⟩, .int .i64 0, .int .i64 0] := rfl
set_option maxRecDepth 100000 in
set_option maxHeartbeats 4000000 in
theorem eq52 : ∀ xs ys b, EqC ti52.zero xs ys b → ∀ (x y : Operand) (w : World),
    (do eqGuard .eql 52 x y (.agg xs.toArray) (.agg ys.toArray); binOp .eql 52 (.agg xs.toArray) (.agg ys.toArray) : Sem Value).run Try.prog w = .ok (.bool b) w ∧
    (do eqGuard .neq 52 x y (.agg xs.toArray) (.agg ys.toArray); binOp .neq 52 (.agg xs.toArray) (.agg ys.toArray) : Sem Value).run Try.prog w = .ok (.bool !b) w := by
  intro xs ys b h x y w
  cases h with | int _ _ _ _ h =>
  cases h with | int _ _ _ _ h =>
  cases h with | int _ _ _ _ h =>
  cases h with | str _ _ _ h =>
  cases h with | str _ _ _ h =>
  cases h with | int _ _ _ _ h =>
  cases h with | int _ _ _ _ h =>
  cases h with | int _ _ _ _ h =>
  cases h with | int _ _ _ _ h =>
  cases h with | int _ _ _ _ h =>
  cases h with | int _ _ _ _ h =>
  cases h with | str _ _ _ h =>
  cases h with | int _ _ _ _ h =>
  cases h with | int _ _ _ _ h =>
  cases h with | nil =>
  constructor
  · simp [go_sem]
    try (repeat' (first | exact eq_one (by rw [Bool.eq_iff_iff]; simp) | refine eq_and (by rw [Bool.eq_iff_iff]; simp) ?_))
  · simp [go_sem]
    try (repeat' (first | exact ne_one (by rw [Bool.eq_iff_iff]; simp) | refine ne_or (by rw [Bool.eq_iff_iff]; simp) ?_))
def ti56 : TI := ⟨.slice 62, 1, 24, [.slice none 0 0], false, false⟩
@[simp] theorem ti56_size : ti56.size = 1 := rfl
@[simp] theorem ti56_bytes : ti56.bytes = 24 := rfl
@[simp] theorem ti56_zero : ti56.zero = [.slice none 0 0] := rfl
def ti60 : TI := ⟨.slice 5, 1, 24, [.slice none 0 0], false, false⟩
@[simp] theorem ti60_size : ti60.size = 1 := rfl
@[simp] theorem ti60_bytes : ti60.bytes = 24 := rfl
@[simp] theorem ti60_zero : ti60.zero = [.slice none 0 0] := rfl
def ti61 : TI := ⟨.struct [(0, 5), (1, 5), (2, 5), (3, 5), (4, 5), (5, 5), (6, 5), (7, 5), (8, 5)], 9, 9, [.int .u8 0, .int .u8 0, .int .u8 0, .int .u8 0, .int .u8 0, .int .u8 0, .int .u8 0, .int .u8 0, .int .u8 0], false, false⟩
@[simp] theorem ti61_size : ti61.size = 9 := rfl
@[simp] theorem ti61_bytes : ti61.bytes = 9 := rfl
@[simp] theorem ti61_zero : ti61.zero = [.int .u8 0, .int .u8 0, .int .u8 0, .int .u8 0, .int .u8 0, .int .u8 0, .int .u8 0, .int .u8 0, .int .u8 0] := rfl
def ti62 : TI := ⟨.struct [(0, 5), (1, 5), (2, 5), (3, 5), (4, 5), (5, 5), (6, 5), (7, 5), (8, 5)], 9, 9, [.int .u8 0, .int .u8 0, .int .u8 0, .int .u8 0, .int .u8 0, .int .u8 0, .int .u8 0, .int .u8 0, .int .u8 0], true, false⟩
@[simp] theorem ti62_size : ti62.size = 9 := rfl
@[simp] theorem ti62_bytes : ti62.bytes = 9 := rfl
@[simp] theorem ti62_zero : ti62.zero = [.int .u8 0, .int .u8 0, .int .u8 0, .int .u8 0, .int .u8 0, .int .u8 0, .int .u8 0, .int .u8 0, .int .u8 0] := rfl
set_option maxRecDepth 100000 in
set_option maxHeartbeats 4000000 in
theorem eq62 : ∀ xs ys b, EqC ti62.zero xs ys b → ∀ (x y : Operand) (w : World),
    (do eqGuard .eql 62 x y (.agg xs.toArray) (.agg ys.toArray); binOp .eql 62 (.agg xs.toArray) (.agg ys.toArray) : Sem Value).run Try.prog w = .ok (.bool b) w ∧
    (do eqGuard .neq 62 x y (.agg xs.toArray) (.agg ys.toArray); binOp .neq 62 (.agg xs.toArray) (.agg ys.toArray) : Sem Value).run Try.prog w = .ok (.bool !b) w := by
  intro xs ys b h x y w
  cases h with | int _ _ _ _ h =>
  cases h with | int _ _ _ _ h =>
  cases h with | int _ _ _ _ h =>
  cases h with | int _ _ _ _ h =>
  cases h with | int _ _ _ _ h =>
  cases h with | int _ _ _ _ h =>
  cases h with | int _ _ _ _ h =>
  cases h with | int _ _ _ _ h =>
  cases h with | int _ _ _ _ h =>
  cases h with | nil =>
  constructor
  · simp [go_sem]
    try (repeat' (first | exact eq_one (by rw [Bool.eq_iff_iff]; simp) | refine eq_and (by rw [Bool.eq_iff_iff]; simp) ?_))
  · simp [go_sem]
    try (repeat' (first | exact ne_one (by rw [Bool.eq_iff_iff]; simp) | refine ne_or (by rw [Bool.eq_iff_iff]; simp) ?_))
def ti64 : TI := ⟨.slice 4, 1, 24, [.slice none 0 0], false, false⟩
@[simp] theorem ti64_size : ti64.size = 1 := rfl
@[simp] theorem ti64_bytes : ti64.bytes = 24 := rfl
@[simp] theorem ti64_zero : ti64.zero = [.slice none 0 0] := rfl
def ti65 : TI := ⟨.ptr 119, 1, 8, [.pointer none], false, false⟩
@[simp] theorem ti65_size : ti65.size = 1 := rfl
@[simp] theorem ti65_bytes : ti65.bytes = 8 := rfl
@[simp] theorem ti65_zero : ti65.zero = [.pointer none] := rfl
def ti69 : TI := ⟨.ptr 71, 1, 8, [.pointer none], false, false⟩
@[simp] theorem ti69_size : ti69.size = 1 := rfl
@[simp] theorem ti69_bytes : ti69.bytes = 8 := rfl
@[simp] theorem ti69_zero : ti69.zero = [.pointer none] := rfl
def ti70 : TI := ⟨.struct [(0, 42)], 1, 24, [.slice none 0 0], false, false⟩
@[simp] theorem ti70_size : ti70.size = 1 := rfl
@[simp] theorem ti70_bytes : ti70.bytes = 24 := rfl
@[simp] theorem ti70_zero : ti70.zero = [.slice none 0 0] := rfl
def ti71 : TI := ⟨.struct [(0, 42)], 1, 24, [.slice none 0 0], false, false⟩
@[simp] theorem ti71_size : ti71.size = 1 := rfl
@[simp] theorem ti71_bytes : ti71.bytes = 24 := rfl
@[simp] theorem ti71_zero : ti71.zero = [.slice none 0 0] := rfl
def ti80 : TI := ⟨.slice 36, 1, 24, [.slice none 0 0], false, false⟩
@[simp] theorem ti80_size : ti80.size = 1 := rfl
@[simp] theorem ti80_bytes : ti80.bytes = 24 := rfl
@[simp] theorem ti80_zero : ti80.zero = [.slice none 0 0] := rfl
def ti81 : TI := ⟨.struct [(0, 3), (1, 3)], 2, 16, [.int .i64 0, .int .i64 0], false, false⟩
@[simp] theorem ti81_size : ti81.size = 2 := rfl
@[simp] theorem ti81_bytes : ti81.bytes = 16 := rfl
@[simp] theorem ti81_zero : ti81.zero = [.int .i64 0, .int .i64 0] := rfl
def ti82 : TI := ⟨.struct [(0, 3), (1, 3)], 2, 16, [.int .i64 0, .int .i64 0], true, false⟩
@[simp] theorem ti82_size : ti82.size = 2 := rfl
@[simp] theorem ti82_bytes : ti82.bytes = 16 := rfl
@[simp] theorem ti82_zero : ti82.zero = [.int .i64 0, .int .i64 0] := rfl
set_option maxRecDepth 100000 in
set_option maxHeartbeats 4000000 in
theorem eq82 : ∀ xs ys b, EqC ti82.zero xs ys b → ∀ (x y : Operand) (w : World),
    (do eqGuard .eql 82 x y (.agg xs.toArray) (.agg ys.toArray); binOp .eql 82 (.agg xs.toArray) (.agg ys.toArray) : Sem Value).run Try.prog w = .ok (.bool b) w ∧
    (do eqGuard .neq 82 x y (.agg xs.toArray) (.agg ys.toArray); binOp .neq 82 (.agg xs.toArray) (.agg ys.toArray) : Sem Value).run Try.prog w = .ok (.bool !b) w := by
  intro xs ys b h x y w
  cases h with | int _ _ _ _ h =>
  cases h with | int _ _ _ _ h =>
  cases h with | nil =>
  constructor
  · simp [go_sem]
    try (repeat' (first | exact eq_one (by rw [Bool.eq_iff_iff]; simp) | refine eq_and (by rw [Bool.eq_iff_iff]; simp) ?_))
  · simp [go_sem]
    try (repeat' (first | exact ne_one (by rw [Bool.eq_iff_iff]; simp) | refine ne_or (by rw [Bool.eq_iff_iff]; simp) ?_))
def ti83 : TI := ⟨.arr 6 82, 12, 96, [.int .i64 0, .int .i64 0, .int .i64 0, .int .i64 0, .int .i64 0, .int .i64 0, .int .i64 0, .int .i64 0, .int .i64 0, .int .i64 0, .int .i64 0, .int .i64 0], false, false⟩
@[simp] theorem ti83_size : ti83.size = 12 := rfl
@[simp] theorem ti83_bytes : ti83.bytes = 96 := rfl
@[simp] theorem ti83_zero : ti83.zero = [.int .i64 0, .int .i64 0, .int .i64 0, .int .i64 0, .int .i64 0, .int .i64 0, .int .i64 0, .int .i64 0, .int .i64 0, .int .i64 0, .int .i64 0, .int .i64 0] := rfl
def ti84 : TI := ⟨.struct [(0, 65), (1, 42), (2, 80), (3, 83)], 15, 152, [.pointer none, .slice none 0 0, .slice none 0 0, .int .i64 0, .int .i64 0, .int .i64 0, .int .i64 0, .int .i64 0, .int .i64 0, .int .i64 0, .int .i64 0, .int .i64 0, .int .i64 0, .int .i64 0, .int .i64 0], false, false⟩
@[simp] theorem ti84_size : ti84.size = 15 := rfl
@[simp] theorem ti84_bytes : ti84.bytes = 152 := rfl
@[simp] theorem ti84_zero : ti84.zero = [.pointer none, .slice none 0 0, .slice none 0 0, .int .i64 0, .int .i64 0, .int .i64 0, .int .i64 0, .int .i64 0, .int .i64 0, .int .i64 0, .int .i64 0, .int .i64 0, .int .i64 0, .int .i64 0, .int .i64 0] := rfl
def ti85 : TI := ⟨.struct [(0, 65), (1, 42), (2, 80), (3, 83)], 15, 152, [.pointer none, .slice none 0 0, .slice none 0 0, .int .i64 0, .int .i64 0, .int .i64 0, .int .i64 0, .int .i64 0, .int .i64 0, .int .i64 0, .int .i64 0, .int .i64 0, .int .i64 0, .int .i64 0, .int .i64 0], false, false⟩
@[simp] theorem ti85_size : ti85.size = 15 := rfl
@[simp] theorem ti85_bytes : ti85.bytes = 152 := rfl
@[simp] theorem ti85_zero : ti85.zero = [.pointer none, .slice none 0 0, .slice none 0 0, .int .i64 0, .int .i64 0, .int .i64 0, .int .i64 0, .int .i64 0, .int .i64 0, .int .i64 0, .int .i64 0, .int .i64 0, .int .i64 0, .int .i64 0, .int .i64 0] := rfl
def ti90 : TI := ⟨.slice 145, 1, 24, [.slice none 0 0], false, false⟩
@[simp] theorem ti90_size : ti90.size = 1 := rfl
@[simp] theorem ti90_bytes : ti90.bytes = 24 := rfl
@[simp] theorem ti90_zero : ti90.zero = [.slice none 0 0] := rfl
def ti91 : TI := ⟨.struct [(0, 3), (1, 90), (2, 3)], 3, 40, [.int .i64 0, .slice none 0 0, .int .i64 0], false, false⟩
@[simp] theorem ti91_size : ti91.size = 3 := rfl
@[simp] theorem ti91_bytes : ti91.bytes = 40 := rfl
@[simp] theorem ti91_zero : ti91.zero = [.int .i64 0, .slice none 0 0, .int .i64 0] := rfl
def ti92 : TI := ⟨.struct [(0, 3), (1, 90), (2, 3)], 3, 40, [.int .i64 0, .slice none 0 0, .int .i64 0], false, false⟩
@[simp] theorem ti92_size : ti92.size = 3 := rfl
@[simp] theorem ti92_bytes : ti92.bytes = 40 := rfl
@[simp] theorem ti92_zero : ti92.zero = [.int .i64 0, .slice none 0 0, .int .i64 0] := rfl
def ti93 : TI := ⟨.struct [(0, 3), (1, 3), (2, 3), (3, 3), (4, 3), (5, 3), (6, 3), (7, 28), (11, 36), (15, 3), (16, 30), (23, 92), (26, 3), (27, 3), (28, 3)], 29, 288, [.int .i64 0, .int .i64 0, .int .i64 0, .int .i64 0, .int .i64 0, .int .i64 0, .int .i64 0, .int .i64 0, .string ⟨#[]⟩, .string ⟨#[]⟩, .int .i64 0, .int .i64 0, .string ⟨#[]⟩, .int .i64 0, .int .i64 0, .int .i64 0, .int .i64 0, .int .i64 0, .int .i64 0, .int .i64 0, .string ⟨#[]⟩, .string ⟨#[]⟩, .int .i64 0, .int .i64 0, .slice none 0 0, .int .i64 0, .int .i64 0, .int .i64 0, .int .i64 0], false, false⟩
@[simp] theorem ti93_size : ti93.size = 29 := rfl
@[simp] theorem ti93_bytes : ti93.bytes = 288 := rfl
@[simp] theorem ti93_zero : ti93.zero = [.int .i64 0, .int .i64 0, .int .i64 0, .int .i64 0, .int .i64 0, .int .i64 0, .int .i64 0, .int .i64 0, .string ⟨#[]⟩, .string ⟨#[]⟩, .int .i64 0, .int .i64 0, .string ⟨#[]⟩, .int .i64 0, .int .i64 0, .int .i64 0, .int .i64 0, .int .i64 0, .int .i64 0, .int .i64 0, .string ⟨#[]⟩, .string ⟨#[]⟩, .int .i64 0, .int .i64 0, .slice none 0 0, .int .i64 0, .int .i64 0, .int .i64 0, .int .i64 0] := rfl
def ti94 : TI := ⟨.struct [(0, 3), (1, 3), (2, 3), (3, 3), (4, 3), (5, 3), (6, 3), (7, 28), (11, 36), (15, 3), (16, 30), (23, 92), (26, 3), (27, 3), (28, 3)], 29, 288, [.int .i64 0, .int .i64 0, .int .i64 0, .int .i64 0, .int .i64 0, .int .i64 0, .int .i64 0, .int .i64 0, .string ⟨#[]⟩, .string ⟨#[]⟩, .int .i64 0, .int .i64 0, .string ⟨#[]⟩, .int .i64 0, .int .i64 0, .int .i64 0, .int .i64 0, .int .i64 0, .int .i64 0, .int .i64 0, .string ⟨#[]⟩, .string ⟨#[]⟩, .int .i64 0, .int .i64 0, .slice none 0 0, .int .i64 0, .int .i64 0, .int .i64 0, .int .i64 0], false, false⟩
@[simp] theorem ti94_size : ti94.size = 29 := rfl
@[simp] theorem ti94_bytes : ti94.bytes = 288 := rfl
@[simp] theorem ti94_zero : ti94.zero = [.int .i64 0, .int .i64 0, .int .i64 0, .int .i64 0, .int .i64 0, .int .i64 0, .int .i64 0, .int .i64 0, .string ⟨#[]⟩, .string ⟨#[]⟩, .int .i64 0, .int .i64 0, .string ⟨#[]⟩, .int .i64 0, .int .i64 0, .int .i64 0, .int .i64 0, .int .i64 0, .int .i64 0, .int .i64 0, .string ⟨#[]⟩, .string ⟨#[]⟩, .int .i64 0, .int .i64 0, .slice none 0 0, .int .i64 0, .int .i64 0, .int .i64 0, .int .i64 0] := rfl
def ti99 : TI := ⟨.int .u16, 1, 2, [.int .u16 0], false, false⟩
@[simp] theorem ti99_size : ti99.size = 1 := rfl
@[simp] theorem ti99_bytes : ti99.bytes = 2 := rfl
@[simp] theorem ti99_zero : ti99.zero = [.int .u16 0] := rfl
def ti110 : TI := ⟨.ptr 154, 1, 8, [.pointer none], false, false⟩
@[simp] theorem ti110_size : ti110.size = 1 := rfl
@[simp] theorem ti110_bytes : ti110.bytes = 8 := rfl
@[simp] theorem ti110_zero : ti110.zero = [.pointer none] := rfl
def ti112 : TI := ⟨.slice 3, 1, 24, [.slice none 0 0], false, false⟩
@[simp] theorem ti112_size : ti112.size = 1 := rfl
@[simp] theorem ti112_bytes : ti112.bytes = 24 := rfl
@[simp] theorem ti112_zero : ti112.zero = [.slice none 0 0] := rfl
def ti117 : TI := ⟨.map 9 121, 1, 8, [.map none], false, false⟩
@[simp] theorem ti117_size : ti117.size = 1 := rfl
@[simp] theorem ti117_bytes : ti117.bytes = 8 := rfl
@[simp] theorem ti117_zero : ti117.zero = [.map none] := rfl
def ti118 : TI := ⟨.struct [(0, 117)], 1, 8, [.map none], false, false⟩
@[simp] theorem ti118_size : ti118.size = 1 := rfl
@[simp] theorem ti118_bytes : ti118.bytes = 8 := rfl
@[simp] theorem ti118_zero : ti118.zero = [.map none] := rfl
def ti119 : TI := ⟨.struct [(0, 117)], 1, 8, [.map none], false, false⟩
@[simp] theorem ti119_size : ti119.size = 1 := rfl
@[simp] theorem ti119_bytes : ti119.bytes = 8 := rfl
@[simp] theorem ti119_zero : ti119.zero = [.map none] := rfl
def ti120 : TI := ⟨.struct [(0, 9), (1, 3)], 2, 24, [.string ⟨#[]⟩, .int .i64 0], false, false⟩
@[simp] theorem ti120_size : ti120.size = 2 := rfl
@[simp] theorem ti120_bytes : ti120.bytes = 24 := rfl
@[simp] theorem ti120_zero : ti120.zero = [.string ⟨#[]⟩, .int .i64 0] := rfl
def ti121 : TI := ⟨.struct [(0, 9), (1, 3)], 2, 24, [.string ⟨#[]⟩, .int .i64 0], true, false⟩
@[simp] theorem ti121_size : ti121.size = 2 := rfl
@[simp] theorem ti121_bytes : ti121.bytes = 24 := rfl
@[simp] theorem ti121_zero : ti121.zero = [.string ⟨#[]⟩, .int .i64 0] := rfl
set_option maxRecDepth 100000 in
set_option maxHeartbeats 4000000 in
theorem eq121 : ∀ xs ys b, EqC ti121.zero xs ys b → ∀ (x y : Operand) (w : World),
    (do eqGuard .eql 121 x y (.agg xs.toArray) (.agg ys.toArray); binOp .eql 121 (.agg xs.toArray) (.agg ys.toArray) : Sem Value).run Try.prog w = .ok (.bool b) w ∧
    (do eqGuard .neq 121 x y (.agg xs.toArray) (.agg ys.toArray); binOp .neq 121 (.agg xs.toArray) (.agg ys.toArray) : Sem Value).run Try.prog w = .ok (.bool !b) w := by
  intro xs ys b h x y w
  cases h with | str _ _ _ h =>
  cases h with | int _ _ _ _ h =>
  cases h with | nil =>
  constructor
  · simp [go_sem]
    try (repeat' (first | exact eq_one (by rw [Bool.eq_iff_iff]; simp) | refine eq_and (by rw [Bool.eq_iff_iff]; simp) ?_))
  · simp [go_sem]
    try (repeat' (first | exact ne_one (by rw [Bool.eq_iff_iff]; simp) | refine ne_or (by rw [Bool.eq_iff_iff]; simp) ?_))
def ti123 : TI := ⟨.slice 174, 1, 24, [.slice none 0 0], false, false⟩
@[simp] theorem ti123_size : ti123.size = 1 := rfl
@[simp] theorem ti123_bytes : ti123.bytes = 24 := rfl
@[simp] theorem ti123_zero : ti123.zero = [.slice none 0 0] := rfl
def ti129 : TI := ⟨.ptr 3, 1, 8, [.pointer none], false, false⟩
@[simp] theorem ti129_size : ti129.size = 1 := rfl
@[simp] theorem ti129_bytes : ti129.bytes = 8 := rfl
@[simp] theorem ti129_zero : ti129.zero = [.pointer none] := rfl
def ti130 : TI := ⟨.slice 129, 1, 24, [.slice none 0 0], false, false⟩
@[simp] theorem ti130_size : ti130.size = 1 := rfl
@[simp] theorem ti130_bytes : ti130.bytes = 24 := rfl
@[simp] theorem ti130_zero : ti130.zero = [.slice none 0 0] := rfl
def ti132 : TI := ⟨.ptr 94, 1, 8, [.pointer none], false, false⟩
@[simp] theorem ti132_size : ti132.size = 1 := rfl
@[simp] theorem ti132_bytes : ti132.bytes = 8 := rfl
@[simp] theorem ti132_zero : ti132.zero = [.pointer none] := rfl
def ti144 : TI := ⟨.struct [(0, 3), (1, 3)], 2, 16, [.int .i64 0, .int .i64 0], false, false⟩
@[simp] theorem ti144_size : ti144.size = 2 := rfl
@[simp] theorem ti144_bytes : ti144.bytes = 16 := rfl
@[simp] theorem ti144_zero : ti144.zero = [.int .i64 0, .int .i64 0] := rfl
def ti145 : TI := ⟨.struct [(0, 3), (1, 3)], 2, 16, [.int .i64 0, .int .i64 0], true, false⟩
@[simp] theorem ti145_size : ti145.size = 2 := rfl
@[simp] theorem ti145_bytes : ti145.bytes = 16 := rfl
@[simp] theorem ti145_zero : ti145.zero = [.int .i64 0, .int .i64 0] := rfl
set_option maxRecDepth 100000 in
set_option maxHeartbeats 4000000 in
theorem eq145 : ∀ xs ys b, EqC ti145.zero xs ys b → ∀ (x y : Operand) (w : World),
    (do eqGuard .eql 145 x y (.agg xs.toArray) (.agg ys.toArray); binOp .eql 145 (.agg xs.toArray) (.agg ys.toArray) : Sem Value).run Try.prog w = .ok (.bool b) w ∧
    (do eqGuard .neq 145 x y (.agg xs.toArray) (.agg ys.toArray); binOp .neq 145 (.agg xs.toArray) (.agg ys.toArray) : Sem Value).run Try.prog w = .ok (.bool !b) w := by
  intro xs ys b h x y w
  cases h with | int _ _ _ _ h =>
  cases h with | int _ _ _ _ h =>
  cases h with | nil =>
  constructor
  · simp [go_sem]
    try (repeat' (first | exact eq_one (by rw [Bool.eq_iff_iff]; simp) | refine eq_and (by rw [Bool.eq_iff_iff]; simp) ?_))
  · simp [go_sem]
    try (repeat' (first | exact ne_one (by rw [Bool.eq_iff_iff]; simp) | refine ne_or (by rw [Bool.eq_iff_iff]; simp) ?_))
def ti151 : TI := ⟨.map 158 160, 1, 8, [.map none], false, false⟩
@[simp] theorem ti151_size : ti151.size = 1 := rfl
@[simp] theorem ti151_bytes : ti151.bytes = 8 := rfl
@[simp] theorem ti151_zero : ti151.zero = [.map none] := rfl
def ti152 : TI := ⟨.map 163 36, 1, 8, [.map none], false, false⟩
@[simp] theorem ti152_size : ti152.size = 1 := rfl
@[simp] theorem ti152_bytes : ti152.bytes = 8 := rfl
@[simp] theorem ti152_zero : ti152.zero = [.map none] := rfl
def ti153 : TI := ⟨.struct [(0, 151), (1, 152), (2, 3)], 3, 24, [.map none, .map none, .int .i64 0], false, false⟩
@[simp] theorem ti153_size : ti153.size = 3 := rfl
@[simp] theorem ti153_bytes : ti153.bytes = 24 := rfl
@[simp] theorem ti153_zero : ti153.zero = [.map none, .map none, .int .i64 0] := rfl
def ti154 : TI := ⟨.struct [(0, 151), (1, 152), (2, 3)], 3, 24, [.map none, .map none, .int .i64 0], false, false⟩
@[simp] theorem ti154_size : ti154.size = 3 := rfl
@[simp] theorem ti154_bytes : ti154.bytes = 24 := rfl
@[simp] theorem ti154_zero : ti154.zero = [.map none, .map none, .int .i64 0] := rfl
def ti155 : TI := ⟨.slice 156, 1, 24, [.slice none 0 0], false, false⟩
@[simp] theorem ti155_size : ti155.size = 1 := rfl
@[simp] theorem ti155_bytes : ti155.bytes = 24 := rfl
@[simp] theorem ti155_zero : ti155.zero = [.slice none 0 0] := rfl
def ti156 : TI := ⟨.slice 9, 1, 24, [.slice none 0 0], false, false⟩
@[simp] theorem ti156_size : ti156.size = 1 := rfl
@[simp] theorem ti156_bytes : ti156.bytes = 24 := rfl
@[simp] theorem ti156_zero : ti156.zero = [.slice none 0 0] := rfl
def ti157 : TI := ⟨.struct [(0, 3), (1, 3)], 2, 16, [.int .i64 0, .int .i64 0], false, false⟩
@[simp] theorem ti157_size : ti157.size = 2 := rfl
@[simp] theorem ti157_bytes : ti157.bytes = 16 := rfl
@[simp] theorem ti157_zero : ti157.zero = [.int .i64 0, .int .i64 0] := rfl
def ti158 : TI := ⟨.struct [(0, 3), (1, 3)], 2, 16, [.int .i64 0, .int .i64 0], true, true⟩
@[simp] theorem ti158_size : ti158.size = 2 := rfl
@[simp] theorem ti158_bytes : ti158.bytes = 16 := rfl
@[simp] theorem ti158_zero : ti158.zero = [.int .i64 0, .int .i64 0] := rfl
set_option maxRecDepth 100000 in
set_option maxHeartbeats 4000000 in
theorem eq158 : ∀ xs ys b, EqC ti158.zero xs ys b → ∀ (x y : Operand) (w : World),
    (do eqGuard .eql 158 x y (.agg xs.toArray) (.agg ys.toArray); binOp .eql 158 (.agg xs.toArray) (.agg ys.toArray) : Sem Value).run Try.prog w = .ok (.bool b) w ∧
    (do eqGuard .neq 158 x y (.agg xs.toArray) (.agg ys.toArray); binOp .neq 158 (.agg xs.toArray) (.agg ys.toArray) : Sem Value).run Try.prog w = .ok (.bool !b) w := by
  intro xs ys b h x y w
  cases h with | int _ _ _ _ h =>
  cases h with | int _ _ _ _ h =>
  cases h with | nil =>
  constructor
  · simp [go_sem]
    try (repeat' (first | exact eq_one (by rw [Bool.eq_iff_iff]; simp) | refine eq_and (by rw [Bool.eq_iff_iff]; simp) ?_))
  · simp [go_sem]
    try (repeat' (first | exact ne_one (by rw [Bool.eq_iff_iff]; simp) | refine ne_or (by rw [Bool.eq_iff_iff]; simp) ?_))
def ti159 : TI := ⟨.struct [(0, 3), (1, 3), (2, 28), (6, 36)], 10, 104, [.int .i64 0, .int .i64 0, .int .i64 0, .string ⟨#[]⟩, .string ⟨#[]⟩, .int .i64 0, .int .i64 0, .string ⟨#[]⟩, .int .i64 0, .int .i64 0], false, false⟩
@[simp] theorem ti159_size : ti159.size = 10 := rfl
@[simp] theorem ti159_bytes : ti159.bytes = 104 := rfl
@[simp] theorem ti159_zero : ti159.zero = [.int .i64 0, .int .i64 0, .int .i64 0, .string ⟨#[]⟩, .string ⟨#[]⟩, .int .i64 0, .int .i64 0, .string ⟨#[]⟩, .int .i64 0, .int .i64 0] := rfl
def ti160 : TI := ⟨.struct [(0, 3), (1, 3), (2, 28), (6, 36)], 10, 104, [.int .i64 0, .int .i64 0, .int .i64 0, .string ⟨#[]⟩, .string ⟨#[]⟩, .int .i64 0, .int .i64 0, .string ⟨#[]⟩, .int .i64 0, .int .i64 0], true, false⟩
@[simp] theorem ti160_size : ti160.size = 10 := rfl
@[simp] theorem ti160_bytes : ti160.bytes = 104 := rfl
@[simp] theorem ti160_zero : ti160.zero = [.int .i64 0, .int .i64 0, .int .i64 0, .string ⟨#[]⟩, .string ⟨#[]⟩, .int .i64 0, .int .i64 0, .string ⟨#[]⟩, .int .i64 0, .int .i64 0] := rfl
set_option maxRecDepth 100000 in
set_option maxHeartbeats 4000000 in
theorem eq160 : ∀ xs ys b, EqC ti160.zero xs ys b → ∀ (x y : Operand) (w : World),
    (do eqGuard .eql 160 x y (.agg xs.toArray) (.agg ys.toArray); binOp .eql 160 (.agg xs.toArray) (.agg ys.toArray) : Sem Value).run Try.prog w = .ok (.bool b) w ∧
    (do eqGuard .neq 160 x y (.agg xs.toArray) (.agg ys.toArray); binOp .neq 160 (.agg xs.toArray) (.agg ys.toArray) : Sem Value).run Try.prog w = .ok (.bool !b) w := by
  intro xs ys b h x y w
  cases h with | int _ _ _ _ h =>
  cases h with | int _ _ _ _ h =>
  cases h with | int _ _ _ _ h =>
  cases h with | str _ _ _ h =>
  cases h with | str _ _ _ h =>
  cases h with | int _ _ _ _ h =>
  cases h with | int _ _ _ _ h =>
  cases h with | str _ _ _ h =>
  cases h with | int _ _ _ _ h =>
  cases h with | int _ _ _ _ h =>
  cases h with | nil =>
  constructor
  · simp [go_sem]
    try (repeat' (first | exact eq_one (by rw [Bool.eq_iff_iff]; simp) | refine eq_and (by rw [Bool.eq_iff_iff]; simp) ?_))
  · simp [go_sem]
    try (repeat' (first | exact ne_one (by rw [Bool.eq_iff_iff]; simp) | refine ne_or (by rw [Bool.eq_iff_iff]; simp) ?_))
def ti162 : TI := ⟨.struct [(0, 3), (1, 9)], 2, 24, [.int .i64 0, .string ⟨#[]⟩], false, false⟩
@[simp] theorem ti162_size : ti162.size = 2 := rfl
@[simp] theorem ti162_bytes : ti162.bytes = 24 := rfl
@[simp] theorem ti162_zero : ti162.zero = [.int .i64 0, .string ⟨#[]⟩] := rfl
def ti163 : TI := ⟨.struct [(0, 3), (1, 9)], 2, 24, [.int .i64 0, .string ⟨#[]⟩], true, true⟩
@[simp] theorem ti163_size : ti163.size = 2 := rfl
@[simp] theorem ti163_bytes : ti163.bytes = 24 := rfl
@[simp] theorem ti163_zero : ti163.zero = [.int .i64 0, .string ⟨#[]⟩] := rfl
set_option maxRecDepth 100000 in
set_option maxHeartbeats 4000000 in
theorem eq163 : ∀ xs ys b, EqC ti163.zero xs ys b → ∀ (x y : Operand) (w : World),
    (do eqGuard .eql 163 x y (.agg xs.toArray) (.agg ys.toArray); binOp .eql 163 (.agg xs.toArray) (.agg ys.toArray) : Sem Value).run Try.prog w = .ok (.bool b) w ∧
    (do eqGuard .neq 163 x y (.agg xs.toArray) (.agg ys.toArray); binOp .neq 163 (.agg xs.toArray) (.agg ys.toArray) : Sem Value).run Try.prog w = .ok (.bool !b) w := by
  intro xs ys b h x y w
  cases h with | int _ _ _ _ h =>
  cases h with | str _ _ _ h =>
  cases h with | nil =>
  constructor
  · simp [go_sem]
    try (repeat' (first | exact eq_one (by rw [Bool.eq_iff_iff]; simp) | refine eq_and (by rw [Bool.eq_iff_iff]; simp) ?_))
  · simp [go_sem]
    try (repeat' (first | exact ne_one (by rw [Bool.eq_iff_iff]; simp) | refine ne_or (by rw [Bool.eq_iff_iff]; simp) ?_))
def ti164 : TI := ⟨.map 166 3, 1, 8, [.map none], false, false⟩
@[simp] theorem ti164_size : ti164.size = 1 := rfl
@[simp] theorem ti164_bytes : ti164.bytes = 8 := rfl
@[simp] theorem ti164_zero : ti164.zero = [.map none] := rfl
def ti165 : TI := ⟨.struct [(0, 158), (2, 28)], 6, 64, [.int .i64 0, .int .i64 0, .int .i64 0, .string ⟨#[]⟩, .string ⟨#[]⟩, .int .i64 0], false, false⟩
@[simp] theorem ti165_size : ti165.size = 6 := rfl
@[simp] theorem ti165_bytes : ti165.bytes = 64 := rfl
@[simp] theorem ti165_zero : ti165.zero = [.int .i64 0, .int .i64 0, .int .i64 0, .string ⟨#[]⟩, .string ⟨#[]⟩, .int .i64 0] := rfl
def ti166 : TI := ⟨.struct [(0, 158), (2, 28)], 6, 64, [.int .i64 0, .int .i64 0, .int .i64 0, .string ⟨#[]⟩, .string ⟨#[]⟩, .int .i64 0], true, true⟩
@[simp] theorem ti166_size : ti166.size = 6 := rfl
@[simp] theorem ti166_bytes : ti166.bytes = 64 := rfl
@[simp] theorem ti166_zero : ti166.zero = [.int .i64 0, .int .i64 0, .int .i64 0, .string ⟨#[]⟩, .string ⟨#[]⟩, .int .i64 0] := rfl
set_option maxRecDepth 100000 in
set_option maxHeartbeats 4000000 in
theorem eq166 : ∀ xs ys b, EqC ti166.zero xs ys b → ∀ (x y : Operand) (w : World),
    (do eqGuard .eql 166 x y (.agg xs.toArray) (.agg ys.toArray); binOp .eql 166 (.agg xs.toArray) (.agg ys.toArray) : Sem Value).run Try.prog w = .ok (.bool b) w ∧
    (do eqGuard .neq 166 x y (.agg xs.toArray) (.agg ys.toArray); binOp .neq 166 (.agg xs.toArray) (.agg ys.toArray) : Sem Value).run Try.prog w = .ok (.bool !b) w := by
  intro xs ys b h x y w
  cases h with | int _ _ _ _ h =>
  cases h with | int _ _ _ _ h =>
  cases h with | int _ _ _ _ h =>
  cases h with | str _ _ _ h =>
  cases h with | str _ _ _ h =>
  cases h with | int _ _ _ _ h =>
  cases h with | nil =>
  constructor
  · simp [go_sem]
    try (repeat' (first | exact eq_one (by rw [Bool.eq_iff_iff]; simp) | refine eq_and (by rw [Bool.eq_iff_iff]; simp) ?_))
  · simp [go_sem]
    try (repeat' (first | exact ne_one (by rw [Bool.eq_iff_iff]; simp) | refine ne_or (by rw [Bool.eq_iff_iff]; simp) ?_))
def ti173 : TI := ⟨.struct [(0, 9), (1, 9), (2, 3)], 3, 40, [.string ⟨#[]⟩, .string ⟨#[]⟩, .int .i64 0], false, false⟩
@[simp] theorem ti173_size : ti173.size = 3 := rfl
@[simp] theorem ti173_bytes : ti173.bytes = 40 := rfl
@[simp] theorem ti173_zero : ti173.zero = [.string ⟨#[]⟩, .string ⟨#[]⟩, .int .i64 0] := rfl
def ti174 : TI := ⟨.struct [(0, 9), (1, 9), (2, 3)], 3, 40, [.string ⟨#[]⟩, .string ⟨#[]⟩, .int .i64 0], true, false⟩
@[simp] theorem ti174_size : ti174.size = 3 := rfl
@[simp] theorem ti174_bytes : ti174.bytes = 40 := rfl
@[simp] theorem ti174_zero : ti174.zero = [.string ⟨#[]⟩, .string ⟨#[]⟩, .int .i64 0] := rfl
set_option maxRecDepth 100000 in
set_option maxHeartbeats 4000000 in
theorem eq174 : ∀ xs ys b, EqC ti174.zero xs ys b → ∀ (x y : Operand) (w : World),
    (do eqGuard .eql 174 x y (.agg xs.toArray) (.agg ys.toArray); binOp .eql 174 (.agg xs.toArray) (.agg ys.toArray) : Sem Value).run Try.prog w = .ok (.bool b) w ∧
    (do eqGuard .neq 174 x y (.agg xs.toArray) (.agg ys.toArray); binOp .neq 174 (.agg xs.toArray) (.agg ys.toArray) : Sem Value).run Try.prog w = .ok (.bool !b) w := by
  intro xs ys b h x y w
  cases h with | str _ _ _ h =>
  cases h with | str _ _ _ h =>
  cases h with | int _ _ _ _ h =>
  cases h with | nil =>
  constructor
  · simp [go_sem]
    try (repeat' (first | exact eq_one (by rw [Bool.eq_iff_iff]; simp) | refine eq_and (by rw [Bool.eq_iff_iff]; simp) ?_))
  · simp [go_sem]
    try (repeat' (first | exact ne_one (by rw [Bool.eq_iff_iff]; simp) | refine ne_or (by rw [Bool.eq_iff_iff]; simp) ?_))
def ti177 : TI := ⟨.int .u64, 1, 8, [.int .u64 0], false, false⟩
@[simp] theorem ti177_size : ti177.size = 1 := rfl
@[simp] theorem ti177_bytes : ti177.bytes = 8 := rfl
@[simp] theorem ti177_zero : ti177.zero = [.int .u64 0] := rfl
def ti195 : TI := ⟨.int .u64, 1, 8, [.int .u64 0], false, false⟩
@[simp] theorem ti195_size : ti195.size = 1 := rfl
@[simp] theorem ti195_bytes : ti195.bytes = 8 := rfl
@[simp] theorem ti195_zero : ti195.zero = [.int .u64 0] := rfl
def ti200 : TI := ⟨.struct [(0, 17), (1, 17), (2, 17), (3, 9)], 4, 40, [.pointer none, .pointer none, .pointer none, .string ⟨#[]⟩], false, false⟩
@[simp] theorem ti200_size : ti200.size = 4 := rfl
@[simp] theorem ti200_bytes : ti200.bytes = 40 := rfl
@[simp] theorem ti200_zero : ti200.zero = [.pointer none, .pointer none, .pointer none, .string ⟨#[]⟩] := rfl
def ti202 : TI := ⟨.arr 0 16, 0, 0, [], false, false⟩
@[simp] theorem ti202_size : ti202.size = 0 := rfl
@[simp] theorem ti202_bytes : ti202.bytes = 0 := rfl
@[simp] theorem ti202_zero : ti202.zero = [] := rfl
def ti203 : TI := ⟨.struct [(0, 202)], 0, 0, [], false, false⟩
@[simp] theorem ti203_size : ti203.size = 0 := rfl
@[simp] theorem ti203_bytes : ti203.bytes = 0 := rfl
@[simp] theorem ti203_zero : ti203.zero = [] := rfl
def ti205 : TI := ⟨.int .u32, 1, 4, [.int .u32 0], false, false⟩
@[simp] theorem ti205_size : ti205.size = 1 := rfl
@[simp] theorem ti205_bytes : ti205.bytes = 4 := rfl
@[simp] theorem ti205_zero : ti205.zero = [.int .u32 0] := rfl
def ti209 : TI := ⟨.ptr 5, 1, 8, [.pointer none], false, false⟩
@[simp] theorem ti209_size : ti209.size = 1 := rfl
@[simp] theorem ti209_bytes : ti209.bytes = 8 := rfl
@[simp] theorem ti209_zero : ti209.zero = [.pointer none] := rfl
def ti212 : TI := ⟨.struct [(0, 12), (1, 12), (2, 205), (3, 206), (4, 5), (5, 5), (6, 207), (7, 208), (8, 209), (9, 210), (10, 211)], 11, 48, [.int .u64 0, .int .u64 0, .int .u32 0, .int .u8 0, .int .u8 0, .int .u8 0, .int .u8 0, .nilFunc, .pointer none, .int .i32 0, .int .i32 0], false, false⟩
@[simp] theorem ti212_size : ti212.size = 11 := rfl
@[simp] theorem ti212_bytes : ti212.bytes = 48 := rfl
@[simp] theorem ti212_zero : ti212.zero = [.int .u64 0, .int .u64 0, .int .u32 0, .int .u8 0, .int .u8 0, .int .u8 0, .int .u8 0, .nilFunc, .pointer none, .int .i32 0, .int .i32 0] := rfl
set_option maxRecDepth 100000 in
set_option maxHeartbeats 4000000 in
theorem keq158 : ∀ xs ys b, EqC ti158.zero xs ys b → ∀ (w : World), (Op.equal 158 (.agg xs.toArray) (.agg ys.toArray)).run Try.prog w = .ok b w := by
  intro xs ys b h w
  cases h with | int _ _ _ _ h =>
  cases h with | int _ _ _ _ h =>
  cases h with | nil =>
  apply equal_of_bin
  simp [go_sem]
  try (repeat' (first | exact eq_one (by rw [Bool.eq_iff_iff]; simp) | refine eq_and (by rw [Bool.eq_iff_iff]; simp) ?_))
set_option maxRecDepth 100000 in
set_option maxHeartbeats 4000000 in
theorem kck158 : ∀ xs, sameKinds ti158.zero xs = true → ∀ (w : World) (empty : Bool), (Instr.checkKey empty 10000 158 (.agg xs.toArray)).run Try.prog w = .ok () w := by
  intro xs h w empty
  have h1 := kinds_cons h
  clear h
  obtain ⟨x, xs, rfl, hk, h⟩ := h1
  obtain ⟨_, _, _, e, rfl⟩ | ⟨_, _, e, rfl⟩ | ⟨_, _, e, rfl⟩ := sameKind_inv hk <;> first | (cases e; done) | skip
  cases e
  have h1 := kinds_cons h
  clear h
  obtain ⟨x, xs, rfl, hk, h⟩ := h1
  obtain ⟨_, _, _, e, rfl⟩ | ⟨_, _, e, rfl⟩ | ⟨_, _, e, rfl⟩ := sameKind_inv hk <;> first | (cases e; done) | skip
  cases e
  obtain rfl := kinds_nil h
  suffices hs : ∀ n, (Instr.checkKey empty (n + 4) 158 _).run Try.prog w = .ok () w from hs 9996
  intro n
  simp [Instr.checkKey, go_sem]
set_option maxRecDepth 100000 in
set_option maxHeartbeats 4000000 in
theorem keq163 : ∀ xs ys b, EqC ti163.zero xs ys b → ∀ (w : World), (Op.equal 163 (.agg xs.toArray) (.agg ys.toArray)).run Try.prog w = .ok b w := by
  intro xs ys b h w
  cases h with | int _ _ _ _ h =>
  cases h with | str _ _ _ h =>
  cases h with | nil =>
  apply equal_of_bin
  simp [go_sem]
  try (repeat' (first | exact eq_one (by rw [Bool.eq_iff_iff]; simp) | refine eq_and (by rw [Bool.eq_iff_iff]; simp) ?_))
set_option maxRecDepth 100000 in
set_option maxHeartbeats 4000000 in
theorem kck163 : ∀ xs, sameKinds ti163.zero xs = true → ∀ (w : World) (empty : Bool), (Instr.checkKey empty 10000 163 (.agg xs.toArray)).run Try.prog w = .ok () w := by
  intro xs h w empty
  have h1 := kinds_cons h
  clear h
  obtain ⟨x, xs, rfl, hk, h⟩ := h1
  obtain ⟨_, _, _, e, rfl⟩ | ⟨_, _, e, rfl⟩ | ⟨_, _, e, rfl⟩ := sameKind_inv hk <;> first | (cases e; done) | skip
  cases e
  have h1 := kinds_cons h
  clear h
  obtain ⟨x, xs, rfl, hk, h⟩ := h1
  obtain ⟨_, _, _, e, rfl⟩ | ⟨_, _, e, rfl⟩ | ⟨_, _, e, rfl⟩ := sameKind_inv hk <;> first | (cases e; done) | skip
  cases e
  obtain rfl := kinds_nil h
  suffices hs : ∀ n, (Instr.checkKey empty (n + 4) 163 _).run Try.prog w = .ok () w from hs 9996
  intro n
  simp [Instr.checkKey, go_sem]
set_option maxRecDepth 100000 in
set_option maxHeartbeats 4000000 in
theorem keq166 : ∀ xs ys b, EqC ti166.zero xs ys b → ∀ (w : World), (Op.equal 166 (.agg xs.toArray) (.agg ys.toArray)).run Try.prog w = .ok b w := by
  intro xs ys b h w
  cases h with | int _ _ _ _ h =>
  cases h with | int _ _ _ _ h =>
  cases h with | int _ _ _ _ h =>
  cases h with | str _ _ _ h =>
  cases h with | str _ _ _ h =>
  cases h with | int _ _ _ _ h =>
  cases h with | nil =>
  apply equal_of_bin
  simp [go_sem]
  try (repeat' (first | exact eq_one (by rw [Bool.eq_iff_iff]; simp) | refine eq_and (by rw [Bool.eq_iff_iff]; simp) ?_))
set_option maxRecDepth 100000 in
set_option maxHeartbeats 4000000 in
theorem kck166 : ∀ xs, sameKinds ti166.zero xs = true → ∀ (w : World) (empty : Bool), (Instr.checkKey empty 10000 166 (.agg xs.toArray)).run Try.prog w = .ok () w := by
  intro xs h w empty
  have h1 := kinds_cons h
  clear h
  obtain ⟨x, xs, rfl, hk, h⟩ := h1
  obtain ⟨_, _, _, e, rfl⟩ | ⟨_, _, e, rfl⟩ | ⟨_, _, e, rfl⟩ := sameKind_inv hk <;> first | (cases e; done) | skip
  cases e
  have h1 := kinds_cons h
  clear h
  obtain ⟨x, xs, rfl, hk, h⟩ := h1
  obtain ⟨_, _, _, e, rfl⟩ | ⟨_, _, e, rfl⟩ | ⟨_, _, e, rfl⟩ := sameKind_inv hk <;> first | (cases e; done) | skip
  cases e
  have h1 := kinds_cons h
  clear h
  obtain ⟨x, xs, rfl, hk, h⟩ := h1
  obtain ⟨_, _, _, e, rfl⟩ | ⟨_, _, e, rfl⟩ | ⟨_, _, e, rfl⟩ := sameKind_inv hk <;> first | (cases e; done) | skip
  cases e
  have h1 := kinds_cons h
  clear h
  obtain ⟨x, xs, rfl, hk, h⟩ := h1
  obtain ⟨_, _, _, e, rfl⟩ | ⟨_, _, e, rfl⟩ | ⟨_, _, e, rfl⟩ := sameKind_inv hk <;> first | (cases e; done) | skip
  cases e
  have h1 := kinds_cons h
  clear h
  obtain ⟨x, xs, rfl, hk, h⟩ := h1
  obtain ⟨_, _, _, e, rfl⟩ | ⟨_, _, e, rfl⟩ | ⟨_, _, e, rfl⟩ := sameKind_inv hk <;> first | (cases e; done) | skip
  cases e
  have h1 := kinds_cons h
  clear h
  obtain ⟨x, xs, rfl, hk, h⟩ := h1
  obtain ⟨_, _, _, e, rfl⟩ | ⟨_, _, e, rfl⟩ | ⟨_, _, e, rfl⟩ := sameKind_inv hk <;> first | (cases e; done) | skip
  cases e
  obtain rfl := kinds_nil h
  suffices hs : ∀ n, (Instr.checkKey empty (n + 4) 166 _).run Try.prog w = .ok () w from hs 9996
  intro n
  simp [Instr.checkKey, go_sem]
theorem ok2 : TyOK Try.prog 2 ti2 := ⟨⟨(Try.prog.info? 2).getD default, ((Try.prog.info? 2).getD default).zero.getD default, by kernel_rfl, by kernel_rfl, by kernel_rfl, by kernel_rfl, by kernel_rfl⟩, Try.underlying2, (fun h => by cases h), ⟨(Try.prog.info? 2).getD default, by kernel_rfl, by kernel_rfl⟩, (fun h => by cases h), (fun h => by cases h)⟩
theorem ok3 : TyOK Try.prog 3 ti3 := ⟨⟨(Try.prog.info? 3).getD default, ((Try.prog.info? 3).getD default).zero.getD default, by kernel_rfl, by kernel_rfl, by kernel_rfl, by kernel_rfl, by kernel_rfl⟩, Try.underlying3, (fun h => by cases h), ⟨(Try.prog.info? 3).getD default, by kernel_rfl, by kernel_rfl⟩, (fun h => by cases h), (fun h => by cases h)⟩
theorem ok4 : TyOK Try.prog 4 ti4 := ⟨⟨(Try.prog.info? 4).getD default, ((Try.prog.info? 4).getD default).zero.getD default, by kernel_rfl, by kernel_rfl, by kernel_rfl, by kernel_rfl, by kernel_rfl⟩, Try.underlying4, (fun h => by cases h), ⟨(Try.prog.info? 4).getD default, by kernel_rfl, by kernel_rfl⟩, (fun h => by cases h), (fun h => by cases h)⟩
theorem ok5 : TyOK Try.prog 5 ti5 := ⟨⟨(Try.prog.info? 5).getD default, ((Try.prog.info? 5).getD default).zero.getD default, by kernel_rfl, by kernel_rfl, by kernel_rfl, by kernel_rfl, by kernel_rfl⟩, Try.underlying5, (fun h => by cases h), ⟨(Try.prog.info? 5).getD default, by kernel_rfl, by kernel_rfl⟩, (fun h => by cases h), (fun h => by cases h)⟩
theorem ok7 : TyOK Try.prog 7 ti7 := ⟨⟨(Try.prog.info? 7).getD default, ((Try.prog.info? 7).getD default).zero.getD default, by kernel_rfl, by kernel_rfl, by kernel_rfl, by kernel_rfl, by kernel_rfl⟩, ⟨_, Try.underlying7, rfl⟩, (fun h => by cases h), ⟨(Try.prog.info? 7).getD default, by kernel_rfl, by kernel_rfl⟩, (fun h => by cases h), (fun h => by cases h)⟩
theorem ok9 : TyOK Try.prog 9 ti9 := ⟨⟨(Try.prog.info? 9).getD default, ((Try.prog.info? 9).getD default).zero.getD default, by kernel_rfl, by kernel_rfl, by kernel_rfl, by kernel_rfl, by kernel_rfl⟩, Try.underlying9, (fun h => by cases h), ⟨(Try.prog.info? 9).getD default, by kernel_rfl, by kernel_rfl⟩, (fun h => by cases h), (fun h => by cases h)⟩
theorem ok12 : TyOK Try.prog 12 ti12 := ⟨⟨(Try.prog.info? 12).getD default, ((Try.prog.info? 12).getD default).zero.getD default, by kernel_rfl, by kernel_rfl, by kernel_rfl, by kernel_rfl, by kernel_rfl⟩, Try.underlying12, (fun h => by cases h), ⟨(Try.prog.info? 12).getD default, by kernel_rfl, by kernel_rfl⟩, (fun h => by cases h), (fun h => by cases h)⟩
theorem ok13 : TyOK Try.prog 13 ti13 := ⟨⟨(Try.prog.info? 13).getD default, ((Try.prog.info? 13).getD default).zero.getD default, by kernel_rfl, by kernel_rfl, by kernel_rfl, by kernel_rfl, by kernel_rfl⟩, ⟨_, Try.underlying13, rfl⟩, (fun h => by cases h), ⟨(Try.prog.info? 13).getD default, by kernel_rfl, by kernel_rfl⟩, (fun h => by cases h), (fun h => by cases h)⟩
theorem ok15 : TyOK Try.prog 15 ti15 := ⟨⟨(Try.prog.info? 15).getD default, ((Try.prog.info? 15).getD default).zero.getD default, by kernel_rfl, by kernel_rfl, by kernel_rfl, by kernel_rfl, by kernel_rfl⟩, Try.underlying15, (fun h => by cases h), ⟨(Try.prog.info? 15).getD default, by kernel_rfl, by kernel_rfl⟩, (fun h => by cases h), (fun h => by cases h)⟩
theorem ok16 : TyOK Try.prog 16 ti16 := ⟨⟨(Try.prog.info? 16).getD default, ((Try.prog.info? 16).getD default).zero.getD default, by kernel_rfl, by kernel_rfl, by kernel_rfl, by kernel_rfl, by kernel_rfl⟩, Try.underlying16, (fun h => by cases h), ⟨(Try.prog.info? 16).getD default, by kernel_rfl, by kernel_rfl⟩, (fun h => by cases h), (fun h => by cases h)⟩
theorem ok17 : TyOK Try.prog 17 ti17 := ⟨⟨(Try.prog.info? 17).getD default, ((Try.prog.info? 17).getD default).zero.getD default, by kernel_rfl, by kernel_rfl, by kernel_rfl, by kernel_rfl, by kernel_rfl⟩, Try.underlying17, (fun h => by cases h), ⟨(Try.prog.info? 17).getD default, by kernel_rfl, by kernel_rfl⟩, (fun h => by cases h), (fun h => by cases h)⟩
theorem ok18 : TyOK Try.prog 18 ti18 := ⟨⟨(Try.prog.info? 18).getD default, ((Try.prog.info? 18).getD default).zero.getD default, by kernel_rfl, by kernel_rfl, by kernel_rfl, by kernel_rfl, by kernel_rfl⟩, ⟨_, Try.underlying18, rfl⟩, (fun h => by cases h), ⟨(Try.prog.info? 18).getD default, by kernel_rfl, by kernel_rfl⟩, (fun h => by cases h), (fun h => by cases h)⟩
theorem ok21 : TyOK Try.prog 21 ti21 := ⟨⟨(Try.prog.info? 21).getD default, ((Try.prog.info? 21).getD default).zero.getD default, by kernel_rfl, by kernel_rfl, by kernel_rfl, by kernel_rfl, by kernel_rfl⟩, Try.underlying21, (fun h => by cases h), ⟨(Try.prog.info? 21).getD default, by kernel_rfl, by kernel_rfl⟩, (fun h => by cases h), (fun h => by cases h)⟩
theorem ok22 : TyOK Try.prog 22 ti22 := ⟨⟨(Try.prog.info? 22).getD default, ((Try.prog.info? 22).getD default).zero.getD default, by kernel_rfl, by kernel_rfl, by kernel_rfl, by kernel_rfl, by kernel_rfl⟩, Try.underlying22, (fun h => by cases h), ⟨(Try.prog.info? 22).getD default, by kernel_rfl, by kernel_rfl⟩, (fun h => by cases h), (fun h => by cases h)⟩
theorem ok25 : TyOK Try.prog 25 ti25 := ⟨⟨(Try.prog.info? 25).getD default, ((Try.prog.info? 25).getD default).zero.getD default, by kernel_rfl, by kernel_rfl, by kernel_rfl, by kernel_rfl, by kernel_rfl⟩, Try.underlying25, (fun h => by cases h), ⟨(Try.prog.info? 25).getD default, by kernel_rfl, by kernel_rfl⟩, (fun h => by cases h), (fun h => by cases h)⟩
theorem ok27 : TyOK Try.prog 27 ti27 := ⟨⟨(Try.prog.info? 27).getD default, ((Try.prog.info? 27).getD default).zero.getD default, by kernel_rfl, by kernel_rfl, by kernel_rfl, by kernel_rfl, by kernel_rfl⟩, ⟨_, Try.underlying27, rfl⟩, (fun h => by cases h), ⟨(Try.prog.info? 27).getD default, by kernel_rfl, by kernel_rfl⟩, (fun h => by cases h), (fun h => by cases h)⟩
theorem ok28 : TyOK Try.prog 28 ti28 := ⟨⟨(Try.prog.info? 28).getD default, ((Try.prog.info? 28).getD default).zero.getD default, by kernel_rfl, by kernel_rfl, by kernel_rfl, by kernel_rfl, by kernel_rfl⟩, ⟨_, Try.underlying28, rfl⟩, fun _ => eq28, ⟨(Try.prog.info? 28).getD default, by kernel_rfl, by kernel_rfl⟩, (fun h => by cases h), (fun h => by cases h)⟩
theorem ok29 : TyOK Try.prog 29 ti29 := ⟨⟨(Try.prog.info? 29).getD default, ((Try.prog.info? 29).getD default).zero.getD default, by kernel_rfl, by kernel_rfl, by kernel_rfl, by kernel_rfl, by kernel_rfl⟩, ⟨_, Try.underlying29, rfl⟩, (fun h => by cases h), ⟨(Try.prog.info? 29).getD default, by kernel_rfl, by kernel_rfl⟩, (fun h => by cases h), (fun h => by cases h)⟩
theorem ok30 : TyOK Try.prog 30 ti30 := ⟨⟨(Try.prog.info? 30).getD default, ((Try.prog.info? 30).getD default).zero.getD default, by kernel_rfl, by kernel_rfl, by kernel_rfl, by kernel_rfl, by kernel_rfl⟩, ⟨_, Try.underlying30, rfl⟩, fun _ => eq30, ⟨(Try.prog.info? 30).getD default, by kernel_rfl, by kernel_rfl⟩, (fun h => by cases h), (fun h => by cases h)⟩
theorem ok31 : TyOK Try.prog 31 ti31 := ⟨⟨(Try.prog.info? 31).getD default, ((Try.prog.info? 31).getD default).zero.getD default, by kernel_rfl, by kernel_rfl, by kernel_rfl, by kernel_rfl, by kernel_rfl⟩, ⟨_, Try.underlying31, rfl⟩, (fun h => by cases h), ⟨(Try.prog.info? 31).getD default, by kernel_rfl, by kernel_rfl⟩, (fun h => by cases h), (fun h => by cases h)⟩
theorem ok32 : TyOK Try.prog 32 ti32 := ⟨⟨(Try.prog.info? 32).getD default, ((Try.prog.info? 32).getD default).zero.getD default, by kernel_rfl, by kernel_rfl, by kernel_rfl, by kernel_rfl, by kernel_rfl⟩, ⟨_, Try.underlying32, rfl⟩, fun _ => eq32, ⟨(Try.prog.info? 32).getD default, by kernel_rfl, by kernel_rfl⟩, (fun h => by cases h), (fun h => by cases h)⟩
theorem ok35 : TyOK Try.prog 35 ti35 := ⟨⟨(Try.prog.info? 35).getD default, ((Try.prog.info? 35).getD default).zero.getD default, by kernel_rfl, by kernel_rfl, by kernel_rfl, by kernel_rfl, by kernel_rfl⟩, ⟨_, Try.underlying35, rfl⟩, (fun h => by cases h), ⟨(Try.prog.info? 35).getD default, by kernel_rfl, by kernel_rfl⟩, (fun h => by cases h), (fun h => by cases h)⟩
theorem ok36 : TyOK Try.prog 36 ti36 := ⟨⟨(Try.prog.info? 36).getD default, ((Try.prog.info? 36).getD default).zero.getD default, by kernel_rfl, by kernel_rfl, by kernel_rfl, by kernel_rfl, by kernel_rfl⟩, ⟨_, Try.underlying36, rfl⟩, fun _ => eq36, ⟨(Try.prog.info? 36).getD default, by kernel_rfl, by kernel_rfl⟩, (fun h => by cases h), (fun h => by cases h)⟩
theorem ok37 : TyOK Try.prog 37 ti37 := ⟨⟨(Try.prog.info? 37).getD default, ((Try.prog.info? 37).getD default).zero.getD default, by kernel_rfl, by kernel_rfl, by kernel_rfl, by kernel_rfl, by kernel_rfl⟩, Try.underlying37, (fun h => by cases h), ⟨(Try.prog.info? 37).getD default, by kernel_rfl, by kernel_rfl⟩, (fun h => by cases h), (fun h => by cases h)⟩
theorem ok42 : TyOK Try.prog 42 ti42 := ⟨⟨(Try.prog.info? 42).getD default, ((Try.prog.info? 42).getD default).zero.getD default, by kernel_rfl, by kernel_rfl, by kernel_rfl, by kernel_rfl, by kernel_rfl⟩, Try.underlying42, (fun h => by cases h), ⟨(Try.prog.info? 42).getD default, by kernel_rfl, by kernel_rfl⟩, (fun h => by cases h), (fun h => by cases h)⟩
theorem ok45 : TyOK Try.prog 45 ti45 := ⟨⟨(Try.prog.info? 45).getD default, ((Try.prog.info? 45).getD default).zero.getD default, by kernel_rfl, by kernel_rfl, by kernel_rfl, by kernel_rfl, by kernel_rfl⟩, Try.underlying45, (fun h => by cases h), ⟨(Try.prog.info? 45).getD default, by kernel_rfl, by kernel_rfl⟩, (fun h => by cases h), (fun h => by cases h)⟩
theorem ok47 : TyOK Try.prog 47 ti47 := ⟨⟨(Try.prog.info? 47).getD default, ((Try.prog.info? 47).getD default).zero.getD default, by kernel_rfl, by kernel_rfl, by kernel_rfl, by kernel_rfl, by kernel_rfl⟩, Try.underlying47, (fun h => by cases h), ⟨(Try.prog.info? 47).getD default, by kernel_rfl, by kernel_rfl⟩, (fun h => by cases h), (fun h => by cases h)⟩
theorem ok48 : TyOK Try.prog 48 ti48 := ⟨⟨(Try.prog.info? 48).getD default, ((Try.prog.info? 48).getD default).zero.getD default, by kernel_rfl, by kernel_rfl, by kernel_rfl, by kernel_rfl, by kernel_rfl⟩, ⟨_, Try.underlying48, rfl⟩, (fun h => by cases h), ⟨(Try.prog.info? 48).getD default, by kernel_rfl, by kernel_rfl⟩, (fun h => by cases h), (fun h => by cases h)⟩
theorem ok49 : TyOK Try.prog 49 ti49 := ⟨⟨(Try.prog.info? 49).getD default, ((Try.prog.info? 49).getD default).zero.getD default, by kernel_rfl, by kernel_rfl, by kernel_rfl, by kernel_rfl, by kernel_rfl⟩, ⟨_, Try.underlying49, rfl⟩, fun _ => eq49, ⟨(Try.prog.info? 49).getD default, by kernel_rfl, by kernel_rfl⟩, (fun h => by cases h), (fun h => by cases h)⟩
theorem ok50 : TyOK Try.prog 50 ti50 := ⟨⟨(Try.prog.info? 50).getD default, ((Try.prog.info? 50).getD default).zero.getD default, by kernel_rfl, by kernel_rfl, by kernel_rfl, by kernel_rfl, by kernel_rfl⟩, ⟨_, Try.underlying50, rfl⟩, (fun h => by cases h), ⟨(Try.prog.info? 50).getD default, by kernel_rfl, by kernel_rfl⟩, (fun h => by cases h), (fun h => by cases h)⟩
theorem ok51 : TyOK Try.prog 51 ti51 := ⟨⟨(Try.prog.info? 51).getD default, ((Try.prog.info? 51).getD default).zero.getD default, by kernel_rfl, by kernel_rfl, by kernel_rfl, by kernel_rfl, by kernel_rfl⟩, ⟨_, Try.underlying51, rfl⟩, fun _ => eq51, ⟨(Try.prog.info? 51).getD default, by kernel_rfl, by kernel_rfl⟩, (fun h => by cases h), (fun h => by cases h)⟩
theorem ok52 : TyOK Try.prog 52 ti52 := ⟨⟨(Try.prog.info? 52).getD default, ((Try.prog.info? 52).getD default).zero.getD default, by kernel_rfl, by kernel_rfl, by kernel_rfl, by kernel_rfl, by kernel_rfl⟩, ⟨_, Try.underlying52, rfl⟩, fun _ => eq52, ⟨(Try.prog.info? 52).getD default, by kernel_rfl, by kernel_rfl⟩, (fun h => by cases h), (fun h => by cases h)⟩
theorem ok56 : TyOK Try.prog 56 ti56 := ⟨⟨(Try.prog.info? 56).getD default, ((Try.prog.info? 56).getD default).zero.getD default, by kernel_rfl, by kernel_rfl, by kernel_rfl, by kernel_rfl, by kernel_rfl⟩, Try.underlying56, (fun h => by cases h), ⟨(Try.prog.info? 56).getD default, by kernel_rfl, by kernel_rfl⟩, (fun h => by cases h), (fun h => by cases h)⟩
theorem ok60 : TyOK Try.prog 60 ti60 := ⟨⟨(Try.prog.info? 60).getD default, ((Try.prog.info? 60).getD default).zero.getD default, by kernel_rfl, by kernel_rfl, by kernel_rfl, by kernel_rfl, by kernel_rfl⟩, Try.underlying60, (fun h => by cases h), ⟨(Try.prog.info? 60).getD default, by kernel_rfl, by kernel_rfl⟩, (fun h => by cases h), (fun h => by cases h)⟩
theorem ok61 : TyOK Try.prog 61 ti61 := ⟨⟨(Try.prog.info? 61).getD default, ((Try.prog.info? 61).getD default).zero.getD default, by kernel_rfl, by kernel_rfl, by kernel_rfl, by kernel_rfl, by kernel_rfl⟩, ⟨_, Try.underlying61, rfl⟩, (fun h => by cases h), ⟨(Try.prog.info? 61).getD default, by kernel_rfl, by kernel_rfl⟩, (fun h => by cases h), (fun h => by cases h)⟩
theorem ok62 : TyOK Try.prog 62 ti62 := ⟨⟨(Try.prog.info? 62).getD default, ((Try.prog.info? 62).getD default).zero.getD default, by kernel_rfl, by kernel_rfl, by kernel_rfl, by kernel_rfl, by kernel_rfl⟩, ⟨_, Try.underlying62, rfl⟩, fun _ => eq62, ⟨(Try.prog.info? 62).getD default, by kernel_rfl, by kernel_rfl⟩, (fun h => by cases h), (fun h => by cases h)⟩
theorem ok64 : TyOK Try.prog 64 ti64 := ⟨⟨(Try.prog.info? 64).getD default, ((Try.prog.info? 64).getD default).zero.getD default, by kernel_rfl, by kernel_rfl, by kernel_rfl, by kernel_rfl, by kernel_rfl⟩, Try.underlying64, (fun h => by cases h), ⟨(Try.prog.info? 64).getD default, by kernel_rfl, by kernel_rfl⟩, (fun h => by cases h), (fun h => by cases h)⟩
theorem ok65 : TyOK Try.prog 65 ti65 := ⟨⟨(Try.prog.info? 65).getD default, ((Try.prog.info? 65).getD default).zero.getD default, by kernel_rfl, by kernel_rfl, by kernel_rfl, by kernel_rfl, by kernel_rfl⟩, Try.underlying65, (fun h => by cases h), ⟨(Try.prog.info? 65).getD default, by kernel_rfl, by kernel_rfl⟩, (fun h => by cases h), (fun h => by cases h)⟩
theorem ok69 : TyOK Try.prog 69 ti69 := ⟨⟨(Try.prog.info? 69).getD default, ((Try.prog.info? 69).getD default).zero.getD default, by kernel_rfl, by kernel_rfl, by kernel_rfl, by kernel_rfl, by kernel_rfl⟩, Try.underlying69, (fun h => by cases h), ⟨(Try.prog.info? 69).getD default, by kernel_rfl, by kernel_rfl⟩, (fun h => by cases h), (fun h => by cases h)⟩
theorem ok70 : TyOK Try.prog 70 ti70 := ⟨⟨(Try.prog.info? 70).getD default, ((Try.prog.info? 70).getD default).zero.getD default, by kernel_rfl, by kernel_rfl, by kernel_rfl, by kernel_rfl, by kernel_rfl⟩, ⟨_, Try.underlying70, rfl⟩, (fun h => by cases h), ⟨(Try.prog.info? 70).getD default, by kernel_rfl, by kernel_rfl⟩, (fun h => by cases h), (fun h => by cases h)⟩
theorem ok71 : TyOK Try.prog 71 ti71 := ⟨⟨(Try.prog.info? 71).getD default, ((Try.prog.info? 71).getD default).zero.getD default, by kernel_rfl, by kernel_rfl, by kernel_rfl, by kernel_rfl, by kernel_rfl⟩, ⟨_, Try.underlying71, rfl⟩, (fun h => by cases h), ⟨(Try.prog.info? 71).getD default, by kernel_rfl, by kernel_rfl⟩, (fun h => by cases h), (fun h => by cases h)⟩
theorem ok80 : TyOK Try.prog 80 ti80 := ⟨⟨(Try.prog.info? 80).getD default, ((Try.prog.info? 80).getD default).zero.getD default, by kernel_rfl, by kernel_rfl, by kernel_rfl, by kernel_rfl, by kernel_rfl⟩, Try.underlying80, (fun h => by cases h), ⟨(Try.prog.info? 80).getD default, by kernel_rfl, by kernel_rfl⟩, (fun h => by cases h), (fun h => by cases h)⟩
theorem ok81 : TyOK Try.prog 81 ti81 := ⟨⟨(Try.prog.info? 81).getD default, ((Try.prog.info? 81).getD default).zero.getD default, by kernel_rfl, by kernel_rfl, by kernel_rfl, by kernel_rfl, by kernel_rfl⟩, ⟨_, Try.underlying81, rfl⟩, (fun h => by cases h), ⟨(Try.prog.info? 81).getD default, by kernel_rfl, by kernel_rfl⟩, (fun h => by cases h), (fun h => by cases h)⟩
theorem ok82 : TyOK Try.prog 82 ti82 := ⟨⟨(Try.prog.info? 82).getD default, ((Try.prog.info? 82).getD default).zero.getD default, by kernel_rfl, by kernel_rfl, by kernel_rfl, by kernel_rfl, by kernel_rfl⟩, ⟨_, Try.underlying82, rfl⟩, fun _ => eq82, ⟨(Try.prog.info? 82).getD default, by kernel_rfl, by kernel_rfl⟩, (fun h => by cases h), (fun h => by cases h)⟩
theorem ok83 : TyOK Try.prog 83 ti83 := ⟨⟨(Try.prog.info? 83).getD default, ((Try.prog.info? 83).getD default).zero.getD default, by kernel_rfl, by kernel_rfl, by kernel_rfl, by kernel_rfl, by kernel_rfl⟩, Try.underlying83, (fun h => by cases h), ⟨(Try.prog.info? 83).getD default, by kernel_rfl, by kernel_rfl⟩, (fun h => by cases h), (fun h => by cases h)⟩
theorem ok84 : TyOK Try.prog 84 ti84 := ⟨⟨(Try.prog.info? 84).getD default, ((Try.prog.info? 84).getD default).zero.getD default, by kernel_rfl, by kernel_rfl, by kernel_rfl, by kernel_rfl, by kernel_rfl⟩, ⟨_, Try.underlying84, rfl⟩, (fun h => by cases h), ⟨(Try.prog.info? 84).getD default, by kernel_rfl, by kernel_rfl⟩, (fun h => by cases h), (fun h => by cases h)⟩
theorem ok85 : TyOK Try.prog 85 ti85 := ⟨⟨(Try.prog.info? 85).getD default, ((Try.prog.info? 85).getD default).zero.getD default, by kernel_rfl, by kernel_rfl, by kernel_rfl, by kernel_rfl, by kernel_rfl⟩, ⟨_, Try.underlying85, rfl⟩, (fun h => by cases h), ⟨(Try.prog.info? 85).getD default, by kernel_rfl, by kernel_rfl⟩, (fun h => by cases h), (fun h => by cases h)⟩
theorem ok90 : TyOK Try.prog 90 ti90 := ⟨⟨(Try.prog.info? 90).getD default, ((Try.prog.info? 90).getD default).zero.getD default, by kernel_rfl, by kernel_rfl, by kernel_rfl, by kernel_rfl, by kernel_rfl⟩, Try.underlying90, (fun h => by cases h), ⟨(Try.prog.info? 90).getD default, by kernel_rfl, by kernel_rfl⟩, (fun h => by cases h), (fun h => by cases h)⟩
theorem ok91 : TyOK Try.prog 91 ti91 := ⟨⟨(Try.prog.info? 91).getD default, ((Try.prog.info? 91).getD default).zero.getD default, by kernel_rfl, by kernel_rfl, by kernel_rfl, by kernel_rfl, by kernel_rfl⟩, ⟨_, Try.underlying91, rfl⟩, (fun h => by cases h), ⟨(Try.prog.info? 91).getD default, by kernel_rfl, by kernel_rfl⟩, (fun h => by cases h), (fun h => by cases h)⟩
theorem ok92 : TyOK Try.prog 92 ti92 := ⟨⟨(Try.prog.info? 92).getD default, ((Try.prog.info? 92).getD default).zero.getD default, by kernel_rfl, by kernel_rfl, by kernel_rfl, by kernel_rfl, by kernel_rfl⟩, ⟨_, Try.underlying92, rfl⟩, (fun h => by cases h), ⟨(Try.prog.info? 92).getD default, by kernel_rfl, by kernel_rfl⟩, (fun h => by cases h), (fun h => by cases h)⟩
theorem ok93 : TyOK Try.prog 93 ti93 := ⟨⟨(Try.prog.info? 93).getD default, ((Try.prog.info? 93).getD default).zero.getD default, by kernel_rfl, by kernel_rfl, by kernel_rfl, by kernel_rfl, by kernel_rfl⟩, ⟨_, Try.underlying93, rfl⟩, (fun h => by cases h), ⟨(Try.prog.info? 93).getD default, by kernel_rfl, by kernel_rfl⟩, (fun h => by cases h), (fun h => by cases h)⟩
theorem ok94 : TyOK Try.prog 94 ti94 := ⟨⟨(Try.prog.info? 94).getD default, ((Try.prog.info? 94).getD default).zero.getD default, by kernel_rfl, by kernel_rfl, by kernel_rfl, by kernel_rfl, by kernel_rfl⟩, ⟨_, Try.underlying94, rfl⟩, (fun h => by cases h), ⟨(Try.prog.info? 94).getD default, by kernel_rfl, by kernel_rfl⟩, (fun h => by cases h), (fun h => by cases h)⟩
theorem ok99 : TyOK Try.prog 99 ti99 := ⟨⟨(Try.prog.info? 99).getD default, ((Try.prog.info? 99).getD default).zero.getD default, by kernel_rfl, by kernel_rfl, by kernel_rfl, by kernel_rfl, by kernel_rfl⟩, Try.underlying99, (fun h => by cases h), ⟨(Try.prog.info? 99).getD default, by kernel_rfl, by kernel_rfl⟩, (fun h => by cases h), (fun h => by cases h)⟩
theorem ok110 : TyOK Try.prog 110 ti110 := ⟨⟨(Try.prog.info? 110).getD default, ((Try.prog.info? 110).getD default).zero.getD default, by kernel_rfl, by kernel_rfl, by kernel_rfl, by kernel_rfl, by kernel_rfl⟩, Try.underlying110, (fun h => by cases h), ⟨(Try.prog.info? 110).getD default, by kernel_rfl, by kernel_rfl⟩, (fun h => by cases h), (fun h => by cases h)⟩
theorem ok112 : TyOK Try.prog 112 ti112 := ⟨⟨(Try.prog.info? 112).getD default, ((Try.prog.info? 112).getD default).zero.getD default, by kernel_rfl, by kernel_rfl, by kernel_rfl, by kernel_rfl, by kernel_rfl⟩, Try.underlying112, (fun h => by cases h), ⟨(Try.prog.info? 112).getD default, by kernel_rfl, by kernel_rfl⟩, (fun h => by cases h), (fun h => by cases h)⟩
theorem ok117 : TyOK Try.prog 117 ti117 := ⟨⟨(Try.prog.info? 117).getD default, ((Try.prog.info? 117).getD default).zero.getD default, by kernel_rfl, by kernel_rfl, by kernel_rfl, by kernel_rfl, by kernel_rfl⟩, Try.underlying117, (fun h => by cases h), ⟨(Try.prog.info? 117).getD default, by kernel_rfl, by kernel_rfl⟩, (fun h => by cases h), (fun h => by cases h)⟩
theorem ok118 : TyOK Try.prog 118 ti118 := ⟨⟨(Try.prog.info? 118).getD default, ((Try.prog.info? 118).getD default).zero.getD default, by kernel_rfl, by kernel_rfl, by kernel_rfl, by kernel_rfl, by kernel_rfl⟩, ⟨_, Try.underlying118, rfl⟩, (fun h => by cases h), ⟨(Try.prog.info? 118).getD default, by kernel_rfl, by kernel_rfl⟩, (fun h => by cases h), (fun h => by cases h)⟩
theorem ok119 : TyOK Try.prog 119 ti119 := ⟨⟨(Try.prog.info? 119).getD default, ((Try.prog.info? 119).getD default).zero.getD default, by kernel_rfl, by kernel_rfl, by kernel_rfl, by kernel_rfl, by kernel_rfl⟩, ⟨_, Try.underlying119, rfl⟩, (fun h => by cases h), ⟨(Try.prog.info? 119).getD default, by kernel_rfl, by kernel_rfl⟩, (fun h => by cases h), (fun h => by cases h)⟩
theorem ok120 : TyOK Try.prog 120 ti120 := ⟨⟨(Try.prog.info? 120).getD default, ((Try.prog.info? 120).getD default).zero.getD default, by kernel_rfl, by kernel_rfl, by kernel_rfl, by kernel_rfl, by kernel_rfl⟩, ⟨_, Try.underlying120, rfl⟩, (fun h => by cases h), ⟨(Try.prog.info? 120).getD default, by kernel_rfl, by kernel_rfl⟩, (fun h => by cases h), (fun h => by cases h)⟩
theorem ok121 : TyOK Try.prog 121 ti121 := ⟨⟨(Try.prog.info? 121).getD default, ((Try.prog.info? 121).getD default).zero.getD default, by kernel_rfl, by kernel_rfl, by kernel_rfl, by kernel_rfl, by kernel_rfl⟩, ⟨_, Try.underlying121, rfl⟩, fun _ => eq121, ⟨(Try.prog.info? 121).getD default, by kernel_rfl, by kernel_rfl⟩, (fun h => by cases h), (fun h => by cases h)⟩
theorem ok123 : TyOK Try.prog 123 ti123 := ⟨⟨(Try.prog.info? 123).getD default, ((Try.prog.info? 123).getD default).zero.getD default, by kernel_rfl, by kernel_rfl, by kernel_rfl, by kernel_rfl, by kernel_rfl⟩, Try.underlying123, (fun h => by cases h), ⟨(Try.prog.info? 123).getD default, by kernel_rfl, by kernel_rfl⟩, (fun h => by cases h), (fun h => by cases h)⟩
theorem ok129 : TyOK Try.prog 129 ti129 := ⟨⟨(Try.prog.info? 129).getD default, ((Try.prog.info? 129).getD default).zero.getD default, by kernel_rfl, by kernel_rfl, by kernel_rfl, by kernel_rfl, by kernel_rfl⟩, Try.underlying129, (fun h => by cases h), ⟨(Try.prog.info? 129).getD default, by kernel_rfl, by kernel_rfl⟩, (fun h => by cases h), (fun h => by cases h)⟩
theorem ok130 : TyOK Try.prog 130 ti130 := ⟨⟨(Try.prog.info? 130).getD default, ((Try.prog.info? 130).getD default).zero.getD default, by kernel_rfl, by kernel_rfl, by kernel_rfl, by kernel_rfl, by kernel_rfl⟩, Try.underlying130, (fun h => by cases h), ⟨(Try.prog.info? 130).getD default, by kernel_rfl, by kernel_rfl⟩, (fun h => by cases h), (fun h => by cases h)⟩
theorem ok132 : TyOK Try.prog 132 ti132 := ⟨⟨(Try.prog.info? 132).getD default, ((Try.prog.info? 132).getD default).zero.getD default, by kernel_rfl, by kernel_rfl, by kernel_rfl, by kernel_rfl, by kernel_rfl⟩, Try.underlying132, (fun h => by cases h), ⟨(Try.prog.info? 132).getD default, by kernel_rfl, by kernel_rfl⟩, (fun h => by cases h), (fun h => by cases h)⟩
theorem ok144 : TyOK Try.prog 144 ti144 := ⟨⟨(Try.prog.info? 144).getD default, ((Try.prog.info? 144).getD default).zero.getD default, by kernel_rfl, by kernel_rfl, by kernel_rfl, by kernel_rfl, by kernel_rfl⟩, ⟨_, Try.underlying144, rfl⟩, (fun h => by cases h), ⟨(Try.prog.info? 144).getD default, by kernel_rfl, by kernel_rfl⟩, (fun h => by cases h), (fun h => by cases h)⟩
theorem ok145 : TyOK Try.prog 145 ti145 := ⟨⟨(Try.prog.info? 145).getD default, ((Try.prog.info? 145).getD default).zero.getD default, by kernel_rfl, by kernel_rfl, by kernel_rfl, by kernel_rfl, by kernel_rfl⟩, ⟨_, Try.underlying145, rfl⟩, fun _ => eq145, ⟨(Try.prog.info? 145).getD default, by kernel_rfl, by kernel_rfl⟩, (fun h => by cases h), (fun h => by cases h)⟩
theorem ok151 : TyOK Try.prog 151 ti151 := ⟨⟨(Try.prog.info? 151).getD default, ((Try.prog.info? 151).getD default).zero.getD default, by kernel_rfl, by kernel_rfl, by kernel_rfl, by kernel_rfl, by kernel_rfl⟩, Try.underlying151, (fun h => by cases h), ⟨(Try.prog.info? 151).getD default, by kernel_rfl, by kernel_rfl⟩, (fun h => by cases h), (fun h => by cases h)⟩
theorem ok152 : TyOK Try.prog 152 ti152 := ⟨⟨(Try.prog.info? 152).getD default, ((Try.prog.info? 152).getD default).zero.getD default, by kernel_rfl, by kernel_rfl, by kernel_rfl, by kernel_rfl, by kernel_rfl⟩, Try.underlying152, (fun h => by cases h), ⟨(Try.prog.info? 152).getD default, by kernel_rfl, by kernel_rfl⟩, (fun h => by cases h), (fun h => by cases h)⟩
theorem ok153 : TyOK Try.prog 153 ti153 := ⟨⟨(Try.prog.info? 153).getD default, ((Try.prog.info? 153).getD default).zero.getD default, by kernel_rfl, by kernel_rfl, by kernel_rfl, by kernel_rfl, by kernel_rfl⟩, ⟨_, Try.underlying153, rfl⟩, (fun h => by cases h), ⟨(Try.prog.info? 153).getD default, by kernel_rfl, by kernel_rfl⟩, (fun h => by cases h), (fun h => by cases h)⟩
theorem ok154 : TyOK Try.prog 154 ti154 := ⟨⟨(Try.prog.info? 154).getD default, ((Try.prog.info? 154).getD default).zero.getD default, by kernel_rfl, by kernel_rfl, by kernel_rfl, by kernel_rfl, by kernel_rfl⟩, ⟨_, Try.underlying154, rfl⟩, (fun h => by cases h), ⟨(Try.prog.info? 154).getD default, by kernel_rfl, by kernel_rfl⟩, (fun h => by cases h), (fun h => by cases h)⟩
theorem ok155 : TyOK Try.prog 155 ti155 := ⟨⟨(Try.prog.info? 155).getD default, ((Try.prog.info? 155).getD default).zero.getD default, by kernel_rfl, by kernel_rfl, by kernel_rfl, by kernel_rfl, by kernel_rfl⟩, Try.underlying155, (fun h => by cases h), ⟨(Try.prog.info? 155).getD default, by kernel_rfl, by kernel_rfl⟩, (fun h => by cases h), (fun h => by cases h)⟩
theorem ok156 : TyOK Try.prog 156 ti156 := ⟨⟨(Try.prog.info? 156).getD default, ((Try.prog.info? 156).getD default).zero.getD default, by kernel_rfl, by kernel_rfl, by kernel_rfl, by kernel_rfl, by kernel_rfl⟩, Try.underlying156, (fun h => by cases h), ⟨(Try.prog.info? 156).getD default, by kernel_rfl, by kernel_rfl⟩, (fun h => by cases h), (fun h => by cases h)⟩
theorem ok157 : TyOK Try.prog 157 ti157 := ⟨⟨(Try.prog.info? 157).getD default, ((Try.prog.info? 157).getD default).zero.getD default, by kernel_rfl, by kernel_rfl, by kernel_rfl, by kernel_rfl, by kernel_rfl⟩, ⟨_, Try.underlying157, rfl⟩, (fun h => by cases h), ⟨(Try.prog.info? 157).getD default, by kernel_rfl, by kernel_rfl⟩, (fun h => by cases h), (fun h => by cases h)⟩
theorem ok158 : TyOK Try.prog 158 ti158 := ⟨⟨(Try.prog.info? 158).getD default, ((Try.prog.info? 158).getD default).zero.getD default, by kernel_rfl, by kernel_rfl, by kernel_rfl, by kernel_rfl, by kernel_rfl⟩, ⟨_, Try.underlying158, rfl⟩, fun _ => eq158, ⟨(Try.prog.info? 158).getD default, by kernel_rfl, by kernel_rfl⟩, fun _ => keq158, fun _ => kck158⟩
theorem ok159 : TyOK Try.prog 159 ti159 := ⟨⟨(Try.prog.info? 159).getD default, ((Try.prog.info? 159).getD default).zero.getD default, by kernel_rfl, by kernel_rfl, by kernel_rfl, by kernel_rfl, by kernel_rfl⟩, ⟨_, Try.underlying159, rfl⟩, (fun h => by cases h), ⟨(Try.prog.info? 159).getD default, by kernel_rfl, by kernel_rfl⟩, (fun h => by cases h), (fun h => by cases h)⟩
theorem ok160 : TyOK Try.prog 160 ti160 := ⟨⟨(Try.prog.info? 160).getD default, ((Try.prog.info? 160).getD default).zero.getD default, by kernel_rfl, by kernel_rfl, by kernel_rfl, by kernel_rfl, by kernel_rfl⟩, ⟨_, Try.underlying160, rfl⟩, fun _ => eq160, ⟨(Try.prog.info? 160).getD default, by kernel_rfl, by kernel_rfl⟩, (fun h => by cases h), (fun h => by cases h)⟩
theorem ok162 : TyOK Try.prog 162 ti162 := ⟨⟨(Try.prog.info? 162).getD default, ((Try.prog.info? 162).getD default).zero.getD default, by kernel_rfl, by kernel_rfl, by kernel_rfl, by kernel_rfl, by kernel_rfl⟩, ⟨_, Try.underlying162, rfl⟩, (fun h => by cases h), ⟨(Try.prog.info? 162).getD default, by kernel_rfl, by kernel_rfl⟩, (fun h => by cases h), (fun h => by cases h)⟩
theorem ok163 : TyOK Try.prog 163 ti163 := ⟨⟨(Try.prog.info? 163).getD default, ((Try.prog.info? 163).getD default).zero.getD default, by kernel_rfl, by kernel_rfl, by kernel_rfl, by kernel_rfl, by kernel_rfl⟩, ⟨_, Try.underlying163, rfl⟩, fun _ => eq163, ⟨(Try.prog.info? 163).getD default, by kernel_rfl, by kernel_rfl⟩, fun _ => keq163, fun _ => kck163⟩
theorem ok164 : TyOK Try.prog 164 ti164 := ⟨⟨(Try.prog.info? 164).getD default, ((Try.prog.info? 164).getD default).zero.getD default, by kernel_rfl, by kernel_rfl, by kernel_rfl, by kernel_rfl, by kernel_rfl⟩, Try.underlying164, (fun h => by cases h), ⟨(Try.prog.info? 164).getD default, by kernel_rfl, by kernel_rfl⟩, (fun h => by cases h), (fun h => by cases h)⟩
theorem ok165 : TyOK Try.prog 165 ti165 := ⟨⟨(Try.prog.info? 165).getD default, ((Try.prog.info? 165).getD default).zero.getD default, by kernel_rfl, by kernel_rfl, by kernel_rfl, by kernel_rfl, by kernel_rfl⟩, ⟨_, Try.underlying165, rfl⟩, (fun h => by cases h), ⟨(Try.prog.info? 165).getD default, by kernel_rfl, by kernel_rfl⟩, (fun h => by cases h), (fun h => by cases h)⟩
theorem ok166 : TyOK Try.prog 166 ti166 := ⟨⟨(Try.prog.info? 166).getD default, ((Try.prog.info? 166).getD default).zero.getD default, by kernel_rfl, by kernel_rfl, by kernel_rfl, by kernel_rfl, by kernel_rfl⟩, ⟨_, Try.underlying166, rfl⟩, fun _ => eq166, ⟨(Try.prog.info? 166).getD default, by kernel_rfl, by kernel_rfl⟩, fun _ => keq166, fun _ => kck166⟩
theorem ok173 : TyOK Try.prog 173 ti173 := ⟨⟨(Try.prog.info? 173).getD default, ((Try.prog.info? 173).getD default).zero.getD default, by kernel_rfl, by kernel_rfl, by kernel_rfl, by kernel_rfl, by kernel_rfl⟩, ⟨_, Try.underlying173, rfl⟩, (fun h => by cases h), ⟨(Try.prog.info? 173).getD default, by kernel_rfl, by kernel_rfl⟩, (fun h => by cases h), (fun h => by cases h)⟩
theorem ok174 : TyOK Try.prog 174 ti174 := ⟨⟨(Try.prog.info? 174).getD default, ((Try.prog.info? 174).getD default).zero.getD default, by kernel_rfl, by kernel_rfl, by kernel_rfl, by kernel_rfl, by kernel_rfl⟩, ⟨_, Try.underlying174, rfl⟩, fun _ => eq174, ⟨(Try.prog.info? 174).getD default, by kernel_rfl, by kernel_rfl⟩, (fun h => by cases h), (fun h => by cases h)⟩
theorem ok177 : TyOK Try.prog 177 ti177 := ⟨⟨(Try.prog.info? 177).getD default, ((Try.prog.info? 177).getD default).zero.getD default, by kernel_rfl, by kernel_rfl, by kernel_rfl, by kernel_rfl, by kernel_rfl⟩, Try.underlying177, (fun h => by cases h), ⟨(Try.prog.info? 177).getD default, by kernel_rfl, by kernel_rfl⟩, (fun h => by cases h), (fun h => by cases h)⟩
theorem ok195 : TyOK Try.prog 195 ti195 := ⟨⟨(Try.prog.info? 195).getD default, ((Try.prog.info? 195).getD default).zero.getD default, by kernel_rfl, by kernel_rfl, by kernel_rfl, by kernel_rfl, by kernel_rfl⟩, Try.underlying195, (fun h => by cases h), ⟨(Try.prog.info? 195).getD default, by kernel_rfl, by kernel_rfl⟩, (fun h => by cases h), (fun h => by cases h)⟩
theorem ok200 : TyOK Try.prog 200 ti200 := ⟨⟨(Try.prog.info? 200).getD default, ((Try.prog.info? 200).getD default).zero.getD default, by kernel_rfl, by kernel_rfl, by kernel_rfl, by kernel_rfl, by kernel_rfl⟩, ⟨_, Try.underlying200, rfl⟩, (fun h => by cases h), ⟨(Try.prog.info? 200).getD default, by kernel_rfl, by kernel_rfl⟩, (fun h => by cases h), (fun h => by cases h)⟩
theorem ok202 : TyOK Try.prog 202 ti202 := ⟨⟨(Try.prog.info? 202).getD default, ((Try.prog.info? 202).getD default).zero.getD default, by kernel_rfl, by kernel_rfl, by kernel_rfl, by kernel_rfl, by kernel_rfl⟩, Try.underlying202, (fun h => by cases h), ⟨(Try.prog.info? 202).getD default, by kernel_rfl, by kernel_rfl⟩, (fun h => by cases h), (fun h => by cases h)⟩
theorem ok203 : TyOK Try.prog 203 ti203 := ⟨⟨(Try.prog.info? 203).getD default, ((Try.prog.info? 203).getD default).zero.getD default, by kernel_rfl, by kernel_rfl, by kernel_rfl, by kernel_rfl, by kernel_rfl⟩, ⟨_, Try.underlying203, rfl⟩, (fun h => by cases h), ⟨(Try.prog.info? 203).getD default, by kernel_rfl, by kernel_rfl⟩, (fun h => by cases h), (fun h => by cases h)⟩
theorem ok205 : TyOK Try.prog 205 ti205 := ⟨⟨(Try.prog.info? 205).getD default, ((Try.prog.info? 205).getD default).zero.getD default, by kernel_rfl, by kernel_rfl, by kernel_rfl, by kernel_rfl, by kernel_rfl⟩, Try.underlying205, (fun h => by cases h), ⟨(Try.prog.info? 205).getD default, by kernel_rfl, by kernel_rfl⟩, (fun h => by cases h), (fun h => by cases h)⟩
theorem ok209 : TyOK Try.prog 209 ti209 := ⟨⟨(Try.prog.info? 209).getD default, ((Try.prog.info? 209).getD default).zero.getD default, by kernel_rfl, by kernel_rfl, by kernel_rfl, by kernel_rfl, by kernel_rfl⟩, Try.underlying209, (fun h => by cases h), ⟨(Try.prog.info? 209).getD default, by kernel_rfl, by kernel_rfl⟩, (fun h => by cases h), (fun h => by cases h)⟩
theorem ok212 : TyOK Try.prog 212 ti212 := ⟨⟨(Try.prog.info? 212).getD default, ((Try.prog.info? 212).getD default).zero.getD default, by kernel_rfl, by kernel_rfl, by kernel_rfl, by kernel_rfl, by kernel_rfl⟩, ⟨_, Try.underlying212, rfl⟩, (fun h => by cases h), ⟨(Try.prog.info? 212).getD default, by kernel_rfl, by kernel_rfl⟩, (fun h => by cases h), (fun h => by cases h)⟩
def lookT : List (Nat × TI) → Nat → Option TI
  | [], _ => none
  | (i, x) :: r, n => match Nat.beq i n with
    | true => some x
    | false => lookT r n
theorem lookT_spec : ∀ (l : List (Nat × TI)) (n : Nat) (x : TI), lookT l n = some x → (n, x) ∈ l
  | [], _, _, h => by cases h
  | (i, y) :: r, n, x, h => by
    unfold lookT at h
    split at h
    · rename_i hb; cases h; rw [Nat.eq_of_beq_eq_true hb]; exact List.mem_cons_self ..
    · exact List.mem_cons_of_mem _ (lookT_spec r n x h)
def tyList : List (Nat × TI) := [(2, ti2), (3, ti3), (4, ti4), (5, ti5), (7, ti7), (9, ti9), (12, ti12), (13, ti13), (15, ti15), (16, ti16), (17, ti17), (18, ti18), (21, ti21), (22, ti22), (25, ti25), (27, ti27), (28, ti28), (29, ti29), (30, ti30), (31, ti31), (32, ti32), (35, ti35), (36, ti36), (37, ti37), (42, ti42), (45, ti45), (47, ti47), (48, ti48), (49, ti49), (50, ti50), (51, ti51), (52, ti52), (56, ti56), (60, ti60), (61, ti61), (62, ti62), (64, ti64), (65, ti65), (69, ti69), (70, ti70), (71, ti71), (80, ti80), (81, ti81), (82, ti82), (83, ti83), (84, ti84), (85, ti85), (90, ti90), (91, ti91), (92, ti92), (93, ti93), (94, ti94), (99, ti99), (110, ti110), (112, ti112), (117, ti117), (118, ti118), (119, ti119), (120, ti120), (121, ti121), (123, ti123), (129, ti129), (130, ti130), (132, ti132), (144, ti144), (145, ti145), (151, ti151), (152, ti152), (153, ti153), (154, ti154), (155, ti155), (156, ti156), (157, ti157), (158, ti158), (159, ti159), (160, ti160), (162, ti162), (163, ti163), (164, ti164), (165, ti165), (166, ti166), (173, ti173), (174, ti174), (177, ti177), (195, ti195), (200, ti200), (202, ti202), (203, ti203), (205, ti205), (209, ti209), (212, ti212)]
def AllTy (P : Program) : List (Nat × TI) → Prop
  | [] => True
  | (t, x) :: r => TyOK P t x ∧ AllTy P r
theorem allTy_spec {P : Program} : ∀ {l : List (Nat × TI)}, AllTy P l → ∀ t x, (t, x) ∈ l → TyOK P t x
  | (_, _) :: r, h, t, x, hm => by
    rcases List.mem_cons.1 hm with he | hm
    · cases he; exact h.1
    · exact allTy_spec h.2 t x hm
theorem allOK : AllTy Try.prog tyList := ⟨ok2, ok3, ok4, ok5, ok7, ok9, ok12, ok13, ok15, ok16, ok17, ok18, ok21, ok22, ok25, ok27, ok28, ok29, ok30, ok31, ok32, ok35, ok36, ok37, ok42, ok45, ok47, ok48, ok49, ok50, ok51, ok52, ok56, ok60, ok61, ok62, ok64, ok65, ok69, ok70, ok71, ok80, ok81, ok82, ok83, ok84, ok85, ok90, ok91, ok92, ok93, ok94, ok99, ok110, ok112, ok117, ok118, ok119, ok120, ok121, ok123, ok129, ok130, ok132, ok144, ok145, ok151, ok152, ok153, ok154, ok155, ok156, ok157, ok158, ok159, ok160, ok162, ok163, ok164, ok165, ok166, ok173, ok174, ok177, ok195, ok200, ok202, ok203, ok205, ok209, ok212, trivial⟩
def tyL (n : Nat) : Option TI := lookT tyList n
def fnL : List Nat := [3, 4, 5, 6, 7, 8, 9, 10, 11, 12, 13, 14, 15, 16, 17, 18, 19, 20, 21, 22, 23, 24, 25, 26, 27, 28, 29, 30, 31, 32, 33, 34, 35, 36, 37, 38, 39, 40, 41, 42, 43, 44, 45, 46, 47, 48, 49, 50, 51, 52, 53, 54, 55, 56, 57, 58, 59, 60, 61, 62, 63, 64, 65, 66, 67, 68, 69, 70, 71, 72, 73, 74, 75, 76, 77, 78, 79, 80, 81, 82, 83, 84, 85, 86, 87, 88, 89, 90, 91, 92, 93, 94, 95, 96, 97, 98, 99, 100, 101, 102, 103, 104, 105, 106, 107, 108, 109, 111, 112, 113, 114, 115, 116, 117, 118, 119, 120, 121, 122, 123]
def memB : List Nat → Nat → Bool
  | [], _ => false
  | x :: xs, n => match Nat.beq x n with
    | true => true
    | false => memB xs n
theorem memB_spec : ∀ (l : List Nat) (n : Nat), memB l n = true → n ∈ l
  | x :: xs, n, h => by
    unfold memB at h
    split at h
    · rename_i hb; rw [Nat.eq_of_beq_eq_true hb]; exact List.mem_cons_self ..
    · exact List.mem_cons_of_mem _ (memB_spec xs n h)
def tab : Tab := ⟨tyL, memB fnL⟩
theorem fnOK : (fnL.all fun f => (Try.prog.funcs[f]?).any fun fn => !(fn.name == "runtime.NumGoroutine") && fn.body.isSome) = true := by kernel_rfl
theorem tabOK : TabOK Try.prog tab := by
  refine ⟨fun t ti h => ?_, fun f hf args w => ?_, by kernel_rfl⟩
  · exact allTy_spec allOK t ti (lookT_spec _ _ _ h)
  · have := List.all_eq_true.1 fnOK f (memB_spec fnL f hf)
    obtain ⟨fn, hfn, hb⟩ := (Option.any_eq_true _ _).1 this
    simp only [Bool.and_eq_true, Bool.not_eq_true'] at hb
    obtain ⟨c, hc⟩ := Option.isSome_iff_exists.1 hb.2
    exact MuLone.run_callFunc_enter hfn hb.1 hc args w
end Go.Proofs.Ytlphkjbadjdleaa
