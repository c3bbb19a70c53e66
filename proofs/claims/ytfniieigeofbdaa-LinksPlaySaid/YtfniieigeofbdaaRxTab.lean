/-
  The table of the types, for the executor. No condition.
-/
import Derived.Test.YtfniieigeofbdaaProg
import Derived.Test.YtfniieigeofbdaaP3
import Derived.WalkKit
namespace Go.Proofs.Ytfniieigeofbdaa
def ti2 : TI := ⟨.int .i64, 1, 8, [.int .i64 0], false, false⟩
@[simp] theorem ti2_size : ti2.size = 1 := rfl
@[simp] theorem ti2_bytes : ti2.bytes = 8 := rfl
@[simp] theorem ti2_zero : ti2.zero = [.int .i64 0] := rfl
def ti3 : TI := ⟨.int .i64, 1, 8, [.int .i64 0], false, false⟩
@[simp] theorem ti3_size : ti3.size = 1 := rfl
@[simp] theorem ti3_bytes : ti3.bytes = 8 := rfl
@[simp] theorem ti3_zero : ti3.zero = [.int .i64 0] := rfl
def ti4 : TI := ⟨.bool, 1, 1, [.bool false], false, false⟩
@[simp] theorem ti4_size : ti4.size = 1 := rfl
@[simp] theorem ti4_bytes : ti4.bytes = 1 := rfl
@[simp] theorem ti4_zero : ti4.zero = [.bool false] := rfl
def ti5 : TI := ⟨.int .u8, 1, 1, [.int .u8 0], false, false⟩
@[simp] theorem ti5_size : ti5.size = 1 := rfl
@[simp] theorem ti5_bytes : ti5.bytes = 1 := rfl
@[simp] theorem ti5_zero : ti5.zero = [.int .u8 0] := rfl
def ti7 : TI := ⟨.struct [(0, 2), (1, 3), (2, 4), (3, 6)], 4, 24, [.int .i64 0, .int .i64 0, .bool false, .int .u8 0], false, false⟩
@[simp] theorem ti7_size : ti7.size = 4 := rfl
@[simp] theorem ti7_bytes : ti7.bytes = 24 := rfl
@[simp] theorem ti7_zero : ti7.zero = [.int .i64 0, .int .i64 0, .bool false, .int .u8 0] := rfl
def ti9 : TI := ⟨.str, 1, 16, [.string ⟨#[]⟩], false, false⟩
@[simp] theorem ti9_size : ti9.size = 1 := rfl
@[simp] theorem ti9_bytes : ti9.bytes = 16 := rfl
@[simp] theorem ti9_zero : ti9.zero = [.string ⟨#[]⟩] := rfl
def ti12 : TI := ⟨.int .u64, 1, 8, [.int .u64 0], false, false⟩
@[simp] theorem ti12_size : ti12.size = 1 := rfl
@[simp] theorem ti12_bytes : ti12.bytes = 8 := rfl
@[simp] theorem ti12_zero : ti12.zero = [.int .u64 0] := rfl
def ti13 : TI := ⟨.struct [(0, 9), (1, 12)], 2, 24, [.string ⟨#[]⟩, .int .u64 0], false, false⟩
@[simp] theorem ti13_size : ti13.size = 2 := rfl
@[simp] theorem ti13_bytes : ti13.bytes = 24 := rfl
@[simp] theorem ti13_zero : ti13.zero = [.string ⟨#[]⟩, .int .u64 0] := rfl
def ti15 : TI := ⟨.ptr 151, 1, 8, [.pointer none], false, false⟩
@[simp] theorem ti15_size : ti15.size = 1 := rfl
@[simp] theorem ti15_bytes : ti15.bytes = 8 := rfl
@[simp] theorem ti15_zero : ti15.zero = [.pointer none] := rfl
def ti16 : TI := ⟨.ptr 154, 1, 8, [.pointer none], false, false⟩
@[simp] theorem ti16_size : ti16.size = 1 := rfl
@[simp] theorem ti16_bytes : ti16.bytes = 8 := rfl
@[simp] theorem ti16_zero : ti16.zero = [.pointer none] := rfl
def ti17 : TI := ⟨.ptr 162, 1, 8, [.pointer none], false, false⟩
@[simp] theorem ti17_size : ti17.size = 1 := rfl
@[simp] theorem ti17_bytes : ti17.bytes = 8 := rfl
@[simp] theorem ti17_zero : ti17.zero = [.pointer none] := rfl
def ti18 : TI := ⟨.struct [(0, 17)], 1, 8, [.pointer none], false, false⟩
@[simp] theorem ti18_size : ti18.size = 1 := rfl
@[simp] theorem ti18_bytes : ti18.bytes = 8 := rfl
@[simp] theorem ti18_zero : ti18.zero = [.pointer none] := rfl
def ti21 : TI := ⟨.int .i32, 1, 4, [.int .i32 0], false, false⟩
@[simp] theorem ti21_size : ti21.size = 1 := rfl
@[simp] theorem ti21_bytes : ti21.bytes = 4 := rfl
@[simp] theorem ti21_zero : ti21.zero = [.int .i32 0] := rfl
def ti22 : TI := ⟨.slice 36, 1, 24, [.slice none 0 0], false, false⟩
@[simp] theorem ti22_size : ti22.size = 1 := rfl
@[simp] theorem ti22_bytes : ti22.bytes = 24 := rfl
@[simp] theorem ti22_zero : ti22.zero = [.slice none 0 0] := rfl
def ti23 : TI := ⟨.struct [(0, 3), (1, 9), (2, 9), (3, 3)], 4, 48, [.int .i64 0, .string ⟨#[]⟩, .string ⟨#[]⟩, .int .i64 0], false, false⟩
@[simp] theorem ti23_size : ti23.size = 4 := rfl
@[simp] theorem ti23_bytes : ti23.bytes = 48 := rfl
@[simp] theorem ti23_zero : ti23.zero = [.int .i64 0, .string ⟨#[]⟩, .string ⟨#[]⟩, .int .i64 0] := rfl
def ti24 : TI := ⟨.struct [(0, 3), (1, 9), (2, 9), (3, 3)], 4, 48, [.int .i64 0, .string ⟨#[]⟩, .string ⟨#[]⟩, .int .i64 0], true, false⟩
@[simp] theorem ti24_size : ti24.size = 4 := rfl
@[simp] theorem ti24_bytes : ti24.bytes = 48 := rfl
@[simp] theorem ti24_zero : ti24.zero = [.int .i64 0, .string ⟨#[]⟩, .string ⟨#[]⟩, .int .i64 0] := rfl
set_option maxRecDepth 100000 in
set_option maxHeartbeats 4000000 in
theorem eq24 : ∀ xs ys b, EqC ti24.zero xs ys b → ∀ (x y : Operand) (w : World),
    (do eqGuard .eql 24 x y (.agg xs.toArray) (.agg ys.toArray); binOp .eql 24 (.agg xs.toArray) (.agg ys.toArray) : Sem Value).run Try.prog w = .ok (.bool b) w ∧
    (do eqGuard .neq 24 x y (.agg xs.toArray) (.agg ys.toArray); binOp .neq 24 (.agg xs.toArray) (.agg ys.toArray) : Sem Value).run Try.prog w = .ok (.bool !b) w := by
  intro xs ys b h x y w
  cases h with | int _ _ _ _ h =>
  cases h with | str _ _ _ h =>
  cases h with | str _ _ _ h =>
  cases h with | int _ _ _ _ h =>
  cases h with | nil =>
  constructor
  · simp [go_sem]
    try (repeat' (first | exact eq_one (by rw [Bool.eq_iff_iff]; simp) | refine eq_and (by rw [Bool.eq_iff_iff]; simp) ?_))
  · simp [go_sem]
    try (repeat' (first | exact ne_one (by rw [Bool.eq_iff_iff]; simp) | refine ne_or (by rw [Bool.eq_iff_iff]; simp) ?_))
def ti25 : TI := ⟨.int .u16, 1, 2, [.int .u16 0], false, false⟩
@[simp] theorem ti25_size : ti25.size = 1 := rfl
@[simp] theorem ti25_bytes : ti25.bytes = 2 := rfl
@[simp] theorem ti25_zero : ti25.zero = [.int .u16 0] := rfl
def ti27 : TI := ⟨.int .i64, 1, 8, [.int .i64 0], false, false⟩
@[simp] theorem ti27_size : ti27.size = 1 := rfl
@[simp] theorem ti27_bytes : ti27.bytes = 8 := rfl
@[simp] theorem ti27_zero : ti27.zero = [.int .i64 0] := rfl
def ti30 : TI := ⟨.ptr 51, 1, 8, [.pointer none], false, false⟩
@[simp] theorem ti30_size : ti30.size = 1 := rfl
@[simp] theorem ti30_bytes : ti30.bytes = 8 := rfl
@[simp] theorem ti30_zero : ti30.zero = [.pointer none] := rfl
def ti32 : TI := ⟨.struct [(0, 3), (1, 9), (2, 3), (3, 3)], 4, 40, [.int .i64 0, .string ⟨#[]⟩, .int .i64 0, .int .i64 0], false, false⟩
@[simp] theorem ti32_size : ti32.size = 4 := rfl
@[simp] theorem ti32_bytes : ti32.bytes = 40 := rfl
@[simp] theorem ti32_zero : ti32.zero = [.int .i64 0, .string ⟨#[]⟩, .int .i64 0, .int .i64 0] := rfl
def ti33 : TI := ⟨.struct [(0, 3), (1, 9), (2, 3), (3, 3)], 4, 40, [.int .i64 0, .string ⟨#[]⟩, .int .i64 0, .int .i64 0], true, false⟩
@[simp] theorem ti33_size : ti33.size = 4 := rfl
@[simp] theorem ti33_bytes : ti33.bytes = 40 := rfl
@[simp] theorem ti33_zero : ti33.zero = [.int .i64 0, .string ⟨#[]⟩, .int .i64 0, .int .i64 0] := rfl
set_option maxRecDepth 100000 in
set_option maxHeartbeats 4000000 in
theorem eq33 : ∀ xs ys b, EqC ti33.zero xs ys b → ∀ (x y : Operand) (w : World),
    (do eqGuard .eql 33 x y (.agg xs.toArray) (.agg ys.toArray); binOp .eql 33 (.agg xs.toArray) (.agg ys.toArray) : Sem Value).run Try.prog w = .ok (.bool b) w ∧
    (do eqGuard .neq 33 x y (.agg xs.toArray) (.agg ys.toArray); binOp .neq 33 (.agg xs.toArray) (.agg ys.toArray) : Sem Value).run Try.prog w = .ok (.bool !b) w := by
  intro xs ys b h x y w
  cases h with | int _ _ _ _ h =>
  cases h with | str _ _ _ h =>
  cases h with | int _ _ _ _ h =>
  cases h with | int _ _ _ _ h =>
  cases h with | nil =>
  constructor
  · simp [go_sem]
    try (repeat' (first | exact eq_one (by rw [Bool.eq_iff_iff]; simp) | refine eq_and (by rw [Bool.eq_iff_iff]; simp) ?_))
  · simp [go_sem]
    try (repeat' (first | exact ne_one (by rw [Bool.eq_iff_iff]; simp) | refine ne_or (by rw [Bool.eq_iff_iff]; simp) ?_))
def ti35 : TI := ⟨.struct [(0, 5), (1, 3), (2, 24)], 6, 64, [.int .u8 0, .int .i64 0, .int .i64 0, .string ⟨#[]⟩, .string ⟨#[]⟩, .int .i64 0], false, false⟩
@[simp] theorem ti35_size : ti35.size = 6 := rfl
@[simp] theorem ti35_bytes : ti35.bytes = 64 := rfl
@[simp] theorem ti35_zero : ti35.zero = [.int .u8 0, .int .i64 0, .int .i64 0, .string ⟨#[]⟩, .string ⟨#[]⟩, .int .i64 0] := rfl
def ti36 : TI := ⟨.struct [(0, 5), (1, 3), (2, 24)], 6, 64, [.int .u8 0, .int .i64 0, .int .i64 0, .string ⟨#[]⟩, .string ⟨#[]⟩, .int .i64 0], true, false⟩
@[simp] theorem ti36_size : ti36.size = 6 := rfl
@[simp] theorem ti36_bytes : ti36.bytes = 64 := rfl
@[simp] theorem ti36_zero : ti36.zero = [.int .u8 0, .int .i64 0, .int .i64 0, .string ⟨#[]⟩, .string ⟨#[]⟩, .int .i64 0] := rfl
set_option maxRecDepth 100000 in
set_option maxHeartbeats 4000000 in
theorem eq36 : ∀ xs ys b, EqC ti36.zero xs ys b → ∀ (x y : Operand) (w : World),
    (do eqGuard .eql 36 x y (.agg xs.toArray) (.agg ys.toArray); binOp .eql 36 (.agg xs.toArray) (.agg ys.toArray) : Sem Value).run Try.prog w = .ok (.bool b) w ∧
    (do eqGuard .neq 36 x y (.agg xs.toArray) (.agg ys.toArray); binOp .neq 36 (.agg xs.toArray) (.agg ys.toArray) : Sem Value).run Try.prog w = .ok (.bool !b) w := by
  intro xs ys b h x y w
  cases h with | int _ _ _ _ h =>
  cases h with | int _ _ _ _ h =>
  cases h with | int _ _ _ _ h =>
  cases h with | str _ _ _ h =>
  cases h with | str _ _ _ h =>
  cases h with | int _ _ _ _ h =>
  cases h with | nil =>
  constructor
  · simp [go_sem]
    try (repeat' (first | exact eq_one (by rw [Bool.eq_iff_iff]; simp) | refine eq_and (by rw [Bool.eq_iff_iff]; simp) ?_))
  · simp [go_sem]
    try (repeat' (first | exact ne_one (by rw [Bool.eq_iff_iff]; simp) | refine ne_or (by rw [Bool.eq_iff_iff]; simp) ?_))
def ti39 : TI := ⟨.slice 9, 1, 24, [.slice none 0 0], false, false⟩
@[simp] theorem ti39_size : ti39.size = 1 := rfl
@[simp] theorem ti39_bytes : ti39.bytes = 24 := rfl
@[simp] theorem ti39_zero : ti39.zero = [.slice none 0 0] := rfl
def ti42 : TI := ⟨.slice 95, 1, 24, [.slice none 0 0], false, false⟩
@[simp] theorem ti42_size : ti42.size = 1 := rfl
@[simp] theorem ti42_bytes : ti42.bytes = 24 := rfl
@[simp] theorem ti42_zero : ti42.zero = [.slice none 0 0] := rfl
def ti49 : TI := ⟨.map 9 86, 1, 8, [.map none], false, false⟩
@[simp] theorem ti49_size : ti49.size = 1 := rfl
@[simp] theorem ti49_bytes : ti49.bytes = 8 := rfl
@[simp] theorem ti49_zero : ti49.zero = [.map none] := rfl
def ti50 : TI := ⟨.struct [(0, 49)], 1, 8, [.map none], false, false⟩
@[simp] theorem ti50_size : ti50.size = 1 := rfl
@[simp] theorem ti50_bytes : ti50.bytes = 8 := rfl
@[simp] theorem ti50_zero : ti50.zero = [.map none] := rfl
def ti51 : TI := ⟨.struct [(0, 49)], 1, 8, [.map none], false, false⟩
@[simp] theorem ti51_size : ti51.size = 1 := rfl
@[simp] theorem ti51_bytes : ti51.bytes = 8 := rfl
@[simp] theorem ti51_zero : ti51.zero = [.map none] := rfl
def ti53 : TI := ⟨.slice 5, 1, 24, [.slice none 0 0], false, false⟩
@[simp] theorem ti53_size : ti53.size = 1 := rfl
@[simp] theorem ti53_bytes : ti53.bytes = 24 := rfl
@[simp] theorem ti53_zero : ti53.zero = [.slice none 0 0] := rfl
def ti54 : TI := ⟨.ptr 81, 1, 8, [.pointer none], false, false⟩
@[simp] theorem ti54_size : ti54.size = 1 := rfl
@[simp] theorem ti54_bytes : ti54.bytes = 8 := rfl
@[simp] theorem ti54_zero : ti54.zero = [.pointer none] := rfl
def ti57 : TI := ⟨.arr 4 39, 4, 96, [.slice none 0 0, .slice none 0 0, .slice none 0 0, .slice none 0 0], false, false⟩
@[simp] theorem ti57_size : ti57.size = 4 := rfl
@[simp] theorem ti57_bytes : ti57.bytes = 96 := rfl
@[simp] theorem ti57_zero : ti57.zero = [.slice none 0 0, .slice none 0 0, .slice none 0 0, .slice none 0 0] := rfl
def ti59 : TI := ⟨.struct [(0, 3), (1, 3), (2, 9)], 3, 32, [.int .i64 0, .int .i64 0, .string ⟨#[]⟩], false, false⟩
@[simp] theorem ti59_size : ti59.size = 3 := rfl
@[simp] theorem ti59_bytes : ti59.bytes = 32 := rfl
@[simp] theorem ti59_zero : ti59.zero = [.int .i64 0, .int .i64 0, .string ⟨#[]⟩] := rfl
def ti60 : TI := ⟨.struct [(0, 3), (1, 3), (2, 9)], 3, 32, [.int .i64 0, .int .i64 0, .string ⟨#[]⟩], true, false⟩
@[simp] theorem ti60_size : ti60.size = 3 := rfl
@[simp] theorem ti60_bytes : ti60.bytes = 32 := rfl
@[simp] theorem ti60_zero : ti60.zero = [.int .i64 0, .int .i64 0, .string ⟨#[]⟩] := rfl
set_option maxRecDepth 100000 in
set_option maxHeartbeats 4000000 in
theorem eq60 : ∀ xs ys b, EqC ti60.zero xs ys b → ∀ (x y : Operand) (w : World),
    (do eqGuard .eql 60 x y (.agg xs.toArray) (.agg ys.toArray); binOp .eql 60 (.agg xs.toArray) (.agg ys.toArray) : Sem Value).run Try.prog w = .ok (.bool b) w ∧
    (do eqGuard .neq 60 x y (.agg xs.toArray) (.agg ys.toArray); binOp .neq 60 (.agg xs.toArray) (.agg ys.toArray) : Sem Value).run Try.prog w = .ok (.bool !b) w := by
  intro xs ys b h x y w
  cases h with | int _ _ _ _ h =>
  cases h with | int _ _ _ _ h =>
  cases h with | str _ _ _ h =>
  cases h with | nil =>
  constructor
  · simp [go_sem]
    try (repeat' (first | exact eq_one (by rw [Bool.eq_iff_iff]; simp) | refine eq_and (by rw [Bool.eq_iff_iff]; simp) ?_))
  · simp [go_sem]
    try (repeat' (first | exact ne_one (by rw [Bool.eq_iff_iff]; simp) | refine ne_or (by rw [Bool.eq_iff_iff]; simp) ?_))
def ti65 : TI := ⟨.slice 101, 1, 24, [.slice none 0 0], false, false⟩
@[simp] theorem ti65_size : ti65.size = 1 := rfl
@[simp] theorem ti65_bytes : ti65.bytes = 24 := rfl
@[simp] theorem ti65_zero : ti65.zero = [.slice none 0 0] := rfl
def ti68 : TI := ⟨.slice 74, 1, 24, [.slice none 0 0], false, false⟩
@[simp] theorem ti68_size : ti68.size = 1 := rfl
@[simp] theorem ti68_bytes : ti68.bytes = 24 := rfl
@[simp] theorem ti68_zero : ti68.zero = [.slice none 0 0] := rfl
def ti70 : TI := ⟨.ptr 107, 1, 8, [.pointer none], false, false⟩
@[simp] theorem ti70_size : ti70.size = 1 := rfl
@[simp] theorem ti70_bytes : ti70.bytes = 8 := rfl
@[simp] theorem ti70_zero : ti70.zero = [.pointer none] := rfl
def ti73 : TI := ⟨.struct [(0, 5), (1, 60), (4, 3)], 5, 48, [.int .u8 0, .int .i64 0, .int .i64 0, .string ⟨#[]⟩, .int .i64 0], false, false⟩
@[simp] theorem ti73_size : ti73.size = 5 := rfl
@[simp] theorem ti73_bytes : ti73.bytes = 48 := rfl
@[simp] theorem ti73_zero : ti73.zero = [.int .u8 0, .int .i64 0, .int .i64 0, .string ⟨#[]⟩, .int .i64 0] := rfl
def ti74 : TI := ⟨.struct [(0, 5), (1, 60), (4, 3)], 5, 48, [.int .u8 0, .int .i64 0, .int .i64 0, .string ⟨#[]⟩, .int .i64 0], true, false⟩
@[simp] theorem ti74_size : ti74.size = 5 := rfl
@[simp] theorem ti74_bytes : ti74.bytes = 48 := rfl
@[simp] theorem ti74_zero : ti74.zero = [.int .u8 0, .int .i64 0, .int .i64 0, .string ⟨#[]⟩, .int .i64 0] := rfl
set_option maxRecDepth 100000 in
set_option maxHeartbeats 4000000 in
theorem eq74 : ∀ xs ys b, EqC ti74.zero xs ys b → ∀ (x y : Operand) (w : World),
    (do eqGuard .eql 74 x y (.agg xs.toArray) (.agg ys.toArray); binOp .eql 74 (.agg xs.toArray) (.agg ys.toArray) : Sem Value).run Try.prog w = .ok (.bool b) w ∧
    (do eqGuard .neq 74 x y (.agg xs.toArray) (.agg ys.toArray); binOp .neq 74 (.agg xs.toArray) (.agg ys.toArray) : Sem Value).run Try.prog w = .ok (.bool !b) w := by
  intro xs ys b h x y w
  cases h with | int _ _ _ _ h =>
  cases h with | int _ _ _ _ h =>
  cases h with | int _ _ _ _ h =>
  cases h with | str _ _ _ h =>
  cases h with | int _ _ _ _ h =>
  cases h with | nil =>
  constructor
  · simp [go_sem]
    try (repeat' (first | exact eq_one (by rw [Bool.eq_iff_iff]; simp) | refine eq_and (by rw [Bool.eq_iff_iff]; simp) ?_))
  · simp [go_sem]
    try (repeat' (first | exact ne_one (by rw [Bool.eq_iff_iff]; simp) | refine ne_or (by rw [Bool.eq_iff_iff]; simp) ?_))
def ti79 : TI := ⟨.map 99 39, 1, 8, [.map none], false, false⟩
@[simp] theorem ti79_size : ti79.size = 1 := rfl
@[simp] theorem ti79_bytes : ti79.bytes = 8 := rfl
@[simp] theorem ti79_zero : ti79.zero = [.map none] := rfl
def ti80 : TI := ⟨.struct [(0, 3), (1, 79)], 2, 16, [.int .i64 0, .map none], false, false⟩
@[simp] theorem ti80_size : ti80.size = 2 := rfl
@[simp] theorem ti80_bytes : ti80.bytes = 16 := rfl
@[simp] theorem ti80_zero : ti80.zero = [.int .i64 0, .map none] := rfl
def ti81 : TI := ⟨.struct [(0, 3), (1, 79)], 2, 16, [.int .i64 0, .map none], false, false⟩
@[simp] theorem ti81_size : ti81.size = 2 := rfl
@[simp] theorem ti81_bytes : ti81.bytes = 16 := rfl
@[simp] theorem ti81_zero : ti81.zero = [.int .i64 0, .map none] := rfl
def ti85 : TI := ⟨.struct [(0, 9), (1, 3)], 2, 24, [.string ⟨#[]⟩, .int .i64 0], false, false⟩
@[simp] theorem ti85_size : ti85.size = 2 := rfl
@[simp] theorem ti85_bytes : ti85.bytes = 24 := rfl
@[simp] theorem ti85_zero : ti85.zero = [.string ⟨#[]⟩, .int .i64 0] := rfl
def ti86 : TI := ⟨.struct [(0, 9), (1, 3)], 2, 24, [.string ⟨#[]⟩, .int .i64 0], true, false⟩
@[simp] theorem ti86_size : ti86.size = 2 := rfl
@[simp] theorem ti86_bytes : ti86.bytes = 24 := rfl
@[simp] theorem ti86_zero : ti86.zero = [.string ⟨#[]⟩, .int .i64 0] := rfl
set_option maxRecDepth 100000 in
set_option maxHeartbeats 4000000 in
theorem eq86 : ∀ xs ys b, EqC ti86.zero xs ys b → ∀ (x y : Operand) (w : World),
    (do eqGuard .eql 86 x y (.agg xs.toArray) (.agg ys.toArray); binOp .eql 86 (.agg xs.toArray) (.agg ys.toArray) : Sem Value).run Try.prog w = .ok (.bool b) w ∧
    (do eqGuard .neq 86 x y (.agg xs.toArray) (.agg ys.toArray); binOp .neq 86 (.agg xs.toArray) (.agg ys.toArray) : Sem Value).run Try.prog w = .ok (.bool !b) w := by
  intro xs ys b h x y w
  cases h with | str _ _ _ h =>
  cases h with | int _ _ _ _ h =>
  cases h with | nil =>
  constructor
  · simp [go_sem]
    try (repeat' (first | exact eq_one (by rw [Bool.eq_iff_iff]; simp) | refine eq_and (by rw [Bool.eq_iff_iff]; simp) ?_))
  · simp [go_sem]
    try (repeat' (first | exact ne_one (by rw [Bool.eq_iff_iff]; simp) | refine ne_or (by rw [Bool.eq_iff_iff]; simp) ?_))
def ti94 : TI := ⟨.struct [(0, 9), (1, 9), (2, 3)], 3, 40, [.string ⟨#[]⟩, .string ⟨#[]⟩, .int .i64 0], false, false⟩
@[simp] theorem ti94_size : ti94.size = 3 := rfl
@[simp] theorem ti94_bytes : ti94.bytes = 40 := rfl
@[simp] theorem ti94_zero : ti94.zero = [.string ⟨#[]⟩, .string ⟨#[]⟩, .int .i64 0] := rfl
def ti95 : TI := ⟨.struct [(0, 9), (1, 9), (2, 3)], 3, 40, [.string ⟨#[]⟩, .string ⟨#[]⟩, .int .i64 0], true, false⟩
@[simp] theorem ti95_size : ti95.size = 3 := rfl
@[simp] theorem ti95_bytes : ti95.bytes = 40 := rfl
@[simp] theorem ti95_zero : ti95.zero = [.string ⟨#[]⟩, .string ⟨#[]⟩, .int .i64 0] := rfl
set_option maxRecDepth 100000 in
set_option maxHeartbeats 4000000 in
theorem eq95 : ∀ xs ys b, EqC ti95.zero xs ys b → ∀ (x y : Operand) (w : World),
    (do eqGuard .eql 95 x y (.agg xs.toArray) (.agg ys.toArray); binOp .eql 95 (.agg xs.toArray) (.agg ys.toArray) : Sem Value).run Try.prog w = .ok (.bool b) w ∧
    (do eqGuard .neq 95 x y (.agg xs.toArray) (.agg ys.toArray); binOp .neq 95 (.agg xs.toArray) (.agg ys.toArray) : Sem Value).run Try.prog w = .ok (.bool !b) w := by
  intro xs ys b h x y w
  cases h with | str _ _ _ h =>
  cases h with | str _ _ _ h =>
  cases h with | int _ _ _ _ h =>
  cases h with | nil =>
  constructor
  · simp [go_sem]
    try (repeat' (first | exact eq_one (by rw [Bool.eq_iff_iff]; simp) | refine eq_and (by rw [Bool.eq_iff_iff]; simp) ?_))
  · simp [go_sem]
    try (repeat' (first | exact ne_one (by rw [Bool.eq_iff_iff]; simp) | refine ne_or (by rw [Bool.eq_iff_iff]; simp) ?_))
def ti98 : TI := ⟨.struct [(0, 3), (1, 3)], 2, 16, [.int .i64 0, .int .i64 0], false, false⟩
@[simp] theorem ti98_size : ti98.size = 2 := rfl
@[simp] theorem ti98_bytes : ti98.bytes = 16 := rfl
@[simp] theorem ti98_zero : ti98.zero = [.int .i64 0, .int .i64 0] := rfl
def ti99 : TI := ⟨.struct [(0, 3), (1, 3)], 2, 16, [.int .i64 0, .int .i64 0], true, true⟩
@[simp] theorem ti99_size : ti99.size = 2 := rfl
@[simp] theorem ti99_bytes : ti99.bytes = 16 := rfl
@[simp] theorem ti99_zero : ti99.zero = [.int .i64 0, .int .i64 0] := rfl
set_option maxRecDepth 100000 in
set_option maxHeartbeats 4000000 in
theorem eq99 : ∀ xs ys b, EqC ti99.zero xs ys b → ∀ (x y : Operand) (w : World),
    (do eqGuard .eql 99 x y (.agg xs.toArray) (.agg ys.toArray); binOp .eql 99 (.agg xs.toArray) (.agg ys.toArray) : Sem Value).run Try.prog w = .ok (.bool b) w ∧
    (do eqGuard .neq 99 x y (.agg xs.toArray) (.agg ys.toArray); binOp .neq 99 (.agg xs.toArray) (.agg ys.toArray) : Sem Value).run Try.prog w = .ok (.bool !b) w := by
  intro xs ys b h x y w
  cases h with | int _ _ _ _ h =>
  cases h with | int _ _ _ _ h =>
  cases h with | nil =>
  constructor
  · simp [go_sem]
    try (repeat' (first | exact eq_one (by rw [Bool.eq_iff_iff]; simp) | refine eq_and (by rw [Bool.eq_iff_iff]; simp) ?_))
  · simp [go_sem]
    try (repeat' (first | exact ne_one (by rw [Bool.eq_iff_iff]; simp) | refine ne_or (by rw [Bool.eq_iff_iff]; simp) ?_))
def ti101 : TI := ⟨.arr 2 3, 2, 16, [.int .i64 0, .int .i64 0], true, false⟩
@[simp] theorem ti101_size : ti101.size = 2 := rfl
@[simp] theorem ti101_bytes : ti101.bytes = 16 := rfl
@[simp] theorem ti101_zero : ti101.zero = [.int .i64 0, .int .i64 0] := rfl
set_option maxRecDepth 100000 in
set_option maxHeartbeats 4000000 in
theorem eq101 : ∀ xs ys b, EqC ti101.zero xs ys b → ∀ (x y : Operand) (w : World),
    (do eqGuard .eql 101 x y (.agg xs.toArray) (.agg ys.toArray); binOp .eql 101 (.agg xs.toArray) (.agg ys.toArray) : Sem Value).run Try.prog w = .ok (.bool b) w ∧
    (do eqGuard .neq 101 x y (.agg xs.toArray) (.agg ys.toArray); binOp .neq 101 (.agg xs.toArray) (.agg ys.toArray) : Sem Value).run Try.prog w = .ok (.bool !b) w := by
  intro xs ys b h x y w
  cases h with | int _ _ _ _ h =>
  cases h with | int _ _ _ _ h =>
  cases h with | nil =>
  have hi : Try.prog.info? 3 = some ((Try.prog.info? 3).getD default) := by kernel_rfl
  have hc : Try.prog.cellsOf 3 = 1 := by kernel_rfl
  constructor
  · simp [go_sem, run_equalIn_array w 9999 _ _ Try.underlying101 hi, hc, Op.eqItems, List.range_succ]
    try (repeat' (first | exact eq_one (by rw [Bool.eq_iff_iff]; simp) | refine eq_and (by rw [Bool.eq_iff_iff]; simp) ?_))
  · simp [go_sem, run_equalIn_array w 9999 _ _ Try.underlying101 hi, hc, Op.eqItems, List.range_succ]
    try (repeat' (first | exact ne_one (by rw [Bool.eq_iff_iff]; simp) | refine ne_or (by rw [Bool.eq_iff_iff]; simp) ?_))
def ti105 : TI := ⟨.slice 60, 1, 24, [.slice none 0 0], false, false⟩
@[simp] theorem ti105_size : ti105.size = 1 := rfl
@[simp] theorem ti105_bytes : ti105.bytes = 24 := rfl
@[simp] theorem ti105_zero : ti105.zero = [.slice none 0 0] := rfl
def ti106 : TI := ⟨.struct [(0, 3), (1, 105)], 2, 32, [.int .i64 0, .slice none 0 0], false, false⟩
@[simp] theorem ti106_size : ti106.size = 2 := rfl
@[simp] theorem ti106_bytes : ti106.bytes = 32 := rfl
@[simp] theorem ti106_zero : ti106.zero = [.int .i64 0, .slice none 0 0] := rfl
def ti107 : TI := ⟨.struct [(0, 3), (1, 105)], 2, 32, [.int .i64 0, .slice none 0 0], false, false⟩
@[simp] theorem ti107_size : ti107.size = 2 := rfl
@[simp] theorem ti107_bytes : ti107.bytes = 32 := rfl
@[simp] theorem ti107_zero : ti107.zero = [.int .i64 0, .slice none 0 0] := rfl
def ti115 : TI := ⟨.int .u64, 1, 8, [.int .u64 0], false, false⟩
@[simp] theorem ti115_size : ti115.size = 1 := rfl
@[simp] theorem ti115_bytes : ti115.bytes = 8 := rfl
@[simp] theorem ti115_zero : ti115.zero = [.int .u64 0] := rfl
def ti116 : TI := ⟨.slice 3, 1, 24, [.slice none 0 0], false, false⟩
@[simp] theorem ti116_size : ti116.size = 1 := rfl
@[simp] theorem ti116_bytes : ti116.bytes = 24 := rfl
@[simp] theorem ti116_zero : ti116.zero = [.slice none 0 0] := rfl
def ti120 : TI := ⟨.int .i64, 1, 8, [.int .i64 0], false, false⟩
@[simp] theorem ti120_size : ti120.size = 1 := rfl
@[simp] theorem ti120_bytes : ti120.bytes = 8 := rfl
@[simp] theorem ti120_zero : ti120.zero = [.int .i64 0] := rfl
def ti128 : TI := ⟨.int .u32, 1, 4, [.int .u32 0], false, false⟩
@[simp] theorem ti128_size : ti128.size = 1 := rfl
@[simp] theorem ti128_bytes : ti128.bytes = 4 := rfl
@[simp] theorem ti128_zero : ti128.zero = [.int .u32 0] := rfl
def ti130 : TI := ⟨.int .u64, 1, 8, [.int .u64 0], false, false⟩
@[simp] theorem ti130_size : ti130.size = 1 := rfl
@[simp] theorem ti130_bytes : ti130.bytes = 8 := rfl
@[simp] theorem ti130_zero : ti130.zero = [.int .u64 0] := rfl
def ti137 : TI := ⟨.int .u64, 1, 8, [.int .u64 0], false, false⟩
@[simp] theorem ti137_size : ti137.size = 1 := rfl
@[simp] theorem ti137_bytes : ti137.bytes = 8 := rfl
@[simp] theorem ti137_zero : ti137.zero = [.int .u64 0] := rfl
def ti141 : TI := ⟨.ptr 3, 1, 8, [.pointer none], false, false⟩
@[simp] theorem ti141_size : ti141.size = 1 := rfl
@[simp] theorem ti141_bytes : ti141.bytes = 8 := rfl
@[simp] theorem ti141_zero : ti141.zero = [.pointer none] := rfl
def ti145 : TI := ⟨.ptr 137, 1, 8, [.pointer none], false, false⟩
@[simp] theorem ti145_size : ti145.size = 1 := rfl
@[simp] theorem ti145_bytes : ti145.bytes = 8 := rfl
@[simp] theorem ti145_zero : ti145.zero = [.pointer none] := rfl
def ti150 : TI := ⟨.struct [(0, 17), (1, 17), (2, 17), (3, 9)], 4, 40, [.pointer none, .pointer none, .pointer none, .string ⟨#[]⟩], false, false⟩
@[simp] theorem ti150_size : ti150.size = 4 := rfl
@[simp] theorem ti150_bytes : ti150.bytes = 40 := rfl
@[simp] theorem ti150_zero : ti150.zero = [.pointer none, .pointer none, .pointer none, .string ⟨#[]⟩] := rfl
def ti152 : TI := ⟨.arr 0 16, 0, 0, [], false, false⟩
@[simp] theorem ti152_size : ti152.size = 0 := rfl
@[simp] theorem ti152_bytes : ti152.bytes = 0 := rfl
@[simp] theorem ti152_zero : ti152.zero = [] := rfl
def ti153 : TI := ⟨.struct [(0, 152)], 0, 0, [], false, false⟩
@[simp] theorem ti153_size : ti153.size = 0 := rfl
@[simp] theorem ti153_bytes : ti153.bytes = 0 := rfl
@[simp] theorem ti153_zero : ti153.zero = [] := rfl
def ti158 : TI := ⟨.ptr 5, 1, 8, [.pointer none], false, false⟩
@[simp] theorem ti158_size : ti158.size = 1 := rfl
@[simp] theorem ti158_bytes : ti158.bytes = 8 := rfl
@[simp] theorem ti158_zero : ti158.zero = [.pointer none] := rfl
def ti161 : TI := ⟨.struct [(0, 12), (1, 12), (2, 128), (3, 155), (4, 5), (5, 5), (6, 156), (7, 157), (8, 158), (9, 159), (10, 160)], 11, 48, [.int .u64 0, .int .u64 0, .int .u32 0, .int .u8 0, .int .u8 0, .int .u8 0, .int .u8 0, .nilFunc, .pointer none, .int .i32 0, .int .i32 0], false, false⟩
@[simp] theorem ti161_size : ti161.size = 11 := rfl
@[simp] theorem ti161_bytes : ti161.bytes = 48 := rfl
@[simp] theorem ti161_zero : ti161.zero = [.int .u64 0, .int .u64 0, .int .u32 0, .int .u8 0, .int .u8 0, .int .u8 0, .int .u8 0, .nilFunc, .pointer none, .int .i32 0, .int .i32 0] := rfl
set_option maxRecDepth 100000 in
set_option maxHeartbeats 4000000 in
theorem keq99 : ∀ xs ys b, EqC ti99.zero xs ys b → ∀ (w : World), (Op.equal 99 (.agg xs.toArray) (.agg ys.toArray)).run Try.prog w = .ok b w := by
  intro xs ys b h w
  cases h with | int _ _ _ _ h =>
  cases h with | int _ _ _ _ h =>
  cases h with | nil =>
  apply equal_of_bin
  simp [go_sem]
  try (repeat' (first | exact eq_one (by rw [Bool.eq_iff_iff]; simp) | refine eq_and (by rw [Bool.eq_iff_iff]; simp) ?_))
set_option maxRecDepth 100000 in
set_option maxHeartbeats 4000000 in
theorem kck99 : ∀ xs, sameKinds ti99.zero xs = true → ∀ (w : World) (empty : Bool), (Instr.checkKey empty 10000 99 (.agg xs.toArray)).run Try.prog w = .ok () w := by
  intro xs h w empty
  have h1 := kinds_cons h
  clear h
  obtain ⟨x, xs, rfl, hk, h⟩ := h1
  obtain ⟨_, _, _, e, rfl⟩ | ⟨_, _, e, rfl⟩ | ⟨_, _, e, rfl⟩ := sameKind_inv hk <;> first | (cases e; done) | skip
  cases e
  have h1 := kinds_cons h
  clear h
  obtain ⟨x, xs, rfl, hk, h⟩ := h1
  obtain ⟨_, _, _, e, rfl⟩ | ⟨_, _, e, rfl⟩ | ⟨_, _, e, rfl⟩ := sameKind_inv hk <;> first | (cases e; done) | skip
  cases e
  obtain rfl := kinds_nil h
  suffices hs : ∀ n, (Instr.checkKey empty (n + 4) 99 _).run Try.prog w = .ok () w from hs 9996
  intro n
  simp [Instr.checkKey, go_sem]
theorem ok2 : TyOK Try.prog 2 ti2 := ⟨⟨(Try.prog.info? 2).getD default, ((Try.prog.info? 2).getD default).zero.getD default, by kernel_rfl, by kernel_rfl, by kernel_rfl, by kernel_rfl, by kernel_rfl⟩, Try.underlying2, (fun h => by cases h), ⟨(Try.prog.info? 2).getD default, by kernel_rfl, by kernel_rfl⟩, (fun h => by cases h), (fun h => by cases h)⟩
theorem ok3 : TyOK Try.prog 3 ti3 := ⟨⟨(Try.prog.info? 3).getD default, ((Try.prog.info? 3).getD default).zero.getD default, by kernel_rfl, by kernel_rfl, by kernel_rfl, by kernel_rfl, by kernel_rfl⟩, Try.underlying3, (fun h => by cases h), ⟨(Try.prog.info? 3).getD default, by kernel_rfl, by kernel_rfl⟩, (fun h => by cases h), (fun h => by cases h)⟩
theorem ok4 : TyOK Try.prog 4 ti4 := ⟨⟨(Try.prog.info? 4).getD default, ((Try.prog.info? 4).getD default).zero.getD default, by kernel_rfl, by kernel_rfl, by kernel_rfl, by kernel_rfl, by kernel_rfl⟩, Try.underlying4, (fun h => by cases h), ⟨(Try.prog.info? 4).getD default, by kernel_rfl, by kernel_rfl⟩, (fun h => by cases h), (fun h => by cases h)⟩
theorem ok5 : TyOK Try.prog 5 ti5 := ⟨⟨(Try.prog.info? 5).getD default, ((Try.prog.info? 5).getD default).zero.getD default, by kernel_rfl, by kernel_rfl, by kernel_rfl, by kernel_rfl, by kernel_rfl⟩, Try.underlying5, (fun h => by cases h), ⟨(Try.prog.info? 5).getD default, by kernel_rfl, by kernel_rfl⟩, (fun h => by cases h), (fun h => by cases h)⟩
theorem ok7 : TyOK Try.prog 7 ti7 := ⟨⟨(Try.prog.info? 7).getD default, ((Try.prog.info? 7).getD default).zero.getD default, by kernel_rfl, by kernel_rfl, by kernel_rfl, by kernel_rfl, by kernel_rfl⟩, ⟨_, Try.underlying7, rfl⟩, (fun h => by cases h), ⟨(Try.prog.info? 7).getD default, by kernel_rfl, by kernel_rfl⟩, (fun h => by cases h), (fun h => by cases h)⟩
theorem ok9 : TyOK Try.prog 9 ti9 := ⟨⟨(Try.prog.info? 9).getD default, ((Try.prog.info? 9).getD default).zero.getD default, by kernel_rfl, by kernel_rfl, by kernel_rfl, by kernel_rfl, by kernel_rfl⟩, Try.underlying9, (fun h => by cases h), ⟨(Try.prog.info? 9).getD default, by kernel_rfl, by kernel_rfl⟩, (fun h => by cases h), (fun h => by cases h)⟩
theorem ok12 : TyOK Try.prog 12 ti12 := ⟨⟨(Try.prog.info? 12).getD default, ((Try.prog.info? 12).getD default).zero.getD default, by kernel_rfl, by kernel_rfl, by kernel_rfl, by kernel_rfl, by kernel_rfl⟩, Try.underlying12, (fun h => by cases h), ⟨(Try.prog.info? 12).getD default, by kernel_rfl, by kernel_rfl⟩, (fun h => by cases h), (fun h => by cases h)⟩
theorem ok13 : TyOK Try.prog 13 ti13 := ⟨⟨(Try.prog.info? 13).getD default, ((Try.prog.info? 13).getD default).zero.getD default, by kernel_rfl, by kernel_rfl, by kernel_rfl, by kernel_rfl, by kernel_rfl⟩, ⟨_, Try.underlying13, rfl⟩, (fun h => by cases h), ⟨(Try.prog.info? 13).getD default, by kernel_rfl, by kernel_rfl⟩, (fun h => by cases h), (fun h => by cases h)⟩
theorem ok15 : TyOK Try.prog 15 ti15 := ⟨⟨(Try.prog.info? 15).getD default, ((Try.prog.info? 15).getD default).zero.getD default, by kernel_rfl, by kernel_rfl, by kernel_rfl, by kernel_rfl, by kernel_rfl⟩, Try.underlying15, (fun h => by cases h), ⟨(Try.prog.info? 15).getD default, by kernel_rfl, by kernel_rfl⟩, (fun h => by cases h), (fun h => by cases h)⟩
theorem ok16 : TyOK Try.prog 16 ti16 := ⟨⟨(Try.prog.info? 16).getD default, ((Try.prog.info? 16).getD default).zero.getD default, by kernel_rfl, by kernel_rfl, by kernel_rfl, by kernel_rfl, by kernel_rfl⟩, Try.underlying16, (fun h => by cases h), ⟨(Try.prog.info? 16).getD default, by kernel_rfl, by kernel_rfl⟩, (fun h => by cases h), (fun h => by cases h)⟩
theorem ok17 : TyOK Try.prog 17 ti17 := ⟨⟨(Try.prog.info? 17).getD default, ((Try.prog.info? 17).getD default).zero.getD default, by kernel_rfl, by kernel_rfl, by kernel_rfl, by kernel_rfl, by kernel_rfl⟩, Try.underlying17, (fun h => by cases h), ⟨(Try.prog.info? 17).getD default, by kernel_rfl, by kernel_rfl⟩, (fun h => by cases h), (fun h => by cases h)⟩
theorem ok18 : TyOK Try.prog 18 ti18 := ⟨⟨(Try.prog.info? 18).getD default, ((Try.prog.info? 18).getD default).zero.getD default, by kernel_rfl, by kernel_rfl, by kernel_rfl, by kernel_rfl, by kernel_rfl⟩, ⟨_, Try.underlying18, rfl⟩, (fun h => by cases h), ⟨(Try.prog.info? 18).getD default, by kernel_rfl, by kernel_rfl⟩, (fun h => by cases h), (fun h => by cases h)⟩
theorem ok21 : TyOK Try.prog 21 ti21 := ⟨⟨(Try.prog.info? 21).getD default, ((Try.prog.info? 21).getD default).zero.getD default, by kernel_rfl, by kernel_rfl, by kernel_rfl, by kernel_rfl, by kernel_rfl⟩, Try.underlying21, (fun h => by cases h), ⟨(Try.prog.info? 21).getD default, by kernel_rfl, by kernel_rfl⟩, (fun h => by cases h), (fun h => by cases h)⟩
theorem ok22 : TyOK Try.prog 22 ti22 := ⟨⟨(Try.prog.info? 22).getD default, ((Try.prog.info? 22).getD default).zero.getD default, by kernel_rfl, by kernel_rfl, by kernel_rfl, by kernel_rfl, by kernel_rfl⟩, Try.underlying22, (fun h => by cases h), ⟨(Try.prog.info? 22).getD default, by kernel_rfl, by kernel_rfl⟩, (fun h => by cases h), (fun h => by cases h)⟩
theorem ok23 : TyOK Try.prog 23 ti23 := ⟨⟨(Try.prog.info? 23).getD default, ((Try.prog.info? 23).getD default).zero.getD default, by kernel_rfl, by kernel_rfl, by kernel_rfl, by kernel_rfl, by kernel_rfl⟩, ⟨_, Try.underlying23, rfl⟩, (fun h => by cases h), ⟨(Try.prog.info? 23).getD default, by kernel_rfl, by kernel_rfl⟩, (fun h => by cases h), (fun h => by cases h)⟩
theorem ok24 : TyOK Try.prog 24 ti24 := ⟨⟨(Try.prog.info? 24).getD default, ((Try.prog.info? 24).getD default).zero.getD default, by kernel_rfl, by kernel_rfl, by kernel_rfl, by kernel_rfl, by kernel_rfl⟩, ⟨_, Try.underlying24, rfl⟩, fun _ => eq24, ⟨(Try.prog.info? 24).getD default, by kernel_rfl, by kernel_rfl⟩, (fun h => by cases h), (fun h => by cases h)⟩
theorem ok25 : TyOK Try.prog 25 ti25 := ⟨⟨(Try.prog.info? 25).getD default, ((Try.prog.info? 25).getD default).zero.getD default, by kernel_rfl, by kernel_rfl, by kernel_rfl, by kernel_rfl, by kernel_rfl⟩, Try.underlying25, (fun h => by cases h), ⟨(Try.prog.info? 25).getD default, by kernel_rfl, by kernel_rfl⟩, (fun h => by cases h), (fun h => by cases h)⟩
theorem ok27 : TyOK Try.prog 27 ti27 := ⟨⟨(Try.prog.info? 27).getD default, ((Try.prog.info? 27).getD default).zero.getD default, by kernel_rfl, by kernel_rfl, by kernel_rfl, by kernel_rfl, by kernel_rfl⟩, Try.underlying27, (fun h => by cases h), ⟨(Try.prog.info? 27).getD default, by kernel_rfl, by kernel_rfl⟩, (fun h => by cases h), (fun h => by cases h)⟩
theorem ok30 : TyOK Try.prog 30 ti30 := ⟨⟨(Try.prog.info? 30).getD default, ((Try.prog.info? 30).getD default).zero.getD default, by kernel_rfl, by kernel_rfl, by kernel_rfl, by kernel_rfl, by kernel_rfl⟩, Try.underlying30, (fun h => by cases h), ⟨(Try.prog.info? 30).getD default, by kernel_rfl, by kernel_rfl⟩, (fun h => by cases h), (fun h => by cases h)⟩
theorem ok32 : TyOK Try.prog 32 ti32 := ⟨⟨(Try.prog.info? 32).getD default, ((Try.prog.info? 32).getD default).zero.getD default, by kernel_rfl, by kernel_rfl, by kernel_rfl, by kernel_rfl, by kernel_rfl⟩, ⟨_, Try.underlying32, rfl⟩, (fun h => by cases h), ⟨(Try.prog.info? 32).getD default, by kernel_rfl, by kernel_rfl⟩, (fun h => by cases h), (fun h => by cases h)⟩
theorem ok33 : TyOK Try.prog 33 ti33 := ⟨⟨(Try.prog.info? 33).getD default, ((Try.prog.info? 33).getD default).zero.getD default, by kernel_rfl, by kernel_rfl, by kernel_rfl, by kernel_rfl, by kernel_rfl⟩, ⟨_, Try.underlying33, rfl⟩, fun _ => eq33, ⟨(Try.prog.info? 33).getD default, by kernel_rfl, by kernel_rfl⟩, (fun h => by cases h), (fun h => by cases h)⟩
theorem ok35 : TyOK Try.prog 35 ti35 := ⟨⟨(Try.prog.info? 35).getD default, ((Try.prog.info? 35).getD default).zero.getD default, by kernel_rfl, by kernel_rfl, by kernel_rfl, by kernel_rfl, by kernel_rfl⟩, ⟨_, Try.underlying35, rfl⟩, (fun h => by cases h), ⟨(Try.prog.info? 35).getD default, by kernel_rfl, by kernel_rfl⟩, (fun h => by cases h), (fun h => by cases h)⟩
theorem ok36 : TyOK Try.prog 36 ti36 := ⟨⟨(Try.prog.info? 36).getD default, ((Try.prog.info? 36).getD default).zero.getD default, by kernel_rfl, by kernel_rfl, by kernel_rfl, by kernel_rfl, by kernel_rfl⟩, ⟨_, Try.underlying36, rfl⟩, fun _ => eq36, ⟨(Try.prog.info? 36).getD default, by kernel_rfl, by kernel_rfl⟩, (fun h => by cases h), (fun h => by cases h)⟩
theorem ok39 : TyOK Try.prog 39 ti39 := ⟨⟨(Try.prog.info? 39).getD default, ((Try.prog.info? 39).getD default).zero.getD default, by kernel_rfl, by kernel_rfl, by kernel_rfl, by kernel_rfl, by kernel_rfl⟩, Try.underlying39, (fun h => by cases h), ⟨(Try.prog.info? 39).getD default, by kernel_rfl, by kernel_rfl⟩, (fun h => by cases h), (fun h => by cases h)⟩
theorem ok42 : TyOK Try.prog 42 ti42 := ⟨⟨(Try.prog.info? 42).getD default, ((Try.prog.info? 42).getD default).zero.getD default, by kernel_rfl, by kernel_rfl, by kernel_rfl, by kernel_rfl, by kernel_rfl⟩, Try.underlying42, (fun h => by cases h), ⟨(Try.prog.info? 42).getD default, by kernel_rfl, by kernel_rfl⟩, (fun h => by cases h), (fun h => by cases h)⟩
theorem ok49 : TyOK Try.prog 49 ti49 := ⟨⟨(Try.prog.info? 49).getD default, ((Try.prog.info? 49).getD default).zero.getD default, by kernel_rfl, by kernel_rfl, by kernel_rfl, by kernel_rfl, by kernel_rfl⟩, Try.underlying49, (fun h => by cases h), ⟨(Try.prog.info? 49).getD default, by kernel_rfl, by kernel_rfl⟩, (fun h => by cases h), (fun h => by cases h)⟩
theorem ok50 : TyOK Try.prog 50 ti50 := ⟨⟨(Try.prog.info? 50).getD default, ((Try.prog.info? 50).getD default).zero.getD default, by kernel_rfl, by kernel_rfl, by kernel_rfl, by kernel_rfl, by kernel_rfl⟩, ⟨_, Try.underlying50, rfl⟩, (fun h => by cases h), ⟨(Try.prog.info? 50).getD default, by kernel_rfl, by kernel_rfl⟩, (fun h => by cases h), (fun h => by cases h)⟩
theorem ok51 : TyOK Try.prog 51 ti51 := ⟨⟨(Try.prog.info? 51).getD default, ((Try.prog.info? 51).getD default).zero.getD default, by kernel_rfl, by kernel_rfl, by kernel_rfl, by kernel_rfl, by kernel_rfl⟩, ⟨_, Try.underlying51, rfl⟩, (fun h => by cases h), ⟨(Try.prog.info? 51).getD default, by kernel_rfl, by kernel_rfl⟩, (fun h => by cases h), (fun h => by cases h)⟩
theorem ok53 : TyOK Try.prog 53 ti53 := ⟨⟨(Try.prog.info? 53).getD default, ((Try.prog.info? 53).getD default).zero.getD default, by kernel_rfl, by kernel_rfl, by kernel_rfl, by kernel_rfl, by kernel_rfl⟩, Try.underlying53, (fun h => by cases h), ⟨(Try.prog.info? 53).getD default, by kernel_rfl, by kernel_rfl⟩, (fun h => by cases h), (fun h => by cases h)⟩
theorem ok54 : TyOK Try.prog 54 ti54 := ⟨⟨(Try.prog.info? 54).getD default, ((Try.prog.info? 54).getD default).zero.getD default, by kernel_rfl, by kernel_rfl, by kernel_rfl, by kernel_rfl, by kernel_rfl⟩, Try.underlying54, (fun h => by cases h), ⟨(Try.prog.info? 54).getD default, by kernel_rfl, by kernel_rfl⟩, (fun h => by cases h), (fun h => by cases h)⟩
theorem ok57 : TyOK Try.prog 57 ti57 := ⟨⟨(Try.prog.info? 57).getD default, ((Try.prog.info? 57).getD default).zero.getD default, by kernel_rfl, by kernel_rfl, by kernel_rfl, by kernel_rfl, by kernel_rfl⟩, Try.underlying57, (fun h => by cases h), ⟨(Try.prog.info? 57).getD default, by kernel_rfl, by kernel_rfl⟩, (fun h => by cases h), (fun h => by cases h)⟩
theorem ok59 : TyOK Try.prog 59 ti59 := ⟨⟨(Try.prog.info? 59).getD default, ((Try.prog.info? 59).getD default).zero.getD default, by kernel_rfl, by kernel_rfl, by kernel_rfl, by kernel_rfl, by kernel_rfl⟩, ⟨_, Try.underlying59, rfl⟩, (fun h => by cases h), ⟨(Try.prog.info? 59).getD default, by kernel_rfl, by kernel_rfl⟩, (fun h => by cases h), (fun h => by cases h)⟩
theorem ok60 : TyOK Try.prog 60 ti60 := ⟨⟨(Try.prog.info? 60).getD default, ((Try.prog.info? 60).getD default).zero.getD default, by kernel_rfl, by kernel_rfl, by kernel_rfl, by kernel_rfl, by kernel_rfl⟩, ⟨_, Try.underlying60, rfl⟩, fun _ => eq60, ⟨(Try.prog.info? 60).getD default, by kernel_rfl, by kernel_rfl⟩, (fun h => by cases h), (fun h => by cases h)⟩
theorem ok65 : TyOK Try.prog 65 ti65 := ⟨⟨(Try.prog.info? 65).getD default, ((Try.prog.info? 65).getD default).zero.getD default, by kernel_rfl, by kernel_rfl, by kernel_rfl, by kernel_rfl, by kernel_rfl⟩, Try.underlying65, (fun h => by cases h), ⟨(Try.prog.info? 65).getD default, by kernel_rfl, by kernel_rfl⟩, (fun h => by cases h), (fun h => by cases h)⟩
theorem ok68 : TyOK Try.prog 68 ti68 := ⟨⟨(Try.prog.info? 68).getD default, ((Try.prog.info? 68).getD default).zero.getD default, by kernel_rfl, by kernel_rfl, by kernel_rfl, by kernel_rfl, by kernel_rfl⟩, Try.underlying68, (fun h => by cases h), ⟨(Try.prog.info? 68).getD default, by kernel_rfl, by kernel_rfl⟩, (fun h => by cases h), (fun h => by cases h)⟩
theorem ok70 : TyOK Try.prog 70 ti70 := ⟨⟨(Try.prog.info? 70).getD default, ((Try.prog.info? 70).getD default).zero.getD default, by kernel_rfl, by kernel_rfl, by kernel_rfl, by kernel_rfl, by kernel_rfl⟩, Try.underlying70, (fun h => by cases h), ⟨(Try.prog.info? 70).getD default, by kernel_rfl, by kernel_rfl⟩, (fun h => by cases h), (fun h => by cases h)⟩
theorem ok73 : TyOK Try.prog 73 ti73 := ⟨⟨(Try.prog.info? 73).getD default, ((Try.prog.info? 73).getD default).zero.getD default, by kernel_rfl, by kernel_rfl, by kernel_rfl, by kernel_rfl, by kernel_rfl⟩, ⟨_, Try.underlying73, rfl⟩, (fun h => by cases h), ⟨(Try.prog.info? 73).getD default, by kernel_rfl, by kernel_rfl⟩, (fun h => by cases h), (fun h => by cases h)⟩
theorem ok74 : TyOK Try.prog 74 ti74 := ⟨⟨(Try.prog.info? 74).getD default, ((Try.prog.info? 74).getD default).zero.getD default, by kernel_rfl, by kernel_rfl, by kernel_rfl, by kernel_rfl, by kernel_rfl⟩, ⟨_, Try.underlying74, rfl⟩, fun _ => eq74, ⟨(Try.prog.info? 74).getD default, by kernel_rfl, by kernel_rfl⟩, (fun h => by cases h), (fun h => by cases h)⟩
theorem ok79 : TyOK Try.prog 79 ti79 := ⟨⟨(Try.prog.info? 79).getD default, ((Try.prog.info? 79).getD default).zero.getD default, by kernel_rfl, by kernel_rfl, by kernel_rfl, by kernel_rfl, by kernel_rfl⟩, Try.underlying79, (fun h => by cases h), ⟨(Try.prog.info? 79).getD default, by kernel_rfl, by kernel_rfl⟩, (fun h => by cases h), (fun h => by cases h)⟩
theorem ok80 : TyOK Try.prog 80 ti80 := ⟨⟨(Try.prog.info? 80).getD default, ((Try.prog.info? 80).getD default).zero.getD default, by kernel_rfl, by kernel_rfl, by kernel_rfl, by kernel_rfl, by kernel_rfl⟩, ⟨_, Try.underlying80, rfl⟩, (fun h => by cases h), ⟨(Try.prog.info? 80).getD default, by kernel_rfl, by kernel_rfl⟩, (fun h => by cases h), (fun h => by cases h)⟩
theorem ok81 : TyOK Try.prog 81 ti81 := ⟨⟨(Try.prog.info? 81).getD default, ((Try.prog.info? 81).getD default).zero.getD default, by kernel_rfl, by kernel_rfl, by kernel_rfl, by kernel_rfl, by kernel_rfl⟩, ⟨_, Try.underlying81, rfl⟩, (fun h => by cases h), ⟨(Try.prog.info? 81).getD default, by kernel_rfl, by kernel_rfl⟩, (fun h => by cases h), (fun h => by cases h)⟩
theorem ok85 : TyOK Try.prog 85 ti85 := ⟨⟨(Try.prog.info? 85).getD default, ((Try.prog.info? 85).getD default).zero.getD default, by kernel_rfl, by kernel_rfl, by kernel_rfl, by kernel_rfl, by kernel_rfl⟩, ⟨_, Try.underlying85, rfl⟩, (fun h => by cases h), ⟨(Try.prog.info? 85).getD default, by kernel_rfl, by kernel_rfl⟩, (fun h => by cases h), (fun h => by cases h)⟩
theorem ok86 : TyOK Try.prog 86 ti86 := ⟨⟨(Try.prog.info? 86).getD default, ((Try.prog.info? 86).getD default).zero.getD default, by kernel_rfl, by kernel_rfl, by kernel_rfl, by kernel_rfl, by kernel_rfl⟩, ⟨_, Try.underlying86, rfl⟩, fun _ => eq86, ⟨(Try.prog.info? 86).getD default, by kernel_rfl, by kernel_rfl⟩, (fun h => by cases h), (fun h => by cases h)⟩
theorem ok94 : TyOK Try.prog 94 ti94 := ⟨⟨(Try.prog.info? 94).getD default, ((Try.prog.info? 94).getD default).zero.getD default, by kernel_rfl, by kernel_rfl, by kernel_rfl, by kernel_rfl, by kernel_rfl⟩, ⟨_, Try.underlying94, rfl⟩, (fun h => by cases h), ⟨(Try.prog.info? 94).getD default, by kernel_rfl, by kernel_rfl⟩, (fun h => by cases h), (fun h => by cases h)⟩
theorem ok95 : TyOK Try.prog 95 ti95 := ⟨⟨(Try.prog.info? 95).getD default, ((Try.prog.info? 95).getD default).zero.getD default, by kernel_rfl, by kernel_rfl, by kernel_rfl, by kernel_rfl, by kernel_rfl⟩, ⟨_, Try.underlying95, rfl⟩, fun _ => eq95, ⟨(Try.prog.info? 95).getD default, by kernel_rfl, by kernel_rfl⟩, (fun h => by cases h), (fun h => by cases h)⟩
theorem ok98 : TyOK Try.prog 98 ti98 := ⟨⟨(Try.prog.info? 98).getD default, ((Try.prog.info? 98).getD default).zero.getD default, by kernel_rfl, by kernel_rfl, by kernel_rfl, by kernel_rfl, by kernel_rfl⟩, ⟨_, Try.underlying98, rfl⟩, (fun h => by cases h), ⟨(Try.prog.info? 98).getD default, by kernel_rfl, by kernel_rfl⟩, (fun h => by cases h), (fun h => by cases h)⟩
theorem ok99 : TyOK Try.prog 99 ti99 := ⟨⟨(Try.prog.info? 99).getD default, ((Try.prog.info? 99).getD default).zero.getD default, by kernel_rfl, by kernel_rfl, by kernel_rfl, by kernel_rfl, by kernel_rfl⟩, ⟨_, Try.underlying99, rfl⟩, fun _ => eq99, ⟨(Try.prog.info? 99).getD default, by kernel_rfl, by kernel_rfl⟩, fun _ => keq99, fun _ => kck99⟩
theorem ok101 : TyOK Try.prog 101 ti101 := ⟨⟨(Try.prog.info? 101).getD default, ((Try.prog.info? 101).getD default).zero.getD default, by kernel_rfl, by kernel_rfl, by kernel_rfl, by kernel_rfl, by kernel_rfl⟩, Try.underlying101, fun _ => eq101, ⟨(Try.prog.info? 101).getD default, by kernel_rfl, by kernel_rfl⟩, (fun h => by cases h), (fun h => by cases h)⟩
theorem ok105 : TyOK Try.prog 105 ti105 := ⟨⟨(Try.prog.info? 105).getD default, ((Try.prog.info? 105).getD default).zero.getD default, by kernel_rfl, by kernel_rfl, by kernel_rfl, by kernel_rfl, by kernel_rfl⟩, Try.underlying105, (fun h => by cases h), ⟨(Try.prog.info? 105).getD default, by kernel_rfl, by kernel_rfl⟩, (fun h => by cases h), (fun h => by cases h)⟩
theorem ok106 : TyOK Try.prog 106 ti106 := ⟨⟨(Try.prog.info? 106).getD default, ((Try.prog.info? 106).getD default).zero.getD default, by kernel_rfl, by kernel_rfl, by kernel_rfl, by kernel_rfl, by kernel_rfl⟩, ⟨_, Try.underlying106, rfl⟩, (fun h => by cases h), ⟨(Try.prog.info? 106).getD default, by kernel_rfl, by kernel_rfl⟩, (fun h => by cases h), (fun h => by cases h)⟩
theorem ok107 : TyOK Try.prog 107 ti107 := ⟨⟨(Try.prog.info? 107).getD default, ((Try.prog.info? 107).getD default).zero.getD default, by kernel_rfl, by kernel_rfl, by kernel_rfl, by kernel_rfl, by kernel_rfl⟩, ⟨_, Try.underlying107, rfl⟩, (fun h => by cases h), ⟨(Try.prog.info? 107).getD default, by kernel_rfl, by kernel_rfl⟩, (fun h => by cases h), (fun h => by cases h)⟩
theorem ok115 : TyOK Try.prog 115 ti115 := ⟨⟨(Try.prog.info? 115).getD default, ((Try.prog.info? 115).getD default).zero.getD default, by kernel_rfl, by kernel_rfl, by kernel_rfl, by kernel_rfl, by kernel_rfl⟩, Try.underlying115, (fun h => by cases h), ⟨(Try.prog.info? 115).getD default, by kernel_rfl, by kernel_rfl⟩, (fun h => by cases h), (fun h => by cases h)⟩
theorem ok116 : TyOK Try.prog 116 ti116 := ⟨⟨(Try.prog.info? 116).getD default, ((Try.prog.info? 116).getD default).zero.getD default, by kernel_rfl, by kernel_rfl, by kernel_rfl, by kernel_rfl, by kernel_rfl⟩, Try.underlying116, (fun h => by cases h), ⟨(Try.prog.info? 116).getD default, by kernel_rfl, by kernel_rfl⟩, (fun h => by cases h), (fun h => by cases h)⟩
theorem ok120 : TyOK Try.prog 120 ti120 := ⟨⟨(Try.prog.info? 120).getD default, ((Try.prog.info? 120).getD default).zero.getD default, by kernel_rfl, by kernel_rfl, by kernel_rfl, by kernel_rfl, by kernel_rfl⟩, Try.underlying120, (fun h => by cases h), ⟨(Try.prog.info? 120).getD default, by kernel_rfl, by kernel_rfl⟩, (fun h => by cases h), (fun h => by cases h)⟩
theorem ok128 : TyOK Try.prog 128 ti128 := ⟨⟨(Try.prog.info? 128).getD default, ((Try.prog.info? 128).getD default).zero.getD default, by kernel_rfl, by kernel_rfl, by kernel_rfl, by kernel_rfl, by kernel_rfl⟩, Try.underlying128, (fun h => by cases h), ⟨(Try.prog.info? 128).getD default, by kernel_rfl, by kernel_rfl⟩, (fun h => by cases h), (fun h => by cases h)⟩
theorem ok130 : TyOK Try.prog 130 ti130 := ⟨⟨(Try.prog.info? 130).getD default, ((Try.prog.info? 130).getD default).zero.getD default, by kernel_rfl, by kernel_rfl, by kernel_rfl, by kernel_rfl, by kernel_rfl⟩, Try.underlying130, (fun h => by cases h), ⟨(Try.prog.info? 130).getD default, by kernel_rfl, by kernel_rfl⟩, (fun h => by cases h), (fun h => by cases h)⟩
theorem ok137 : TyOK Try.prog 137 ti137 := ⟨⟨(Try.prog.info? 137).getD default, ((Try.prog.info? 137).getD default).zero.getD default, by kernel_rfl, by kernel_rfl, by kernel_rfl, by kernel_rfl, by kernel_rfl⟩, Try.underlying137, (fun h => by cases h), ⟨(Try.prog.info? 137).getD default, by kernel_rfl, by kernel_rfl⟩, (fun h => by cases h), (fun h => by cases h)⟩
theorem ok141 : TyOK Try.prog 141 ti141 := ⟨⟨(Try.prog.info? 141).getD default, ((Try.prog.info? 141).getD default).zero.getD default, by kernel_rfl, by kernel_rfl, by kernel_rfl, by kernel_rfl, by kernel_rfl⟩, Try.underlying141, (fun h => by cases h), ⟨(Try.prog.info? 141).getD default, by kernel_rfl, by kernel_rfl⟩, (fun h => by cases h), (fun h => by cases h)⟩
theorem ok145 : TyOK Try.prog 145 ti145 := ⟨⟨(Try.prog.info? 145).getD default, ((Try.prog.info? 145).getD default).zero.getD default, by kernel_rfl, by kernel_rfl, by kernel_rfl, by kernel_rfl, by kernel_rfl⟩, Try.underlying145, (fun h => by cases h), ⟨(Try.prog.info? 145).getD default, by kernel_rfl, by kernel_rfl⟩, (fun h => by cases h), (fun h => by cases h)⟩
theorem ok150 : TyOK Try.prog 150 ti150 := ⟨⟨(Try.prog.info? 150).getD default, ((Try.prog.info? 150).getD default).zero.getD default, by kernel_rfl, by kernel_rfl, by kernel_rfl, by kernel_rfl, by kernel_rfl⟩, ⟨_, Try.underlying150, rfl⟩, (fun h => by cases h), ⟨(Try.prog.info? 150).getD default, by kernel_rfl, by kernel_rfl⟩, (fun h => by cases h), (fun h => by cases h)⟩
theorem ok152 : TyOK Try.prog 152 ti152 := ⟨⟨(Try.prog.info? 152).getD default, ((Try.prog.info? 152).getD default).zero.getD default, by kernel_rfl, by kernel_rfl, by kernel_rfl, by kernel_rfl, by kernel_rfl⟩, Try.underlying152, (fun h => by cases h), ⟨(Try.prog.info? 152).getD default, by kernel_rfl, by kernel_rfl⟩, (fun h => by cases h), (fun h => by cases h)⟩
theorem ok153 : TyOK Try.prog 153 ti153 := ⟨⟨(Try.prog.info? 153).getD default, ((Try.prog.info? 153).getD default).zero.getD default, by kernel_rfl, by kernel_rfl, by kernel_rfl, by kernel_rfl, by kernel_rfl⟩, ⟨_, Try.underlying153, rfl⟩, (fun h => by cases h), ⟨(Try.prog.info? 153).getD default, by kernel_rfl, by kernel_rfl⟩, (fun h => by cases h), (fun h => by cases h)⟩
theorem ok158 : TyOK Try.prog 158 ti158 := ⟨⟨(Try.prog.info? 158).getD default, ((Try.prog.info? 158).getD default).zero.getD default, by kernel_rfl, by kernel_rfl, by kernel_rfl, by kernel_rfl, by kernel_rfl⟩, Try.underlying158, (fun h => by cases h), ⟨(Try.prog.info? 158).getD default, by kernel_rfl, by kernel_rfl⟩, (fun h => by cases h), (fun h => by cases h)⟩
theorem ok161 : TyOK Try.prog 161 ti161 := ⟨⟨(Try.prog.info? 161).getD default, ((Try.prog.info? 161).getD default).zero.getD default, by kernel_rfl, by kernel_rfl, by kernel_rfl, by kernel_rfl, by kernel_rfl⟩, ⟨_, Try.underlying161, rfl⟩, (fun h => by cases h), ⟨(Try.prog.info? 161).getD default, by kernel_rfl, by kernel_rfl⟩, (fun h => by cases h), (fun h => by cases h)⟩
def lookT : List (Nat × TI) → Nat → Option TI
  | [], _ => none
  | (i, x) :: r, n => match Nat.beq i n with
    | true => some x
    | false => lookT r n
theorem lookT_spec : ∀ (l : List (Nat × TI)) (n : Nat) (x : TI), lookT l n = some x → (n, x) ∈ l
  | [], _, _, h => by cases h
  | (i, y) :: r, n, x, h => by
    unfold lookT at h
    split at h
    · rename_i hb; cases h; rw [Nat.eq_of_beq_eq_true hb]; exact List.mem_cons_self ..
    · exact List.mem_cons_of_mem _ (lookT_spec r n x h)
def tyList : List (Nat × TI) := [(2, ti2), (3, ti3), (4, ti4), (5, ti5), (7, ti7), (9, ti9), (12, ti12), (13, ti13), (15, ti15), (16, ti16), (17, ti17), (18, ti18), (21, ti21), (22, ti22), (23, ti23), (24, ti24), (25, ti25), (27, ti27), (30, ti30), (32, ti32), (33, ti33), (35, ti35), (36, ti36), (39, ti39), (42, ti42), (49, ti49), (50, ti50), (51, ti51), (53, ti53), (54, ti54), (57, ti57), (59, ti59), (60, ti60), (65, ti65), (68, ti68), (70, ti70), (73, ti73), (74, ti74), (79, ti79), (80, ti80), (81, ti81), (85, ti85), (86, ti86), (94, ti94), (95, ti95), (98, ti98), (99, ti99), (101, ti101), (105, ti105), (106, ti106), (107, ti107), (115, ti115), (116, ti116), (120, ti120), (128, ti128), (130, ti130), (137, ti137), (141, ti141), (145, ti145), (150, ti150), (152, ti152), (153, ti153), (158, ti158), (161, ti161)]
def AllTy (P : Program) : List (Nat × TI) → Prop
  | [] => True
  | (t, x) :: r => TyOK P t x ∧ AllTy P r
theorem allTy_spec {P : Program} : ∀ {l : List (Nat × TI)}, AllTy P l → ∀ t x, (t, x) ∈ l → TyOK P t x
  | (_, _) :: r, h, t, x, hm => by
    rcases List.mem_cons.1 hm with he | hm
    · cases he; exact h.1
    · exact allTy_spec h.2 t x hm
theorem allOK : AllTy Try.prog tyList := ⟨ok2, ok3, ok4, ok5, ok7, ok9, ok12, ok13, ok15, ok16, ok17, ok18, ok21, ok22, ok23, ok24, ok25, ok27, ok30, ok32, ok33, ok35, ok36, ok39, ok42, ok49, ok50, ok51, ok53, ok54, ok57, ok59, ok60, ok65, ok68, ok70, ok73, ok74, ok79, ok80, ok81, ok85, ok86, ok94, ok95, ok98, ok99, ok101, ok105, ok106, ok107, ok115, ok116, ok120, ok128, ok130, ok137, ok141, ok145, ok150, ok152, ok153, ok158, ok161, trivial⟩
def tyL (n : Nat) : Option TI := lookT tyList n
def fnL : List Nat := [3, 4, 5, 6, 7, 8, 9, 10, 11, 12, 13, 14, 15, 16, 17, 18, 19, 20, 21, 22, 23, 24, 25, 26, 27, 28, 29, 30, 31, 32, 33, 34, 35, 36, 37, 38, 39, 40, 41, 42, 43, 44, 45, 46, 47, 48, 49, 50, 51, 52, 53, 54, 55, 56, 57, 58, 59, 60, 61, 63, 64, 65, 66, 68, 69, 70, 71, 72, 73, 74, 75, 76, 77, 78, 81, 82, 83, 84, 85, 86, 87, 88, 89, 90, 91, 93, 94, 95, 96, 97, 98, 99, 100]
def memB : List Nat → Nat → Bool
  | [], _ => false
  | x :: xs, n => match Nat.beq x n with
    | true => true
    | false => memB xs n
theorem memB_spec : ∀ (l : List Nat) (n : Nat), memB l n = true → n ∈ l
  | x :: xs, n, h => by
    unfold memB at h
    split at h
    · rename_i hb; rw [Nat.eq_of_beq_eq_true hb]; exact List.mem_cons_self ..
    · exact List.mem_cons_of_mem _ (memB_spec xs n h)
def tab : Tab := ⟨tyL, memB fnL⟩
theorem fnOK : (fnL.all fun f => (Try.prog.funcs[f]?).any fun fn => !(fn.name == "runtime.NumGoroutine") && fn.body.isSome) = true := by kernel_rfl
theorem tabOK : TabOK Try.prog tab := by
  refine ⟨fun t ti h => ?_, fun f hf args w => ?_, by kernel_rfl⟩
  · exact allTy_spec allOK t ti (lookT_spec _ _ _ h)
  · have := List.all_eq_true.1 fnOK f (memB_spec fnL f hf)
    obtain ⟨fn, hfn, hb⟩ := (Option.any_eq_true _ _).1 this
    simp only [Bool.and_eq_true, Bool.not_eq_true'] at hb
    obtain ⟨c, hc⟩ := Option.isSome_iff_exists.1 hb.2
    exact MuLone.run_callFunc_enter hfn hb.1 hc args w
end Go.Proofs.Ytfniieigeofbdaa
