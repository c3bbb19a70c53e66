/-
  ShotsApply: the frame of the proof: the arguments' readings, the row. The walk is imported. No condition.
-/
import Derived.Test.YtfkbodonidkpoaaRows
import Derived.Test.YtfkbodonidkpoaaLawShotsApplyW
import Derived.Test.YtfkbodonidkpoaaPI
import Derived.Test.YtfkbodonidkpoaaP7
import Derived.ProofKit
import Derived.OpenShut
import Derived.ShutString
import Derived.ChangeOld
namespace Go.Proofs.Ytfkbodonidkpoaa.lawShotsApply
open Go.ChangeShapes Go.WideShapes Go.ChangeAt Go.RowKit
open Go.ChangeMaps (open_string shut_string)
set_option linter.unusedVariables false

theorem own : ownKnob Try.prog.godebug = none := by kernel_rfl
theorem laidOut : laidOutB Try.prog = true := by kernel_rfl
theorem reads3 : Reads Try.prog 3 [intL .i64] := reads_int Try.underlying3 (by kernel_rfl)
theorem reads9 : Reads Try.prog 9 [strL] := reads_str Try.underlying9 (by kernel_rfl)
theorem reads41 : Reads Try.prog 41 [intL .i64, strL, intL .i64, intL .i64] := reads_struct Try.underlying41 (by kernel_rfl) ⟨rfl, _, _, reads3, rfl, ⟨rfl, _, _, reads9, rfl, ⟨rfl, _, _, reads3, rfl, ⟨rfl, _, _, reads3, rfl, rfl⟩⟩⟩⟩
theorem reads97 : Reads Try.prog 97 [intL .i64, intL .i64, intL .i64, strL, intL .i64, intL .i64] := reads_struct Try.underlying97 (by kernel_rfl) ⟨rfl, _, _, reads3, rfl, ⟨rfl, _, _, reads3, rfl, ⟨rfl, _, _, reads41, rfl, rfl⟩⟩⟩
theorem reads30 : Reads Try.prog 30 [rowsL [intL .i64, intL .i64, intL .i64, strL, intL .i64, intL .i64]] := reads_slice Try.underlying30 (by kernel_rfl) reads97 (by decide)
theorem reads104 : Reads Try.prog 104 [strL, strL, intL .i64] := reads_struct Try.underlying104 (by kernel_rfl) ⟨rfl, _, _, reads9, rfl, ⟨rfl, _, _, reads9, rfl, ⟨rfl, _, _, reads3, rfl, rfl⟩⟩⟩
theorem reads29 : Reads Try.prog 29 [rowsL [strL, strL, intL .i64]] := reads_slice Try.underlying29 (by kernel_rfl) reads104 (by decide)
theorem reads32 : Reads Try.prog 32 [intL .i64, rowsL [strL, strL, intL .i64], rowsL [intL .i64, intL .i64, intL .i64, strL, intL .i64, intL .i64]] := reads_struct Try.underlying32 (by kernel_rfl) ⟨rfl, _, _, reads3, rfl, ⟨rfl, _, _, reads29, rfl, ⟨rfl, _, _, reads30, rfl, rfl⟩⟩⟩
theorem reads34 : Reads Try.prog 34 [intL .i64, strL, strL, intL .i64] := reads_struct Try.underlying34 (by kernel_rfl) ⟨rfl, _, _, reads3, rfl, ⟨rfl, _, _, reads9, rfl, ⟨rfl, _, _, reads9, rfl, ⟨rfl, _, _, reads3, rfl, rfl⟩⟩⟩⟩
theorem reads36 : Reads Try.prog 36 [intL .i64, intL .i64, intL .i64, intL .i64, strL, strL, intL .i64] := reads_struct Try.underlying36 (by kernel_rfl) ⟨rfl, _, _, reads3, rfl, ⟨rfl, _, _, reads3, rfl, ⟨rfl, _, _, reads3, rfl, ⟨rfl, _, _, reads34, rfl, rfl⟩⟩⟩⟩

set_option maxRecDepth 100000 in
theorem lifted (os : Os) (started : os.Started) (H : Type) (enc : TypeId × Value → H) :
    ReturnsInHanded {} Try.checked os 6 .any (Rows.shotsApplySpec.pre6 enc Try.prog Try.f6 Rows.shotsApplyRow.domain false) (Rows.shotsApplySpec.post enc Try.prog Try.f6 false true false false) := by
  refine returnsInHanded_of_change (C := Try.checked) own started (by kernel_rfl) Try.func6
    (ChangeSpec.witness6 (enc := enc) (C := Try.checked) false ⟨#[], #[.agg #[.int .i64 0, .slice none 0 0, .slice none 0 0], .agg #[.int .i64 0, .int .i64 0, .int .i64 0, .int .i64 0, .string ByteArray.empty, .string ByteArray.empty, .int .i64 0]], []⟩ 8 (by kernel_rfl) (by kernel_rfl) (by kernel_rfl) (by kernel_rfl)) ?_
  intro W base args ds gs before hval0 hW hcnd _
  have hval : ∀ (j : Nat) t v, Try.f6.params[j]? = some t → args[j]? = some v → Value.okWide Try.prog W .any base t v := hval0
  have hW' := hW
  obtain ⟨p, q, hA0, hV, rfl, hfz, hnd⟩ := hW
  have hA : DataW.TrodAll enc Try.prog W 0 (fun _ => true) true Try.f6.params.toList args.toList ds p := hA0
  rw [Try.params6] at hA hval
  obtain ⟨v0, vs0, d0, ds0, p0, q0, hargs, rfl, rfl, h0, r0⟩ := trodAll_cons hA
  obtain ⟨v1, vs1, d1, ds1, p1, q1, rfl, rfl, rfl, h1, r1⟩ := trodAll_cons r0
  obtain ⟨rfl, rfl, rfl⟩ := trodAll_nil r1
  obtain rfl : args = #[v0, v1] := by cases args; simp_all
  obtain ⟨rfl, rfl⟩ := trodVars_none hV
  have k0 := h0
  have lt0 : ∀ x ∈ p0, x.block < W.heap.size := by obtain ⟨m, hm⟩ := k0; exact DataW.trod_lt m _ _ _ hm
  obtain ⟨cs0, rfl, m0_0⟩ := reads_agg Try.underlying32 reads32 (hval 0 32 v0 rfl rfl) h0
  obtain ⟨_, _, rfl, ⟨n0, rfl, w0⟩, m0_1⟩ := m0_0.cons_
  obtain ⟨_, _, rfl, ⟨a1, n1, c1, rfl, w1, x1, y1⟩, m0_2⟩ := m0_1.cons_
  obtain ⟨_, _, rfl, ⟨a2, n2, c2, rfl, w2, x2, y2⟩, m0_3⟩ := m0_2.cons_
  obtain rfl := m0_3.nil_
  have k1 := h1
  have lt1 : ∀ x ∈ p1, x.block < W.heap.size := by obtain ⟨m, hm⟩ := k1; exact DataW.trod_lt m _ _ _ hm
  obtain ⟨cs1, rfl, m1_0⟩ := reads_agg Try.underlying36 reads36 (hval 1 36 v1 rfl rfl) h1
  obtain ⟨_, _, rfl, ⟨n3, rfl, w3⟩, m1_1⟩ := m1_0.cons_
  obtain ⟨_, _, rfl, ⟨n4, rfl, w4⟩, m1_2⟩ := m1_1.cons_
  obtain ⟨_, _, rfl, ⟨n5, rfl, w5⟩, m1_3⟩ := m1_2.cons_
  obtain ⟨_, _, rfl, ⟨n6, rfl, w6⟩, m1_4⟩ := m1_3.cons_
  obtain ⟨_, _, rfl, ⟨s7, rfl, w7⟩, m1_5⟩ := m1_4.cons_
  obtain ⟨_, _, rfl, ⟨s8, rfl, w8⟩, m1_6⟩ := m1_5.cons_
  obtain ⟨_, _, rfl, ⟨n9, rfl, w9⟩, m1_7⟩ := m1_6.cons_
  obtain rfl := m1_7.nil_
  clear hA0 hval0 hval
  refine (walk W n0 w0 a1 n1 c1 w1 x1 y1 a2 n2 c2 w2 x2 y2 n3 w3 n4 w4 n5 w5 n6 w6 s7 w7 s8 w8 n9 w9).mono fun e W' ⟨he, bel⟩ => ?_
  subst he
  exact ⟨_, rfl, _, _, _, [], _, [], hW', trodAll_mk1 (shut_bool Try.underlying4 _), (trodAll_cons_mk (Below.trod laidOut (by kernel_rfl) (of_decide_eq_true (by kernel_rfl)) k0 bel lt0) (trodAll_cons_mk (Below.trod laidOut (by kernel_rfl) (of_decide_eq_true (by kernel_rfl)) k1 bel lt1) trodAll_mk0)), rfl, bel.frame _, fun h => by cases h⟩

theorem over : Rows.shotsApplyRow.holds Try.pinned (OpenSpec.ofChange Rows.shotsApplySpec) :=
  OpenClaim.holds_of_wide 6 Try.f6 rfl rfl rfl rfl rfl rfl rfl ⟨rfl, rfl, rfl, rfl, rfl⟩ rfl rfl rfl rfl rfl (by kernel_rfl) Try.func6 (by kernel_rfl)
    (of_decide_eq_true (by kernel_rfl)) (by unfold Func.isWrapper; first | (rw [if_pos (by decide +kernel)]; kernel_rfl) | (rw [if_neg (by decide +kernel)]; exact ⟨rfl, rfl⟩))
    (fun os started H enc _ => lifted os started H enc)

theorem proved : Rows.ShotsApplySaid := over
#print axioms proved
end Go.Proofs.Ytfkbodonidkpoaa.lawShotsApply
