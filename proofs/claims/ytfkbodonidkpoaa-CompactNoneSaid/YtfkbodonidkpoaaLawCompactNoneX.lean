/-
  CompactNone: the frame of the proof: the arguments' readings, the row. The walk is imported. No condition.
-/
import Derived.Test.YtfkbodonidkpoaaRows
import Derived.Test.YtfkbodonidkpoaaLawCompactNoneW
import Derived.Test.YtfkbodonidkpoaaPI
import Derived.Test.YtfkbodonidkpoaaP7
import Derived.ProofKit
import Derived.OpenShut
import Derived.ShutString
import Derived.ChangeOld
namespace Go.Proofs.Ytfkbodonidkpoaa.lawCompactNone
open Go.ChangeShapes Go.WideShapes Go.ChangeAt Go.RowKit
open Go.ChangeMaps (open_string shut_string)
set_option linter.unusedVariables false

theorem own : ownKnob Try.prog.godebug = none := by kernel_rfl
theorem laidOut : laidOutB Try.prog = true := by kernel_rfl
theorem reads3 : Reads Try.prog 3 [intL .i64] := reads_int Try.underlying3 (by kernel_rfl)
theorem reads9 : Reads Try.prog 9 [strL] := reads_str Try.underlying9 (by kernel_rfl)
theorem reads34 : Reads Try.prog 34 [intL .i64, strL, strL, intL .i64] := reads_struct Try.underlying34 (by kernel_rfl) ⟨rfl, _, _, reads3, rfl, ⟨rfl, _, _, reads9, rfl, ⟨rfl, _, _, reads9, rfl, ⟨rfl, _, _, reads3, rfl, rfl⟩⟩⟩⟩
theorem reads36 : Reads Try.prog 36 [intL .i64, intL .i64, intL .i64, intL .i64, strL, strL, intL .i64] := reads_struct Try.underlying36 (by kernel_rfl) ⟨rfl, _, _, reads3, rfl, ⟨rfl, _, _, reads3, rfl, ⟨rfl, _, _, reads3, rfl, ⟨rfl, _, _, reads34, rfl, rfl⟩⟩⟩⟩
theorem reads5 : Reads Try.prog 5 [intL .u8] := reads_int Try.underlying5 (by kernel_rfl)
theorem reads38 : Reads Try.prog 38 [intL .u8, intL .i64, intL .i64, intL .i64, intL .i64, strL, strL, intL .i64, intL .i64] := reads_struct Try.underlying38 (by kernel_rfl) ⟨rfl, _, _, reads5, rfl, ⟨rfl, _, _, reads36, rfl, ⟨rfl, _, _, reads3, rfl, rfl⟩⟩⟩

set_option maxRecDepth 100000 in
theorem lifted (os : Os) (started : os.Started) (H : Type) (enc : TypeId × Value → H) :
    ReturnsInHanded {} Try.checked os 5 .any (Rows.compactNoneSpec.pre6 enc Try.prog Try.f5 Rows.compactNoneRow.domain false) (Rows.compactNoneSpec.post enc Try.prog Try.f5 false true false false) := by
  refine returnsInHanded_of_change (C := Try.checked) own started (by kernel_rfl) Try.func5
    (ChangeSpec.witness6 (enc := enc) (C := Try.checked) false ⟨#[], #[.int .i64 0, .agg #[.int .u8 0, .int .i64 0, .int .i64 0, .int .i64 0, .int .i64 0, .string ByteArray.empty, .string ByteArray.empty, .int .i64 0, .int .i64 0]], []⟩ 8 (by kernel_rfl) (by kernel_rfl) (by kernel_rfl) (by kernel_rfl)) ?_
  intro W base args ds gs before hval0 hW hcnd _
  have hval : ∀ (j : Nat) t v, Try.f5.params[j]? = some t → args[j]? = some v → Value.okWide Try.prog W .any base t v := hval0
  have hW' := hW
  obtain ⟨p, q, hA0, hV, rfl, hfz, hnd⟩ := hW
  have hA : DataW.TrodAll enc Try.prog W 0 (fun _ => true) true Try.f5.params.toList args.toList ds p := hA0
  rw [Try.params5] at hA hval
  obtain ⟨v0, vs0, d0, ds0, p0, q0, hargs, rfl, rfl, h0, r0⟩ := trodAll_cons hA
  obtain ⟨v1, vs1, d1, ds1, p1, q1, rfl, rfl, rfl, h1, r1⟩ := trodAll_cons r0
  obtain ⟨rfl, rfl, rfl⟩ := trodAll_nil r1
  obtain rfl : args = #[v0, v1] := by cases args; simp_all
  obtain ⟨rfl, rfl⟩ := trodVars_none hV
  have k0 := h0
  have lt0 : ∀ x ∈ p0, x.block < W.heap.size := by obtain ⟨m, hm⟩ := k0; exact DataW.trod_lt m _ _ _ hm
  obtain ⟨z0, hz0, _⟩ := open_int Try.underlying3 (hval 0 3 v0 rfl rfl) h0
  have e0 := reads_one reads3 (by rw [hz0]; rfl) h0
  clear hz0
  obtain ⟨n0, rfl, w0⟩ := e0
  have k1 := h1
  have lt1 : ∀ x ∈ p1, x.block < W.heap.size := by obtain ⟨m, hm⟩ := k1; exact DataW.trod_lt m _ _ _ hm
  obtain ⟨cs1, rfl, m1_0⟩ := reads_agg Try.underlying38 reads38 (hval 1 38 v1 rfl rfl) h1
  obtain ⟨_, _, rfl, ⟨n1, rfl, w1⟩, m1_1⟩ := m1_0.cons_
  obtain ⟨_, _, rfl, ⟨n2, rfl, w2⟩, m1_2⟩ := m1_1.cons_
  obtain ⟨_, _, rfl, ⟨n3, rfl, w3⟩, m1_3⟩ := m1_2.cons_
  obtain ⟨_, _, rfl, ⟨n4, rfl, w4⟩, m1_4⟩ := m1_3.cons_
  obtain ⟨_, _, rfl, ⟨n5, rfl, w5⟩, m1_5⟩ := m1_4.cons_
  obtain ⟨_, _, rfl, ⟨s6, rfl, w6⟩, m1_6⟩ := m1_5.cons_
  obtain ⟨_, _, rfl, ⟨s7, rfl, w7⟩, m1_7⟩ := m1_6.cons_
  obtain ⟨_, _, rfl, ⟨n8, rfl, w8⟩, m1_8⟩ := m1_7.cons_
  obtain ⟨_, _, rfl, ⟨n9, rfl, w9⟩, m1_9⟩ := m1_8.cons_
  obtain rfl := m1_9.nil_
  clear hA0 hval0 hval
  refine (walk W n0 w0 n1 w1 n2 w2 n3 w3 n4 w4 n5 w5 s6 w6 s7 w7 n8 w8 n9 w9).mono fun e W' ⟨he, bel⟩ => ?_
  subst he
  exact ⟨_, rfl, _, _, _, [], _, [], hW', trodAll_mk1 (shut_bool Try.underlying4 _), (trodAll_cons_mk (Below.trod laidOut (by kernel_rfl) (of_decide_eq_true (by kernel_rfl)) k0 bel lt0) (trodAll_cons_mk (Below.trod laidOut (by kernel_rfl) (of_decide_eq_true (by kernel_rfl)) k1 bel lt1) trodAll_mk0)), rfl, bel.frame _, fun h => by cases h⟩

theorem over : Rows.compactNoneRow.holds Try.pinned (OpenSpec.ofChange Rows.compactNoneSpec) :=
  OpenClaim.holds_of_wide 5 Try.f5 rfl rfl rfl rfl rfl rfl rfl ⟨rfl, rfl, rfl, rfl, rfl⟩ rfl rfl rfl rfl rfl (by kernel_rfl) Try.func5 (by kernel_rfl)
    (of_decide_eq_true (by kernel_rfl)) (by unfold Func.isWrapper; first | (rw [if_pos (by decide +kernel)]; kernel_rfl) | (rw [if_neg (by decide +kernel)]; exact ⟨rfl, rfl⟩))
    (fun os started H enc _ => lifted os started H enc)

theorem proved : Rows.CompactNoneSaid := over
#print axioms proved
end Go.Proofs.Ytfkbodonidkpoaa.lawCompactNone
