/-
  FramesBack: the frame of the proof: the arguments' readings, the row. The walk is imported. No condition.
-/
import Derived.Test.YtlphkjbadjdleaaRows
import Derived.Test.YtlphkjbadjdleaaLawFramesBackW
import Derived.Test.YtlphkjbadjdleaaPI
import Derived.Test.YtlphkjbadjdleaaP7
import Derived.ProofKit
import Derived.OpenShut
import Derived.ShutString
import Derived.ChangeOld
namespace Go.Proofs.Ytlphkjbadjdleaa.lawFramesBack
open Go.ChangeShapes Go.WideShapes Go.ChangeAt Go.RowKit
open Go.ChangeMaps (open_string shut_string)
set_option linter.unusedVariables false

theorem own : ownKnob Try.prog.godebug = none := by kernel_rfl
theorem laidOut : laidOutB Try.prog = true := by kernel_rfl
theorem reads3 : Reads Try.prog 3 [intL .i64] := reads_int Try.underlying3 (by kernel_rfl)
theorem reads145 : Reads Try.prog 145 [intL .i64, intL .i64] := reads_struct Try.underlying145 (by kernel_rfl) ⟨rfl, _, _, reads3, rfl, ⟨rfl, _, _, reads3, rfl, rfl⟩⟩
theorem reads90 : Reads Try.prog 90 [rowsL [intL .i64, intL .i64]] := reads_slice Try.underlying90 (by kernel_rfl) reads145 (by decide)
theorem reads92 : Reads Try.prog 92 [intL .i64, rowsL [intL .i64, intL .i64], intL .i64] := reads_struct Try.underlying92 (by kernel_rfl) ⟨rfl, _, _, reads3, rfl, ⟨rfl, _, _, reads90, rfl, ⟨rfl, _, _, reads3, rfl, rfl⟩⟩⟩
theorem reads9 : Reads Try.prog 9 [strL] := reads_str Try.underlying9 (by kernel_rfl)
theorem reads28 : Reads Try.prog 28 [intL .i64, strL, strL, intL .i64] := reads_struct Try.underlying28 (by kernel_rfl) ⟨rfl, _, _, reads3, rfl, ⟨rfl, _, _, reads9, rfl, ⟨rfl, _, _, reads9, rfl, ⟨rfl, _, _, reads3, rfl, rfl⟩⟩⟩⟩
theorem reads30 : Reads Try.prog 30 [intL .i64, intL .i64, intL .i64, intL .i64, strL, strL, intL .i64] := reads_struct Try.underlying30 (by kernel_rfl) ⟨rfl, _, _, reads3, rfl, ⟨rfl, _, _, reads3, rfl, ⟨rfl, _, _, reads3, rfl, ⟨rfl, _, _, reads28, rfl, rfl⟩⟩⟩⟩
theorem reads36 : Reads Try.prog 36 [intL .i64, strL, intL .i64, intL .i64] := reads_struct Try.underlying36 (by kernel_rfl) ⟨rfl, _, _, reads3, rfl, ⟨rfl, _, _, reads9, rfl, ⟨rfl, _, _, reads3, rfl, ⟨rfl, _, _, reads3, rfl, rfl⟩⟩⟩⟩
theorem reads94 : Reads Try.prog 94 [intL .i64, intL .i64, intL .i64, intL .i64, intL .i64, intL .i64, intL .i64, intL .i64, strL, strL, intL .i64, intL .i64, strL, intL .i64, intL .i64, intL .i64, intL .i64, intL .i64, intL .i64, intL .i64, strL, strL, intL .i64, intL .i64, rowsL [intL .i64, intL .i64], intL .i64, intL .i64, intL .i64, intL .i64] := reads_struct Try.underlying94 (by kernel_rfl) ⟨rfl, _, _, reads3, rfl, ⟨rfl, _, _, reads3, rfl, ⟨rfl, _, _, reads3, rfl, ⟨rfl, _, _, reads3, rfl, ⟨rfl, _, _, reads3, rfl, ⟨rfl, _, _, reads3, rfl, ⟨rfl, _, _, reads3, rfl, ⟨rfl, _, _, reads28, rfl, ⟨rfl, _, _, reads36, rfl, ⟨rfl, _, _, reads3, rfl, ⟨rfl, _, _, reads30, rfl, ⟨rfl, _, _, reads92, rfl, ⟨rfl, _, _, reads3, rfl, ⟨rfl, _, _, reads3, rfl, ⟨rfl, _, _, reads3, rfl, rfl⟩⟩⟩⟩⟩⟩⟩⟩⟩⟩⟩⟩⟩⟩⟩
theorem reads99 : Reads Try.prog 99 [intL .u16] := reads_int Try.underlying99 (by kernel_rfl)

set_option maxRecDepth 100000 in
theorem lifted (os : Os) (started : os.Started) (H : Type) (enc : TypeId × Value → H) :
    ReturnsInHanded {} Try.checked os 11 .any (Rows.framesBackSpec.pre6 enc Try.prog Try.f11 Rows.framesBackRow.domain false) (Rows.framesBackSpec.post enc Try.prog Try.f11 false true false false) := by
  refine returnsInHanded_of_change (C := Try.checked) own started (by kernel_rfl) Try.func11
    (ChangeSpec.witness6 (enc := enc) (C := Try.checked) false ⟨#[], #[.agg #[.int .i64 0, .int .i64 0, .int .i64 0, .int .i64 0, .int .i64 0, .int .i64 0, .int .i64 0, .int .i64 0, .string ByteArray.empty, .string ByteArray.empty, .int .i64 0, .int .i64 0, .string ByteArray.empty, .int .i64 0, .int .i64 0, .int .i64 0, .int .i64 0, .int .i64 0, .int .i64 0, .int .i64 0, .string ByteArray.empty, .string ByteArray.empty, .int .i64 0, .int .i64 0, .slice none 0 0, .int .i64 0, .int .i64 0, .int .i64 0, .int .i64 0], .int .u16 0], []⟩ 8 (by kernel_rfl) (by kernel_rfl) (by kernel_rfl) (by kernel_rfl)) ?_
  intro W base args ds gs before hval0 hW hcnd _
  have hval : ∀ (j : Nat) t v, Try.f11.params[j]? = some t → args[j]? = some v → Value.okWide Try.prog W .any base t v := hval0
  have hW' := hW
  obtain ⟨p, q, hA0, hV, rfl, hfz, hnd⟩ := hW
  have hA : DataW.TrodAll enc Try.prog W 0 (fun _ => true) true Try.f11.params.toList args.toList ds p := hA0
  rw [Try.params11] at hA hval
  obtain ⟨v0, vs0, d0, ds0, p0, q0, hargs, rfl, rfl, h0, r0⟩ := trodAll_cons hA
  obtain ⟨v1, vs1, d1, ds1, p1, q1, rfl, rfl, rfl, h1, r1⟩ := trodAll_cons r0
  obtain ⟨rfl, rfl, rfl⟩ := trodAll_nil r1
  obtain rfl : args = #[v0, v1] := by cases args; simp_all
  obtain ⟨rfl, rfl⟩ := trodVars_none hV
  have k0 := h0
  have lt0 : ∀ x ∈ p0, x.block < W.heap.size := by obtain ⟨m, hm⟩ := k0; exact DataW.trod_lt m _ _ _ hm
  obtain ⟨cs0, rfl, m0_0⟩ := reads_agg Try.underlying94 reads94 (hval 0 94 v0 rfl rfl) h0
  obtain ⟨_, _, rfl, ⟨n0, rfl, w0⟩, m0_1⟩ := m0_0.cons_
  obtain ⟨_, _, rfl, ⟨n1, rfl, w1⟩, m0_2⟩ := m0_1.cons_
  obtain ⟨_, _, rfl, ⟨n2, rfl, w2⟩, m0_3⟩ := m0_2.cons_
  obtain ⟨_, _, rfl, ⟨n3, rfl, w3⟩, m0_4⟩ := m0_3.cons_
  obtain ⟨_, _, rfl, ⟨n4, rfl, w4⟩, m0_5⟩ := m0_4.cons_
  obtain ⟨_, _, rfl, ⟨n5, rfl, w5⟩, m0_6⟩ := m0_5.cons_
  obtain ⟨_, _, rfl, ⟨n6, rfl, w6⟩, m0_7⟩ := m0_6.cons_
  obtain ⟨_, _, rfl, ⟨n7, rfl, w7⟩, m0_8⟩ := m0_7.cons_
  obtain ⟨_, _, rfl, ⟨s8, rfl, w8⟩, m0_9⟩ := m0_8.cons_
  obtain ⟨_, _, rfl, ⟨s9, rfl, w9⟩, m0_10⟩ := m0_9.cons_
  obtain ⟨_, _, rfl, ⟨n10, rfl, w10⟩, m0_11⟩ := m0_10.cons_
  obtain ⟨_, _, rfl, ⟨n11, rfl, w11⟩, m0_12⟩ := m0_11.cons_
  obtain ⟨_, _, rfl, ⟨s12, rfl, w12⟩, m0_13⟩ := m0_12.cons_
  obtain ⟨_, _, rfl, ⟨n13, rfl, w13⟩, m0_14⟩ := m0_13.cons_
  obtain ⟨_, _, rfl, ⟨n14, rfl, w14⟩, m0_15⟩ := m0_14.cons_
  obtain ⟨_, _, rfl, ⟨n15, rfl, w15⟩, m0_16⟩ := m0_15.cons_
  obtain ⟨_, _, rfl, ⟨n16, rfl, w16⟩, m0_17⟩ := m0_16.cons_
  obtain ⟨_, _, rfl, ⟨n17, rfl, w17⟩, m0_18⟩ := m0_17.cons_
  obtain ⟨_, _, rfl, ⟨n18, rfl, w18⟩, m0_19⟩ := m0_18.cons_
  obtain ⟨_, _, rfl, ⟨n19, rfl, w19⟩, m0_20⟩ := m0_19.cons_
  obtain ⟨_, _, rfl, ⟨s20, rfl, w20⟩, m0_21⟩ := m0_20.cons_
  obtain ⟨_, _, rfl, ⟨s21, rfl, w21⟩, m0_22⟩ := m0_21.cons_
  obtain ⟨_, _, rfl, ⟨n22, rfl, w22⟩, m0_23⟩ := m0_22.cons_
  obtain ⟨_, _, rfl, ⟨n23, rfl, w23⟩, m0_24⟩ := m0_23.cons_
  obtain ⟨_, _, rfl, ⟨a24, n24, c24, rfl, w24, x24, y24⟩, m0_25⟩ := m0_24.cons_
  obtain ⟨_, _, rfl, ⟨n25, rfl, w25⟩, m0_26⟩ := m0_25.cons_
  obtain ⟨_, _, rfl, ⟨n26, rfl, w26⟩, m0_27⟩ := m0_26.cons_
  obtain ⟨_, _, rfl, ⟨n27, rfl, w27⟩, m0_28⟩ := m0_27.cons_
  obtain ⟨_, _, rfl, ⟨n28, rfl, w28⟩, m0_29⟩ := m0_28.cons_
  obtain rfl := m0_29.nil_
  have k1 := h1
  have lt1 : ∀ x ∈ p1, x.block < W.heap.size := by obtain ⟨m, hm⟩ := k1; exact DataW.trod_lt m _ _ _ hm
  obtain ⟨z1, hz1, _⟩ := open_int Try.underlying99 (hval 1 99 v1 rfl rfl) h1
  have e1 := reads_one reads99 (by rw [hz1]; rfl) h1
  clear hz1
  obtain ⟨n29, rfl, w29⟩ := e1
  clear hA0 hval0 hval
  refine (walk W n0 w0 n1 w1 n2 w2 n3 w3 n4 w4 n5 w5 n6 w6 n7 w7 s8 w8 s9 w9 n10 w10 n11 w11 s12 w12 n13 w13 n14 w14 n15 w15 n16 w16 n17 w17 n18 w18 n19 w19 s20 w20 s21 w21 n22 w22 n23 w23 a24 n24 c24 w24 x24 y24 n25 w25 n26 w26 n27 w27 n28 w28 n29 w29).mono fun e W' ⟨he, bel⟩ => ?_
  subst he
  exact ⟨_, rfl, _, _, _, [], _, [], hW', trodAll_mk1 (shut_bool Try.underlying4 _), (trodAll_cons_mk (Below.trod laidOut (by kernel_rfl) (of_decide_eq_true (by kernel_rfl)) k0 bel lt0) (trodAll_cons_mk (Below.trod laidOut (by kernel_rfl) (of_decide_eq_true (by kernel_rfl)) k1 bel lt1) trodAll_mk0)), rfl, bel.frame _, fun h => by cases h⟩

theorem over : Rows.framesBackRow.holds Try.pinned (OpenSpec.ofChange Rows.framesBackSpec) :=
  OpenClaim.holds_of_wide 11 Try.f11 rfl rfl rfl rfl rfl rfl rfl ⟨rfl, rfl, rfl, rfl, rfl⟩ rfl rfl rfl rfl rfl (by kernel_rfl) Try.func11 (by kernel_rfl)
    (of_decide_eq_true (by kernel_rfl)) (by unfold Func.isWrapper; first | (rw [if_pos (by decide +kernel)]; kernel_rfl) | (rw [if_neg (by decide +kernel)]; exact ⟨rfl, rfl⟩))
    (fun os started H enc _ => lifted os started H enc)

theorem proved : Rows.FramesBackSaid := over
#print axioms proved
end Go.Proofs.Ytlphkjbadjdleaa.lawFramesBack
