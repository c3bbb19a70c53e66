/-
  ClientNone: the frame of the proof: the arguments' readings, the row. The walk is imported. No condition.
-/
import Derived.Test.YtghfigeepnbjaaaRows
import Derived.Test.YtghfigeepnbjaaaLawClientNoneW
import Derived.Test.YtghfigeepnbjaaaPI
import Derived.Test.YtghfigeepnbjaaaP7
import Derived.ProofKit
import Derived.OpenShut
import Derived.ShutString
import Derived.ChangeOld
namespace Go.Proofs.Ytghfigeepnbjaaa.lawClientNone
open Go.ChangeShapes Go.WideShapes Go.ChangeAt Go.RowKit
open Go.ChangeMaps (open_string shut_string)
set_option linter.unusedVariables false

theorem own : ownKnob Try.prog.godebug = none := by kernel_rfl
theorem laidOut : laidOutB Try.prog = true := by kernel_rfl
theorem reads3 : Reads Try.prog 3 [intL .i64] := reads_int Try.underlying3 (by kernel_rfl)
theorem reads22 : Reads Try.prog 22 [rowsL [intL .i64]] := reads_slice Try.underlying22 (by kernel_rfl) reads3 (by decide)
theorem reads24 : Reads Try.prog 24 [intL .i64, intL .i64, intL .i64, rowsL [intL .i64], intL .i64, intL .i64, intL .i64, intL .i64, intL .i64, intL .i64, intL .i64, intL .i64] := reads_struct Try.underlying24 (by kernel_rfl) ⟨rfl, _, _, reads3, rfl, ⟨rfl, _, _, reads3, rfl, ⟨rfl, _, _, reads3, rfl, ⟨rfl, _, _, reads22, rfl, ⟨rfl, _, _, reads3, rfl, ⟨rfl, _, _, reads3, rfl, ⟨rfl, _, _, reads3, rfl, ⟨rfl, _, _, reads3, rfl, ⟨rfl, _, _, reads3, rfl, ⟨rfl, _, _, reads3, rfl, ⟨rfl, _, _, reads3, rfl, ⟨rfl, _, _, reads3, rfl, rfl⟩⟩⟩⟩⟩⟩⟩⟩⟩⟩⟩⟩
theorem reads85 : Reads Try.prog 85 [intL .i64, intL .i64, intL .i64] := reads_array Try.underlying85 (by kernel_rfl) reads3 rfl
theorem reads56 : Reads Try.prog 56 [intL .i64, intL .i64] := reads_struct Try.underlying56 (by kernel_rfl) ⟨rfl, _, _, reads3, rfl, ⟨rfl, _, _, reads3, rfl, rfl⟩⟩
theorem reads41 : Reads Try.prog 41 [rowsL [intL .i64, intL .i64]] := reads_slice Try.underlying41 (by kernel_rfl) reads56 (by decide)
theorem reads43 : Reads Try.prog 43 [intL .i64, rowsL [intL .i64, intL .i64], intL .i64] := reads_struct Try.underlying43 (by kernel_rfl) ⟨rfl, _, _, reads3, rfl, ⟨rfl, _, _, reads41, rfl, ⟨rfl, _, _, reads3, rfl, rfl⟩⟩⟩
theorem reads9 : Reads Try.prog 9 [strL] := reads_str Try.underlying9 (by kernel_rfl)
theorem reads36 : Reads Try.prog 36 [intL .i64, strL, strL, intL .i64] := reads_struct Try.underlying36 (by kernel_rfl) ⟨rfl, _, _, reads3, rfl, ⟨rfl, _, _, reads9, rfl, ⟨rfl, _, _, reads9, rfl, ⟨rfl, _, _, reads3, rfl, rfl⟩⟩⟩⟩
theorem reads40 : Reads Try.prog 40 [intL .i64, intL .i64, intL .i64, intL .i64, strL, strL, intL .i64] := reads_struct Try.underlying40 (by kernel_rfl) ⟨rfl, _, _, reads3, rfl, ⟨rfl, _, _, reads3, rfl, ⟨rfl, _, _, reads3, rfl, ⟨rfl, _, _, reads36, rfl, rfl⟩⟩⟩⟩
theorem reads38 : Reads Try.prog 38 [intL .i64, strL, intL .i64, intL .i64] := reads_struct Try.underlying38 (by kernel_rfl) ⟨rfl, _, _, reads3, rfl, ⟨rfl, _, _, reads9, rfl, ⟨rfl, _, _, reads3, rfl, ⟨rfl, _, _, reads3, rfl, rfl⟩⟩⟩⟩
theorem reads45 : Reads Try.prog 45 [intL .i64, intL .i64, intL .i64, intL .i64, intL .i64, intL .i64, intL .i64, intL .i64, strL, strL, intL .i64, intL .i64, strL, intL .i64, intL .i64, intL .i64, intL .i64, intL .i64, intL .i64, intL .i64, strL, strL, intL .i64, intL .i64, rowsL [intL .i64, intL .i64], intL .i64, intL .i64, intL .i64, intL .i64] := reads_struct Try.underlying45 (by kernel_rfl) ⟨rfl, _, _, reads3, rfl, ⟨rfl, _, _, reads3, rfl, ⟨rfl, _, _, reads3, rfl, ⟨rfl, _, _, reads3, rfl, ⟨rfl, _, _, reads3, rfl, ⟨rfl, _, _, reads3, rfl, ⟨rfl, _, _, reads3, rfl, ⟨rfl, _, _, reads36, rfl, ⟨rfl, _, _, reads38, rfl, ⟨rfl, _, _, reads3, rfl, ⟨rfl, _, _, reads40, rfl, ⟨rfl, _, _, reads43, rfl, ⟨rfl, _, _, reads3, rfl, ⟨rfl, _, _, reads3, rfl, ⟨rfl, _, _, reads3, rfl, rfl⟩⟩⟩⟩⟩⟩⟩⟩⟩⟩⟩⟩⟩⟩⟩
theorem reads5 : Reads Try.prog 5 [intL .u8] := reads_int Try.underlying5 (by kernel_rfl)
theorem reads87 : Reads Try.prog 87 [intL .u8, intL .u8, intL .u8, intL .i64, strL, strL, intL .i64, intL .i64, intL .i64, intL .i64, intL .i64, intL .i64, intL .i64, intL .i64, intL .i64, strL, strL, intL .i64, intL .i64, strL, intL .i64, intL .i64, intL .i64, intL .i64, intL .i64, intL .i64, intL .i64, strL, strL, intL .i64, intL .i64, rowsL [intL .i64, intL .i64], intL .i64, intL .i64, intL .i64, intL .i64, intL .i64, intL .i64, intL .i64] := reads_struct Try.underlying87 (by kernel_rfl) ⟨rfl, _, _, reads5, rfl, ⟨rfl, _, _, reads5, rfl, ⟨rfl, _, _, reads5, rfl, ⟨rfl, _, _, reads36, rfl, ⟨rfl, _, _, reads45, rfl, ⟨rfl, _, _, reads85, rfl, rfl⟩⟩⟩⟩⟩⟩

set_option maxRecDepth 100000 in
theorem lifted (os : Os) (started : os.Started) (H : Type) (enc : TypeId × Value → H) :
    ReturnsInHanded {} Try.checked os 9 .any (Rows.clientNoneSpec.pre6 enc Try.prog Try.f9 Rows.clientNoneRow.domain false) (Rows.clientNoneSpec.post enc Try.prog Try.f9 false true false false) := by
  refine returnsInHanded_of_change (C := Try.checked) own started (by kernel_rfl) Try.func9
    (ChangeSpec.witness6 (enc := enc) (C := Try.checked) false ⟨#[], #[.agg #[.int .i64 0, .int .i64 0, .int .i64 0, .slice none 0 0, .int .i64 0, .int .i64 0, .int .i64 0, .int .i64 0, .int .i64 0, .int .i64 0, .int .i64 0, .int .i64 0], .int .i64 0, .agg #[.int .u8 0, .int .u8 0, .int .u8 0, .int .i64 0, .string ByteArray.empty, .string ByteArray.empty, .int .i64 0, .int .i64 0, .int .i64 0, .int .i64 0, .int .i64 0, .int .i64 0, .int .i64 0, .int .i64 0, .int .i64 0, .string ByteArray.empty, .string ByteArray.empty, .int .i64 0, .int .i64 0, .string ByteArray.empty, .int .i64 0, .int .i64 0, .int .i64 0, .int .i64 0, .int .i64 0, .int .i64 0, .int .i64 0, .string ByteArray.empty, .string ByteArray.empty, .int .i64 0, .int .i64 0, .slice none 0 0, .int .i64 0, .int .i64 0, .int .i64 0, .int .i64 0, .int .i64 0, .int .i64 0, .int .i64 0]], []⟩ 8 (by kernel_rfl) (by kernel_rfl) (by kernel_rfl) (by kernel_rfl)) ?_
  intro W base args ds gs before hval0 hW hcnd _
  have hval : ∀ (j : Nat) t v, Try.f9.params[j]? = some t → args[j]? = some v → Value.okWide Try.prog W .any base t v := hval0
  have hW' := hW
  obtain ⟨p, q, hA0, hV, rfl, hfz, hnd⟩ := hW
  have hA : DataW.TrodAll enc Try.prog W 0 (fun _ => true) true Try.f9.params.toList args.toList ds p := hA0
  rw [Try.params9] at hA hval
  obtain ⟨v0, vs0, d0, ds0, p0, q0, hargs, rfl, rfl, h0, r0⟩ := trodAll_cons hA
  obtain ⟨v1, vs1, d1, ds1, p1, q1, rfl, rfl, rfl, h1, r1⟩ := trodAll_cons r0
  obtain ⟨v2, vs2, d2, ds2, p2, q2, rfl, rfl, rfl, h2, r2⟩ := trodAll_cons r1
  obtain ⟨rfl, rfl, rfl⟩ := trodAll_nil r2
  obtain rfl : args = #[v0, v1, v2] := by cases args; simp_all
  obtain ⟨rfl, rfl⟩ := trodVars_none hV
  have k0 := h0
  have lt0 : ∀ x ∈ p0, x.block < W.heap.size := by obtain ⟨m, hm⟩ := k0; exact DataW.trod_lt m _ _ _ hm
  obtain ⟨cs0, rfl, m0_0⟩ := reads_agg Try.underlying24 reads24 (hval 0 24 v0 rfl rfl) h0
  obtain ⟨_, _, rfl, ⟨n0, rfl, w0⟩, m0_1⟩ := m0_0.cons_
  obtain ⟨_, _, rfl, ⟨n1, rfl, w1⟩, m0_2⟩ := m0_1.cons_
  obtain ⟨_, _, rfl, ⟨n2, rfl, w2⟩, m0_3⟩ := m0_2.cons_
  obtain ⟨_, _, rfl, ⟨a3, n3, c3, rfl, w3, x3, y3⟩, m0_4⟩ := m0_3.cons_
  obtain ⟨_, _, rfl, ⟨n4, rfl, w4⟩, m0_5⟩ := m0_4.cons_
  obtain ⟨_, _, rfl, ⟨n5, rfl, w5⟩, m0_6⟩ := m0_5.cons_
  obtain ⟨_, _, rfl, ⟨n6, rfl, w6⟩, m0_7⟩ := m0_6.cons_
  obtain ⟨_, _, rfl, ⟨n7, rfl, w7⟩, m0_8⟩ := m0_7.cons_
  obtain ⟨_, _, rfl, ⟨n8, rfl, w8⟩, m0_9⟩ := m0_8.cons_
  obtain ⟨_, _, rfl, ⟨n9, rfl, w9⟩, m0_10⟩ := m0_9.cons_
  obtain ⟨_, _, rfl, ⟨n10, rfl, w10⟩, m0_11⟩ := m0_10.cons_
  obtain ⟨_, _, rfl, ⟨n11, rfl, w11⟩, m0_12⟩ := m0_11.cons_
  obtain rfl := m0_12.nil_
  have k1 := h1
  have lt1 : ∀ x ∈ p1, x.block < W.heap.size := by obtain ⟨m, hm⟩ := k1; exact DataW.trod_lt m _ _ _ hm
  obtain ⟨z1, hz1, _⟩ := open_int Try.underlying3 (hval 1 3 v1 rfl rfl) h1
  have e1 := reads_one reads3 (by rw [hz1]; rfl) h1
  clear hz1
  obtain ⟨n12, rfl, w12⟩ := e1
  have k2 := h2
  have lt2 : ∀ x ∈ p2, x.block < W.heap.size := by obtain ⟨m, hm⟩ := k2; exact DataW.trod_lt m _ _ _ hm
  obtain ⟨cs2, rfl, m2_0⟩ := reads_agg Try.underlying87 reads87 (hval 2 87 v2 rfl rfl) h2
  obtain ⟨_, _, rfl, ⟨n13, rfl, w13⟩, m2_1⟩ := m2_0.cons_
  obtain ⟨_, _, rfl, ⟨n14, rfl, w14⟩, m2_2⟩ := m2_1.cons_
  obtain ⟨_, _, rfl, ⟨n15, rfl, w15⟩, m2_3⟩ := m2_2.cons_
  obtain ⟨_, _, rfl, ⟨n16, rfl, w16⟩, m2_4⟩ := m2_3.cons_
  obtain ⟨_, _, rfl, ⟨s17, rfl, w17⟩, m2_5⟩ := m2_4.cons_
  obtain ⟨_, _, rfl, ⟨s18, rfl, w18⟩, m2_6⟩ := m2_5.cons_
  obtain ⟨_, _, rfl, ⟨n19, rfl, w19⟩, m2_7⟩ := m2_6.cons_
  obtain ⟨_, _, rfl, ⟨n20, rfl, w20⟩, m2_8⟩ := m2_7.cons_
  obtain ⟨_, _, rfl, ⟨n21, rfl, w21⟩, m2_9⟩ := m2_8.cons_
  obtain ⟨_, _, rfl, ⟨n22, rfl, w22⟩, m2_10⟩ := m2_9.cons_
  obtain ⟨_, _, rfl, ⟨n23, rfl, w23⟩, m2_11⟩ := m2_10.cons_
  obtain ⟨_, _, rfl, ⟨n24, rfl, w24⟩, m2_12⟩ := m2_11.cons_
  obtain ⟨_, _, rfl, ⟨n25, rfl, w25⟩, m2_13⟩ := m2_12.cons_
  obtain ⟨_, _, rfl, ⟨n26, rfl, w26⟩, m2_14⟩ := m2_13.cons_
  obtain ⟨_, _, rfl, ⟨n27, rfl, w27⟩, m2_15⟩ := m2_14.cons_
  obtain ⟨_, _, rfl, ⟨s28, rfl, w28⟩, m2_16⟩ := m2_15.cons_
  obtain ⟨_, _, rfl, ⟨s29, rfl, w29⟩, m2_17⟩ := m2_16.cons_
  obtain ⟨_, _, rfl, ⟨n30, rfl, w30⟩, m2_18⟩ := m2_17.cons_
  obtain ⟨_, _, rfl, ⟨n31, rfl, w31⟩, m2_19⟩ := m2_18.cons_
  obtain ⟨_, _, rfl, ⟨s32, rfl, w32⟩, m2_20⟩ := m2_19.cons_
  obtain ⟨_, _, rfl, ⟨n33, rfl, w33⟩, m2_21⟩ := m2_20.cons_
  obtain ⟨_, _, rfl, ⟨n34, rfl, w34⟩, m2_22⟩ := m2_21.cons_
  obtain ⟨_, _, rfl, ⟨n35, rfl, w35⟩, m2_23⟩ := m2_22.cons_
  obtain ⟨_, _, rfl, ⟨n36, rfl, w36⟩, m2_24⟩ := m2_23.cons_
  obtain ⟨_, _, rfl, ⟨n37, rfl, w37⟩, m2_25⟩ := m2_24.cons_
  obtain ⟨_, _, rfl, ⟨n38, rfl, w38⟩, m2_26⟩ := m2_25.cons_
  obtain ⟨_, _, rfl, ⟨n39, rfl, w39⟩, m2_27⟩ := m2_26.cons_
  obtain ⟨_, _, rfl, ⟨s40, rfl, w40⟩, m2_28⟩ := m2_27.cons_
  obtain ⟨_, _, rfl, ⟨s41, rfl, w41⟩, m2_29⟩ := m2_28.cons_
  obtain ⟨_, _, rfl, ⟨n42, rfl, w42⟩, m2_30⟩ := m2_29.cons_
  obtain ⟨_, _, rfl, ⟨n43, rfl, w43⟩, m2_31⟩ := m2_30.cons_
  obtain ⟨_, _, rfl, ⟨a44, n44, c44, rfl, w44, x44, y44⟩, m2_32⟩ := m2_31.cons_
  obtain ⟨_, _, rfl, ⟨n45, rfl, w45⟩, m2_33⟩ := m2_32.cons_
  obtain ⟨_, _, rfl, ⟨n46, rfl, w46⟩, m2_34⟩ := m2_33.cons_
  obtain ⟨_, _, rfl, ⟨n47, rfl, w47⟩, m2_35⟩ := m2_34.cons_
  obtain ⟨_, _, rfl, ⟨n48, rfl, w48⟩, m2_36⟩ := m2_35.cons_
  obtain ⟨_, _, rfl, ⟨n49, rfl, w49⟩, m2_37⟩ := m2_36.cons_
  obtain ⟨_, _, rfl, ⟨n50, rfl, w50⟩, m2_38⟩ := m2_37.cons_
  obtain ⟨_, _, rfl, ⟨n51, rfl, w51⟩, m2_39⟩ := m2_38.cons_
  obtain rfl := m2_39.nil_
  clear hA0 hval0 hval
  refine (walk W n0 w0 n1 w1 n2 w2 a3 n3 c3 w3 x3 y3 n4 w4 n5 w5 n6 w6 n7 w7 n8 w8 n9 w9 n10 w10 n11 w11 n12 w12 n13 w13 n14 w14 n15 w15 n16 w16 s17 w17 s18 w18 n19 w19 n20 w20 n21 w21 n22 w22 n23 w23 n24 w24 n25 w25 n26 w26 n27 w27 s28 w28 s29 w29 n30 w30 n31 w31 s32 w32 n33 w33 n34 w34 n35 w35 n36 w36 n37 w37 n38 w38 n39 w39 s40 w40 s41 w41 n42 w42 n43 w43 a44 n44 c44 w44 x44 y44 n45 w45 n46 w46 n47 w47 n48 w48 n49 w49 n50 w50 n51 w51).mono fun e W' ⟨he, bel⟩ => ?_
  subst he
  exact ⟨_, rfl, _, _, _, [], _, [], hW', trodAll_mk1 (shut_bool Try.underlying4 _), (trodAll_cons_mk (Below.trod laidOut (by kernel_rfl) (of_decide_eq_true (by kernel_rfl)) k0 bel lt0) (trodAll_cons_mk (Below.trod laidOut (by kernel_rfl) (of_decide_eq_true (by kernel_rfl)) k1 bel lt1) (trodAll_cons_mk (Below.trod laidOut (by kernel_rfl) (of_decide_eq_true (by kernel_rfl)) k2 bel lt2) trodAll_mk0))), rfl, bel.frame _, fun h => by cases h⟩

theorem over : Rows.clientNoneRow.holds Try.pinned (OpenSpec.ofChange Rows.clientNoneSpec) :=
  OpenClaim.holds_of_wide 9 Try.f9 rfl rfl rfl rfl rfl rfl rfl ⟨rfl, rfl, rfl, rfl, rfl⟩ rfl rfl rfl rfl rfl (by kernel_rfl) Try.func9 (by kernel_rfl)
    (of_decide_eq_true (by kernel_rfl)) (by unfold Func.isWrapper; first | (rw [if_pos (by decide +kernel)]; kernel_rfl) | (rw [if_neg (by decide +kernel)]; exact ⟨rfl, rfl⟩))
    (fun os started H enc _ => lifted os started H enc)

theorem proved : Rows.ClientNoneSaid := over
#print axioms proved
end Go.Proofs.Ytghfigeepnbjaaa.lawClientNone
