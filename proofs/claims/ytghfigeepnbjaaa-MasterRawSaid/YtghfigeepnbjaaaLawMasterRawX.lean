/-
  MasterRaw: the frame of the proof: the arguments' readings, the row. The walk is imported. No condition.
-/
import Derived.Test.YtghfigeepnbjaaaRows
import Derived.Test.YtghfigeepnbjaaaLawMasterRawW
import Derived.Test.YtghfigeepnbjaaaPI
import Derived.Test.YtghfigeepnbjaaaP7
import Derived.ProofKit
import Derived.OpenShut
import Derived.ShutString
import Derived.ChangeOld
namespace Go.Proofs.Ytghfigeepnbjaaa.lawMasterRaw
open Go.ChangeShapes Go.WideShapes Go.ChangeAt Go.RowKit
open Go.ChangeMaps (open_string shut_string)
set_option linter.unusedVariables false

theorem own : ownKnob Try.prog.godebug = none := by kernel_rfl
theorem laidOut : laidOutB Try.prog = true := by kernel_rfl
theorem reads3 : Reads Try.prog 3 [intL .i64] := reads_int Try.underlying3 (by kernel_rfl)
theorem reads22 : Reads Try.prog 22 [rowsL [intL .i64]] := reads_slice Try.underlying22 (by kernel_rfl) reads3 (by decide)
theorem reads24 : Reads Try.prog 24 [intL .i64, intL .i64, intL .i64, rowsL [intL .i64], intL .i64, intL .i64, intL .i64, intL .i64, intL .i64, intL .i64, intL .i64, intL .i64] := reads_struct Try.underlying24 (by kernel_rfl) ⟨rfl, _, _, reads3, rfl, ⟨rfl, _, _, reads3, rfl, ⟨rfl, _, _, reads3, rfl, ⟨rfl, _, _, reads22, rfl, ⟨rfl, _, _, reads3, rfl, ⟨rfl, _, _, reads3, rfl, ⟨rfl, _, _, reads3, rfl, ⟨rfl, _, _, reads3, rfl, ⟨rfl, _, _, reads3, rfl, ⟨rfl, _, _, reads3, rfl, ⟨rfl, _, _, reads3, rfl, ⟨rfl, _, _, reads3, rfl, rfl⟩⟩⟩⟩⟩⟩⟩⟩⟩⟩⟩⟩
theorem reads56 : Reads Try.prog 56 [intL .i64, intL .i64] := reads_struct Try.underlying56 (by kernel_rfl) ⟨rfl, _, _, reads3, rfl, ⟨rfl, _, _, reads3, rfl, rfl⟩⟩
theorem reads41 : Reads Try.prog 41 [rowsL [intL .i64, intL .i64]] := reads_slice Try.underlying41 (by kernel_rfl) reads56 (by decide)
theorem reads43 : Reads Try.prog 43 [intL .i64, rowsL [intL .i64, intL .i64], intL .i64] := reads_struct Try.underlying43 (by kernel_rfl) ⟨rfl, _, _, reads3, rfl, ⟨rfl, _, _, reads41, rfl, ⟨rfl, _, _, reads3, rfl, rfl⟩⟩⟩
theorem reads9 : Reads Try.prog 9 [strL] := reads_str Try.underlying9 (by kernel_rfl)
theorem reads36 : Reads Try.prog 36 [intL .i64, strL, strL, intL .i64] := reads_struct Try.underlying36 (by kernel_rfl) ⟨rfl, _, _, reads3, rfl, ⟨rfl, _, _, reads9, rfl, ⟨rfl, _, _, reads9, rfl, ⟨rfl, _, _, reads3, rfl, rfl⟩⟩⟩⟩
theorem reads40 : Reads Try.prog 40 [intL .i64, intL .i64, intL .i64, intL .i64, strL, strL, intL .i64] := reads_struct Try.underlying40 (by kernel_rfl) ⟨rfl, _, _, reads3, rfl, ⟨rfl, _, _, reads3, rfl, ⟨rfl, _, _, reads3, rfl, ⟨rfl, _, _, reads36, rfl, rfl⟩⟩⟩⟩
theorem reads38 : Reads Try.prog 38 [intL .i64, strL, intL .i64, intL .i64] := reads_struct Try.underlying38 (by kernel_rfl) ⟨rfl, _, _, reads3, rfl, ⟨rfl, _, _, reads9, rfl, ⟨rfl, _, _, reads3, rfl, ⟨rfl, _, _, reads3, rfl, rfl⟩⟩⟩⟩
theorem reads45 : Reads Try.prog 45 [intL .i64, intL .i64, intL .i64, intL .i64, intL .i64, intL .i64, intL .i64, intL .i64, strL, strL, intL .i64, intL .i64, strL, intL .i64, intL .i64, intL .i64, intL .i64, intL .i64, intL .i64, intL .i64, strL, strL, intL .i64, intL .i64, rowsL [intL .i64, intL .i64], intL .i64, intL .i64, intL .i64, intL .i64] := reads_struct Try.underlying45 (by kernel_rfl) ⟨rfl, _, _, reads3, rfl, ⟨rfl, _, _, reads3, rfl, ⟨rfl, _, _, reads3, rfl, ⟨rfl, _, _, reads3, rfl, ⟨rfl, _, _, reads3, rfl, ⟨rfl, _, _, reads3, rfl, ⟨rfl, _, _, reads3, rfl, ⟨rfl, _, _, reads36, rfl, ⟨rfl, _, _, reads38, rfl, ⟨rfl, _, _, reads3, rfl, ⟨rfl, _, _, reads40, rfl, ⟨rfl, _, _, reads43, rfl, ⟨rfl, _, _, reads3, rfl, ⟨rfl, _, _, reads3, rfl, ⟨rfl, _, _, reads3, rfl, rfl⟩⟩⟩⟩⟩⟩⟩⟩⟩⟩⟩⟩⟩⟩⟩
theorem reads5 : Reads Try.prog 5 [intL .u8] := reads_int Try.underlying5 (by kernel_rfl)
theorem reads47 : Reads Try.prog 47 [intL .u8, intL .u8, intL .u8, intL .i64, intL .i64, intL .i64, intL .i64, intL .i64, intL .i64, intL .i64, intL .i64, intL .i64, strL, strL, intL .i64, intL .i64, strL, intL .i64, intL .i64, intL .i64, intL .i64, intL .i64, intL .i64, intL .i64, strL, strL, intL .i64, intL .i64, rowsL [intL .i64, intL .i64], intL .i64, intL .i64, intL .i64, intL .i64] := reads_struct Try.underlying47 (by kernel_rfl) ⟨rfl, _, _, reads5, rfl, ⟨rfl, _, _, reads5, rfl, ⟨rfl, _, _, reads5, rfl, ⟨rfl, _, _, reads3, rfl, ⟨rfl, _, _, reads45, rfl, rfl⟩⟩⟩⟩⟩
theorem reads74 : Reads Try.prog 74 [intL .i64, intL .i64] := reads_array Try.underlying74 (by kernel_rfl) reads3 rfl

set_option maxRecDepth 100000 in
theorem lifted (os : Os) (started : os.Started) (H : Type) (enc : TypeId × Value → H) :
    ReturnsInHanded {} Try.checked os 5 .any (Rows.masterRawSpec.pre6 enc Try.prog Try.f5 Rows.masterRawRow.domain false) (Rows.masterRawSpec.post enc Try.prog Try.f5 false true false false) := by
  refine returnsInHanded_of_change (C := Try.checked) own started (by kernel_rfl) Try.func5
    (ChangeSpec.witness6 (enc := enc) (C := Try.checked) false ⟨#[], #[.agg #[.int .i64 0, .int .i64 0, .int .i64 0, .slice none 0 0, .int .i64 0, .int .i64 0, .int .i64 0, .int .i64 0, .int .i64 0, .int .i64 0, .int .i64 0, .int .i64 0], .agg #[.int .u8 0, .int .u8 0, .int .u8 0, .int .i64 0, .int .i64 0, .int .i64 0, .int .i64 0, .int .i64 0, .int .i64 0, .int .i64 0, .int .i64 0, .int .i64 0, .string ByteArray.empty, .string ByteArray.empty, .int .i64 0, .int .i64 0, .string ByteArray.empty, .int .i64 0, .int .i64 0, .int .i64 0, .int .i64 0, .int .i64 0, .int .i64 0, .int .i64 0, .string ByteArray.empty, .string ByteArray.empty, .int .i64 0, .int .i64 0, .slice none 0 0, .int .i64 0, .int .i64 0, .int .i64 0, .int .i64 0], .agg #[.int .i64 0, .int .i64 0]], []⟩ 8 (by kernel_rfl) (by kernel_rfl) (by kernel_rfl) (by kernel_rfl)) ?_
  intro W base args ds gs before hval0 hW hcnd _
  have hval : ∀ (j : Nat) t v, Try.f5.params[j]? = some t → args[j]? = some v → Value.okWide Try.prog W .any base t v := hval0
  have hW' := hW
  obtain ⟨p, q, hA0, hV, rfl, hfz, hnd⟩ := hW
  have hA : DataW.TrodAll enc Try.prog W 0 (fun _ => true) true Try.f5.params.toList args.toList ds p := hA0
  rw [Try.params5] at hA hval
  obtain ⟨v0, vs0, d0, ds0, p0, q0, hargs, rfl, rfl, h0, r0⟩ := trodAll_cons hA
  obtain ⟨v1, vs1, d1, ds1, p1, q1, rfl, rfl, rfl, h1, r1⟩ := trodAll_cons r0
  obtain ⟨v2, vs2, d2, ds2, p2, q2, rfl, rfl, rfl, h2, r2⟩ := trodAll_cons r1
  obtain ⟨rfl, rfl, rfl⟩ := trodAll_nil r2
  obtain rfl : args = #[v0, v1, v2] := by cases args; simp_all
  obtain ⟨rfl, rfl⟩ := trodVars_none hV
  have k0 := h0
  have lt0 : ∀ x ∈ p0, x.block < W.heap.size := by obtain ⟨m, hm⟩ := k0; exact DataW.trod_lt m _ _ _ hm
  obtain ⟨cs0, rfl, m0_0⟩ := reads_agg Try.underlying24 reads24 (hval 0 24 v0 rfl rfl) h0
  obtain ⟨_, _, rfl, ⟨n0, rfl, w0⟩, m0_1⟩ := m0_0.cons_
  obtain ⟨_, _, rfl, ⟨n1, rfl, w1⟩, m0_2⟩ := m0_1.cons_
  obtain ⟨_, _, rfl, ⟨n2, rfl, w2⟩, m0_3⟩ := m0_2.cons_
  obtain ⟨_, _, rfl, ⟨a3, n3, c3, rfl, w3, x3, y3⟩, m0_4⟩ := m0_3.cons_
  obtain ⟨_, _, rfl, ⟨n4, rfl, w4⟩, m0_5⟩ := m0_4.cons_
  obtain ⟨_, _, rfl, ⟨n5, rfl, w5⟩, m0_6⟩ := m0_5.cons_
  obtain ⟨_, _, rfl, ⟨n6, rfl, w6⟩, m0_7⟩ := m0_6.cons_
  obtain ⟨_, _, rfl, ⟨n7, rfl, w7⟩, m0_8⟩ := m0_7.cons_
  obtain ⟨_, _, rfl, ⟨n8, rfl, w8⟩, m0_9⟩ := m0_8.cons_
  obtain ⟨_, _, rfl, ⟨n9, rfl, w9⟩, m0_10⟩ := m0_9.cons_
  obtain ⟨_, _, rfl, ⟨n10, rfl, w10⟩, m0_11⟩ := m0_10.cons_
  obtain ⟨_, _, rfl, ⟨n11, rfl, w11⟩, m0_12⟩ := m0_11.cons_
  obtain rfl := m0_12.nil_
  have k1 := h1
  have lt1 : ∀ x ∈ p1, x.block < W.heap.size := by obtain ⟨m, hm⟩ := k1; exact DataW.trod_lt m _ _ _ hm
  obtain ⟨cs1, rfl, m1_0⟩ := reads_agg Try.underlying47 reads47 (hval 1 47 v1 rfl rfl) h1
  obtain ⟨_, _, rfl, ⟨n12, rfl, w12⟩, m1_1⟩ := m1_0.cons_
  obtain ⟨_, _, rfl, ⟨n13, rfl, w13⟩, m1_2⟩ := m1_1.cons_
  obtain ⟨_, _, rfl, ⟨n14, rfl, w14⟩, m1_3⟩ := m1_2.cons_
  obtain ⟨_, _, rfl, ⟨n15, rfl, w15⟩, m1_4⟩ := m1_3.cons_
  obtain ⟨_, _, rfl, ⟨n16, rfl, w16⟩, m1_5⟩ := m1_4.cons_
  obtain ⟨_, _, rfl, ⟨n17, rfl, w17⟩, m1_6⟩ := m1_5.cons_
  obtain ⟨_, _, rfl, ⟨n18, rfl, w18⟩, m1_7⟩ := m1_6.cons_
  obtain ⟨_, _, rfl, ⟨n19, rfl, w19⟩, m1_8⟩ := m1_7.cons_
  obtain ⟨_, _, rfl, ⟨n20, rfl, w20⟩, m1_9⟩ := m1_8.cons_
  obtain ⟨_, _, rfl, ⟨n21, rfl, w21⟩, m1_10⟩ := m1_9.cons_
  obtain ⟨_, _, rfl, ⟨n22, rfl, w22⟩, m1_11⟩ := m1_10.cons_
  obtain ⟨_, _, rfl, ⟨n23, rfl, w23⟩, m1_12⟩ := m1_11.cons_
  obtain ⟨_, _, rfl, ⟨s24, rfl, w24⟩, m1_13⟩ := m1_12.cons_
  obtain ⟨_, _, rfl, ⟨s25, rfl, w25⟩, m1_14⟩ := m1_13.cons_
  obtain ⟨_, _, rfl, ⟨n26, rfl, w26⟩, m1_15⟩ := m1_14.cons_
  obtain ⟨_, _, rfl, ⟨n27, rfl, w27⟩, m1_16⟩ := m1_15.cons_
  obtain ⟨_, _, rfl, ⟨s28, rfl, w28⟩, m1_17⟩ := m1_16.cons_
  obtain ⟨_, _, rfl, ⟨n29, rfl, w29⟩, m1_18⟩ := m1_17.cons_
  obtain ⟨_, _, rfl, ⟨n30, rfl, w30⟩, m1_19⟩ := m1_18.cons_
  obtain ⟨_, _, rfl, ⟨n31, rfl, w31⟩, m1_20⟩ := m1_19.cons_
  obtain ⟨_, _, rfl, ⟨n32, rfl, w32⟩, m1_21⟩ := m1_20.cons_
  obtain ⟨_, _, rfl, ⟨n33, rfl, w33⟩, m1_22⟩ := m1_21.cons_
  obtain ⟨_, _, rfl, ⟨n34, rfl, w34⟩, m1_23⟩ := m1_22.cons_
  obtain ⟨_, _, rfl, ⟨n35, rfl, w35⟩, m1_24⟩ := m1_23.cons_
  obtain ⟨_, _, rfl, ⟨s36, rfl, w36⟩, m1_25⟩ := m1_24.cons_
  obtain ⟨_, _, rfl, ⟨s37, rfl, w37⟩, m1_26⟩ := m1_25.cons_
  obtain ⟨_, _, rfl, ⟨n38, rfl, w38⟩, m1_27⟩ := m1_26.cons_
  obtain ⟨_, _, rfl, ⟨n39, rfl, w39⟩, m1_28⟩ := m1_27.cons_
  obtain ⟨_, _, rfl, ⟨a40, n40, c40, rfl, w40, x40, y40⟩, m1_29⟩ := m1_28.cons_
  obtain ⟨_, _, rfl, ⟨n41, rfl, w41⟩, m1_30⟩ := m1_29.cons_
  obtain ⟨_, _, rfl, ⟨n42, rfl, w42⟩, m1_31⟩ := m1_30.cons_
  obtain ⟨_, _, rfl, ⟨n43, rfl, w43⟩, m1_32⟩ := m1_31.cons_
  obtain ⟨_, _, rfl, ⟨n44, rfl, w44⟩, m1_33⟩ := m1_32.cons_
  obtain rfl := m1_33.nil_
  have k2 := h2
  have lt2 : ∀ x ∈ p2, x.block < W.heap.size := by obtain ⟨m, hm⟩ := k2; exact DataW.trod_lt m _ _ _ hm
  obtain ⟨cs2, rfl, m2_0⟩ := reads_agg_array Try.underlying74 reads74 (hval 2 74 v2 rfl rfl) h2
  obtain ⟨_, _, rfl, ⟨n45, rfl, w45⟩, m2_1⟩ := m2_0.cons_
  obtain ⟨_, _, rfl, ⟨n46, rfl, w46⟩, m2_2⟩ := m2_1.cons_
  obtain rfl := m2_2.nil_
  clear hA0 hval0 hval
  refine (walk W n0 w0 n1 w1 n2 w2 a3 n3 c3 w3 x3 y3 n4 w4 n5 w5 n6 w6 n7 w7 n8 w8 n9 w9 n10 w10 n11 w11 n12 w12 n13 w13 n14 w14 n15 w15 n16 w16 n17 w17 n18 w18 n19 w19 n20 w20 n21 w21 n22 w22 n23 w23 s24 w24 s25 w25 n26 w26 n27 w27 s28 w28 n29 w29 n30 w30 n31 w31 n32 w32 n33 w33 n34 w34 n35 w35 s36 w36 s37 w37 n38 w38 n39 w39 a40 n40 c40 w40 x40 y40 n41 w41 n42 w42 n43 w43 n44 w44 n45 w45 n46 w46).mono fun e W' ⟨he, bel⟩ => ?_
  subst he
  exact ⟨_, rfl, _, _, _, [], _, [], hW', trodAll_mk1 (shut_bool Try.underlying4 _), (trodAll_cons_mk (Below.trod laidOut (by kernel_rfl) (of_decide_eq_true (by kernel_rfl)) k0 bel lt0) (trodAll_cons_mk (Below.trod laidOut (by kernel_rfl) (of_decide_eq_true (by kernel_rfl)) k1 bel lt1) (trodAll_cons_mk (Below.trod laidOut (by kernel_rfl) (of_decide_eq_true (by kernel_rfl)) k2 bel lt2) trodAll_mk0))), rfl, bel.frame _, fun h => by cases h⟩

theorem over : Rows.masterRawRow.holds Try.pinned (OpenSpec.ofChange Rows.masterRawSpec) :=
  OpenClaim.holds_of_wide 5 Try.f5 rfl rfl rfl rfl rfl rfl rfl ⟨rfl, rfl, rfl, rfl, rfl⟩ rfl rfl rfl rfl rfl (by kernel_rfl) Try.func5 (by kernel_rfl)
    (of_decide_eq_true (by kernel_rfl)) (by unfold Func.isWrapper; first | (rw [if_pos (by decide +kernel)]; kernel_rfl) | (rw [if_neg (by decide +kernel)]; exact ⟨rfl, rfl⟩))
    (fun os started H enc _ => lifted os started H enc)

theorem proved : Rows.MasterRawSaid := over
#print axioms proved
end Go.Proofs.Ytghfigeepnbjaaa.lawMasterRaw
