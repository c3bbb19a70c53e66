/-
  MasterPlays: the frame of the proof: the arguments' readings, the row. The walk is imported. No condition.
-/
import Derived.Test.YtghfigeepnbjaaaRows
import Derived.Test.YtghfigeepnbjaaaLawMasterPlaysW
import Derived.Test.YtghfigeepnbjaaaPI
import Derived.Test.YtghfigeepnbjaaaP7
import Derived.ProofKit
import Derived.OpenShut
import Derived.ShutString
import Derived.ChangeOld
namespace Go.Proofs.Ytghfigeepnbjaaa.lawMasterPlays
open Go.ChangeShapes Go.WideShapes Go.ChangeAt Go.RowKit
open Go.ChangeMaps (open_string shut_string)
set_option linter.unusedVariables false

theorem own : ownKnob Try.prog.godebug = none := by kernel_rfl
theorem laidOut : laidOutB Try.prog = true := by kernel_rfl
theorem reads3 : Reads Try.prog 3 [intL .i64] := reads_int Try.underlying3 (by kernel_rfl)
theorem reads22 : Reads Try.prog 22 [rowsL [intL .i64]] := reads_slice Try.underlying22 (by kernel_rfl) reads3 (by decide)
theorem reads24 : Reads Try.prog 24 [intL .i64, intL .i64, intL .i64, rowsL [intL .i64], intL .i64, intL .i64, intL .i64, intL .i64, intL .i64, intL .i64, intL .i64, intL .i64] := reads_struct Try.underlying24 (by kernel_rfl) ⟨rfl, _, _, reads3, rfl, ⟨rfl, _, _, reads3, rfl, ⟨rfl, _, _, reads3, rfl, ⟨rfl, _, _, reads22, rfl, ⟨rfl, _, _, reads3, rfl, ⟨rfl, _, _, reads3, rfl, ⟨rfl, _, _, reads3, rfl, ⟨rfl, _, _, reads3, rfl, ⟨rfl, _, _, reads3, rfl, ⟨rfl, _, _, reads3, rfl, ⟨rfl, _, _, reads3, rfl, ⟨rfl, _, _, reads3, rfl, rfl⟩⟩⟩⟩⟩⟩⟩⟩⟩⟩⟩⟩
theorem reads56 : Reads Try.prog 56 [intL .i64, intL .i64] := reads_struct Try.underlying56 (by kernel_rfl) ⟨rfl, _, _, reads3, rfl, ⟨rfl, _, _, reads3, rfl, rfl⟩⟩
theorem reads41 : Reads Try.prog 41 [rowsL [intL .i64, intL .i64]] := reads_slice Try.underlying41 (by kernel_rfl) reads56 (by decide)
theorem reads43 : Reads Try.prog 43 [intL .i64, rowsL [intL .i64, intL .i64], intL .i64] := reads_struct Try.underlying43 (by kernel_rfl) ⟨rfl, _, _, reads3, rfl, ⟨rfl, _, _, reads41, rfl, ⟨rfl, _, _, reads3, rfl, rfl⟩⟩⟩
theorem reads9 : Reads Try.prog 9 [strL] := reads_str Try.underlying9 (by kernel_rfl)
theorem reads36 : Reads Try.prog 36 [intL .i64, strL, strL, intL .i64] := reads_struct Try.underlying36 (by kernel_rfl) ⟨rfl, _, _, reads3, rfl, ⟨rfl, _, _, reads9, rfl, ⟨rfl, _, _, reads9, rfl, ⟨rfl, _, _, reads3, rfl, rfl⟩⟩⟩⟩
theorem reads40 : Reads Try.prog 40 [intL .i64, intL .i64, intL .i64, intL .i64, strL, strL, intL .i64] := reads_struct Try.underlying40 (by kernel_rfl) ⟨rfl, _, _, reads3, rfl, ⟨rfl, _, _, reads3, rfl, ⟨rfl, _, _, reads3, rfl, ⟨rfl, _, _, reads36, rfl, rfl⟩⟩⟩⟩
theorem reads38 : Reads Try.prog 38 [intL .i64, strL, intL .i64, intL .i64] := reads_struct Try.underlying38 (by kernel_rfl) ⟨rfl, _, _, reads3, rfl, ⟨rfl, _, _, reads9, rfl, ⟨rfl, _, _, reads3, rfl, ⟨rfl, _, _, reads3, rfl, rfl⟩⟩⟩⟩
theorem reads45 : Reads Try.prog 45 [intL .i64, intL .i64, intL .i64, intL .i64, intL .i64, intL .i64, intL .i64, intL .i64, strL, strL, intL .i64, intL .i64, strL, intL .i64, intL .i64, intL .i64, intL .i64, intL .i64, intL .i64, intL .i64, strL, strL, intL .i64, intL .i64, rowsL [intL .i64, intL .i64], intL .i64, intL .i64, intL .i64, intL .i64] := reads_struct Try.underlying45 (by kernel_rfl) ⟨rfl, _, _, reads3, rfl, ⟨rfl, _, _, reads3, rfl, ⟨rfl, _, _, reads3, rfl, ⟨rfl, _, _, reads3, rfl, ⟨rfl, _, _, reads3, rfl, ⟨rfl, _, _, reads3, rfl, ⟨rfl, _, _, reads3, rfl, ⟨rfl, _, _, reads36, rfl, ⟨rfl, _, _, reads38, rfl, ⟨rfl, _, _, reads3, rfl, ⟨rfl, _, _, reads40, rfl, ⟨rfl, _, _, reads43, rfl, ⟨rfl, _, _, reads3, rfl, ⟨rfl, _, _, reads3, rfl, ⟨rfl, _, _, reads3, rfl, rfl⟩⟩⟩⟩⟩⟩⟩⟩⟩⟩⟩⟩⟩⟩⟩
theorem reads5 : Reads Try.prog 5 [intL .u8] := reads_int Try.underlying5 (by kernel_rfl)
theorem reads47 : Reads Try.prog 47 [intL .u8, intL .u8, intL .u8, intL .i64, intL .i64, intL .i64, intL .i64, intL .i64, intL .i64, intL .i64, intL .i64, intL .i64, strL, strL, intL .i64, intL .i64, strL, intL .i64, intL .i64, intL .i64, intL .i64, intL .i64, intL .i64, intL .i64, strL, strL, intL .i64, intL .i64, rowsL [intL .i64, intL .i64], intL .i64, intL .i64, intL .i64, intL .i64] := reads_struct Try.underlying47 (by kernel_rfl) ⟨rfl, _, _, reads5, rfl, ⟨rfl, _, _, reads5, rfl, ⟨rfl, _, _, reads5, rfl, ⟨rfl, _, _, reads3, rfl, ⟨rfl, _, _, reads45, rfl, rfl⟩⟩⟩⟩⟩
theorem reads25 : Reads Try.prog 25 [rowsL [intL .u8, intL .u8, intL .u8, intL .i64, intL .i64, intL .i64, intL .i64, intL .i64, intL .i64, intL .i64, intL .i64, intL .i64, strL, strL, intL .i64, intL .i64, strL, intL .i64, intL .i64, intL .i64, intL .i64, intL .i64, intL .i64, intL .i64, strL, strL, intL .i64, intL .i64, rowsL [intL .i64, intL .i64], intL .i64, intL .i64, intL .i64, intL .i64]] := reads_slice Try.underlying25 (by kernel_rfl) reads47 (by decide)
theorem reads26 : Reads Try.prog 26 [rowsL [intL .u8]] := reads_slice Try.underlying26 (by kernel_rfl) reads5 (by decide)

set_option maxRecDepth 100000 in
theorem lifted (os : Os) (started : os.Started) (H : Type) (enc : TypeId × Value → H) :
    ReturnsInHanded {} Try.checked os 4 .any (Rows.masterPlaysSpec.pre6 enc Try.prog Try.f4 Rows.masterPlaysRow.domain false) (Rows.masterPlaysSpec.post enc Try.prog Try.f4 false true false false) := by
  refine returnsInHanded_of_change (C := Try.checked) own started (by kernel_rfl) Try.func4
    (ChangeSpec.witness6 (enc := enc) (C := Try.checked) false ⟨#[], #[.agg #[.int .i64 0, .int .i64 0, .int .i64 0, .slice none 0 0, .int .i64 0, .int .i64 0, .int .i64 0, .int .i64 0, .int .i64 0, .int .i64 0, .int .i64 0, .int .i64 0], .slice none 0 0, .slice none 0 0], []⟩ 8 (by kernel_rfl) (by kernel_rfl) (by kernel_rfl) (by kernel_rfl)) ?_
  intro W base args ds gs before hval0 hW hcnd _
  have hval : ∀ (j : Nat) t v, Try.f4.params[j]? = some t → args[j]? = some v → Value.okWide Try.prog W .any base t v := hval0
  have hW' := hW
  obtain ⟨p, q, hA0, hV, rfl, hfz, hnd⟩ := hW
  have hA : DataW.TrodAll enc Try.prog W 0 (fun _ => true) true Try.f4.params.toList args.toList ds p := hA0
  rw [Try.params4] at hA hval
  obtain ⟨v0, vs0, d0, ds0, p0, q0, hargs, rfl, rfl, h0, r0⟩ := trodAll_cons hA
  obtain ⟨v1, vs1, d1, ds1, p1, q1, rfl, rfl, rfl, h1, r1⟩ := trodAll_cons r0
  obtain ⟨v2, vs2, d2, ds2, p2, q2, rfl, rfl, rfl, h2, r2⟩ := trodAll_cons r1
  obtain ⟨rfl, rfl, rfl⟩ := trodAll_nil r2
  obtain rfl : args = #[v0, v1, v2] := by cases args; simp_all
  obtain ⟨rfl, rfl⟩ := trodVars_none hV
  have k0 := h0
  have lt0 : ∀ x ∈ p0, x.block < W.heap.size := by obtain ⟨m, hm⟩ := k0; exact DataW.trod_lt m _ _ _ hm
  obtain ⟨cs0, rfl, m0_0⟩ := reads_agg Try.underlying24 reads24 (hval 0 24 v0 rfl rfl) h0
  obtain ⟨_, _, rfl, ⟨n0, rfl, w0⟩, m0_1⟩ := m0_0.cons_
  obtain ⟨_, _, rfl, ⟨n1, rfl, w1⟩, m0_2⟩ := m0_1.cons_
  obtain ⟨_, _, rfl, ⟨n2, rfl, w2⟩, m0_3⟩ := m0_2.cons_
  obtain ⟨_, _, rfl, ⟨a3, n3, c3, rfl, w3, x3, y3⟩, m0_4⟩ := m0_3.cons_
  obtain ⟨_, _, rfl, ⟨n4, rfl, w4⟩, m0_5⟩ := m0_4.cons_
  obtain ⟨_, _, rfl, ⟨n5, rfl, w5⟩, m0_6⟩ := m0_5.cons_
  obtain ⟨_, _, rfl, ⟨n6, rfl, w6⟩, m0_7⟩ := m0_6.cons_
  obtain ⟨_, _, rfl, ⟨n7, rfl, w7⟩, m0_8⟩ := m0_7.cons_
  obtain ⟨_, _, rfl, ⟨n8, rfl, w8⟩, m0_9⟩ := m0_8.cons_
  obtain ⟨_, _, rfl, ⟨n9, rfl, w9⟩, m0_10⟩ := m0_9.cons_
  obtain ⟨_, _, rfl, ⟨n10, rfl, w10⟩, m0_11⟩ := m0_10.cons_
  obtain ⟨_, _, rfl, ⟨n11, rfl, w11⟩, m0_12⟩ := m0_11.cons_
  obtain rfl := m0_12.nil_
  have k1 := h1
  have lt1 : ∀ x ∈ p1, x.block < W.heap.size := by obtain ⟨m, hm⟩ := k1; exact DataW.trod_lt m _ _ _ hm
  obtain ⟨z1a, z1b, z1c, hz1⟩ := okWide_slice Try.underlying25 (hval 1 25 v1 rfl rfl)
  have e1 := reads_one reads25 (by rw [hz1]; rfl) h1
  clear hz1
  obtain ⟨a12, n12, c12, rfl, w12, x12, y12⟩ := e1
  have k2 := h2
  have lt2 : ∀ x ∈ p2, x.block < W.heap.size := by obtain ⟨m, hm⟩ := k2; exact DataW.trod_lt m _ _ _ hm
  obtain ⟨z2a, z2b, z2c, hz2⟩ := okWide_slice Try.underlying26 (hval 2 26 v2 rfl rfl)
  have e2 := reads_one reads26 (by rw [hz2]; rfl) h2
  clear hz2
  obtain ⟨a13, n13, c13, rfl, w13, x13, y13⟩ := e2
  clear hA0 hval0 hval
  refine (walk W n0 w0 n1 w1 n2 w2 a3 n3 c3 w3 x3 y3 n4 w4 n5 w5 n6 w6 n7 w7 n8 w8 n9 w9 n10 w10 n11 w11 a12 n12 c12 w12 x12 y12 a13 n13 c13 w13 x13 y13).mono fun e W' ⟨he, bel⟩ => ?_
  subst he
  exact ⟨_, rfl, _, _, _, [], _, [], hW', trodAll_mk1 (shut_bool Try.underlying4 _), (trodAll_cons_mk (Below.trod laidOut (by kernel_rfl) (of_decide_eq_true (by kernel_rfl)) k0 bel lt0) (trodAll_cons_mk (Below.trod laidOut (by kernel_rfl) (of_decide_eq_true (by kernel_rfl)) k1 bel lt1) (trodAll_cons_mk (Below.trod laidOut (by kernel_rfl) (of_decide_eq_true (by kernel_rfl)) k2 bel lt2) trodAll_mk0))), rfl, bel.frame _, fun h => by cases h⟩

theorem over : Rows.masterPlaysRow.holds Try.pinned (OpenSpec.ofChange Rows.masterPlaysSpec) :=
  OpenClaim.holds_of_wide 4 Try.f4 rfl rfl rfl rfl rfl rfl rfl ⟨rfl, rfl, rfl, rfl, rfl⟩ rfl rfl rfl rfl rfl (by kernel_rfl) Try.func4 (by kernel_rfl)
    (of_decide_eq_true (by kernel_rfl)) (by unfold Func.isWrapper; first | (rw [if_pos (by decide +kernel)]; kernel_rfl) | (rw [if_neg (by decide +kernel)]; exact ⟨rfl, rfl⟩))
    (fun os started H enc _ => lifted os started H enc)

theorem proved : Rows.MasterPlaysSaid := over
#print axioms proved
end Go.Proofs.Ytghfigeepnbjaaa.lawMasterPlays
