/-
  ShotsTell: the frame of the proof: the arguments' readings, the row. The walk is imported. No condition.
-/
import Derived.Test.YtfkbodonidkpoaaRows
import Derived.Test.YtfkbodonidkpoaaLawShotsTellW
import Derived.Test.YtfkbodonidkpoaaPI
import Derived.Test.YtfkbodonidkpoaaP7
import Derived.ProofKit
import Derived.OpenShut
import Derived.ShutString
import Derived.ChangeOld
namespace Go.Proofs.Ytfkbodonidkpoaa.lawShotsTell
open Go.ChangeShapes Go.WideShapes Go.ChangeAt Go.RowKit
open Go.ChangeMaps (open_string shut_string)
set_option linter.unusedVariables false

theorem own : ownKnob Try.prog.godebug = none := by kernel_rfl
theorem laidOut : laidOutB Try.prog = true := by kernel_rfl
theorem reads3 : Reads Try.prog 3 [intL .i64] := reads_int Try.underlying3 (by kernel_rfl)
theorem reads9 : Reads Try.prog 9 [strL] := reads_str Try.underlying9 (by kernel_rfl)
theorem reads41 : Reads Try.prog 41 [intL .i64, strL, intL .i64, intL .i64] := reads_struct Try.underlying41 (by kernel_rfl) ⟨rfl, _, _, reads3, rfl, ⟨rfl, _, _, reads9, rfl, ⟨rfl, _, _, reads3, rfl, ⟨rfl, _, _, reads3, rfl, rfl⟩⟩⟩⟩
theorem reads97 : Reads Try.prog 97 [intL .i64, intL .i64, intL .i64, strL, intL .i64, intL .i64] := reads_struct Try.underlying97 (by kernel_rfl) ⟨rfl, _, _, reads3, rfl, ⟨rfl, _, _, reads3, rfl, ⟨rfl, _, _, reads41, rfl, rfl⟩⟩⟩
theorem reads30 : Reads Try.prog 30 [rowsL [intL .i64, intL .i64, intL .i64, strL, intL .i64, intL .i64]] := reads_slice Try.underlying30 (by kernel_rfl) reads97 (by decide)
theorem reads104 : Reads Try.prog 104 [strL, strL, intL .i64] := reads_struct Try.underlying104 (by kernel_rfl) ⟨rfl, _, _, reads9, rfl, ⟨rfl, _, _, reads9, rfl, ⟨rfl, _, _, reads3, rfl, rfl⟩⟩⟩
theorem reads29 : Reads Try.prog 29 [rowsL [strL, strL, intL .i64]] := reads_slice Try.underlying29 (by kernel_rfl) reads104 (by decide)
theorem reads32 : Reads Try.prog 32 [intL .i64, rowsL [strL, strL, intL .i64], rowsL [intL .i64, intL .i64, intL .i64, strL, intL .i64, intL .i64]] := reads_struct Try.underlying32 (by kernel_rfl) ⟨rfl, _, _, reads3, rfl, ⟨rfl, _, _, reads29, rfl, ⟨rfl, _, _, reads30, rfl, rfl⟩⟩⟩

set_option maxRecDepth 100000 in
theorem lifted (os : Os) (started : os.Started) (H : Type) (enc : TypeId × Value → H) :
    ReturnsInHanded {} Try.checked os 8 .any (Rows.shotsTellSpec.pre6 enc Try.prog Try.f8 Rows.shotsTellRow.domain false) (Rows.shotsTellSpec.post enc Try.prog Try.f8 false true false false) := by
  refine returnsInHanded_of_change (C := Try.checked) own started (by kernel_rfl) Try.func8
    (ChangeSpec.witness6 (enc := enc) (C := Try.checked) false ⟨#[], #[.agg #[.int .i64 0, .slice none 0 0, .slice none 0 0], .string ByteArray.empty, .int .i64 0], []⟩ 8 (by kernel_rfl) (by kernel_rfl) (by kernel_rfl) (by kernel_rfl)) ?_
  intro W base args ds gs before hval0 hW hcnd _
  have hval : ∀ (j : Nat) t v, Try.f8.params[j]? = some t → args[j]? = some v → Value.okWide Try.prog W .any base t v := hval0
  have hW' := hW
  obtain ⟨p, q, hA0, hV, rfl, hfz, hnd⟩ := hW
  have hA : DataW.TrodAll enc Try.prog W 0 (fun _ => true) true Try.f8.params.toList args.toList ds p := hA0
  rw [Try.params8] at hA hval
  obtain ⟨v0, vs0, d0, ds0, p0, q0, hargs, rfl, rfl, h0, r0⟩ := trodAll_cons hA
  obtain ⟨v1, vs1, d1, ds1, p1, q1, rfl, rfl, rfl, h1, r1⟩ := trodAll_cons r0
  obtain ⟨v2, vs2, d2, ds2, p2, q2, rfl, rfl, rfl, h2, r2⟩ := trodAll_cons r1
  obtain ⟨rfl, rfl, rfl⟩ := trodAll_nil r2
  obtain rfl : args = #[v0, v1, v2] := by cases args; simp_all
  obtain ⟨rfl, rfl⟩ := trodVars_none hV
  have k0 := h0
  have lt0 : ∀ x ∈ p0, x.block < W.heap.size := by obtain ⟨m, hm⟩ := k0; exact DataW.trod_lt m _ _ _ hm
  obtain ⟨cs0, rfl, m0_0⟩ := reads_agg Try.underlying32 reads32 (hval 0 32 v0 rfl rfl) h0
  obtain ⟨_, _, rfl, ⟨n0, rfl, w0⟩, m0_1⟩ := m0_0.cons_
  obtain ⟨_, _, rfl, ⟨a1, n1, c1, rfl, w1, x1, y1⟩, m0_2⟩ := m0_1.cons_
  obtain ⟨_, _, rfl, ⟨a2, n2, c2, rfl, w2, x2, y2⟩, m0_3⟩ := m0_2.cons_
  obtain rfl := m0_3.nil_
  have k1 := h1
  have lt1 : ∀ x ∈ p1, x.block < W.heap.size := by obtain ⟨m, hm⟩ := k1; exact DataW.trod_lt m _ _ _ hm
  obtain ⟨z1, hz1, _⟩ := open_string Try.underlying9 (hval 1 9 v1 rfl rfl) h1
  have e1 := reads_one reads9 (by rw [hz1]; rfl) h1
  clear hz1
  obtain ⟨s3, rfl, w3⟩ := e1
  have k2 := h2
  have lt2 : ∀ x ∈ p2, x.block < W.heap.size := by obtain ⟨m, hm⟩ := k2; exact DataW.trod_lt m _ _ _ hm
  obtain ⟨z2, hz2, _⟩ := open_int Try.underlying3 (hval 2 3 v2 rfl rfl) h2
  have e2 := reads_one reads3 (by rw [hz2]; rfl) h2
  clear hz2
  obtain ⟨n4, rfl, w4⟩ := e2
  clear hA0 hval0 hval
  refine (walk W n0 w0 a1 n1 c1 w1 x1 y1 a2 n2 c2 w2 x2 y2 s3 w3 n4 w4).mono fun e W' ⟨he, bel⟩ => ?_
  subst he
  exact ⟨_, rfl, _, _, _, [], _, [], hW', trodAll_mk1 (shut_bool Try.underlying4 _), (trodAll_cons_mk (Below.trod laidOut (by kernel_rfl) (of_decide_eq_true (by kernel_rfl)) k0 bel lt0) (trodAll_cons_mk (Below.trod laidOut (by kernel_rfl) (of_decide_eq_true (by kernel_rfl)) k1 bel lt1) (trodAll_cons_mk (Below.trod laidOut (by kernel_rfl) (of_decide_eq_true (by kernel_rfl)) k2 bel lt2) trodAll_mk0))), rfl, bel.frame _, fun h => by cases h⟩

theorem over : Rows.shotsTellRow.holds Try.pinned (OpenSpec.ofChange Rows.shotsTellSpec) :=
  OpenClaim.holds_of_wide 8 Try.f8 rfl rfl rfl rfl rfl rfl rfl ⟨rfl, rfl, rfl, rfl, rfl⟩ rfl rfl rfl rfl rfl (by kernel_rfl) Try.func8 (by kernel_rfl)
    (of_decide_eq_true (by kernel_rfl)) (by unfold Func.isWrapper; first | (rw [if_pos (by decide +kernel)]; kernel_rfl) | (rw [if_neg (by decide +kernel)]; exact ⟨rfl, rfl⟩))
    (fun os started H enc _ => lifted os started H enc)

theorem proved : Rows.ShotsTellSaid := over
#print axioms proved
end Go.Proofs.Ytfkbodonidkpoaa.lawShotsTell
