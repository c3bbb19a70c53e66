/-
  LinearSound: the frame of the proof: the arguments' readings, the row. The walk is imported. No condition.
-/
import Derived.Test.YtlphkjbadjdleaaRows
import Derived.Test.YtlphkjbadjdleaaLawLinearSoundW
import Derived.Test.YtlphkjbadjdleaaPI
import Derived.Test.YtlphkjbadjdleaaP7
import Derived.ProofKit
import Derived.OpenShut
import Derived.ShutString
import Derived.ChangeOld
namespace Go.Proofs.Ytlphkjbadjdleaa.lawLinearSound
open Go.ChangeShapes Go.WideShapes Go.ChangeAt Go.RowKit
open Go.ChangeMaps (open_string shut_string)
set_option linter.unusedVariables false

theorem own : ownKnob Try.prog.godebug = none := by kernel_rfl
theorem laidOut : laidOutB Try.prog = true := by kernel_rfl
theorem reads5 : Reads Try.prog 5 [intL .u8] := reads_int Try.underlying5 (by kernel_rfl)
theorem reads62 : Reads Try.prog 62 [intL .u8, intL .u8, intL .u8, intL .u8, intL .u8, intL .u8, intL .u8, intL .u8, intL .u8] := reads_struct Try.underlying62 (by kernel_rfl) ⟨rfl, _, _, reads5, rfl, ⟨rfl, _, _, reads5, rfl, ⟨rfl, _, _, reads5, rfl, ⟨rfl, _, _, reads5, rfl, ⟨rfl, _, _, reads5, rfl, ⟨rfl, _, _, reads5, rfl, ⟨rfl, _, _, reads5, rfl, ⟨rfl, _, _, reads5, rfl, ⟨rfl, _, _, reads5, rfl, rfl⟩⟩⟩⟩⟩⟩⟩⟩⟩
theorem reads56 : Reads Try.prog 56 [rowsL [intL .u8, intL .u8, intL .u8, intL .u8, intL .u8, intL .u8, intL .u8, intL .u8, intL .u8]] := reads_slice Try.underlying56 (by kernel_rfl) reads62 (by decide)
theorem reads60 : Reads Try.prog 60 [rowsL [intL .u8]] := reads_slice Try.underlying60 (by kernel_rfl) reads5 (by decide)

set_option maxRecDepth 100000 in
theorem lifted (os : Os) (started : os.Started) (H : Type) (enc : TypeId × Value → H) :
    ReturnsInHanded {} Try.checked os 9 .any (Rows.linearSoundSpec.pre6 enc Try.prog Try.f9 Rows.linearSoundRow.domain false) (Rows.linearSoundSpec.post enc Try.prog Try.f9 false true false false) := by
  refine returnsInHanded_of_change (C := Try.checked) own started (by kernel_rfl) Try.func9
    (ChangeSpec.witness6 (enc := enc) (C := Try.checked) false ⟨#[], #[.slice none 0 0, .slice none 0 0, .slice none 0 0], []⟩ 8 (by kernel_rfl) (by kernel_rfl) (by kernel_rfl) (by kernel_rfl)) ?_
  intro W base args ds gs before hval0 hW hcnd _
  have hval : ∀ (j : Nat) t v, Try.f9.params[j]? = some t → args[j]? = some v → Value.okWide Try.prog W .any base t v := hval0
  have hW' := hW
  obtain ⟨p, q, hA0, hV, rfl, hfz, hnd⟩ := hW
  have hA : DataW.TrodAll enc Try.prog W 0 (fun _ => true) true Try.f9.params.toList args.toList ds p := hA0
  rw [Try.params9] at hA hval
  obtain ⟨v0, vs0, d0, ds0, p0, q0, hargs, rfl, rfl, h0, r0⟩ := trodAll_cons hA
  obtain ⟨v1, vs1, d1, ds1, p1, q1, rfl, rfl, rfl, h1, r1⟩ := trodAll_cons r0
  obtain ⟨v2, vs2, d2, ds2, p2, q2, rfl, rfl, rfl, h2, r2⟩ := trodAll_cons r1
  obtain ⟨rfl, rfl, rfl⟩ := trodAll_nil r2
  obtain rfl : args = #[v0, v1, v2] := by cases args; simp_all
  obtain ⟨rfl, rfl⟩ := trodVars_none hV
  have k0 := h0
  have lt0 : ∀ x ∈ p0, x.block < W.heap.size := by obtain ⟨m, hm⟩ := k0; exact DataW.trod_lt m _ _ _ hm
  obtain ⟨z0a, z0b, z0c, hz0⟩ := okWide_slice Try.underlying56 (hval 0 56 v0 rfl rfl)
  have e0 := reads_one reads56 (by rw [hz0]; rfl) h0
  clear hz0
  obtain ⟨a0, n0, c0, rfl, w0, x0, y0⟩ := e0
  have k1 := h1
  have lt1 : ∀ x ∈ p1, x.block < W.heap.size := by obtain ⟨m, hm⟩ := k1; exact DataW.trod_lt m _ _ _ hm
  obtain ⟨z1a, z1b, z1c, hz1⟩ := okWide_slice Try.underlying60 (hval 1 60 v1 rfl rfl)
  have e1 := reads_one reads60 (by rw [hz1]; rfl) h1
  clear hz1
  obtain ⟨a1, n1, c1, rfl, w1, x1, y1⟩ := e1
  have k2 := h2
  have lt2 : ∀ x ∈ p2, x.block < W.heap.size := by obtain ⟨m, hm⟩ := k2; exact DataW.trod_lt m _ _ _ hm
  obtain ⟨z2a, z2b, z2c, hz2⟩ := okWide_slice Try.underlying60 (hval 2 60 v2 rfl rfl)
  have e2 := reads_one reads60 (by rw [hz2]; rfl) h2
  clear hz2
  obtain ⟨a2, n2, c2, rfl, w2, x2, y2⟩ := e2
  clear hA0 hval0 hval
  refine (walk W a0 n0 c0 w0 x0 y0 a1 n1 c1 w1 x1 y1 a2 n2 c2 w2 x2 y2).mono fun e W' ⟨he, bel⟩ => ?_
  subst he
  exact ⟨_, rfl, _, _, _, [], _, [], hW', trodAll_mk1 (shut_bool Try.underlying4 _), (trodAll_cons_mk (Below.trod laidOut (by kernel_rfl) (of_decide_eq_true (by kernel_rfl)) k0 bel lt0) (trodAll_cons_mk (Below.trod laidOut (by kernel_rfl) (of_decide_eq_true (by kernel_rfl)) k1 bel lt1) (trodAll_cons_mk (Below.trod laidOut (by kernel_rfl) (of_decide_eq_true (by kernel_rfl)) k2 bel lt2) trodAll_mk0))), rfl, bel.frame _, fun h => by cases h⟩

theorem over : Rows.linearSoundRow.holds Try.pinned (OpenSpec.ofChange Rows.linearSoundSpec) :=
  OpenClaim.holds_of_wide 9 Try.f9 rfl rfl rfl rfl rfl rfl rfl ⟨rfl, rfl, rfl, rfl, rfl⟩ rfl rfl rfl rfl rfl (by kernel_rfl) Try.func9 (by kernel_rfl)
    (of_decide_eq_true (by kernel_rfl)) (by unfold Func.isWrapper; first | (rw [if_pos (by decide +kernel)]; kernel_rfl) | (rw [if_neg (by decide +kernel)]; exact ⟨rfl, rfl⟩))
    (fun os started H enc _ => lifted os started H enc)

theorem proved : Rows.LinearSoundSaid := over
#print axioms proved
end Go.Proofs.Ytlphkjbadjdleaa.lawLinearSound
