/-
  ShotsOf: the frame of the proof: the arguments' readings, the row. The walk is imported. No condition.
-/
import Derived.Test.YtfkbodonidkpoaaRows
import Derived.Test.YtfkbodonidkpoaaLawShotsOfW
import Derived.Test.YtfkbodonidkpoaaPI
import Derived.Test.YtfkbodonidkpoaaP7
import Derived.ProofKit
import Derived.OpenShut
import Derived.ShutString
import Derived.ChangeOld
namespace Go.Proofs.Ytfkbodonidkpoaa.lawShotsOf
open Go.ChangeShapes Go.WideShapes Go.ChangeAt Go.RowKit
open Go.ChangeMaps (open_string shut_string)
set_option linter.unusedVariables false

theorem own : ownKnob Try.prog.godebug = none := by kernel_rfl
theorem laidOut : laidOutB Try.prog = true := by kernel_rfl
theorem reads3 : Reads Try.prog 3 [intL .i64] := reads_int Try.underlying3 (by kernel_rfl)
theorem reads9 : Reads Try.prog 9 [strL] := reads_str Try.underlying9 (by kernel_rfl)
theorem reads34 : Reads Try.prog 34 [intL .i64, strL, strL, intL .i64] := reads_struct Try.underlying34 (by kernel_rfl) ⟨rfl, _, _, reads3, rfl, ⟨rfl, _, _, reads9, rfl, ⟨rfl, _, _, reads9, rfl, ⟨rfl, _, _, reads3, rfl, rfl⟩⟩⟩⟩
theorem reads36 : Reads Try.prog 36 [intL .i64, intL .i64, intL .i64, intL .i64, strL, strL, intL .i64] := reads_struct Try.underlying36 (by kernel_rfl) ⟨rfl, _, _, reads3, rfl, ⟨rfl, _, _, reads3, rfl, ⟨rfl, _, _, reads3, rfl, ⟨rfl, _, _, reads34, rfl, rfl⟩⟩⟩⟩
theorem reads48 : Reads Try.prog 48 [rowsL [intL .i64, intL .i64, intL .i64, intL .i64, strL, strL, intL .i64]] := reads_slice Try.underlying48 (by kernel_rfl) reads36 (by decide)

set_option maxRecDepth 100000 in
theorem lifted (os : Os) (started : os.Started) (H : Type) (enc : TypeId × Value → H) :
    ReturnsInHanded {} Try.checked os 7 .any (Rows.shotsOfSpec.pre6 enc Try.prog Try.f7 Rows.shotsOfRow.domain false) (Rows.shotsOfSpec.post enc Try.prog Try.f7 false true false false) := by
  refine returnsInHanded_of_change (C := Try.checked) own started (by kernel_rfl) Try.func7
    (ChangeSpec.witness6 (enc := enc) (C := Try.checked) false ⟨#[], #[.slice none 0 0], []⟩ 8 (by kernel_rfl) (by kernel_rfl) (by kernel_rfl) (by kernel_rfl)) ?_
  intro W base args ds gs before hval0 hW hcnd _
  have hval : ∀ (j : Nat) t v, Try.f7.params[j]? = some t → args[j]? = some v → Value.okWide Try.prog W .any base t v := hval0
  have hW' := hW
  obtain ⟨p, q, hA0, hV, rfl, hfz, hnd⟩ := hW
  have hA : DataW.TrodAll enc Try.prog W 0 (fun _ => true) true Try.f7.params.toList args.toList ds p := hA0
  rw [Try.params7] at hA hval
  obtain ⟨v0, vs0, d0, ds0, p0, q0, hargs, rfl, rfl, h0, r0⟩ := trodAll_cons hA
  obtain ⟨rfl, rfl, rfl⟩ := trodAll_nil r0
  obtain rfl : args = #[v0] := by cases args; simp_all
  obtain ⟨rfl, rfl⟩ := trodVars_none hV
  have k0 := h0
  have lt0 : ∀ x ∈ p0, x.block < W.heap.size := by obtain ⟨m, hm⟩ := k0; exact DataW.trod_lt m _ _ _ hm
  obtain ⟨z0a, z0b, z0c, hz0⟩ := okWide_slice Try.underlying48 (hval 0 48 v0 rfl rfl)
  have e0 := reads_one reads48 (by rw [hz0]; rfl) h0
  clear hz0
  obtain ⟨a0, n0, c0, rfl, w0, x0, y0⟩ := e0
  clear hA0 hval0 hval
  refine (walk W a0 n0 c0 w0 x0 y0).mono fun e W' ⟨he, bel⟩ => ?_
  subst he
  exact ⟨_, rfl, _, _, _, [], _, [], hW', trodAll_mk1 (shut_bool Try.underlying4 _), (trodAll_cons_mk (Below.trod laidOut (by kernel_rfl) (of_decide_eq_true (by kernel_rfl)) k0 bel lt0) trodAll_mk0), rfl, bel.frame _, fun h => by cases h⟩

theorem over : Rows.shotsOfRow.holds Try.pinned (OpenSpec.ofChange Rows.shotsOfSpec) :=
  OpenClaim.holds_of_wide 7 Try.f7 rfl rfl rfl rfl rfl rfl rfl ⟨rfl, rfl, rfl, rfl, rfl⟩ rfl rfl rfl rfl rfl (by kernel_rfl) Try.func7 (by kernel_rfl)
    (of_decide_eq_true (by kernel_rfl)) (by unfold Func.isWrapper; first | (rw [if_pos (by decide +kernel)]; kernel_rfl) | (rw [if_neg (by decide +kernel)]; exact ⟨rfl, rfl⟩))
    (fun os started H enc _ => lifted os started H enc)

theorem proved : Rows.ShotsOfSaid := over
#print axioms proved
end Go.Proofs.Ytfkbodonidkpoaa.lawShotsOf
