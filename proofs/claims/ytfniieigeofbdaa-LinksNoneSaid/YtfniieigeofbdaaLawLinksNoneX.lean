/-
  LinksNone: the frame of the proof: the arguments' readings, the row. The walk is imported. No condition.
-/
import Derived.Test.YtfniieigeofbdaaRows
import Derived.Test.YtfniieigeofbdaaLawLinksNone
import Derived.Test.YtfniieigeofbdaaPI
import Derived.Test.YtfniieigeofbdaaP7
import Derived.ProofKit
import Derived.OpenShut
import Derived.ShutString
import Derived.ChangeOld
namespace Go.Proofs.Ytfniieigeofbdaa.lawLinksNone
open Go.ChangeShapes Go.WideShapes Go.ChangeAt Go.RowKit
open Go.ChangeMaps (open_string shut_string)
set_option linter.unusedVariables false

theorem own : ownKnob Try.prog.godebug = none := by kernel_rfl
theorem laidOut : laidOutB Try.prog = true := by kernel_rfl
theorem reads3 : Reads Try.prog 3 [intL .i64] := reads_int Try.underlying3 (by kernel_rfl)
theorem reads9 : Reads Try.prog 9 [strL] := reads_str Try.underlying9 (by kernel_rfl)
theorem reads60 : Reads Try.prog 60 [intL .i64, intL .i64, strL] := reads_struct Try.underlying60 (by kernel_rfl) ⟨rfl, _, _, reads3, rfl, ⟨rfl, _, _, reads3, rfl, ⟨rfl, _, _, reads9, rfl, rfl⟩⟩⟩
theorem reads5 : Reads Try.prog 5 [intL .u8] := reads_int Try.underlying5 (by kernel_rfl)
theorem reads74 : Reads Try.prog 74 [intL .u8, intL .i64, intL .i64, strL, intL .i64] := reads_struct Try.underlying74 (by kernel_rfl) ⟨rfl, _, _, reads5, rfl, ⟨rfl, _, _, reads60, rfl, ⟨rfl, _, _, reads3, rfl, rfl⟩⟩⟩

set_option maxRecDepth 100000 in
theorem lifted (os : Os) (started : os.Started) (H : Type) (enc : TypeId × Value → H) :
    ReturnsInHanded {} Try.checked os 8 .any (Rows.linksNoneSpec.pre6 enc Try.prog Try.f8 Rows.linksNoneRow.domain false) (Rows.linksNoneSpec.post enc Try.prog Try.f8 false true false false) := by
  refine returnsInHanded_of_change (C := Try.checked) own started (by kernel_rfl) Try.func8
    (ChangeSpec.witness6 (enc := enc) (C := Try.checked) false ⟨#[], #[.agg #[.int .u8 0, .int .i64 0, .int .i64 0, .string ByteArray.empty, .int .i64 0]], []⟩ 8 (by kernel_rfl) (by kernel_rfl) (by kernel_rfl) (by kernel_rfl)) ?_
  intro W base args ds gs before hval0 hW hcnd _
  have hval : ∀ (j : Nat) t v, Try.f8.params[j]? = some t → args[j]? = some v → Value.okWide Try.prog W .any base t v := hval0
  have hW' := hW
  obtain ⟨p, q, hA0, hV, rfl, hfz, hnd⟩ := hW
  have hA : DataW.TrodAll enc Try.prog W 0 (fun _ => true) true Try.f8.params.toList args.toList ds p := hA0
  rw [Try.params8] at hA hval
  obtain ⟨v0, vs0, d0, ds0, p0, q0, hargs, rfl, rfl, h0, r0⟩ := trodAll_cons hA
  obtain ⟨rfl, rfl, rfl⟩ := trodAll_nil r0
  obtain rfl : args = #[v0] := by cases args; simp_all
  obtain ⟨rfl, rfl⟩ := trodVars_none hV
  have k0 := h0
  have lt0 : ∀ x ∈ p0, x.block < W.heap.size := by obtain ⟨m, hm⟩ := k0; exact DataW.trod_lt m _ _ _ hm
  obtain ⟨cs0, rfl, m0_0⟩ := reads_agg Try.underlying74 reads74 (hval 0 74 v0 rfl rfl) h0
  obtain ⟨_, _, rfl, ⟨n0, rfl, w0⟩, m0_1⟩ := m0_0.cons_
  obtain ⟨_, _, rfl, ⟨n1, rfl, w1⟩, m0_2⟩ := m0_1.cons_
  obtain ⟨_, _, rfl, ⟨n2, rfl, w2⟩, m0_3⟩ := m0_2.cons_
  obtain ⟨_, _, rfl, ⟨s3, rfl, w3⟩, m0_4⟩ := m0_3.cons_
  obtain ⟨_, _, rfl, ⟨n4, rfl, w4⟩, m0_5⟩ := m0_4.cons_
  obtain rfl := m0_5.nil_
  clear hA0 hval0 hval
  refine (walk W n0 w0 n1 w1 n2 w2 s3 w3 n4 w4).mono fun e W' ⟨he, bel⟩ => ?_
  subst he
  exact ⟨_, rfl, _, _, _, [], _, [], hW', trodAll_mk1 (shut_bool Try.underlying4 _), (trodAll_cons_mk (Below.trod laidOut (by kernel_rfl) (of_decide_eq_true (by kernel_rfl)) k0 bel lt0) trodAll_mk0), rfl, bel.frame _, fun h => by cases h⟩

theorem over : Rows.linksNoneRow.holds Try.pinned (OpenSpec.ofChange Rows.linksNoneSpec) :=
  OpenClaim.holds_of_wide 8 Try.f8 rfl rfl rfl rfl rfl rfl rfl ⟨rfl, rfl, rfl, rfl, rfl⟩ rfl rfl rfl rfl rfl (by kernel_rfl) Try.func8 (by kernel_rfl)
    (of_decide_eq_true (by kernel_rfl)) (by unfold Func.isWrapper; first | (rw [if_pos (by decide +kernel)]; kernel_rfl) | (rw [if_neg (by decide +kernel)]; exact ⟨rfl, rfl⟩))
    (fun os started H enc _ => lifted os started H enc)

theorem proved : Rows.LinksNoneSaid := over
#print axioms proved
end Go.Proofs.Ytfniieigeofbdaa.lawLinksNone
