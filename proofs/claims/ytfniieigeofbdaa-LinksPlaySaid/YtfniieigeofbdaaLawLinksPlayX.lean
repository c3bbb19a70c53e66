/-
  LinksPlay: the frame of the proof: the arguments' readings, the row. The walk is imported. No condition.
-/
import Derived.Test.YtfniieigeofbdaaRows
import Derived.Test.YtfniieigeofbdaaLawLinksPlayW
import Derived.Test.YtfniieigeofbdaaPI
import Derived.Test.YtfniieigeofbdaaP7
import Derived.ProofKit
import Derived.OpenShut
import Derived.ShutString
import Derived.ChangeOld
namespace Go.Proofs.Ytfniieigeofbdaa.lawLinksPlay
open Go.ChangeShapes Go.WideShapes Go.ChangeAt Go.RowKit
open Go.ChangeMaps (open_string shut_string)
set_option linter.unusedVariables false

theorem own : ownKnob Try.prog.godebug = none := by kernel_rfl
theorem laidOut : laidOutB Try.prog = true := by kernel_rfl
theorem reads3 : Reads Try.prog 3 [intL .i64] := reads_int Try.underlying3 (by kernel_rfl)
theorem reads9 : Reads Try.prog 9 [strL] := reads_str Try.underlying9 (by kernel_rfl)
theorem reads60 : Reads Try.prog 60 [intL .i64, intL .i64, strL] := reads_struct Try.underlying60 (by kernel_rfl) ⟨rfl, _, _, reads3, rfl, ⟨rfl, _, _, reads3, rfl, ⟨rfl, _, _, reads9, rfl, rfl⟩⟩⟩
theorem reads5 : Reads Try.prog 5 [intL .u8] := reads_int Try.underlying5 (by kernel_rfl)
theorem reads74 : Reads Try.prog 74 [intL .u8, intL .i64, intL .i64, strL, intL .i64] := reads_struct Try.underlying74 (by kernel_rfl) ⟨rfl, _, _, reads5, rfl, ⟨rfl, _, _, reads60, rfl, ⟨rfl, _, _, reads3, rfl, rfl⟩⟩⟩
theorem reads68 : Reads Try.prog 68 [rowsL [intL .u8, intL .i64, intL .i64, strL, intL .i64]] := reads_slice Try.underlying68 (by kernel_rfl) reads74 (by decide)

set_option maxRecDepth 100000 in
theorem lifted (os : Os) (started : os.Started) (H : Type) (enc : TypeId × Value → H) :
    ReturnsInHanded {} Try.checked os 7 .any (Rows.linksPlaySpec.pre6 enc Try.prog Try.f7 Rows.linksPlayRow.domain false) (Rows.linksPlaySpec.post enc Try.prog Try.f7 false true false false) := by
  refine returnsInHanded_of_change (C := Try.checked) own started (by kernel_rfl) Try.func7
    (ChangeSpec.witness6 (enc := enc) (C := Try.checked) false ⟨#[], #[.int .i64 0, .slice none 0 0], []⟩ 8 (by kernel_rfl) (by kernel_rfl) (by kernel_rfl) (by kernel_rfl)) ?_
  intro W base args ds gs before hval0 hW hcnd _
  have hval : ∀ (j : Nat) t v, Try.f7.params[j]? = some t → args[j]? = some v → Value.okWide Try.prog W .any base t v := hval0
  have hW' := hW
  obtain ⟨p, q, hA0, hV, rfl, hfz, hnd⟩ := hW
  have hA : DataW.TrodAll enc Try.prog W 0 (fun _ => true) true Try.f7.params.toList args.toList ds p := hA0
  rw [Try.params7] at hA hval
  obtain ⟨v0, vs0, d0, ds0, p0, q0, hargs, rfl, rfl, h0, r0⟩ := trodAll_cons hA
  obtain ⟨v1, vs1, d1, ds1, p1, q1, rfl, rfl, rfl, h1, r1⟩ := trodAll_cons r0
  obtain ⟨rfl, rfl, rfl⟩ := trodAll_nil r1
  obtain rfl : args = #[v0, v1] := by cases args; simp_all
  obtain ⟨rfl, rfl⟩ := trodVars_none hV
  have k0 := h0
  have lt0 : ∀ x ∈ p0, x.block < W.heap.size := by obtain ⟨m, hm⟩ := k0; exact DataW.trod_lt m _ _ _ hm
  obtain ⟨z0, hz0, _⟩ := open_int Try.underlying3 (hval 0 3 v0 rfl rfl) h0
  have e0 := reads_one reads3 (by rw [hz0]; rfl) h0
  clear hz0
  obtain ⟨n0, rfl, w0⟩ := e0
  have k1 := h1
  have lt1 : ∀ x ∈ p1, x.block < W.heap.size := by obtain ⟨m, hm⟩ := k1; exact DataW.trod_lt m _ _ _ hm
  obtain ⟨z1a, z1b, z1c, hz1⟩ := okWide_slice Try.underlying68 (hval 1 68 v1 rfl rfl)
  have e1 := reads_one reads68 (by rw [hz1]; rfl) h1
  clear hz1
  obtain ⟨a1, n1, c1, rfl, w1, x1, y1⟩ := e1
  clear hA0 hval0 hval
  refine (walk W n0 w0 a1 n1 c1 w1 x1 y1).mono fun e W' ⟨he, bel⟩ => ?_
  subst he
  exact ⟨_, rfl, _, _, _, [], _, [], hW', trodAll_mk1 (shut_bool Try.underlying4 _), (trodAll_cons_mk (Below.trod laidOut (by kernel_rfl) (of_decide_eq_true (by kernel_rfl)) k0 bel lt0) (trodAll_cons_mk (Below.trod laidOut (by kernel_rfl) (of_decide_eq_true (by kernel_rfl)) k1 bel lt1) trodAll_mk0)), rfl, bel.frame _, fun h => by cases h⟩

theorem over : Rows.linksPlayRow.holds Try.pinned (OpenSpec.ofChange Rows.linksPlaySpec) :=
  OpenClaim.holds_of_wide 7 Try.f7 rfl rfl rfl rfl rfl rfl rfl ⟨rfl, rfl, rfl, rfl, rfl⟩ rfl rfl rfl rfl rfl (by kernel_rfl) Try.func7 (by kernel_rfl)
    (of_decide_eq_true (by kernel_rfl)) (by unfold Func.isWrapper; first | (rw [if_pos (by decide +kernel)]; kernel_rfl) | (rw [if_neg (by decide +kernel)]; exact ⟨rfl, rfl⟩))
    (fun os started H enc _ => lifted os started H enc)

theorem proved : Rows.LinksPlaySaid := over
#print axioms proved
end Go.Proofs.Ytfniieigeofbdaa.lawLinksPlay
