/-
  BucketsNone: a bucket that is none has no tokens: true for every tick. No condition.
-/
import Derived.Test.YtkiebhdhknaijaaRows
import Derived.Test.YtkiebhdhknaijaaBucketsFilled
import Derived.ProofKit
import Derived.OpenShut
import Derived.ShutString
import Derived.ChangeOld
namespace Go.Proofs.Ytkiebhdhknaijaa.lawBucketsNone
open Go.ChangeShapes Go.WideShapes Go.ChangeAt Go.RowKit
open Go.ChangeMaps (open_string shut_string)

theorem own : ownKnob Try.prog.godebug = none := by kernel_rfl

def Rel (w : World) (k : Nat) (b t : Value) (wr : World) : Prop :=
  Below w.heap.size w wr ∧ ((k = 2 ∧ b = .pointer none ∧ t = .int .i64 0) ∨ (∃ g, k = 1 ∧ b = .pointer (some ⟨g, 0, none⟩) ∧ t = .int .i64 1 ∧ Blk wr g 41 zeroBk.cells) ∨ (∃ g, k = 0 ∧ b = .pointer (some ⟨g, 0, none⟩) ∧ t = .int .i64 2))

set_option maxHeartbeats 1000000 in
theorem walk (now : Int) (w : World) :
    Calls Try.prog 5 #[.int .i64 now] w fun e w' => e = .returned (.bool true) ∧ Below w.heap.size w w' := by
  go_enter Try.func5, Try.ntmps5
  go_wp2_with fail
  go_loopg [3, 4] 2 (fun k b t wr => Rel w k b t wr)
  case atStart => exact ⟨Below.refl _ _, .inl ⟨rfl, rfl, rfl⟩⟩
  case round =>
    obtain ⟨hbel, ⟨rfl, rfl, rfl⟩ | ⟨g, rfl, rfl, rfl, hb⟩ | ⟨g, rfl, rfl, rfl⟩⟩ := hrel
    · go_wp2_with fail
      refine (take_nil now wr).mono ?_
      rintro e w' ⟨rfl, rfl⟩
      go_wp2_with fail
      refine (left_nil now wr).mono ?_
      rintro e w' ⟨rfl, rfl⟩
      go_wp2_with fail
      refine (copy_nil wr).mono ?_
      rintro e w' ⟨rfl, rfl⟩
      go_wp2
      go_roundg 1
      case measure => omega
      case rel => exact ⟨hbel.alloc hbel.size _, .inr (.inl ⟨_, rfl, rfl, rfl, Blk.new _ _ _⟩)⟩
    · go_wp2_with fail
      refine (take_zero g now wr hb).mono ?_
      rintro e w' ⟨rfl, rfl⟩
      go_wp2_with fail
      refine (left_zero g now wr hb).mono ?_
      rintro e w' ⟨rfl, rfl⟩
      go_wp2_with fail
      refine (copy_zero g wr hb).mono ?_
      rintro e w' ⟨rfl, rfl⟩
      go_wp2
      go_roundg 0
      case measure => omega
      case rel => exact ⟨hbel.alloc hbel.size _, .inr (.inr ⟨_, rfl, rfl, rfl⟩)⟩
    · go_wp2_with fail
      refine (filled_any wr).mono ?_
      rintro e w' ⟨rfl, hb2⟩
      go_wp2
      go_ret
      exact ⟨rfl, hbel.trans (hb2.mono hbel.size)⟩

set_option maxRecDepth 100000 in
theorem lifted (os : Os) (started : os.Started) (H : Type) (enc : TypeId × Value → H) :
    ReturnsInHanded {} Try.checked os 5 .any (Rows.bucketsNoneSpec.pre6 enc Try.prog Try.f5 Rows.bucketsNoneRow.domain false) (Rows.bucketsNoneSpec.post enc Try.prog Try.f5 false true false false) := by
  refine returnsInHanded_of_change (C := Try.checked) own started (by kernel_rfl) Try.func5
    (ChangeSpec.witness6 (enc := enc) (C := Try.checked) false ⟨#[], #[.int .i64 0], []⟩ 8 (by kernel_rfl) (by kernel_rfl) (by kernel_rfl) (by kernel_rfl)) ?_
  intro W base args ds gs before hval0 hW hcnd _
  have hval : ∀ (j : Nat) t v, Try.f5.params[j]? = some t → args[j]? = some v → Value.okWide Try.prog W .any base t v := hval0
  have hW' := hW
  obtain ⟨p, q, hA0, hV, rfl, hfz, hnd⟩ := hW
  have hA : DataW.TrodAll enc Try.prog W 0 (fun _ => true) true Try.f5.params.toList args.toList ds p := hA0
  rw [Try.params5] at hA hval
  obtain ⟨v0, vs0, d0, ds0, p0, q0, hargs, rfl, rfl, h0, r0⟩ := trodAll_cons hA
  obtain ⟨rfl, rfl, rfl⟩ := trodAll_nil r0
  obtain rfl : args = #[v0] := by cases args; simp_all
  obtain ⟨rfl, rfl⟩ := trodVars_none hV
  obtain ⟨a0, rfl, rfl, rfl, w0⟩ := open_int Try.underlying3 (hval 0 3 v0 rfl rfl) h0
  clear hA0 hval0
  refine (walk a0 W).mono fun e W' ⟨he, bel⟩ => ?_
  subst he
  exact ⟨_, rfl, _, _, _, [], _, [], hW', trodAll_mk1 (shut_bool Try.underlying4 _), (trodAll_cons_mk (shut_int Try.underlying3 w0) trodAll_mk0), rfl, bel.frame _, fun h => by cases h⟩

theorem over : Rows.bucketsNoneRow.holds Try.pinned (OpenSpec.ofChange Rows.bucketsNoneSpec) :=
  OpenClaim.holds_of_wide 5 Try.f5 rfl rfl rfl rfl rfl rfl rfl ⟨rfl, rfl, rfl, rfl, rfl⟩ rfl rfl rfl rfl rfl (by kernel_rfl) Try.func5 (by kernel_rfl)
    (of_decide_eq_true (by kernel_rfl)) (by unfold Func.isWrapper; first | (rw [if_pos (by decide +kernel)]; kernel_rfl) | (rw [if_neg (by decide +kernel)]; exact ⟨rfl, rfl⟩))
    (fun os started H enc _ => lifted os started H enc)

theorem proved : Rows.BucketsNoneSaid := over
#print axioms proved
end Go.Proofs.Ytkiebhdhknaijaa.lawBucketsNone
