/-
  ClientPlays: the frame of the proof: the arguments' readings, the row. The walk is imported. No condition.
-/
import Derived.Test.YtghfigeepnbjaaaGreatRows
import Derived.Test.YtghfigeepnbjaaaGreatLawClientPlaysW
import Derived.Test.YtghfigeepnbjaaaGreatPI
import Derived.Test.YtghfigeepnbjaaaGreatP7
import Derived.ProofKit
import Derived.OpenShut
import Derived.ShutString
import Derived.ChangeOld
namespace Go.Proofs.YtghfigeepnbjaaaGreat.lawClientPlays
open Go.ChangeShapes Go.WideShapes Go.ChangeAt Go.RowKit
open Go.ChangeMaps (open_string shut_string)
set_option linter.unusedVariables false

theorem own : ownKnob Tryz.prog.godebug = none := by kernel_rfl
theorem laidOut : laidOutB Tryz.prog = true := by kernel_rfl
theorem reads3 : Reads Tryz.prog 3 [intL .i64] := reads_int Tryz.underlying3 (by kernel_rfl)
theorem reads22 : Reads Tryz.prog 22 [rowsL [intL .i64]] := reads_slice Tryz.underlying22 (by kernel_rfl) reads3 (by decide)
theorem reads24 : Reads Tryz.prog 24 [intL .i64, intL .i64, intL .i64, rowsL [intL .i64], intL .i64, intL .i64, intL .i64, intL .i64, intL .i64, intL .i64, intL .i64, intL .i64] := reads_struct Tryz.underlying24 (by kernel_rfl) ⟨rfl, _, _, reads3, rfl, ⟨rfl, _, _, reads3, rfl, ⟨rfl, _, _, reads3, rfl, ⟨rfl, _, _, reads22, rfl, ⟨rfl, _, _, reads3, rfl, ⟨rfl, _, _, reads3, rfl, ⟨rfl, _, _, reads3, rfl, ⟨rfl, _, _, reads3, rfl, ⟨rfl, _, _, reads3, rfl, ⟨rfl, _, _, reads3, rfl, ⟨rfl, _, _, reads3, rfl, ⟨rfl, _, _, reads3, rfl, rfl⟩⟩⟩⟩⟩⟩⟩⟩⟩⟩⟩⟩
theorem reads5 : Reads Tryz.prog 5 [intL .u8] := reads_int Tryz.underlying5 (by kernel_rfl)
theorem reads47 : Reads Tryz.prog 47 [intL .i64, intL .i64, intL .i64] := reads_array Tryz.underlying47 (by kernel_rfl) reads3 rfl
theorem reads96 : Reads Tryz.prog 96 [intL .i64, intL .i64] := reads_struct Tryz.underlying96 (by kernel_rfl) ⟨rfl, _, _, reads3, rfl, ⟨rfl, _, _, reads3, rfl, rfl⟩⟩
theorem reads42 : Reads Tryz.prog 42 [rowsL [intL .i64, intL .i64]] := reads_slice Tryz.underlying42 (by kernel_rfl) reads96 (by decide)
theorem reads44 : Reads Tryz.prog 44 [intL .i64, rowsL [intL .i64, intL .i64], intL .i64] := reads_struct Tryz.underlying44 (by kernel_rfl) ⟨rfl, _, _, reads3, rfl, ⟨rfl, _, _, reads42, rfl, ⟨rfl, _, _, reads3, rfl, rfl⟩⟩⟩
theorem reads9 : Reads Tryz.prog 9 [strL] := reads_str Tryz.underlying9 (by kernel_rfl)
theorem reads37 : Reads Tryz.prog 37 [intL .i64, strL, strL, intL .i64] := reads_struct Tryz.underlying37 (by kernel_rfl) ⟨rfl, _, _, reads3, rfl, ⟨rfl, _, _, reads9, rfl, ⟨rfl, _, _, reads9, rfl, ⟨rfl, _, _, reads3, rfl, rfl⟩⟩⟩⟩
theorem reads41 : Reads Tryz.prog 41 [intL .i64, intL .i64, intL .i64, intL .i64, strL, strL, intL .i64] := reads_struct Tryz.underlying41 (by kernel_rfl) ⟨rfl, _, _, reads3, rfl, ⟨rfl, _, _, reads3, rfl, ⟨rfl, _, _, reads3, rfl, ⟨rfl, _, _, reads37, rfl, rfl⟩⟩⟩⟩
theorem reads39 : Reads Tryz.prog 39 [intL .i64, strL, intL .i64, intL .i64] := reads_struct Tryz.underlying39 (by kernel_rfl) ⟨rfl, _, _, reads3, rfl, ⟨rfl, _, _, reads9, rfl, ⟨rfl, _, _, reads3, rfl, ⟨rfl, _, _, reads3, rfl, rfl⟩⟩⟩⟩
theorem reads46 : Reads Tryz.prog 46 [intL .i64, intL .i64, intL .i64, intL .i64, intL .i64, intL .i64, intL .i64, intL .i64, strL, strL, intL .i64, intL .i64, strL, intL .i64, intL .i64, intL .i64, intL .i64, intL .i64, intL .i64, intL .i64, strL, strL, intL .i64, intL .i64, rowsL [intL .i64, intL .i64], intL .i64, intL .i64, intL .i64, intL .i64] := reads_struct Tryz.underlying46 (by kernel_rfl) ⟨rfl, _, _, reads3, rfl, ⟨rfl, _, _, reads3, rfl, ⟨rfl, _, _, reads3, rfl, ⟨rfl, _, _, reads3, rfl, ⟨rfl, _, _, reads3, rfl, ⟨rfl, _, _, reads3, rfl, ⟨rfl, _, _, reads3, rfl, ⟨rfl, _, _, reads37, rfl, ⟨rfl, _, _, reads39, rfl, ⟨rfl, _, _, reads3, rfl, ⟨rfl, _, _, reads41, rfl, ⟨rfl, _, _, reads44, rfl, ⟨rfl, _, _, reads3, rfl, ⟨rfl, _, _, reads3, rfl, ⟨rfl, _, _, reads3, rfl, rfl⟩⟩⟩⟩⟩⟩⟩⟩⟩⟩⟩⟩⟩⟩⟩
theorem reads49 : Reads Tryz.prog 49 [intL .u8, intL .u8, intL .u8, intL .i64, strL, strL, intL .i64, intL .i64, intL .i64, intL .i64, intL .i64, intL .i64, intL .i64, intL .i64, intL .i64, strL, strL, intL .i64, intL .i64, strL, intL .i64, intL .i64, intL .i64, intL .i64, intL .i64, intL .i64, intL .i64, strL, strL, intL .i64, intL .i64, rowsL [intL .i64, intL .i64], intL .i64, intL .i64, intL .i64, intL .i64, intL .i64, intL .i64, intL .i64] := reads_struct Tryz.underlying49 (by kernel_rfl) ⟨rfl, _, _, reads5, rfl, ⟨rfl, _, _, reads5, rfl, ⟨rfl, _, _, reads5, rfl, ⟨rfl, _, _, reads37, rfl, ⟨rfl, _, _, reads46, rfl, ⟨rfl, _, _, reads47, rfl, rfl⟩⟩⟩⟩⟩⟩
theorem reads25 : Reads Tryz.prog 25 [rowsL [intL .u8, intL .u8, intL .u8, intL .i64, strL, strL, intL .i64, intL .i64, intL .i64, intL .i64, intL .i64, intL .i64, intL .i64, intL .i64, intL .i64, strL, strL, intL .i64, intL .i64, strL, intL .i64, intL .i64, intL .i64, intL .i64, intL .i64, intL .i64, intL .i64, strL, strL, intL .i64, intL .i64, rowsL [intL .i64, intL .i64], intL .i64, intL .i64, intL .i64, intL .i64, intL .i64, intL .i64, intL .i64]] := reads_slice Tryz.underlying25 (by kernel_rfl) reads49 (by decide)

set_option maxRecDepth 100000 in
theorem lifted (os : Os) (started : os.Started) (H : Type) (enc : TypeId × Value → H) :
    ReturnsInHanded {} Tryz.checked os 3 .any (Rows.clientPlaysSpec.pre6 enc Tryz.prog Tryz.f3 Rows.clientPlaysRow.domain false) (Rows.clientPlaysSpec.post enc Tryz.prog Tryz.f3 false true false false) := by
  refine returnsInHanded_of_change (C := Tryz.checked) own started (by kernel_rfl) Tryz.func3
    (ChangeSpec.witness6 (enc := enc) (C := Tryz.checked) false ⟨#[], #[.agg #[.int .i64 0, .int .i64 0, .int .i64 0, .slice none 0 0, .int .i64 0, .int .i64 0, .int .i64 0, .int .i64 0, .int .i64 0, .int .i64 0, .int .i64 0, .int .i64 0], .int .u8 0, .slice none 0 0], []⟩ 8 (by kernel_rfl) (by kernel_rfl) (by kernel_rfl) (by kernel_rfl)) ?_
  intro W base args ds gs before hval0 hW hcnd _
  have hval : ∀ (j : Nat) t v, Tryz.f3.params[j]? = some t → args[j]? = some v → Value.okWide Tryz.prog W .any base t v := hval0
  have hW' := hW
  obtain ⟨p, q, hA0, hV, rfl, hfz, hnd⟩ := hW
  have hA : DataW.TrodAll enc Tryz.prog W 0 (fun _ => true) true Tryz.f3.params.toList args.toList ds p := hA0
  rw [Tryz.params3] at hA hval
  obtain ⟨v0, vs0, d0, ds0, p0, q0, hargs, rfl, rfl, h0, r0⟩ := trodAll_cons hA
  obtain ⟨v1, vs1, d1, ds1, p1, q1, rfl, rfl, rfl, h1, r1⟩ := trodAll_cons r0
  obtain ⟨v2, vs2, d2, ds2, p2, q2, rfl, rfl, rfl, h2, r2⟩ := trodAll_cons r1
  obtain ⟨rfl, rfl, rfl⟩ := trodAll_nil r2
  obtain rfl : args = #[v0, v1, v2] := by cases args; simp_all
  obtain ⟨rfl, rfl⟩ := trodVars_none hV
  have k0 := h0
  have lt0 : ∀ x ∈ p0, x.block < W.heap.size := by obtain ⟨m, hm⟩ := k0; exact DataW.trod_lt m _ _ _ hm
  obtain ⟨cs0, rfl, m0_0⟩ := reads_agg Tryz.underlying24 reads24 (hval 0 24 v0 rfl rfl) h0
  obtain ⟨_, _, rfl, ⟨n0, rfl, w0⟩, m0_1⟩ := m0_0.cons_
  obtain ⟨_, _, rfl, ⟨n1, rfl, w1⟩, m0_2⟩ := m0_1.cons_
  obtain ⟨_, _, rfl, ⟨n2, rfl, w2⟩, m0_3⟩ := m0_2.cons_
  obtain ⟨_, _, rfl, ⟨a3, n3, c3, rfl, w3, x3, y3⟩, m0_4⟩ := m0_3.cons_
  obtain ⟨_, _, rfl, ⟨n4, rfl, w4⟩, m0_5⟩ := m0_4.cons_
  obtain ⟨_, _, rfl, ⟨n5, rfl, w5⟩, m0_6⟩ := m0_5.cons_
  obtain ⟨_, _, rfl, ⟨n6, rfl, w6⟩, m0_7⟩ := m0_6.cons_
  obtain ⟨_, _, rfl, ⟨n7, rfl, w7⟩, m0_8⟩ := m0_7.cons_
  obtain ⟨_, _, rfl, ⟨n8, rfl, w8⟩, m0_9⟩ := m0_8.cons_
  obtain ⟨_, _, rfl, ⟨n9, rfl, w9⟩, m0_10⟩ := m0_9.cons_
  obtain ⟨_, _, rfl, ⟨n10, rfl, w10⟩, m0_11⟩ := m0_10.cons_
  obtain ⟨_, _, rfl, ⟨n11, rfl, w11⟩, m0_12⟩ := m0_11.cons_
  obtain rfl := m0_12.nil_
  have k1 := h1
  have lt1 : ∀ x ∈ p1, x.block < W.heap.size := by obtain ⟨m, hm⟩ := k1; exact DataW.trod_lt m _ _ _ hm
  obtain ⟨z1, hz1, _⟩ := open_int Tryz.underlying5 (hval 1 5 v1 rfl rfl) h1
  have e1 := reads_one reads5 (by rw [hz1]; rfl) h1
  clear hz1
  obtain ⟨n12, rfl, w12⟩ := e1
  have k2 := h2
  have lt2 : ∀ x ∈ p2, x.block < W.heap.size := by obtain ⟨m, hm⟩ := k2; exact DataW.trod_lt m _ _ _ hm
  obtain ⟨z2a, z2b, z2c, hz2⟩ := okWide_slice Tryz.underlying25 (hval 2 25 v2 rfl rfl)
  have e2 := reads_one reads25 (by rw [hz2]; rfl) h2
  clear hz2
  obtain ⟨a13, n13, c13, rfl, w13, x13, y13⟩ := e2
  clear hA0 hval0 hval
  refine (walk W n0 w0 n1 w1 n2 w2 a3 n3 c3 w3 x3 y3 n4 w4 n5 w5 n6 w6 n7 w7 n8 w8 n9 w9 n10 w10 n11 w11 n12 w12 a13 n13 c13 w13 x13 y13).mono fun e W' ⟨he, bel⟩ => ?_
  subst he
  exact ⟨_, rfl, _, _, _, [], _, [], hW', trodAll_mk1 (shut_bool Tryz.underlying4 _), (trodAll_cons_mk (Below.trod laidOut (by kernel_rfl) (of_decide_eq_true (by kernel_rfl)) k0 bel lt0) (trodAll_cons_mk (Below.trod laidOut (by kernel_rfl) (of_decide_eq_true (by kernel_rfl)) k1 bel lt1) (trodAll_cons_mk (Below.trod laidOut (by kernel_rfl) (of_decide_eq_true (by kernel_rfl)) k2 bel lt2) trodAll_mk0))), rfl, bel.frame _, fun h => by cases h⟩

theorem over : Rows.clientPlaysRow.holds Tryz.pinned (OpenSpec.ofChange Rows.clientPlaysSpec) :=
  OpenClaim.holds_of_wide 3 Tryz.f3 rfl rfl rfl rfl rfl rfl rfl ⟨rfl, rfl, rfl, rfl, rfl⟩ rfl rfl rfl rfl rfl (by kernel_rfl) Tryz.func3 (by kernel_rfl)
    (of_decide_eq_true (by kernel_rfl)) (by unfold Func.isWrapper; first | (rw [if_pos (by decide +kernel)]; kernel_rfl) | (rw [if_neg (by decide +kernel)]; exact ⟨rfl, rfl⟩))
    (fun os started H enc _ => lifted os started H enc)

theorem proved : Rows.ClientPlaysSaid := over
#print axioms proved
end Go.Proofs.YtghfigeepnbjaaaGreat.lawClientPlays
