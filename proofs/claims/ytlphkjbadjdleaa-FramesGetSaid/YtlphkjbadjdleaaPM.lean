/-
  The walks over the operations (the program's). The walk over ops.Put. No condition.
-/
import Derived.Test.YtlphkjbadjdleaaPL
import Derived.Test.YtlphkjbadjdleaaPK
import Derived.Test.YtlphkjbadjdleaaP7
import Derived.Deep.Light
import Derived.Deep.RegionHeld3
namespace Go.Proofs.Ytlphkjbadjdleaa
open Go.RowKit
attribute [local go_sem] ByteArray.mk_append_mk

/-- What it counts for. -/
def costO (o : OpM) : Int := if chkO o = 0 then 16 + o.key.length + o.value.length else 0

/-- Its bytes. -/
def putB (o : OpM) : List UInt8 := intB o.kind ++ (textB o.key ++ ((if o.kind = 2 ∨ o.kind = 4 then textB o.value else []) ++ (if o.kind = 4 then intB o.version else [])))
def putV (o : OpM) : Value := if chkO o = 0 then .tuple #[S (putB o), .int .i64 0] else .tuple #[S [], .int .i64 (chkO o)]

set_option maxRecDepth 100000 in
set_option maxHeartbeats 1000000 in
theorem put_no (o : OpM) (w : World) (h0 : chkO o ≠ 0) : Calls Try.prog 106 #[opV o] w fun e w' => e = .returned (putV o) ∧ w.grownBy w' none := by
  unfold putV
  rw [if_neg h0]
  obtain ⟨k, hk, hk0⟩ : ∃ k, chkO o = k ∧ (k == 0) = false := ⟨_, rfl, by simpa using h0⟩
  have HG := Lib.hid (fun W => check_at o k W hk)
  rw [hk]
  clear h0 hk
  obtain ⟨kind, key, value, version⟩ := o
  simp only [opV, OpM.cells] at HG ⊢
  go_enter Try.func106, Try.ntmps106
  go_wp2_with fail
  refine (HG.out _).mono ?_
  rintro e w1 ⟨rfl, h1⟩
  go_wp2
  go_ret2
  exact ⟨rfl, only_trans (only_alloc (only_refl _ _) _) h1⟩

theorem intB_len (n : Int) : (intB n).length ≤ 9 := by
  unfold intB
  split
  · simp
  · exact (numL_len _ (by omega)).2
theorem textB_len (g : List UInt8) (h : g.length ≤ 100000) : (textB g).length ≤ g.length + 9 := by
  have := (numL_len g.length (by omega)).2
  simp [textB]; omega

end Go.Proofs.Ytlphkjbadjdleaa
namespace Go.Proofs.Ytlphkjbadjdleaa
open Go.RowKit
attribute [local go_sem] ByteArray.mk_append_mk

set_option maxRecDepth 100000 in
set_option maxHeartbeats 2000000 in
theorem put_1 (kind : Int) (key value : List UInt8) (version : Int) (w : World) (h0 : chkO ⟨kind, key, value, version⟩ = 0) (hk : kind ≠ 2 ∧ kind ≠ 4) : Calls Try.prog 106 #[.agg #[.int .i64 kind, S key, S value, .int .i64 version]] w fun e w' => e = .returned (.tuple #[S (putB ⟨kind, key, value, version⟩), .int .i64 0]) ∧ w.grownBy w' none := by
  obtain ⟨q1, q2, _, _, _, _, _, h8, h9⟩ := chkO_0.1 h0
  have HG := Lib.hid (fun W => check_at ⟨kind, key, value, version⟩ 0 W h0)
  clear h0
  have k2 : (kind == 2) = false := by simpa using hk.1
  have k4 : (kind == 4) = false := by simpa using hk.2
  have hP : putB ⟨kind, key, value, version⟩ = intB kind ++ textB key := by simp [putB, hk.1, hk.2]
  rw [hP]
  clear hP hk
  simp only at q1 q2 h8 h9
  have i1 := intB_len kind
  have i2 := intB_len version
  have t1 := textB_len key (by omega)
  have t2 := textB_len value (by omega)
  have hs1 : ((intB kind).length : Int) + ((textB key).length : Int) ≤ 9223372036854775807 := by omega
  simp only [opV, OpM.cells] at HG
  go_enter Try.func106, Try.ntmps106
  go_wp2_with fail
  refine (HG.out _).mono ?_
  rintro e w1 ⟨rfl, h1⟩
  have hg1 := only_trans (only_alloc (only_refl w none) (.cells #[.int .i64 kind, S key, S value, .int .i64 version] 28)) h1
  have hb := (Blk.new w 28 #[.int .i64 kind, S key, S value, .int .i64 version]).grown h1 (by simp)
  clear h1
  have c0 : w1.cell? ⟨w.heap.size, 0, none⟩ = some (.int .i64 kind) := hb.cell 0
  have c1 : w1.cell? ⟨w.heap.size, 1, none⟩ = some (S key) := hb.cell 1
  go_upto_region 4 with fail
  go_cut [5] (fun s wx => s = S (intB kind ++ textB key) ∧ Blk wx w.heap.size 28 #[.int .i64 kind, S key, S value, .int .i64 version] ∧ w.grownBy wx none)
  case first =>
    go_region_with
      (first
        | (go_at_call 79; refine (int_any kind _).mono ?_; rintro e wA ⟨rfl, hA⟩; have hbA := hb.drew.grown hA (by simp); have ca0 : wA.cell? ⟨w.heap.size, 0, none⟩ = some (.int .i64 kind) := hbA.cell 0; have ca1 : wA.cell? ⟨w.heap.size, 1, none⟩ = some (S key) := hbA.cell 1)
        | (go_at_call 107; refine (text_any key _ (by omega)).mono ?_; rintro e wB ⟨rfl, hB⟩; have hbB := hbA.grown hB (by simp); have cb0 : wB.cell? ⟨w.heap.size, 0, none⟩ = some (.int .i64 kind) := hbB.cell 0; have cb1 : wB.cell? ⟨w.heap.size, 1, none⟩ = some (S key) := hbB.cell 1))
    all_goals
      go_wp2_with fail
      go_meet
      exact ⟨rfl, hbB, only_trans (only_trans (only_drew hg1) hA) hB⟩
  case rest =>
    obtain ⟨rfl, hb2, hg2⟩ := hcut
    clear c0 c1 hb hg1
    have c0 : wc.cell? ⟨w.heap.size, 0, none⟩ = some (.int .i64 kind) := hb2.cell 0
    have c2 : wc.cell? ⟨w.heap.size, 2, none⟩ = some (S value) := hb2.cell 2
    have c3 : wc.cell? ⟨w.heap.size, 3, none⟩ = some (.int .i64 version) := hb2.cell 3
    go_wp2_with fail
    refine (valued_any kind wc).mono ?_
    rintro e w' ⟨rfl, rfl⟩
    go_wp2
    go_ret2
    exact ⟨rfl, hg2⟩

set_option maxRecDepth 100000 in
set_option maxHeartbeats 2000000 in
theorem put_2 (key value : List UInt8) (version : Int) (w : World) (h0 : chkO ⟨2, key, value, version⟩ = 0) : Calls Try.prog 106 #[.agg #[.int .i64 2, S key, S value, .int .i64 version]] w fun e w' => e = .returned (.tuple #[S (putB ⟨2, key, value, version⟩), .int .i64 0]) ∧ w.grownBy w' none := by
  obtain ⟨q1, q2, _, _, _, _, _, h8, h9⟩ := chkO_0.1 h0
  have HG := Lib.hid (fun W => check_at ⟨2, key, value, version⟩ 0 W h0)
  clear h0
  have hP : putB ⟨2, key, value, version⟩ = intB 2 ++ textB key ++ textB value := by simp [putB]
  rw [hP]
  clear hP
  simp only at q1 q2 h8 h9
  have i1 := intB_len 2
  have i2 := intB_len version
  have t1 := textB_len key (by omega)
  have t2 := textB_len value (by omega)
  have hs1 : ((intB 2).length : Int) + ((textB key).length : Int) ≤ 9223372036854775807 := by omega
  simp only [opV, OpM.cells] at HG
  go_enter Try.func106, Try.ntmps106
  go_wp2_with fail
  refine (HG.out _).mono ?_
  rintro e w1 ⟨rfl, h1⟩
  have hg1 := only_trans (only_alloc (only_refl w none) (.cells #[.int .i64 2, S key, S value, .int .i64 version] 28)) h1
  have hb := (Blk.new w 28 #[.int .i64 2, S key, S value, .int .i64 version]).grown h1 (by simp)
  clear h1
  have c0 : w1.cell? ⟨w.heap.size, 0, none⟩ = some (.int .i64 2) := hb.cell 0
  have c1 : w1.cell? ⟨w.heap.size, 1, none⟩ = some (S key) := hb.cell 1
  go_upto_region 4 with fail
  go_cut [5] (fun s wx => s = S (intB 2 ++ textB key) ∧ Blk wx w.heap.size 28 #[.int .i64 2, S key, S value, .int .i64 version] ∧ w.grownBy wx none)
  case first =>
    go_region_with
      (first
        | (go_at_call 79; refine (int_any 2 _).mono ?_; rintro e wA ⟨rfl, hA⟩; have hbA := hb.drew.grown hA (by simp); have ca0 : wA.cell? ⟨w.heap.size, 0, none⟩ = some (.int .i64 2) := hbA.cell 0; have ca1 : wA.cell? ⟨w.heap.size, 1, none⟩ = some (S key) := hbA.cell 1)
        | (go_at_call 107; refine (text_any key _ (by omega)).mono ?_; rintro e wB ⟨rfl, hB⟩; have hbB := hbA.grown hB (by simp); have cb0 : wB.cell? ⟨w.heap.size, 0, none⟩ = some (.int .i64 2) := hbB.cell 0; have cb1 : wB.cell? ⟨w.heap.size, 1, none⟩ = some (S key) := hbB.cell 1))
    all_goals
      go_wp2_with fail
      go_meet
      exact ⟨rfl, hbB, only_trans (only_trans (only_drew hg1) hA) hB⟩
  case rest =>
    obtain ⟨rfl, hb2, hg2⟩ := hcut
    clear c0 c1 hb hg1
    have c0 : wc.cell? ⟨w.heap.size, 0, none⟩ = some (.int .i64 2) := hb2.cell 0
    have c2 : wc.cell? ⟨w.heap.size, 2, none⟩ = some (S value) := hb2.cell 2
    have c3 : wc.cell? ⟨w.heap.size, 3, none⟩ = some (.int .i64 version) := hb2.cell 3
    go_wp2_with fail
    refine (valued_any 2 wc).mono ?_
    rintro e w' ⟨rfl, rfl⟩
    go_wp2_with fail
    refine (text_any value wc (by omega)).mono ?_
    rintro e w3 ⟨rfl, h3⟩
    have hb3 := hb2.grown h3 (by simp)
    have c0 : w3.cell? ⟨w.heap.size, 0, none⟩ = some (.int .i64 2) := hb3.cell 0
    go_wp2
    go_ret2
    exact ⟨by simp, only_trans hg2 h3⟩

set_option maxRecDepth 100000 in
set_option maxHeartbeats 2000000 in
theorem put_4 (key value : List UInt8) (version : Int) (w : World) (h0 : chkO ⟨4, key, value, version⟩ = 0) : Calls Try.prog 106 #[.agg #[.int .i64 4, S key, S value, .int .i64 version]] w fun e w' => e = .returned (.tuple #[S (putB ⟨4, key, value, version⟩), .int .i64 0]) ∧ w.grownBy w' none := by
  obtain ⟨q1, q2, _, _, _, _, _, h8, h9⟩ := chkO_0.1 h0
  have HG := Lib.hid (fun W => check_at ⟨4, key, value, version⟩ 0 W h0)
  clear h0
  have hP : putB ⟨4, key, value, version⟩ = intB 4 ++ textB key ++ textB value ++ intB version := by simp [putB]
  rw [hP]
  clear hP
  simp only at q1 q2 h8 h9
  have i1 := intB_len 4
  have i2 := intB_len version
  have t1 := textB_len key (by omega)
  have t2 := textB_len value (by omega)
  have hs1 : ((intB 4).length : Int) + ((textB key).length : Int) ≤ 9223372036854775807 := by omega
  simp only [opV, OpM.cells] at HG
  go_enter Try.func106, Try.ntmps106
  go_wp2_with fail
  refine (HG.out _).mono ?_
  rintro e w1 ⟨rfl, h1⟩
  have hg1 := only_trans (only_alloc (only_refl w none) (.cells #[.int .i64 4, S key, S value, .int .i64 version] 28)) h1
  have hb := (Blk.new w 28 #[.int .i64 4, S key, S value, .int .i64 version]).grown h1 (by simp)
  clear h1
  have c0 : w1.cell? ⟨w.heap.size, 0, none⟩ = some (.int .i64 4) := hb.cell 0
  have c1 : w1.cell? ⟨w.heap.size, 1, none⟩ = some (S key) := hb.cell 1
  go_upto_region 4 with fail
  go_cut [5] (fun s wx => s = S (intB 4 ++ textB key) ∧ Blk wx w.heap.size 28 #[.int .i64 4, S key, S value, .int .i64 version] ∧ w.grownBy wx none)
  case first =>
    go_region_with
      (first
        | (go_at_call 79; refine (int_any 4 _).mono ?_; rintro e wA ⟨rfl, hA⟩; have hbA := hb.drew.grown hA (by simp); have ca0 : wA.cell? ⟨w.heap.size, 0, none⟩ = some (.int .i64 4) := hbA.cell 0; have ca1 : wA.cell? ⟨w.heap.size, 1, none⟩ = some (S key) := hbA.cell 1)
        | (go_at_call 107; refine (text_any key _ (by omega)).mono ?_; rintro e wB ⟨rfl, hB⟩; have hbB := hbA.grown hB (by simp); have cb0 : wB.cell? ⟨w.heap.size, 0, none⟩ = some (.int .i64 4) := hbB.cell 0; have cb1 : wB.cell? ⟨w.heap.size, 1, none⟩ = some (S key) := hbB.cell 1))
    all_goals
      go_wp2_with fail
      go_meet
      exact ⟨rfl, hbB, only_trans (only_trans (only_drew hg1) hA) hB⟩
  case rest =>
    obtain ⟨rfl, hb2, hg2⟩ := hcut
    clear c0 c1 hb hg1
    have c0 : wc.cell? ⟨w.heap.size, 0, none⟩ = some (.int .i64 4) := hb2.cell 0
    have c2 : wc.cell? ⟨w.heap.size, 2, none⟩ = some (S value) := hb2.cell 2
    have c3 : wc.cell? ⟨w.heap.size, 3, none⟩ = some (.int .i64 version) := hb2.cell 3
    go_wp2_with fail
    refine (valued_any 4 wc).mono ?_
    rintro e w' ⟨rfl, rfl⟩
    go_wp2_with fail
    refine (text_any value wc (by omega)).mono ?_
    rintro e w3 ⟨rfl, h3⟩
    have hb3 := hb2.grown h3 (by simp)
    have c0 : w3.cell? ⟨w.heap.size, 0, none⟩ = some (.int .i64 4) := hb3.cell 0
    have c3 : w3.cell? ⟨w.heap.size, 3, none⟩ = some (.int .i64 version) := hb3.cell 3
    go_wp2_with fail
    refine (int_any version w3).mono ?_
    rintro e w4 ⟨rfl, h4⟩
    go_wp2
    go_ret2
    exact ⟨by simp, only_trans (only_trans hg2 h3) h4⟩

theorem put_any (o : OpM) (w : World) : Calls Try.prog 106 #[opV o] w fun e w' => e = .returned (putV o) ∧ w.grownBy w' none := by
  by_cases h0 : chkO o = 0
  · have hv : putV o = .tuple #[S (putB o), .int .i64 0] := by rw [putV, if_pos h0]
    rw [hv]
    obtain ⟨kind, key, value, version⟩ := o
    by_cases k2 : kind = 2
    · subst k2; exact put_2 key value version w h0
    · by_cases k4 : kind = 4
      · subst k4; exact put_4 key value version w h0
      · exact put_1 kind key value version w h0 ⟨k2, k4⟩
  · exact put_no o w h0
end Go.Proofs.Ytlphkjbadjdleaa
