/-
  The walks over the document's operations (Check, Cost), and the law's Great. No condition.
-/
import Derived.Test.YtkiebhdhknaijaaOps
namespace Go.Proofs.Ytkiebhdhknaijaa
open Go.RowKit
attribute [local go_sem] ByteArray.mk_append_mk

set_option maxRecDepth 100000 in
set_option maxHeartbeats 2000000 in
theorem rcheck_any (o : OpM) (w : World) : Calls Try.prog 41 #[opV o] w fun e w' => e = .returned (.int .i64 (chkO o)) ∧ w.grownBy w' none := by
  obtain ⟨kind, key, value, version⟩ := o
  simp only [opV, OpM.cells]
  go_enter Try.func41, Try.ntmps41
  go_wp2
  all_goals
    go_ret
    refine ⟨ret_int ?_, only_alloc (only_refl _ _) _⟩
    go_light
    first
      | (simp_all [chkO]; done)
      | (simp_all [chkO]; omega)
      | (have hv : ¬ value = [] := (by intro h; subst h; simp_all)
         simp_all [chkO]; done)
      | (have hv : ¬ value = [] := (by intro h; subst h; simp_all)
         simp_all [chkO]; omega)

theorem rcheck_at (o : OpM) (e : Int) (w : World) (h : chkO o = e) : Calls Try.prog 41 #[opV o] w fun x w' => x = .returned (.int .i64 e) ∧ w.grownBy w' none := by
  rw [← h]; exact rcheck_any o w

set_option maxHeartbeats 400000 in
theorem rcost_any (o : OpM) (w : World) : Calls Try.prog 43 #[opV o] w fun e w' => e = .returned (.int .i64 (costO o)) ∧ w.grownBy w' none := by
  have hg := fun k (W : World) (h : chkO o = k) => rcheck_at o k W h
  unfold costO
  by_cases h0 : chkO o = 0
  · obtain ⟨_, _, _, _, _, _, _, h8, h9⟩ := chkO_0.1 h0
    rw [if_pos h0]
    have HG := Lib.hid (fun W => hg 0 W h0)
    clear hg h0
    obtain ⟨kind, key, value, version⟩ := o
    simp only [opV, OpM.cells] at h8 h9 HG ⊢
    go_enter Try.func43, Try.ntmps43
    go_wp2_with fail
    refine (HG.out _).mono ?_
    rintro e w1 ⟨rfl, h1⟩
    have hb := (Blk.new w 57 #[.int .i64 kind, S key, S value, .int .i64 version]).grown h1 (by simp)
    have c1 := hb.cell 1
    have c2 := hb.cell 2
    simp at c1 c2
    go_wp2
    go_ret
    exact ⟨ret_int (by omega), only_trans (only_alloc (only_refl _ _) _) h1⟩
  · rw [if_neg h0]
    obtain ⟨k, hk, hk0⟩ : ∃ k, chkO o = k ∧ (k == 0) = false := ⟨_, rfl, by simpa using h0⟩
    have HG := Lib.hid (fun W => hg k W hk)
    clear hg h0 hk
    obtain ⟨kind, key, value, version⟩ := o
    simp only [opV, OpM.cells] at HG ⊢
    go_enter Try.func43, Try.ntmps43
    go_wp2_with fail
    refine (HG.out _).mono ?_
    rintro e w1 ⟨rfl, h1⟩
    go_wp2
    go_ret
    exact ⟨rfl, only_trans (only_alloc (only_refl _ _) _) h1⟩


theorem ret_bool {a b : Bool} (h : a = b) : Ending.returned (.bool a) = .returned (.bool b) := by rw [h]
set_option maxHeartbeats 400000 in
theorem great_yes (o : OpM) (w : World) (h : 300 < o.key.length ∨ 300 < o.value.length) : Calls Try.prog 36 #[opV o] w fun e w' => e = .returned (.bool true) ∧ w.grownBy w' none := by
  obtain ⟨kind, key, value, version⟩ := o
  simp only [opV, OpM.cells] at h ⊢
  by_cases h1 : 300 < key.length
  · clear h
    go_enter Try.func36, Try.ntmps36
    go_wp2
    go_ret
    exact ⟨ret_bool (by simp [*]), only_alloc (only_refl _ _) _⟩
  · have h2 : 300 < value.length := by omega
    clear h
    go_enter Try.func36, Try.ntmps36
    go_wp2
    go_ret
    exact ⟨ret_bool (by simp; omega), only_alloc (only_refl _ _) _⟩
set_option maxHeartbeats 400000 in
theorem great_no (o : OpM) (w : World) (h : o.key.length ≤ 300) (h2 : o.value.length ≤ 300) : Calls Try.prog 36 #[opV o] w fun e w' => e = .returned (.bool false) ∧ w.grownBy w' none := by
  obtain ⟨kind, key, value, version⟩ := o
  simp only [opV, OpM.cells] at h h2 ⊢
  go_enter Try.func36, Try.ntmps36
  go_wp2
  go_ret
  exact ⟨ret_bool (by simp; omega), only_alloc (only_refl _ _) _⟩
end Go.Proofs.Ytkiebhdhknaijaa
