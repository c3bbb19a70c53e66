/-
  The walks over the document's operations (Check), and the law's Great. No condition.
-/
import Derived.Test.YtlphkjbadjdleaaOpC
namespace Go.Proofs.Ytlphkjbadjdleaa
open Go.RowKit
attribute [local go_sem] ByteArray.mk_append_mk

set_option maxRecDepth 100000 in
set_option maxHeartbeats 2000000 in
theorem rcheck_any (o : OpM) (w : World) : Calls Try.prog 65 #[opV o] w fun e w' => e = .returned (.int .i64 (chkO o)) ∧ w.grownBy w' none := by
  obtain ⟨kind, key, value, version⟩ := o
  simp only [opV, OpM.cells]
  go_enter Try.func65, Try.ntmps65
  go_wp2
  all_goals
    go_ret
    refine ⟨ret_int ?_, only_alloc (only_refl _ _) _⟩
    go_light
    first
      | (simp_all [chkO]; done)
      | (simp_all [chkO]; omega)
      | (have hv : ¬ value = [] := (by intro h; subst h; simp_all)
         simp_all [chkO]; done)
      | (have hv : ¬ value = [] := (by intro h; subst h; simp_all)
         simp_all [chkO]; omega)

theorem rcheck_at (o : OpM) (e : Int) (w : World) (h : chkO o = e) : Calls Try.prog 65 #[opV o] w fun x w' => x = .returned (.int .i64 e) ∧ w.grownBy w' none := by
  rw [← h]; exact rcheck_any o w

theorem ret_bool {a b : Bool} (h : a = b) : Ending.returned (.bool a) = .returned (.bool b) := by rw [h]
set_option maxHeartbeats 400000 in
theorem great_yes (o : OpM) (w : World) (h : 300 < o.key.length ∨ 300 < o.value.length) : Calls Try.prog 49 #[opV o] w fun e w' => e = .returned (.bool true) ∧ w.grownBy w' none := by
  obtain ⟨kind, key, value, version⟩ := o
  simp only [opV, OpM.cells] at h ⊢
  by_cases h1 : 300 < key.length
  · clear h
    go_enter Try.func49, Try.ntmps49
    go_wp2
    go_ret
    exact ⟨ret_bool (by simp [*]), only_alloc (only_refl _ _) _⟩
  · have h2 : 300 < value.length := by omega
    clear h
    go_enter Try.func49, Try.ntmps49
    go_wp2
    go_ret
    exact ⟨ret_bool (by simp; omega), only_alloc (only_refl _ _) _⟩
set_option maxHeartbeats 400000 in
theorem great_no (o : OpM) (w : World) (h : o.key.length ≤ 300) (h2 : o.value.length ≤ 300) : Calls Try.prog 49 #[opV o] w fun e w' => e = .returned (.bool false) ∧ w.grownBy w' none := by
  obtain ⟨kind, key, value, version⟩ := o
  simp only [opV, OpM.cells] at h h2 ⊢
  go_enter Try.func49, Try.ntmps49
  go_wp2
  go_ret
  exact ⟨ret_bool (by simp; omega), only_alloc (only_refl _ _) _⟩
end Go.Proofs.Ytlphkjbadjdleaa
