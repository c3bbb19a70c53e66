/-
  The operations: Reads (the program's). No condition.
-/
import Derived.Test.YtlphkjbadjdleaaOpC
namespace Go.Proofs.Ytlphkjbadjdleaa
open Go.RowKit
set_option maxHeartbeats 400000 in
theorem reads_any (o : OpM) (w : World) : Calls Try.prog 28 #[opV o] w fun e w' => e = .returned (.bool (o.kind == 1 && chkO o == 0)) ∧ w.grownBy w' none := by
  have hg := Lib.hid (fun W => check_any o W)
  by_cases h1 : o.kind = 1
  · have hb : (o.kind == 1) = true := by simpa using h1
    rw [hb]
    obtain ⟨kind, key, value, version⟩ := o
    simp only at h1 hb
    subst h1
    generalize hc : chkO _ = c at *
    clear hc hb
    simp only [opV, OpM.cells] at hg ⊢
    go_enter Try.func28, Try.ntmps28
    go_wp2_with fail
    refine (hg.out _).mono ?_
    rintro e w1 ⟨rfl, h1⟩
    go_wp2
    go_ret
    exact ⟨by simp, only_trans (only_alloc (only_refl _ _) _) h1⟩
  · have hb : (o.kind == 1) = false := by simpa using h1
    rw [hb]
    clear h1 hg
    obtain ⟨kind, key, value, version⟩ := o
    simp only at hb
    simp only [opV, OpM.cells]
    go_enter Try.func28, Try.ntmps28
    go_wp2
    go_ret
    exact ⟨by simp, only_alloc (only_refl _ _) _⟩

end Go.Proofs.Ytlphkjbadjdleaa
