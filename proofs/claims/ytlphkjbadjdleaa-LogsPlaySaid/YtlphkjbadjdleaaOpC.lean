/-
  The operations: Check (the program's). No condition.
-/
import Derived.Test.YtlphkjbadjdleaaStr
import Derived.Test.YtlphkjbadjdleaaProg
import Derived.WalkKit
import Derived.WalkSpells
import Derived.WalkLawsBesides
import Derived.Deep.QuietTactic
import Derived.BigQuiet
import Derived.Deep.Light
import Derived.Deep.RegionHeld3
namespace Go.Proofs.Ytlphkjbadjdleaa
open Go.RowKit
attribute [local go_sem] ByteArray.mk_append_mk

theorem ret_int {k : IntKind} {a b : Int} (h : a = b) : Ending.returned (.int k a) = .returned (.int k b) := by rw [h]
/-- An operation. -/
structure OpM where
  kind : Int
  key : List UInt8
  value : List UInt8
  version : Int
  deriving DecidableEq

def OpM.cells (o : OpM) : Array Value := #[.int .i64 o.kind, S o.key, S o.value, .int .i64 o.version]
abbrev opV (o : OpM) : Value := .agg o.cells

/-- What is wrong with it. -/
def chkO (o : OpM) : Int :=
  if o.kind < 1 ∨ 4 < o.kind ∨ o.key = [] ∨ o.version < 0 ∨ 4096 < o.version ∨ (o.version ≠ 0 ∧ o.kind ≠ 4) ∨ (o.value ≠ [] ∧ o.kind ≠ 2 ∧ o.kind ≠ 4) then 2
  else if 16 < o.key.length ∨ 64 < o.value.length then 3 else 0

theorem chkO_0 {o : OpM} : chkO o = 0 ↔ (1 ≤ o.kind ∧ o.kind ≤ 4 ∧ o.key ≠ [] ∧ 0 ≤ o.version ∧ o.version ≤ 4096 ∧ (o.version = 0 ∨ o.kind = 4) ∧ (o.value = [] ∨ o.kind = 2 ∨ o.kind = 4) ∧ o.key.length ≤ 16 ∧ o.value.length ≤ 64) := by
  unfold chkO
  split
  · rename_i h; constructor
    · intro h; omega
    · rintro ⟨h1, h2, h3, h4, h5, h6, h7, h8, h9⟩
      rcases h with h | h | h | h | h | h | h
      · omega
      · omega
      · exact absurd h h3
      · omega
      · omega
      · omega
      · rcases h7 with h7 | h7
        · exact absurd h7 h.1
        · omega
  · rename_i h
    simp only [not_or, not_and] at h
    obtain ⟨h1, h2, h3, h4, h5, h6, h7⟩ := h
    split
    · rename_i hl; constructor
      · intro h; omega
      · rintro ⟨_, _, _, _, _, _, _, h8, h9⟩; omega
    · rename_i hl
      simp only [true_iff]
      refine ⟨by omega, by omega, h3, by omega, by omega, by omega, ?_, by omega, by omega⟩
      by_cases hv : o.value = []
      · exact .inl hv
      · have := h7 hv; omega

set_option maxHeartbeats 400000 in
theorem valued_any (k : Int) (w : World) : Calls Try.prog 83 #[.int .i64 k] w fun e w' => e = .returned (.bool (k == 2 || k == 4)) ∧ w = w' := by
  by_cases h2 : k = 2
  · subst h2
    go_enter Try.func83, Try.ntmps83
    go_wp2
    go_ret
    exact ⟨rfl, rfl⟩
  · have h2' : (k == 2) = false := by simpa using h2
    go_enter Try.func83, Try.ntmps83
    go_wp2
    go_ret
    exact ⟨by simp [h2'], rfl⟩

set_option maxRecDepth 100000 in
set_option maxHeartbeats 2000000 in
theorem check_any (o : OpM) (w : World) : Calls Try.prog 54 #[opV o] w fun e w' => e = .returned (.int .i64 (chkO o)) ∧ w.grownBy w' none := by
  obtain ⟨kind, key, value, version⟩ := o
  simp only [opV, OpM.cells]
  go_enter Try.func54, Try.ntmps54
  go_wp2_with (go_at_call 83; refine (valued_any _ _).mono ?_; rintro e w' ⟨rfl, rfl⟩)
  all_goals
    go_ret
    refine ⟨ret_int ?_, only_alloc (only_refl _ _) _⟩
    go_light
    first
      | (simp_all [chkO]; done)
      | (simp_all [chkO]; omega)

theorem chkO_cases (o : OpM) : chkO o = 0 ∨ chkO o = 2 ∨ chkO o = 3 := by
  unfold chkO
  split
  · exact .inr (.inl rfl)
  · split
    · exact .inr (.inr rfl)
    · exact .inl rfl

theorem check_at (o : OpM) (e : Int) (w : World) (h : chkO o = e) : Calls Try.prog 54 #[opV o] w fun x w' => x = .returned (.int .i64 e) ∧ w.grownBy w' none := by
  rw [← h]; exact check_any o w

end Go.Proofs.Ytlphkjbadjdleaa
