/-
  The walks over the operations (the program's). No condition.
-/
import Derived.Test.YtkiebhdhknaijaaCodecCut
import Derived.Deep.Light
import Derived.Deep.RegionHeld3
namespace Go.Proofs.Ytkiebhdhknaijaa
open Go.RowKit
attribute [local go_sem] ByteArray.mk_append_mk

theorem ret_int {k : IntKind} {a b : Int} (h : a = b) : Ending.returned (.int k a) = .returned (.int k b) := by rw [h]
/-- An operation. -/
structure OpM where
  kind : Int
  key : List UInt8
  value : List UInt8
  version : Int

def OpM.cells (o : OpM) : Array Value := #[.int .i64 o.kind, S o.key, S o.value, .int .i64 o.version]
abbrev opV (o : OpM) : Value := .agg o.cells

/-- What is wrong with it. -/
def chkO (o : OpM) : Int :=
  if o.kind < 1 ∨ 4 < o.kind ∨ o.key = [] ∨ o.version < 0 ∨ 4096 < o.version ∨ (o.version ≠ 0 ∧ o.kind ≠ 4) ∨ (o.value ≠ [] ∧ o.kind ≠ 2 ∧ o.kind ≠ 4) then 2
  else if 16 < o.key.length ∨ 64 < o.value.length then 3 else 0

theorem chkO_0 {o : OpM} : chkO o = 0 ↔ (1 ≤ o.kind ∧ o.kind ≤ 4 ∧ o.key ≠ [] ∧ 0 ≤ o.version ∧ o.version ≤ 4096 ∧ (o.version = 0 ∨ o.kind = 4) ∧ (o.value = [] ∨ o.kind = 2 ∨ o.kind = 4) ∧ o.key.length ≤ 16 ∧ o.value.length ≤ 64) := by
  unfold chkO
  split
  · rename_i h; constructor
    · intro h; omega
    · rintro ⟨h1, h2, h3, h4, h5, h6, h7, h8, h9⟩
      rcases h with h | h | h | h | h | h | h
      · omega
      · omega
      · exact absurd h h3
      · omega
      · omega
      · omega
      · rcases h7 with h7 | h7
        · exact absurd h7 h.1
        · omega
  · rename_i h
    simp only [not_or, not_and] at h
    obtain ⟨h1, h2, h3, h4, h5, h6, h7⟩ := h
    split
    · rename_i hl; constructor
      · intro h; omega
      · rintro ⟨_, _, _, _, _, _, _, h8, h9⟩; omega
    · rename_i hl
      simp only [true_iff]
      refine ⟨by omega, by omega, h3, by omega, by omega, by omega, ?_, by omega, by omega⟩
      by_cases hv : o.value = []
      · exact .inl hv
      · have := h7 hv; omega

set_option maxHeartbeats 400000 in
theorem valued_any (k : Int) (w : World) : Calls Try.prog 52 #[.int .i64 k] w fun e w' => e = .returned (.bool (k == 2 || k == 4)) ∧ w = w' := by
  by_cases h2 : k = 2
  · subst h2
    go_enter Try.func52, Try.ntmps52
    go_wp2
    go_ret
    exact ⟨rfl, rfl⟩
  · have h2' : (k == 2) = false := by simpa using h2
    go_enter Try.func52, Try.ntmps52
    go_wp2
    go_ret
    exact ⟨by simp [h2'], rfl⟩

set_option maxRecDepth 100000 in
set_option maxHeartbeats 2000000 in
theorem check_any (o : OpM) (w : World) : Calls Try.prog 40 #[opV o] w fun e w' => e = .returned (.int .i64 (chkO o)) ∧ w.grownBy w' none := by
  obtain ⟨kind, key, value, version⟩ := o
  simp only [opV, OpM.cells]
  go_enter Try.func40, Try.ntmps40
  go_wp2_with (go_at_call 52; refine (valued_any _ _).mono ?_; rintro e w' ⟨rfl, rfl⟩)
  all_goals
    go_ret
    refine ⟨ret_int ?_, only_alloc (only_refl _ _) _⟩
    go_light
    first
      | (simp_all [chkO]; done)
      | (simp_all [chkO]; omega)

theorem chkO_cases (o : OpM) : chkO o = 0 ∨ chkO o = 2 ∨ chkO o = 3 := by
  unfold chkO
  split
  · exact .inr (.inl rfl)
  · split
    · exact .inr (.inr rfl)
    · exact .inl rfl

theorem check_at (o : OpM) (e : Int) (w : World) (h : chkO o = e) : Calls Try.prog 40 #[opV o] w fun x w' => x = .returned (.int .i64 e) ∧ w.grownBy w' none := by
  rw [← h]; exact check_any o w

/-- What it counts for. -/
def costO (o : OpM) : Int := if chkO o = 0 then 16 + o.key.length + o.value.length else 0

set_option maxHeartbeats 400000 in
theorem cost_any (o : OpM) (w : World) : Calls Try.prog 42 #[opV o] w fun e w' => e = .returned (.int .i64 (costO o)) ∧ w.grownBy w' none := by
  have hg := fun k (W : World) (h : chkO o = k) => check_at o k W h
  unfold costO
  by_cases h0 : chkO o = 0
  · obtain ⟨_, _, _, _, _, _, _, h8, h9⟩ := chkO_0.1 h0
    rw [if_pos h0]
    have HG := Lib.hid (fun W => hg 0 W h0)
    clear hg h0
    obtain ⟨kind, key, value, version⟩ := o
    simp only [opV, OpM.cells] at h8 h9 HG ⊢
    go_enter Try.func42, Try.ntmps42
    go_wp2_with fail
    refine (HG.out _).mono ?_
    rintro e w1 ⟨rfl, h1⟩
    have hb := (Blk.new w 57 #[.int .i64 kind, S key, S value, .int .i64 version]).grown h1 (by simp)
    have c1 := hb.cell 1
    have c2 := hb.cell 2
    simp at c1 c2
    go_wp2
    go_ret
    exact ⟨rfl, only_trans (only_alloc (only_refl _ _) _) h1⟩
  · rw [if_neg h0]
    obtain ⟨k, hk, hk0⟩ : ∃ k, chkO o = k ∧ (k == 0) = false := ⟨_, rfl, by simpa using h0⟩
    have HG := Lib.hid (fun W => hg k W hk)
    clear hg h0 hk
    obtain ⟨kind, key, value, version⟩ := o
    simp only [opV, OpM.cells] at HG ⊢
    go_enter Try.func42, Try.ntmps42
    go_wp2_with fail
    refine (HG.out _).mono ?_
    rintro e w1 ⟨rfl, h1⟩
    go_wp2
    go_ret
    exact ⟨rfl, only_trans (only_alloc (only_refl _ _) _) h1⟩

set_option maxHeartbeats 400000 in
theorem reads_any (o : OpM) (w : World) : Calls Try.prog 44 #[opV o] w fun e w' => e = .returned (.bool (o.kind == 1 && chkO o == 0)) ∧ w.grownBy w' none := by
  have hg := Lib.hid (fun W => check_any o W)
  by_cases h1 : o.kind = 1
  · have hb : (o.kind == 1) = true := by simpa using h1
    rw [hb]
    obtain ⟨kind, key, value, version⟩ := o
    simp only at h1 hb
    subst h1
    generalize hc : chkO _ = c at *
    clear hc hb
    simp only [opV, OpM.cells] at hg ⊢
    go_enter Try.func44, Try.ntmps44
    go_wp2_with fail
    refine (hg.out _).mono ?_
    rintro e w1 ⟨rfl, h1⟩
    go_wp2
    go_ret
    exact ⟨by simp, only_trans (only_alloc (only_refl _ _) _) h1⟩
  · have hb : (o.kind == 1) = false := by simpa using h1
    rw [hb]
    clear h1 hg
    obtain ⟨kind, key, value, version⟩ := o
    simp only at hb
    simp only [opV, OpM.cells]
    go_enter Try.func44, Try.ntmps44
    go_wp2
    go_ret
    exact ⟨by simp, only_alloc (only_refl _ _) _⟩

/-- Its bytes. -/
def putB (o : OpM) : List UInt8 := intB o.kind ++ (textB o.key ++ ((if o.kind = 2 ∨ o.kind = 4 then textB o.value else []) ++ (if o.kind = 4 then intB o.version else [])))
def putV (o : OpM) : Value := if chkO o = 0 then .tuple #[S (putB o), .int .i64 0] else .tuple #[S [], .int .i64 (chkO o)]

set_option maxRecDepth 100000 in
set_option maxHeartbeats 1000000 in
theorem put_no (o : OpM) (w : World) (h0 : chkO o ≠ 0) : Calls Try.prog 38 #[opV o] w fun e w' => e = .returned (putV o) ∧ w.grownBy w' none := by
  unfold putV
  rw [if_neg h0]
  obtain ⟨k, hk, hk0⟩ : ∃ k, chkO o = k ∧ (k == 0) = false := ⟨_, rfl, by simpa using h0⟩
  have HG := Lib.hid (fun W => check_at o k W hk)
  rw [hk]
  clear h0 hk
  obtain ⟨kind, key, value, version⟩ := o
  simp only [opV, OpM.cells] at HG ⊢
  go_enter Try.func38, Try.ntmps38
  go_wp2_with fail
  refine (HG.out _).mono ?_
  rintro e w1 ⟨rfl, h1⟩
  go_wp2
  go_ret2
  exact ⟨rfl, only_trans (only_alloc (only_refl _ _) _) h1⟩

theorem intB_len (n : Int) : (intB n).length ≤ 9 := by
  unfold intB
  split
  · simp
  · exact (numL_len _ (by omega)).2
theorem textB_len (g : List UInt8) (h : g.length ≤ 100000) : (textB g).length ≤ g.length + 9 := by
  have := (numL_len g.length (by omega)).2
  simp [textB]; omega

end Go.Proofs.Ytkiebhdhknaijaa
