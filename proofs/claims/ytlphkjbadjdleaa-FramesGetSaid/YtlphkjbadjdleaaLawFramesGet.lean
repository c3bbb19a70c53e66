/-
  FramesGet: the walk. No condition.
-/
import Derived.Test.YtlphkjbadjdleaaFrX
import Derived.Test.YtlphkjbadjdleaaP7
namespace Go.Proofs.Ytlphkjbadjdleaa.lawFramesGet
open Go.RowKit
theorem got_len {s : List UInt8} {f : FrM} {er : Int} (h : resG (getFr s) = (f, er)) : f.ch.mem.length ≤ 1000000 := by
  rcases hg : getFr s with _ | g
  · rw [hg] at h; cases h; exact Nat.zero_le _
  · rw [hg] at h
    cases h
    unfold getFr at hg
    split at hg
    · cases hg
    · obtain ⟨h1, _, h3⟩ := getF_form hg
      by_cases hk : g.kind = 8
      · have := h1.2
        unfold tailOk at this
        rw [if_neg (by omega), if_neg (by omega), if_neg (by omega), if_pos hk] at this
        have := (okCh_len this).2.1
        show g.ch.mem.length ≤ 1000000
        omega
      · show g.ch.mem.length ≤ 1000000
        rw [← h3]
        have hc : ∀ (l : List Nat) (g : FrM), (cpN g l (frK g.kind)).ch.mem.length = 0 := fun l g => by
          have : ∀ (l : List Nat) (x : FrM), (cpN g l x).ch = x.ch := fun l => by
            induction l with
            | nil => intro x; rfl
            | cons j r ih => intro x; rw [cpN, ih]; unfold setN; split <;> rfl
          rw [this]; rfl
        have := hc (plN g.kind) g
        unfold plainF cpT
        split
        · exact Nat.le_trans (Nat.le_of_eq this) (Nat.zero_le _)
        · split
          · exact Nat.le_trans (Nat.le_of_eq this) (Nat.zero_le _)
          · split
            · exact Nat.le_trans (Nat.le_of_eq this) (Nat.zero_le _)
            · exact Nat.le_trans (Nat.le_of_eq this) (Nat.zero_le _)
set_option maxRecDepth 100000 in
set_option maxHeartbeats 8000000 in
theorem core (s : List UInt8) (w : World) : Calls Try.prog 10 #[S s] w fun e w' => e = .returned (.bool true) ∧ w.grownBy w' none := by
  refine x_calls tabOK Try.func10 rfl [.v (S s)] _ _ rfl rfl (rel0 w) ?_
  obtain ⟨f, er, hg⟩ : ∃ f er, resG (getFr s) = (f, er) := ⟨_, _, rfl⟩
  have hl := got_len hg
  by_cases hs : s.length ≤ 700
  · repeat' ((conv => whnf); first | refine Br.yes (by first | (simp; done) | fail) ?_ | refine CutN.plain ?_ | refine Need.go rfl ?_ | (with_reducible refine Br.dec (fun h => ?_) (fun h => ?_); first | (rotate_left; exfalso; omega; clear h) | (exfalso; omega; clear h) | skip) | refine frGot_n s f er hg ?_ | refine rfrGot_n s hs f er hg ?_ | (refine call_mem (f := 43) (args := [frS f (.os 0 f.ch.mem.length), frS f (.os 2 f.ch.mem.length)]) (V := .bool true) ?_ ?_; exact fun ρ w h => rfrSame_eq f _ _ w (sl_os h (i := 0) rfl) (sl_os h (i := 2) rfl) hl) | (refine call_mem (f := 40) (args := []) (V := .bool true) ?_ ?_; exact fun ρ w h => sent_any w))
    all_goals (conv => whnf)
    all_goals exact ret_pure (fun _ => rfl)
  · repeat' ((conv => whnf); first | refine CutN.plain ?_ | refine Need.go rfl ?_ | (with_reducible refine Br.dec (fun h => ?_) (fun h => ?_); first | (rotate_left; exfalso; omega; clear h) | (exfalso; omega; clear h) | skip) | (refine call_mem (f := 40) (args := []) (V := .bool true) ?_ ?_; exact fun ρ w h => sent_any w))
    all_goals (conv => whnf)
    all_goals exact ret_pure (fun _ => rfl)
theorem walk (w : World) (s : ByteArray) (_ : s.size ≤ maxLen) :
    Calls Try.prog 10 #[.string s] w fun e w' => e = .returned (.bool true) ∧ Below w.heap.size w w' := by
  obtain ⟨l, rfl, _⟩ := toS s
  exact (core l w).mono fun _ _ ⟨h, k⟩ => ⟨h, below_of_only k⟩
end Go.Proofs.Ytlphkjbadjdleaa.lawFramesGet
