/-
  Same of shots: slices.Equal of cells and of clients. No condition.
-/
import Derived.Test.YtfkbodonidkpoaaShR5
namespace Go.Proofs.Ytfkbodonidkpoaa
open Go.RowKit
set_option maxRecDepth 100000 in
set_option maxHeartbeats 1000000 in
theorem equalC (xs ys : List KC) (p q : Value) (w : World) (hp : SliceV w p 3 xs.length (celF xs)) (hq : SliceV w q 3 ys.length (celF ys)) (hl : xs.length ≤ 1000000) :
    Calls Try.prog 68 #[p, q] w fun e w' => e = .returned (.bool (decide (xs = ys))) ∧ w.grownBy w' none := by
  obtain ⟨a, cap, rfl, h1, h2, hr⟩ := hp
  obtain ⟨a2, cap2, rfl, h3, h4, hr2⟩ := hq
  refine x_calls tabOK Try.func68 rfl [.rs 0 xs.length cap, .rs 1 ys.length cap2] _ _ rfl rfl (relR2 hr hr2) ?_
  repeat' ((conv => whnf); first | refine CutN.plain ?_ | refine Need.go rfl ?_ | with_reducible refine Br.neI (fun h => ?_) (fun h => ?_))
  all_goals (conv => whnf)
  · refine ret_pure (fun _ => ?_)
    have e : decide (xs = ys) = false := by simp; intro e; rw [e] at h; exact h rfl
    rw [e]; rfl
  have hxy : xs.length = ys.length := by omega
  refine loop_up 14 (fun k : Nat => k ≤ xs.length ∧ ∀ j, j < k → xs.getD j celZ = ys.getD j celZ) (fun k => xs.length - k) (fun k => [(3, .junk), (5, .junk), (13, .v (.int .i64 k))]) (fun _ => []) (fun _ => []) 0 ⟨Nat.zero_le _, fun j h => absurd h (by omega)⟩ (by
    (conv => whnf)
    refine ⟨[some 0, some 1], by decide, ?_, ?_⟩
    all_goals repeat' (first | exact leT_junk rfl | refine And.intro ?_ ?_ | exact trivial | exact .inl ⟨rfl, rfl⟩ | rfl | exact .inr ⟨_, rfl, rfl, rfl⟩ | exact ⟨_, rfl, trivial⟩ | exact ⟨_, rfl, rfl⟩)) (fun k hk => ?_)
  obtain ⟨hk, hs⟩ := hk
  repeat' ((conv => whnf); first | refine CutN.plain ?_ | refine Need.go rfl ?_ | refine QuiD.quiet (by kernel_rfl) ?_ | refine Need.go ⟨rfl, rfl⟩ ?_ | with_reducible refine Br.dec (fun h => ?_) (fun h => ?_) | refine Ar.i64 (by omega) (by omega) ?_ | refine Need.go (by first | omega | decide | (simp <;> omega) | fail) ?_ | refine Br.both (fun h => ?_) (fun h => ?_))
  all_goals (conv => whnf)
  · refine ret_pure (fun _ => ?_)
    have e : decide (xs = ys) = false := by simp; intro e; rw [e] at h; simp at h
    rw [e]; rfl
  · refine ⟨k + 1, ⟨by omega, fun j hj => ?_⟩, by omega, ?_⟩
    · rcases Nat.lt_or_ge j k with e | e
      · exact hs j e
      · rw [show j = k by omega]
        simp only [Int.toNat_natCast, Bool.not_eq_false', Bool.and_eq_true, beq_iff_eq, and_true] at h
        exact KC_ext h.1 h.2.1 h.2.2
    · (conv => whnf)
      refine ⟨[some 0, some 1], by decide, ?_, ?_⟩
      all_goals repeat' (first | exact leT_junk rfl | refine And.intro ?_ ?_ | exact trivial | exact .inl ⟨rfl, rfl⟩ | rfl | exact .inr ⟨_, rfl, rfl, rfl⟩ | exact ⟨_, rfl, trivial⟩ | exact ⟨_, rfl, rfl⟩)
  · refine ret_pure (fun _ => ?_)
    have e : decide (xs = ys) = true := by simp only [decide_eq_true_eq]; exact list_ext_getD (d := celZ) hxy (fun j hj => hs j (by omega))
    rw [e]; rfl
set_option maxRecDepth 100000 in
set_option maxHeartbeats 1000000 in
theorem equalLa (xs ys : List LaM) (p q : Value) (w : World) (hp : SliceV w p 6 xs.length (laF xs)) (hq : SliceV w q 6 ys.length (laF ys)) (hl : xs.length ≤ 1000000) :
    Calls Try.prog 69 #[p, q] w fun e w' => e = .returned (.bool (decide (xs = ys))) ∧ w.grownBy w' none := by
  obtain ⟨a, cap, rfl, h1, h2, hr⟩ := hp
  obtain ⟨a2, cap2, rfl, h3, h4, hr2⟩ := hq
  refine x_calls tabOK Try.func69 rfl [.rs 0 xs.length cap, .rs 1 ys.length cap2] _ _ rfl rfl (relR2 hr hr2) ?_
  repeat' ((conv => whnf); first | refine CutN.plain ?_ | refine Need.go rfl ?_ | with_reducible refine Br.neI (fun h => ?_) (fun h => ?_))
  all_goals (conv => whnf)
  · refine ret_pure (fun _ => ?_)
    have e : decide (xs = ys) = false := by simp; intro e; rw [e] at h; exact h rfl
    rw [e]; rfl
  have hxy : xs.length = ys.length := by omega
  refine loop_up 14 (fun k : Nat => k ≤ xs.length ∧ ∀ j, j < k → xs.getD j laZ = ys.getD j laZ) (fun k => xs.length - k) (fun k => [(3, .junk), (5, .junk), (13, .v (.int .i64 k))]) (fun _ => []) (fun _ => []) 0 ⟨Nat.zero_le _, fun j h => absurd h (by omega)⟩ (by
    (conv => whnf)
    refine ⟨[some 0, some 1], by decide, ?_, ?_⟩
    all_goals repeat' (first | exact leT_junk rfl | refine And.intro ?_ ?_ | exact trivial | exact .inl ⟨rfl, rfl⟩ | rfl | exact .inr ⟨_, rfl, rfl, rfl⟩ | exact ⟨_, rfl, trivial⟩ | exact ⟨_, rfl, rfl⟩)) (fun k hk => ?_)
  obtain ⟨hk, hs⟩ := hk
  repeat' ((conv => whnf); first | refine CutN.plain ?_ | refine Need.go rfl ?_ | refine QuiD.quiet (by kernel_rfl) ?_ | refine Need.go ⟨rfl, rfl⟩ ?_ | with_reducible refine Br.dec (fun h => ?_) (fun h => ?_) | refine Ar.i64 (by omega) (by omega) ?_ | refine Need.go (by first | omega | decide | (simp <;> omega) | fail) ?_ | refine Br.both (fun h => ?_) (fun h => ?_))
  all_goals (conv => whnf)
  · refine ret_pure (fun _ => ?_)
    have e : decide (xs = ys) = false := by simp; intro e; rw [e] at h; simp at h
    rw [e]; rfl
  · refine ⟨k + 1, ⟨by omega, fun j hj => ?_⟩, by omega, ?_⟩
    · rcases Nat.lt_or_ge j k with e | e
      · exact hs j e
      · rw [show j = k by omega]
        simp only [Int.toNat_natCast, Bool.not_eq_false', Bool.and_eq_true, beq_iff_eq, and_true] at h
        exact LaM_ext h.1 h.2.1 h.2.2.1 h.2.2.2.1 h.2.2.2.2.1 h.2.2.2.2.2
    · (conv => whnf)
      refine ⟨[some 0, some 1], by decide, ?_, ?_⟩
      all_goals repeat' (first | exact leT_junk rfl | refine And.intro ?_ ?_ | exact trivial | exact .inl ⟨rfl, rfl⟩ | rfl | exact .inr ⟨_, rfl, rfl, rfl⟩ | exact ⟨_, rfl, trivial⟩ | exact ⟨_, rfl, rfl⟩)
  · refine ret_pure (fun _ => ?_)
    have e : decide (xs = ys) = true := by simp only [decide_eq_true_eq]; exact list_ext_getD (d := laZ) hxy (fun j hj => hs j (by omega))
    rw [e]; rfl
set_option maxRecDepth 100000 in
set_option maxHeartbeats 4000000 in
theorem shSame_any (s t : ShM) (p q p2 q2 : Value) (w : World) (hp : CelSl w p s) (hq : LasSl w q s) (hp2 : CelSl w p2 t) (hq2 : LasSl w q2 t) (hs : SmallS s) :
    Calls Try.prog 22 #[shV s p q, shV t p2 q2] w fun e w' => e = .returned (.bool (sameShB s t)) ∧ w.grownBy w' none := by
  obtain ⟨a, cap, rfl, h1, h2, hr⟩ := hp
  obtain ⟨a2, cap2, rfl, h3, h4, hr2⟩ := hq
  obtain ⟨a3, cap3, rfl, h5, h6, hr3⟩ := hp2
  obtain ⟨a4, cap4, rfl, h7, h8, hr4⟩ := hq2
  have hc := hs.c
  have hl := hs.l
  refine x_calls tabOK Try.func22 rfl [shS s (.rs 0 s.cells.length cap) (.rs 1 s.lasts.length cap2), shS t (.rs 2 t.cells.length cap3) (.rs 3 t.lasts.length cap4)] _ _ rfl rfl (relR4 hr hr2 hr3 hr4) ?_
  obtain ⟨b1, hb1⟩ : ∃ b, decide (s.cells = t.cells) = b := ⟨_, rfl⟩
  obtain ⟨b2, hb2⟩ : ∃ b, decide (s.lasts = t.lasts) = b := ⟨_, rfl⟩
  rcases b1 with _ | _ <;> rcases b2 with _ | _
  all_goals
    repeat' ((conv => whnf); first | rw [hb1] | rw [hb2] | with_reducible refine Br.tt ?_ | with_reducible refine Br.ff ?_ | refine Need.go rfl ?_ | (with_reducible refine Br.eqI (fun h => ?_) (fun h => ?_); first | (rotate_left; exfalso; omega; clear h) | (exfalso; omega; clear h) | skip) | (refine call_mem (f := 68) (args := [.rs 0 s.cells.length cap, .rs 2 t.cells.length cap3]) (V := .bool (decide (s.cells = t.cells))) ?_ ?_; exact fun ρ w h => equalC s.cells t.cells _ _ w (sl_rs h (i := 0) rfl (Nat.le_refl _) h1 h2) (sl_rs h (i := 2) rfl (Nat.le_refl _) h5 h6) (by omega)) | (refine call_mem (f := 69) (args := [.rs 1 s.lasts.length cap2, .rs 3 t.lasts.length cap4]) (V := .bool (decide (s.lasts = t.lasts))) ?_ ?_; exact fun ρ w h => equalLa s.lasts t.lasts _ _ w (sl_rs h (i := 1) rfl (Nat.le_refl _) h3 h4) (sl_rs h (i := 3) rfl (Nat.le_refl _) h7 h8) (by omega)))
    all_goals (conv => whnf)
    all_goals
      refine ret_pure (fun _ => ?_)
      first
        | (rw [sameShB_no (fun e => of_decide_eq_false hb1 (congrArg ShM.cells e))]; rfl)
        | (rw [sameShB_no (fun e => of_decide_eq_false hb2 (congrArg ShM.lasts e))]; rfl)
        | (rw [sameShB_no (fun e => h (congrArg ShM.index e))]; rfl)
        | (rw [sameShB_yes h (of_decide_eq_true hb1) (of_decide_eq_true hb2)]; rfl)
end Go.Proofs.Ytfkbodonidkpoaa
