/-
  The document's Same of shots. No condition.
-/
import Derived.Test.YtfkbodonidkpoaaPV
namespace Go.Proofs.Ytfkbodonidkpoaa
open Go.RowKit
theorem relR4 {w : World} {a : Option Addr} {sz n : Nat} {f : Nat → Nat → Value} (h : RowOk w a sz n f) {a2 : Option Addr} {sz2 n2 : Nat} {f2 : Nat → Nat → Value} (h2 : RowOk w a2 sz2 n2 f2) {a3 : Option Addr} {sz3 n3 : Nat} {f3 : Nat → Nat → Value} (h3 : RowOk w a3 sz3 n3 f3) {a4 : Option Addr} {sz4 n4 : Nat} {f4 : Nat → Nat → Value} (h4 : RowOk w a4 sz4 n4 f4) :
    HRel w noU (fun i => ([(a, sz, n, f), (a2, sz2, n2, f2), (a3, sz3, n3, f3), (a4, sz4, n4, f4)][i]?).bind (·.1)) [.row sz n f, .row sz2 n2 f2, .row sz3 n3 f3, .row sz4 n4 f4] w :=
  relR w [(a, sz, n, f), (a2, sz2, n2, f2), (a3, sz3, n3, f3), (a4, sz4, n4, f4)] fun i a' sz' n' f' hi => by
    rcases i with _ | _ | _ | _ | i
    · cases hi; exact h
    · cases hi; exact h2
    · cases hi; exact h3
    · cases hi; exact h4
    · simp at hi
theorem sameShB_no {s t : ShM} (h : s = t → False) : sameShB s t = false := decide_eq_false h
theorem sameShB_yes {s t : ShM} (h1 : s.index = t.index) (h2 : s.cells = t.cells) (h3 : s.lasts = t.lasts) : sameShB s t = true := by
  obtain ⟨_, _, _⟩ := s
  obtain ⟨_, _, _⟩ := t
  simp only at h1 h2 h3
  subst h1 h2 h3
  exact decide_eq_true rfl
set_option maxRecDepth 100000 in
set_option maxHeartbeats 4000000 in
theorem rshSame_any (s t : ShM) (p q p2 q2 : Value) (w : World) (hp : CelSl w p s) (hq : LasSl w q s) (hp2 : CelSl w p2 t) (hq2 : LasSl w q2 t) (hs : SmallS s) :
    Calls Try.prog 41 #[shV s p q, shV t p2 q2] w fun e w' => e = .returned (.bool (sameShB s t)) ∧ w.grownBy w' none := by
  obtain ⟨a, cap, rfl, h1, h2, hr⟩ := hp
  obtain ⟨a2, cap2, rfl, h3, h4, hr2⟩ := hq
  obtain ⟨a3, cap3, rfl, h5, h6, hr3⟩ := hp2
  obtain ⟨a4, cap4, rfl, h7, h8, hr4⟩ := hq2
  have hc := hs.c
  have hl := hs.l
  refine x_calls tabOK Try.func41 rfl [shS s (.rs 0 s.cells.length cap) (.rs 1 s.lasts.length cap2), shS t (.rs 2 t.cells.length cap3) (.rs 3 t.lasts.length cap4)] _ _ rfl rfl (relR4 hr hr2 hr3 hr4) ?_
  repeat' ((conv => whnf); first | refine CutN.plain ?_ | refine Need.go rfl ?_ | (with_reducible refine Br.neI (fun h => ?_) (fun h => ?_); first | (rotate_left; exfalso; omega; clear h) | (exfalso; omega; clear h) | skip))
  all_goals (conv => whnf)
  any_goals (refine ret_pure (fun _ => ?_); rw [sameShB_no (fun e => by subst e; omega)]; rfl)
  have hcc : s.cells.length = t.cells.length := by omega
  have hll : s.lasts.length = t.lasts.length := by omega
  have hii : s.index = t.index := by omega
  refine loop_up 30 (fun k : Nat => k ≤ s.cells.length ∧ ∀ j, j < k → s.cells.getD j celZ = t.cells.getD j celZ) (fun k => s.cells.length - k) (fun k => [(5, .v (.int .i64 k))]) (fun _ => []) (fun _ => []) 0 ⟨Nat.zero_le _, fun j h => absurd h (by omega)⟩ (by
    (conv => whnf)
    refine ⟨[some 0, some 1, some 2, some 3, some 4, some 5], by decide, ?_, ?_⟩
    all_goals repeat' (first | exact leT_junk rfl | refine And.intro ?_ ?_ | exact trivial | exact .inl ⟨rfl, rfl⟩ | rfl | exact .inr ⟨_, rfl, rfl, rfl⟩ | exact ⟨_, rfl, trivial⟩ | exact ⟨_, rfl, rfl⟩ | exact ⟨_, rfl, ⟨rfl, rfl, rfl⟩, fun _ _ _ _ => rfl⟩ | exact ⟨_, rfl, ⟨rfl, rfl, .inl rfl⟩, rfl⟩ | exact ⟨_, rfl, ⟨rfl, rfl, .inr rfl⟩, rfl⟩ | exact ⟨_, rfl, ⟨rfl, rfl, rfl, rfl, rfl⟩, rfl⟩ | exact ⟨_, rfl, ⟨rfl, rfl⟩, fun _ => Iff.rfl⟩ | refine ⟨_, rfl, rfl, ?_⟩)) (fun k hk => ?_)
  obtain ⟨hk, hsa⟩ := hk
  by_cases hlt : k < s.cells.length
  · repeat' ((conv => whnf); first | refine CutN.plain ?_ | refine Need.go rfl ?_ | refine QuiD.quiet (by kernel_rfl) ?_ | refine Need.go ⟨rfl, rfl⟩ ?_ | (with_reducible refine Br.dec (fun h => ?_) (fun h => ?_); first | (rotate_left; exfalso; omega; clear h) | (exfalso; omega; clear h) | skip) | refine Ar.i64 (by omega) (by omega) ?_ | refine Need.go (by first | omega | decide | (simp <;> omega) | fail) ?_ | refine Br.both (fun h => ?_) (fun h => ?_))
    all_goals (conv => whnf)
    all_goals (try simp only [Int.toNat_natCast] at *)
    · refine ret_pure (fun _ => ?_)
      rw [sameShB_no (fun e => by subst e; simp at h)]
      rfl
    · refine ⟨k + 1, ⟨by omega, fun j hj => ?_⟩, by omega, ?_⟩
      · rcases Nat.lt_or_ge j k with e | e
        · exact hsa j e
        · rw [show j = k by omega]
          simp only [Bool.not_eq_false', Bool.and_eq_true, beq_iff_eq, and_true] at h
          exact KC_ext h.1 h.2.1 h.2.2
      · (conv => whnf)
        refine ⟨[some 0, some 1, some 2, some 3, some 4, some 5], by decide, ?_, ?_⟩
        all_goals repeat' (first | exact leT_junk rfl | refine And.intro ?_ ?_ | exact trivial | exact .inl ⟨rfl, rfl⟩ | rfl | exact .inr ⟨_, rfl, rfl, rfl⟩ | exact ⟨_, rfl, trivial⟩ | exact ⟨_, rfl, rfl⟩ | exact ⟨_, rfl, ⟨rfl, rfl, rfl⟩, fun _ _ _ _ => rfl⟩ | exact ⟨_, rfl, ⟨rfl, rfl, .inl rfl⟩, rfl⟩ | exact ⟨_, rfl, ⟨rfl, rfl, .inr rfl⟩, rfl⟩ | exact ⟨_, rfl, ⟨rfl, rfl, rfl, rfl, rfl⟩, rfl⟩ | exact ⟨_, rfl, ⟨rfl, rfl⟩, fun _ => Iff.rfl⟩ | refine ⟨_, rfl, rfl, ?_⟩)
  · obtain rfl : k = s.cells.length := by omega
    have hcel : s.cells = t.cells := list_ext_getD (d := celZ) hcc hsa
    repeat' ((conv => whnf); first | refine CutN.plain ?_ | refine Need.go rfl ?_ | (with_reducible refine Br.dec (fun h => ?_) (fun h => ?_); first | (rotate_left; exfalso; omega; clear h) | (exfalso; omega; clear h) | skip))
    all_goals (conv => whnf)
    refine loop_up 48 (fun k : Nat => k ≤ s.lasts.length ∧ ∀ j, j < k → s.lasts.getD j laZ = t.lasts.getD j laZ) (fun k => s.lasts.length - k) (fun k => [(6, .v (.int .i64 k))]) (fun _ => []) (fun _ => []) 0 ⟨Nat.zero_le _, fun j h => absurd h (by omega)⟩ (by
      (conv => whnf)
      refine ⟨[some 0, some 1, some 2, some 3, some 4, some 5], by decide, ?_, ?_⟩
      all_goals repeat' (first | exact leT_junk rfl | refine And.intro ?_ ?_ | exact trivial | exact .inl ⟨rfl, rfl⟩ | rfl | exact .inr ⟨_, rfl, rfl, rfl⟩ | exact ⟨_, rfl, trivial⟩ | exact ⟨_, rfl, rfl⟩ | exact ⟨_, rfl, ⟨rfl, rfl, rfl⟩, fun _ _ _ _ => rfl⟩ | exact ⟨_, rfl, ⟨rfl, rfl, .inl rfl⟩, rfl⟩ | exact ⟨_, rfl, ⟨rfl, rfl, .inr rfl⟩, rfl⟩ | exact ⟨_, rfl, ⟨rfl, rfl, rfl, rfl, rfl⟩, rfl⟩ | exact ⟨_, rfl, ⟨rfl, rfl⟩, fun _ => Iff.rfl⟩ | refine ⟨_, rfl, rfl, ?_⟩)) (fun k hk => ?_)
    obtain ⟨hk, hsb⟩ := hk
    by_cases hlt : k < s.lasts.length
    · repeat' ((conv => whnf); first | refine CutN.plain ?_ | refine Need.go rfl ?_ | refine QuiD.quiet (by kernel_rfl) ?_ | refine Need.go ⟨rfl, rfl⟩ ?_ | (with_reducible refine Br.dec (fun h => ?_) (fun h => ?_); first | (rotate_left; exfalso; omega; clear h) | (exfalso; omega; clear h) | skip) | refine Ar.i64 (by omega) (by omega) ?_ | refine Need.go (by first | omega | decide | (simp <;> omega) | fail) ?_ | refine Br.both (fun h => ?_) (fun h => ?_))
      all_goals (conv => whnf)
      all_goals (try simp only [Int.toNat_natCast] at *)
      · refine ret_pure (fun _ => ?_)
        rw [sameShB_no (fun e => by subst e; simp at h)]
        rfl
      · refine ⟨k + 1, ⟨by omega, fun j hj => ?_⟩, by omega, ?_⟩
        · rcases Nat.lt_or_ge j k with e | e
          · exact hsb j e
          · rw [show j = k by omega]
            simp only [Bool.not_eq_false', Bool.and_eq_true, beq_iff_eq, and_true] at h
            exact LaM_ext h.1 h.2.1 h.2.2.1 h.2.2.2.1 h.2.2.2.2.1 h.2.2.2.2.2
        · (conv => whnf)
          refine ⟨[some 0, some 1, some 2, some 3, some 4, some 5], by decide, ?_, ?_⟩
          all_goals repeat' (first | exact leT_junk rfl | refine And.intro ?_ ?_ | exact trivial | exact .inl ⟨rfl, rfl⟩ | rfl | exact .inr ⟨_, rfl, rfl, rfl⟩ | exact ⟨_, rfl, trivial⟩ | exact ⟨_, rfl, rfl⟩ | exact ⟨_, rfl, ⟨rfl, rfl, rfl⟩, fun _ _ _ _ => rfl⟩ | exact ⟨_, rfl, ⟨rfl, rfl, .inl rfl⟩, rfl⟩ | exact ⟨_, rfl, ⟨rfl, rfl, .inr rfl⟩, rfl⟩ | exact ⟨_, rfl, ⟨rfl, rfl, rfl, rfl, rfl⟩, rfl⟩ | exact ⟨_, rfl, ⟨rfl, rfl⟩, fun _ => Iff.rfl⟩ | refine ⟨_, rfl, rfl, ?_⟩)
    · obtain rfl : k = s.lasts.length := by omega
      have hlas : s.lasts = t.lasts := list_ext_getD (d := laZ) hll hsb
      repeat' ((conv => whnf); first | refine CutN.plain ?_ | refine Need.go rfl ?_ | (with_reducible refine Br.dec (fun h => ?_) (fun h => ?_); first | (rotate_left; exfalso; omega; clear h) | (exfalso; omega; clear h) | skip))
      all_goals (conv => whnf)
      refine ret_pure (fun _ => ?_)
      rw [sameShB_yes hii hcel hlas]
      rfl
end Go.Proofs.Ytfkbodonidkpoaa
