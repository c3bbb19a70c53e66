/-
  ShotsOf: the walk. No condition.
-/
import Derived.Test.YtfkbodonidkpoaaPU
import Derived.Test.YtfkbodonidkpoaaShLaw2
import Derived.Test.YtfkbodonidkpoaaShR5
import Derived.Test.YtfkbodonidkpoaaShOf3
namespace Go.Proofs.Ytfkbodonidkpoaa.lawShotsOf
open Go.RowKit
theorem greatE_small {l : List EntM} {n : Int} (h : greatE l n = false) : (l.length : Int) ≤ n := by
  unfold greatE at h
  simp only [Bool.or_eq_false_iff, decide_eq_false_iff_not] at h
  omega
theorem small_of {l : List EntM} (h : l.length ≤ 100) : SmallS (rofO l) := by
  have h1 := cellsN_len1 l l.length
  have h2 := lastsRD_le l 6
  exact ⟨by show (cellsN l l.length).1.length ≤ _; omega, by show (lastsRD l 6).length ≤ _; omega⟩
set_option maxRecDepth 100000 in
set_option maxHeartbeats 8000000 in
theorem core (l : List EntM) (p : Value) (w : World) (hp : SliceV w p 7 l.length (entF l)) : Calls Try.prog 7 #[p] w fun e w' => e = .returned (.bool true) ∧ w.grownBy w' none := by
  obtain ⟨a, cap, rfl, h1, h2, hr⟩ := hp
  refine x_calls tabOK Try.func7 rfl [.rs 0 l.length cap] _ _ rfl rfl (relR1 hr) ?_
  rcases hge : greatE l 40 with _ | _
  case true =>
    repeat' ((conv => whnf); first
        | refine CutN.plain ?_
        | with_reducible refine Br.tt ?_
        | with_reducible refine Br.ff ?_
        | with_reducible refine Br.nt ?_
        | with_reducible refine Br.nf ?_
        | with_reducible refine Br.eeI ?_
        | with_reducible refine Br.nnI ?_
        | refine Br.yes (by decide) ?_
        | refine Br.no (by decide) ?_
        | refine Need.go rfl ?_
        | refine QuiD.quiet (by kernel_rfl) ?_
        | refine IdxN.lit ?_
        | refine draw_go tabOK (by kernel_rfl) ?_
        | refine Need.go ⟨rfl, rfl⟩ ?_
        | refine Need.go ⟨⟨rfl, rfl, rfl⟩, rfl⟩ ?_
        | (with_reducible refine Br.dec (fun h => ?_) (fun h => ?_); first | (rotate_left; exfalso; omega; clear h) | (exfalso; omega; clear h) | skip)
        | (with_reducible refine Br.eqI (fun h => ?_) (fun h => ?_); first | (rotate_left; exfalso; omega; clear h) | (exfalso; omega; clear h) | skip)
        | (with_reducible refine Br.neI (fun h => ?_) (fun h => ?_); first | (rotate_left; exfalso; omega; clear h) | (exfalso; omega; clear h) | skip)
        | (with_reducible refine Br.eqS (fun h => ?_) (fun h => ?_); first | (rotate_left; exfalso; omega; clear h) | (exfalso; omega; clear h) | skip)
        | (with_reducible refine Br.neS (fun h => ?_) (fun h => ?_); first | (rotate_left; exfalso; omega; clear h) | (exfalso; omega; clear h) | skip)
        | (with_reducible refine Br.nd (fun h => ?_) (fun h => ?_); first | (rotate_left; exfalso; omega; clear h) | (exfalso; omega; clear h) | skip)
        | refine Ar.i64 (by omega) (by omega) ?_
        | (refine call_mem (f := 23) (args := [.rs 0 l.length cap, .v (.int .i64 40)]) (V := .bool true) ?_ ?_; exact fun ρ w h => (by have := entries27_any l 40 _ w (sl_rs h (i := 0) rfl (Nat.le_refl _) h1 h2); rw [hge] at this; exact this))
        | (refine quiet_mem (f := 23) (args := [.rs 0 l.length cap, .v (.int .i64 40)]) (V := .bool true) ?_ ?_; exact fun ρ w h => (by have := entries27_any l 40 _ w (sl_rs h (i := 0) rfl (Nat.le_refl _) h1 h2); rw [hge] at this; exact this))
        | (refine seg_mem (f := 23) (args := [.rs 0 l.length cap, .v (.int .i64 40)]) (V := .bool true) ?_ ?_; exact fun ρ w h => (by have := entries27_any l 40 _ w (sl_rs h (i := 0) rfl (Nat.le_refl _) h1 h2); rw [hge] at this; exact this))
        | (refine call_mem (f := 39) (args := []) (V := .bool true) ?_ ?_; exact fun ρ w h => shot27_any w)
        | (refine quiet_mem (f := 39) (args := []) (V := .bool true) ?_ ?_; exact fun ρ w h => shot27_any w)
        | (refine seg_mem (f := 39) (args := []) (V := .bool true) ?_ ?_; exact fun ρ w h => shot27_any w)
        | refine Need.go (by first | omega | decide | (simp <;> omega) | fail) ?_
        | refine Need.go (by first | (simp [Value.oneCell'] <;> omega) | fail) ?_
        | refine Need.go ⟨rfl, by omega, getD_one rfl rfl⟩ ?_
        | refine Need.go ⟨rfl, by omega, fun _ _ _ _ => rfl⟩ ?_
        | refine Br.both (fun h => ?_) (fun h => ?_))
    all_goals (conv => whnf)
    all_goals exact ret_pure (fun _ => rfl)
  have hl : l.length ≤ 40 := by have := greatE_small hge; omega
  repeat' ((conv => whnf); first
      | refine CutN.plain ?_
      | with_reducible refine Br.tt ?_
      | with_reducible refine Br.ff ?_
      | with_reducible refine Br.nt ?_
      | with_reducible refine Br.nf ?_
      | with_reducible refine Br.eeI ?_
      | with_reducible refine Br.nnI ?_
      | refine Br.yes (by decide) ?_
      | refine Br.no (by decide) ?_
      | refine Need.go rfl ?_
      | refine QuiD.quiet (by kernel_rfl) ?_
      | refine IdxN.lit ?_
      | refine draw_go tabOK (by kernel_rfl) ?_
      | refine Need.go ⟨rfl, rfl⟩ ?_
      | refine Need.go ⟨⟨rfl, rfl, rfl⟩, rfl⟩ ?_
      | (with_reducible refine Br.dec (fun h => ?_) (fun h => ?_); first | (rotate_left; exfalso; omega; clear h) | (exfalso; omega; clear h) | skip)
      | (with_reducible refine Br.eqI (fun h => ?_) (fun h => ?_); first | (rotate_left; exfalso; omega; clear h) | (exfalso; omega; clear h) | skip)
      | (with_reducible refine Br.neI (fun h => ?_) (fun h => ?_); first | (rotate_left; exfalso; omega; clear h) | (exfalso; omega; clear h) | skip)
      | (with_reducible refine Br.eqS (fun h => ?_) (fun h => ?_); first | (rotate_left; exfalso; omega; clear h) | (exfalso; omega; clear h) | skip)
      | (with_reducible refine Br.neS (fun h => ?_) (fun h => ?_); first | (rotate_left; exfalso; omega; clear h) | (exfalso; omega; clear h) | skip)
      | (with_reducible refine Br.nd (fun h => ?_) (fun h => ?_); first | (rotate_left; exfalso; omega; clear h) | (exfalso; omega; clear h) | skip)
      | refine Ar.i64 (by omega) (by omega) ?_
      | (refine call_mem (f := 23) (args := [.rs 0 l.length cap, .v (.int .i64 40)]) (V := .bool false) ?_ ?_; exact fun ρ w h => (by have := entries27_any l 40 _ w (sl_rs h (i := 0) rfl (Nat.le_refl _) h1 h2); rw [hge] at this; exact this))
      | (refine quiet_mem (f := 23) (args := [.rs 0 l.length cap, .v (.int .i64 40)]) (V := .bool false) ?_ ?_; exact fun ρ w h => (by have := entries27_any l 40 _ w (sl_rs h (i := 0) rfl (Nat.le_refl _) h1 h2); rw [hge] at this; exact this))
      | (refine seg_mem (f := 23) (args := [.rs 0 l.length cap, .v (.int .i64 40)]) (V := .bool false) ?_ ?_; exact fun ρ w h => (by have := entries27_any l 40 _ w (sl_rs h (i := 0) rfl (Nat.le_refl _) h1 h2); rw [hge] at this; exact this))
      | (refine call_sp (f := 42) (logNew) [] (by decide) rfl trivial rfl ?_; rintro s H1 ⟨rfl, rfl⟩)
      | (refine seg_sp (f := 42) (logNew) (fun _ => rfl) [] (by decide) rfl trivial rfl ?_)
      | refine call_inlineL (f := 43) Try.func43 rfl ?_
      | refine Need.go (by first | omega | decide | (simp <;> omega) | fail) ?_
      | refine Need.go (by first | (simp [Value.oneCell'] <;> omega) | fail) ?_
      | refine Need.go ⟨rfl, by omega, getD_one rfl rfl⟩ ?_
      | refine Need.go ⟨rfl, by omega, fun _ _ _ _ => rfl⟩ ?_
      | refine Br.both (fun h => ?_) (fun h => ?_))
  all_goals (conv => whnf)
  refine loop_up 12 (fun x : Nat × LogM => x.1 ≤ l.length ∧ LogD x.2 ∧ x.2.in ∧ x.2.ents.length ≤ x.1) (fun x => l.length - x.1) (fun x => [(5, .v (.int .i64 x.1)), (6, .junk)])
    (fun x => [(1, .ent ((logHi 1 x.2).getD 0 .none)), (2, .ent ((logHi 1 x.2).getD 1 .none)), (3, .ent ((logHi 1 x.2).getD 2 .none)), (4, .ent ((logHi 1 x.2).getD 3 .none)), (5, .ent (.blk 152 [.os 6 x.2.ents.length]))]) (fun x => [.own 36 7 x.2.ents.length (entF x.2.ents)]) (0, logZ) ⟨Nat.zero_le _, logZ_D, in_zero, Nat.le_refl _⟩ (by
    (conv => whnf)
    refine ⟨[some 0, some 1, some 2, some 3, some 4, some 5, none], by decide, ?_, ?_⟩
    all_goals repeat' (first | exact leT_junk rfl | refine And.intro ?_ ?_ | exact trivial | exact .inl ⟨rfl, rfl⟩ | rfl | exact .inr ⟨_, rfl, rfl, rfl⟩ | exact ⟨_, rfl, trivial⟩ | exact ⟨_, rfl, rfl⟩ | exact ⟨_, rfl, ⟨rfl, rfl, rfl⟩, fun _ _ _ _ => rfl⟩ | exact ⟨_, rfl, ⟨rfl, rfl, .inl rfl⟩, rfl⟩ | exact ⟨_, rfl, ⟨rfl, rfl, .inr rfl⟩, rfl⟩ | exact ⟨_, rfl, ⟨rfl, rfl, rfl, rfl, rfl⟩, rfl⟩ | exact ⟨_, rfl, ⟨rfl, rfl⟩, fun _ => Iff.rfl⟩ | refine ⟨_, rfl, rfl, ?_⟩ | refine ⟨_, rfl, ⟨rfl, rfl, rfl⟩, ?_⟩)) (fun x hx => ?_)
  obtain ⟨k, lg⟩ := x
  obtain ⟨hkl, hinv, hin, hle⟩ := hx
  simp only at hkl hinv hin hle
  have hlo := hinv.ok
  dsimp only
  by_cases hlt : k < l.length
  · obtain ⟨e, he0⟩ : ∃ e : EntM, (⟨lg.ents.length + 1, (l.getD k entZ).client, (l.getD k entZ).seq, (l.getD k entZ).op⟩ : EntM) = e := ⟨_, rfl⟩
    have hre := rlogErr_eq hinv e
    by_cases he : logErr lg e = 0
    · have hr1 := refAppend_yes lg.ents (by omega) e (hre.trans he)
      have ha1 := logAppend_yes lg hlo e he
      have hlen : (lg.ents ++ [e]).length = lg.ents.length + 1 := by simp
      have hlen2 : (logPut lg e).ents.length = lg.ents.length + 1 := by simp [logPut]
      subst he0
      repeat' ((conv => whnf); first
          | refine CutN.plain ?_
          | with_reducible refine Br.tt ?_
          | with_reducible refine Br.ff ?_
          | with_reducible refine Br.nt ?_
          | with_reducible refine Br.nf ?_
          | with_reducible refine Br.eeI ?_
          | with_reducible refine Br.nnI ?_
          | refine Br.yes (by decide) ?_
          | refine Br.no (by decide) ?_
          | refine Need.go rfl ?_
          | refine QuiD.quiet (by kernel_rfl) ?_
          | refine IdxN.lit ?_
          | refine draw_go tabOK (by kernel_rfl) ?_
          | refine Need.go ⟨rfl, rfl⟩ ?_
          | refine Need.go ⟨⟨rfl, rfl, rfl⟩, rfl⟩ ?_
          | (with_reducible refine Br.dec (fun h => ?_) (fun h => ?_); first | (rotate_left; exfalso; omega; clear h) | (exfalso; omega; clear h) | skip)
          | (with_reducible refine Br.eqI (fun h => ?_) (fun h => ?_); first | (rotate_left; exfalso; omega; clear h) | (exfalso; omega; clear h) | skip)
          | (with_reducible refine Br.neI (fun h => ?_) (fun h => ?_); first | (rotate_left; exfalso; omega; clear h) | (exfalso; omega; clear h) | skip)
          | (with_reducible refine Br.eqS (fun h => ?_) (fun h => ?_); first | (rotate_left; exfalso; omega; clear h) | (exfalso; omega; clear h) | skip)
          | (with_reducible refine Br.neS (fun h => ?_) (fun h => ?_); first | (rotate_left; exfalso; omega; clear h) | (exfalso; omega; clear h) | skip)
          | (with_reducible refine Br.nd (fun h => ?_) (fun h => ?_); first | (rotate_left; exfalso; omega; clear h) | (exfalso; omega; clear h) | skip)
          | refine Ar.i64 (by omega) (by omega) ?_
          | refine call_inlineL (f := 44) Try.func44 rfl ?_
          | (refine call_sp (f := 45) (ha1) [1, 2, 3, 4] (by decide) rfl ⟨rfl, rfl, rfl, rfl, trivial⟩ rfl ?_; rintro s H1 ⟨rfl, rfl⟩)
          | (refine seg_sp (f := 45) (ha1) (fun _ => rfl) [1, 2, 3, 4] (by decide) rfl ⟨rfl, rfl, rfl, rfl, trivial⟩ rfl ?_)
          | (refine call_sp (f := 46) (hr1) [5, 6] (by decide) rfl ⟨rfl, rfl, trivial⟩ rfl ?_; rintro s H1 ⟨rfl, rfl⟩)
          | (refine seg_sp (f := 46) (hr1) (fun _ => rfl) [5, 6] (by decide) rfl ⟨rfl, rfl, trivial⟩ rfl ?_)
          | refine Need.go (by first | omega | decide | (simp <;> omega) | fail) ?_
          | refine Need.go (by first | (simp [Value.oneCell'] <;> omega) | fail) ?_
          | refine Need.go ⟨rfl, by omega, getD_one rfl rfl⟩ ?_
          | refine Need.go ⟨rfl, by omega, fun _ _ _ _ => rfl⟩ ?_
          | refine Br.both (fun h => ?_) (fun h => ?_))
      all_goals (conv => whnf)
      refine ⟨(k + 1, logPut lg ⟨lg.ents.length + 1, (l.getD k entZ).client, (l.getD k entZ).seq, (l.getD k entZ).op⟩), ⟨by simp only; omega, hinv.put he, in_put hin he, by simp only; omega⟩, by simp only; omega, ?_⟩
      dsimp only
      (conv => whnf)
      refine ⟨[some 0, some 1, some 2, some 8, some 9, some 5, some 10], by decide, ?_, ?_⟩
      all_goals repeat' (first | exact leT_junk rfl | refine And.intro ?_ ?_ | exact trivial | exact .inl ⟨rfl, rfl⟩ | rfl | exact .inr ⟨_, rfl, rfl, rfl⟩ | exact ⟨_, rfl, trivial⟩ | exact ⟨_, rfl, rfl⟩ | exact ⟨_, rfl, ⟨rfl, rfl, rfl⟩, fun _ _ _ _ => rfl⟩ | exact ⟨_, rfl, ⟨rfl, rfl, .inl rfl⟩, rfl⟩ | exact ⟨_, rfl, ⟨rfl, rfl, .inr rfl⟩, rfl⟩ | exact ⟨_, rfl, ⟨rfl, rfl, rfl, rfl, rfl⟩, rfl⟩ | exact ⟨_, rfl, ⟨rfl, rfl⟩, fun _ => Iff.rfl⟩ | refine ⟨_, rfl, rfl, ?_⟩ | refine ⟨_, rfl, ⟨rfl, rfl, rfl⟩, ?_⟩)
    · have hr0 := refAppend_no lg.ents (by omega) e (logErr lg e) hre he
      have ha0 := logAppend_no lg hlo e he
      subst he0
      repeat' ((conv => whnf); first
          | refine CutN.plain ?_
          | with_reducible refine Br.tt ?_
          | with_reducible refine Br.ff ?_
          | with_reducible refine Br.nt ?_
          | with_reducible refine Br.nf ?_
          | with_reducible refine Br.eeI ?_
          | with_reducible refine Br.nnI ?_
          | refine Br.yes (by decide) ?_
          | refine Br.no (by decide) ?_
          | refine Need.go rfl ?_
          | refine QuiD.quiet (by kernel_rfl) ?_
          | refine IdxN.lit ?_
          | refine draw_go tabOK (by kernel_rfl) ?_
          | refine Need.go ⟨rfl, rfl⟩ ?_
          | refine Need.go ⟨⟨rfl, rfl, rfl⟩, rfl⟩ ?_
          | (with_reducible refine Br.dec (fun h => ?_) (fun h => ?_); first | (rotate_left; exfalso; omega; clear h) | (exfalso; omega; clear h) | skip)
          | (with_reducible refine Br.eqI (fun h => ?_) (fun h => ?_); first | (rotate_left; exfalso; omega; clear h) | (exfalso; omega; clear h) | skip)
          | (with_reducible refine Br.neI (fun h => ?_) (fun h => ?_); first | (rotate_left; exfalso; omega; clear h) | (exfalso; omega; clear h) | skip)
          | (with_reducible refine Br.eqS (fun h => ?_) (fun h => ?_); first | (rotate_left; exfalso; omega; clear h) | (exfalso; omega; clear h) | skip)
          | (with_reducible refine Br.neS (fun h => ?_) (fun h => ?_); first | (rotate_left; exfalso; omega; clear h) | (exfalso; omega; clear h) | skip)
          | (with_reducible refine Br.nd (fun h => ?_) (fun h => ?_); first | (rotate_left; exfalso; omega; clear h) | (exfalso; omega; clear h) | skip)
          | refine Ar.i64 (by omega) (by omega) ?_
          | refine call_inlineL (f := 44) Try.func44 rfl ?_
          | (refine call_sp (f := 45) (ha0) [1, 2, 3, 4] (by decide) rfl ⟨rfl, rfl, rfl, rfl, trivial⟩ rfl ?_; rintro s H1 ⟨rfl, rfl⟩)
          | (refine seg_sp (f := 45) (ha0) (fun _ => rfl) [1, 2, 3, 4] (by decide) rfl ⟨rfl, rfl, rfl, rfl, trivial⟩ rfl ?_)
          | (refine call_sp (f := 46) (hr0) [5, 6] (by decide) rfl ⟨rfl, rfl, trivial⟩ rfl ?_; rintro s H1 ⟨rfl, rfl⟩)
          | (refine seg_sp (f := 46) (hr0) (fun _ => rfl) [5, 6] (by decide) rfl ⟨rfl, rfl, trivial⟩ rfl ?_)
          | refine Need.go (by first | omega | decide | (simp <;> omega) | fail) ?_
          | refine Need.go (by first | (simp [Value.oneCell'] <;> omega) | fail) ?_
          | refine Need.go ⟨rfl, by omega, getD_one rfl rfl⟩ ?_
          | refine Need.go ⟨rfl, by omega, fun _ _ _ _ => rfl⟩ ?_
          | refine Br.both (fun h => ?_) (fun h => ?_))
      all_goals (conv => whnf)
      refine ⟨(k + 1, lg), ⟨by simp only; omega, hinv, hin, by simp only; omega⟩, by simp only; omega, ?_⟩
      dsimp only
      (conv => whnf)
      refine ⟨[some 0, some 1, some 2, some 3, some 4, some 5, some 6], by decide, ?_, ?_⟩
      all_goals repeat' (first | exact leT_junk rfl | refine And.intro ?_ ?_ | exact trivial | exact .inl ⟨rfl, rfl⟩ | rfl | exact .inr ⟨_, rfl, rfl, rfl⟩ | exact ⟨_, rfl, trivial⟩ | exact ⟨_, rfl, rfl⟩ | exact ⟨_, rfl, ⟨rfl, rfl, rfl⟩, fun _ _ _ _ => rfl⟩ | exact ⟨_, rfl, ⟨rfl, rfl, .inl rfl⟩, rfl⟩ | exact ⟨_, rfl, ⟨rfl, rfl, .inr rfl⟩, rfl⟩ | exact ⟨_, rfl, ⟨rfl, rfl, rfl, rfl, rfl⟩, rfl⟩ | exact ⟨_, rfl, ⟨rfl, rfl⟩, fun _ => Iff.rfl⟩ | refine ⟨_, rfl, rfl, ?_⟩ | refine ⟨_, rfl, ⟨rfl, rfl, rfl⟩, ?_⟩)
  · obtain rfl : k = l.length := by omega
    by_cases hsq : ∃ e ∈ lg.ents, 1099511627776 < e.seq
    · have hO := shOf_no lg hlo hsq
      have hR := rshOf_no lg.ents (by omega) hsq
      have hz : SmallS shZ := ⟨Nat.zero_le _, Nat.zero_le _⟩
      have nilS : ∀ (w : World) (sz : Nat) (f : Nat → Nat → Value), SliceV w (.slice none 0 0) sz 0 f := fun w sz f => ⟨none, 0, rfl, Nat.le_refl _, Nat.zero_le _, fun h => absurd h (by omega)⟩
      repeat' ((conv => whnf); first
          | refine CutN.plain ?_
          | with_reducible refine Br.tt ?_
          | with_reducible refine Br.ff ?_
          | with_reducible refine Br.nt ?_
          | with_reducible refine Br.nf ?_
          | with_reducible refine Br.eeI ?_
          | with_reducible refine Br.nnI ?_
          | refine Br.yes (by decide) ?_
          | refine Br.no (by decide) ?_
          | refine Need.go rfl ?_
          | refine QuiD.quiet (by kernel_rfl) ?_
          | refine IdxN.lit ?_
          | refine draw_go tabOK (by kernel_rfl) ?_
          | refine Need.go ⟨rfl, rfl⟩ ?_
          | refine Need.go ⟨⟨rfl, rfl, rfl⟩, rfl⟩ ?_
          | (with_reducible refine Br.dec (fun h => ?_) (fun h => ?_); first | (rotate_left; exfalso; omega; clear h) | (exfalso; omega; clear h) | skip)
          | (with_reducible refine Br.eqI (fun h => ?_) (fun h => ?_); first | (rotate_left; exfalso; omega; clear h) | (exfalso; omega; clear h) | skip)
          | (with_reducible refine Br.neI (fun h => ?_) (fun h => ?_); first | (rotate_left; exfalso; omega; clear h) | (exfalso; omega; clear h) | skip)
          | (with_reducible refine Br.eqS (fun h => ?_) (fun h => ?_); first | (rotate_left; exfalso; omega; clear h) | (exfalso; omega; clear h) | skip)
          | (with_reducible refine Br.neS (fun h => ?_) (fun h => ?_); first | (rotate_left; exfalso; omega; clear h) | (exfalso; omega; clear h) | skip)
          | (with_reducible refine Br.nd (fun h => ?_) (fun h => ?_); first | (rotate_left; exfalso; omega; clear h) | (exfalso; omega; clear h) | skip)
          | refine Ar.i64 (by omega) (by omega) ?_
          | (refine call_sp (f := 47) (hO) [1, 2, 3, 4] (by decide) rfl ⟨rfl, rfl, rfl, rfl, trivial⟩ rfl ?_; rintro s H1 ⟨rfl, rfl⟩)
          | (refine seg_sp (f := 47) (hO) (fun _ => rfl) [1, 2, 3, 4] (by decide) rfl ⟨rfl, rfl, rfl, rfl, trivial⟩ rfl ?_)
          | (refine docS_n shZ (.v (.slice none 0 0)) (.v (.slice none 0 0)) ?_ ?_ hz ?_; exact fun ρ w h => nilS w 3 _; exact fun ρ w h => nilS w 6 _)
          | (refine call_sp (f := 48) (hR) [5, 6] (by decide) rfl ⟨rfl, rfl, trivial⟩ rfl ?_; rintro s H1 ⟨rfl, rfl⟩)
          | (refine seg_sp (f := 48) (hR) (fun _ => rfl) [5, 6] (by decide) rfl ⟨rfl, rfl, trivial⟩ rfl ?_)
          | (refine call_mem (f := 41) (args := [shS shZ (.os 7 0) (.os 8 0), shS shZ (.v (.slice none 0 0)) (.v (.slice none 0 0))]) (V := .bool true) ?_ ?_; exact fun ρ w h => (by have := rshSame_any shZ shZ _ _ _ _ w (sl_os h (i := 7) rfl) (sl_os h (i := 8) rfl) (nilS w 3 _) (nilS w 6 _) hz; rw [show sameShB shZ shZ = true from decide_eq_true rfl] at this; exact this))
          | (refine quiet_mem (f := 41) (args := [shS shZ (.os 7 0) (.os 8 0), shS shZ (.v (.slice none 0 0)) (.v (.slice none 0 0))]) (V := .bool true) ?_ ?_; exact fun ρ w h => (by have := rshSame_any shZ shZ _ _ _ _ w (sl_os h (i := 7) rfl) (sl_os h (i := 8) rfl) (nilS w 3 _) (nilS w 6 _) hz; rw [show sameShB shZ shZ = true from decide_eq_true rfl] at this; exact this))
          | (refine seg_mem (f := 41) (args := [shS shZ (.os 7 0) (.os 8 0), shS shZ (.v (.slice none 0 0)) (.v (.slice none 0 0))]) (V := .bool true) ?_ ?_; exact fun ρ w h => (by have := rshSame_any shZ shZ _ _ _ _ w (sl_os h (i := 7) rfl) (sl_os h (i := 8) rfl) (nilS w 3 _) (nilS w 6 _) hz; rw [show sameShB shZ shZ = true from decide_eq_true rfl] at this; exact this))
          | (refine call_sv (f := 47) (args := [.v (.pointer none)]) (s := .agg [.v (.int .i64 0), .v (.slice none 0 0), .v (.slice none 0 0)]) (fun _ => rfl) ?_ ?_; exact fun ρ w h => shOf_nil w)
          | (refine seg_sv (f := 47) (args := [.v (.pointer none)]) (s := .agg [.v (.int .i64 0), .v (.slice none 0 0), .v (.slice none 0 0)]) (fun _ => rfl) ?_ ?_; exact fun ρ w h => shOf_nil w)
          | (refine call_mem (f := 39) (args := []) (V := .bool true) ?_ ?_; exact fun ρ w h => shot27_any w)
          | (refine quiet_mem (f := 39) (args := []) (V := .bool true) ?_ ?_; exact fun ρ w h => shot27_any w)
          | (refine seg_mem (f := 39) (args := []) (V := .bool true) ?_ ?_; exact fun ρ w h => shot27_any w)
          | refine Need.go (by first | omega | decide | (simp <;> omega) | fail) ?_
          | refine Need.go (by first | (simp [Value.oneCell'] <;> omega) | fail) ?_
          | refine Need.go ⟨rfl, by omega, getD_one rfl rfl⟩ ?_
          | refine Need.go ⟨rfl, by omega, fun _ _ _ _ => rfl⟩ ?_
          | refine Br.both (fun h => ?_) (fun h => ?_))
      all_goals (conv => whnf)
      all_goals exact ret_pure (fun _ => rfl)
    · have hsq' : ∀ e ∈ lg.ents, e.seq ≤ 1099511627776 := fun e he => Int.not_lt.1 fun h => hsq ⟨e, he, h⟩
      have hO := shOf_yes lg hlo hin hsq'
      have hR := rshOf_yes lg.ents (by omega) hsq'
      have hst := small_of (l := lg.ents) (by omega)
      rw [ofO_doc hinv] at hO
      generalize rofO lg.ents = t at hO hR hst
      repeat' ((conv => whnf); first
          | refine CutN.plain ?_
          | with_reducible refine Br.tt ?_
          | with_reducible refine Br.ff ?_
          | with_reducible refine Br.nt ?_
          | with_reducible refine Br.nf ?_
          | with_reducible refine Br.eeI ?_
          | with_reducible refine Br.nnI ?_
          | refine Br.yes (by decide) ?_
          | refine Br.no (by decide) ?_
          | refine Need.go rfl ?_
          | refine QuiD.quiet (by kernel_rfl) ?_
          | refine IdxN.lit ?_
          | refine draw_go tabOK (by kernel_rfl) ?_
          | refine Need.go ⟨rfl, rfl⟩ ?_
          | refine Need.go ⟨⟨rfl, rfl, rfl⟩, rfl⟩ ?_
          | (with_reducible refine Br.dec (fun h => ?_) (fun h => ?_); first | (rotate_left; exfalso; omega; clear h) | (exfalso; omega; clear h) | skip)
          | (with_reducible refine Br.eqI (fun h => ?_) (fun h => ?_); first | (rotate_left; exfalso; omega; clear h) | (exfalso; omega; clear h) | skip)
          | (with_reducible refine Br.neI (fun h => ?_) (fun h => ?_); first | (rotate_left; exfalso; omega; clear h) | (exfalso; omega; clear h) | skip)
          | (with_reducible refine Br.eqS (fun h => ?_) (fun h => ?_); first | (rotate_left; exfalso; omega; clear h) | (exfalso; omega; clear h) | skip)
          | (with_reducible refine Br.neS (fun h => ?_) (fun h => ?_); first | (rotate_left; exfalso; omega; clear h) | (exfalso; omega; clear h) | skip)
          | (with_reducible refine Br.nd (fun h => ?_) (fun h => ?_); first | (rotate_left; exfalso; omega; clear h) | (exfalso; omega; clear h) | skip)
          | refine Ar.i64 (by omega) (by omega) ?_
          | (refine call_sp (f := 47) (hO) [1, 2, 3, 4] (by decide) rfl ⟨rfl, rfl, rfl, rfl, trivial⟩ rfl ?_; rintro s H1 ⟨rfl, rfl⟩)
          | (refine seg_sp (f := 47) (hO) (fun _ => rfl) [1, 2, 3, 4] (by decide) rfl ⟨rfl, rfl, rfl, rfl, trivial⟩ rfl ?_)
          | (refine docS_n t (.os 7 t.cells.length) (.os 8 t.lasts.length) ?_ ?_ hst ?_; exact fun ρ w h => sl_os h (i := 7) rfl; exact fun ρ w h => sl_os h (i := 8) rfl)
          | (refine call_sp (f := 48) (hR) [5, 6] (by decide) rfl ⟨rfl, rfl, trivial⟩ rfl ?_; rintro s H1 ⟨rfl, rfl⟩)
          | (refine seg_sp (f := 48) (hR) (fun _ => rfl) [5, 6] (by decide) rfl ⟨rfl, rfl, trivial⟩ rfl ?_)
          | (refine call_mem (f := 41) (args := [shS t (.os 9 t.cells.length) (.os 10 t.lasts.length), shS t (.os 11 t.cells.length) (.os 12 t.lasts.length)]) (V := .bool true) ?_ ?_; exact fun ρ w h => (by have := rshSame_any t t _ _ _ _ w (sl_os h (i := 9) rfl) (sl_os h (i := 10) rfl) (sl_os h (i := 11) rfl) (sl_os h (i := 12) rfl) hst; rw [show sameShB t t = true from decide_eq_true rfl] at this; exact this))
          | (refine quiet_mem (f := 41) (args := [shS t (.os 9 t.cells.length) (.os 10 t.lasts.length), shS t (.os 11 t.cells.length) (.os 12 t.lasts.length)]) (V := .bool true) ?_ ?_; exact fun ρ w h => (by have := rshSame_any t t _ _ _ _ w (sl_os h (i := 9) rfl) (sl_os h (i := 10) rfl) (sl_os h (i := 11) rfl) (sl_os h (i := 12) rfl) hst; rw [show sameShB t t = true from decide_eq_true rfl] at this; exact this))
          | (refine seg_mem (f := 41) (args := [shS t (.os 9 t.cells.length) (.os 10 t.lasts.length), shS t (.os 11 t.cells.length) (.os 12 t.lasts.length)]) (V := .bool true) ?_ ?_; exact fun ρ w h => (by have := rshSame_any t t _ _ _ _ w (sl_os h (i := 9) rfl) (sl_os h (i := 10) rfl) (sl_os h (i := 11) rfl) (sl_os h (i := 12) rfl) hst; rw [show sameShB t t = true from decide_eq_true rfl] at this; exact this))
          | (refine call_sv (f := 47) (args := [.v (.pointer none)]) (s := .agg [.v (.int .i64 0), .v (.slice none 0 0), .v (.slice none 0 0)]) (fun _ => rfl) ?_ ?_; exact fun ρ w h => shOf_nil w)
          | (refine seg_sv (f := 47) (args := [.v (.pointer none)]) (s := .agg [.v (.int .i64 0), .v (.slice none 0 0), .v (.slice none 0 0)]) (fun _ => rfl) ?_ ?_; exact fun ρ w h => shOf_nil w)
          | (refine call_mem (f := 39) (args := []) (V := .bool true) ?_ ?_; exact fun ρ w h => shot27_any w)
          | (refine quiet_mem (f := 39) (args := []) (V := .bool true) ?_ ?_; exact fun ρ w h => shot27_any w)
          | (refine seg_mem (f := 39) (args := []) (V := .bool true) ?_ ?_; exact fun ρ w h => shot27_any w)
          | refine Need.go (by first | omega | decide | (simp <;> omega) | fail) ?_
          | refine Need.go (by first | (simp [Value.oneCell'] <;> omega) | fail) ?_
          | refine Need.go ⟨rfl, by omega, getD_one rfl rfl⟩ ?_
          | refine Need.go ⟨rfl, by omega, fun _ _ _ _ => rfl⟩ ?_
          | refine Br.both (fun h => ?_) (fun h => ?_))
      all_goals (conv => whnf)
      all_goals exact ret_pure (fun _ => rfl)
end Go.Proofs.Ytfkbodonidkpoaa.lawShotsOf
