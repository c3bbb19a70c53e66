/-
  The client: Take. No condition.
-/
import Derived.Test.YtghfigeepnbjaaaGreatPH
import Derived.Test.YtghfigeepnbjaaaGreatPE
import Derived.Test.YtghfigeepnbjaaaGreatP9
namespace Go.Proofs.YtghfigeepnbjaaaGreat
open Go.RowKit
abbrev rowC (c : ChM) : HE := .row 2 c.mem.length (memF c.mem)
/-- A client whose members lie elsewhere. -/
abbrev cliLm (mi : Nat) (sp : SV) (c : CliM) : List SV := [.v (.int .i64 c.id), .v (.int .i64 c.classes), .v (.int .i64 c.timeout), .v (.int .i64 c.budget), .p 1 0, .v (.int .i64 c.ch.epoch), .os mi c.ch.mem.length, .v (.int .i64 c.ch.drain), sp, .v (.int .i64 c.doing), .v (.int .i64 c.since), .v (.int .i64 c.til), .v (.bool c.unsure),
  .v (.int .i64 c.seq), .v (.int .i64 c.tries), .v (.int .i64 c.cls), .v (.int .i64 c.deadline), .v (.int .i64 c.op.kind), .v (S c.op.key), .v (S c.op.value), .v (.int .i64 c.op.version)]
theorem slP_ren (sl : SlM) {τ : List (Option Nat)} (h : renI τ 3 = 3) : (slP sl).ren τ = slP sl := by
  cases sl <;> first | rfl | (show SV.p (renI τ 3) 0 = _; rw [h]; rfl)
theorem slE_ren (sl : SlM) {τ : List (Option Nat)} : (slE sl).ren τ = slE sl := by cases sl <;> rfl
theorem slP_leT (sl : SlM) {τ : List (Option Nat)} : leC (some 0 :: some 1 :: some 2 :: some 3 :: τ) (slP sl) (slP sl) := by cases sl <;> exact .inl ⟨rfl, rfl⟩
theorem kept_row {sl : SlM} {r d : HE} {l : List HE} (hr : keptR [r] (r :: l)) : keptR [d, r] (slE sl :: r :: l) := by
  cases sl <;> exact hr
theorem named_cli {H : List HE} {τ : List (Option Nat)} {mi : Nat} (sl : SlM) (c : CliM) (hsl : c.sl = sl) (ht : τ = [some 0, some 1, some mi, some 3]) (h0 : H[0]? = some (.blk 78 (cliLm mi (slP sl) c))) (h1 : H[1]? = some (bkE c.bk)) (h2 : H[mi]? = some (memC c.ch)) (h3 : H[3]? = some (slE sl)) : namedAt H τ [0, 1, mi, 3] (cliH c) := by
  subst ht
  refine ⟨?_, h1, h2, ?_, trivial⟩
  · rw [h0]
    show some (HE.blk 78 (cliLm mi (slP sl) c)) = some (HE.blk 78 (SV.renL _ (cliL (slP c.sl) c)))
    rw [hsl]
    simp only [SV.renL, slP_ren sl (τ := [some 0, some 1, some mi, some 3]) rfl]
    rfl
  · rw [h3, hsl, slE_ren]
theorem spσ4 (mi n : Nat) : spσ [0, 1, mi, 3] n 0 = [some 0, some 1, some mi, some 3] := rfl
/-- What is left, as OutO tells it. -/
theorem outT_stay {r : CliM × List SndM} {H1 : List HE} {mi : Nat} (sl : SlM) (hsl : r.1.sl = sl) (hl : r.2 = []) (hm : mi ≠ 0 ∧ mi ≠ 1 ∧ mi ≠ 3) (h0 : H1[0]? = some (.blk 78 (cliLm mi (slP sl) r.1))) (h1 : H1[1]? = some (bkE r.1.bk)) (h2 : H1[mi]? = some (memC r.1.ch)) (h3 : H1[3]? = some (slE sl)) :
    OutO (cliH r.1) 68 30 r.2.length (sndF r.2 fun _ => .slice none 0 0) (fun q => q) (.v (.slice none 0 0)) H1 :=
  ⟨[0, 1, mi, 3], ⟨by simp; omega, rfl⟩, named_cli sl r.1 hsl (spσ4 _ _) h0 h1 h2 h3, .inl ⟨by rw [hl]; rfl, rfl⟩⟩
theorem outT_some {r : CliM × List SndM} {l : List SndM} {H1 : List HE} {mi i : Nat} (sl : SlM) (hsl : r.1.sl = sl) (hl : r.2 = l) (hm : mi ≠ 0 ∧ mi ≠ 1 ∧ mi ≠ 3) (hi : i ≠ 0 ∧ i ≠ 1 ∧ i ≠ mi ∧ i ≠ 3) (h0 : H1[0]? = some (.blk 78 (cliLm mi (slP sl) r.1))) (h1 : H1[1]? = some (bkE r.1.bk)) (h2 : H1[mi]? = some (memC r.1.ch)) (h3 : H1[3]? = some (slE sl)) (h4 : H1[i]? = some (sndC1 l)) :
    OutO (cliH r.1) 68 30 r.2.length (sndF r.2 fun _ => .slice none 0 0) (fun q => q) (.os i l.length) H1 :=
  ⟨[0, 1, mi, 3], ⟨by simp; omega, rfl⟩, named_cli sl r.1 hsl (spσ4 _ _) h0 h1 h2 h3, .inr ⟨i, by simp; omega, by rw [hl], by rw [hl]; exact h4⟩⟩
abbrev TakeS (c : CliM) (f : FrM) (now : Int) : Prop := ∀ cap, f.ch.mem.length ≤ cap → cap ≤ maxLen → Spec Tryz.prog 15 [.p 0 0, frS f (.rs 4 f.ch.mem.length cap), .v (.int .i64 now)] (cliH c ++ [rowC f.ch])
  (OutO (cliH (takeC c f (nearC now)).1) 68 30 (takeC c f (nearC now)).2.length (sndF (takeC c f (nearC now)).2 fun _ => .slice none 0 0) fun q => q)
theorem less5 {m : List HE} {s s0 : SV} {H' H1 : List HE} {τ : List (Option Nat)} (hl : m.length = 5) (hτ : (τ.filterMap id).Nodup ∧ idpB 0 5 τ = true) (h1 : leH H' τ τ H1) (h2 : leT τ [s] [s0]) : Less m.length [s] H' [s0] H1 := ⟨τ, by rw [hl]; exact hτ, h1, h2⟩
set_option maxRecDepth 100000 in
set_option maxHeartbeats 8000000 in
theorem cliTake_no8 (c : CliM) (hc : c.ok) (f : FrM) (hfl : f.ch.mem.length ≤ 1000000) (now : Int) (hk : f.kind = 8) (hx : okCh f.ch = false) : TakeS c f now := by
  intro cap h1 h2
  have hmd := hc.made
  have hn : 0 ≤ nearC now ∧ nearC now ≤ 1099511627776 := by unfold nearC; omega
  obtain ⟨n, hnn⟩ : ∃ n, nearC now = n := ⟨_, rfl⟩
  rw [hnn] at hn ⊢
  have hw := fun w => hnn ▸ cliWithin_any now w
  have e : takeC c f n = (c, []) := by unfold takeC; rw [if_pos hk, if_pos (.inl hx)]
  rw [e]
  obtain ⟨sl, hsl⟩ : ∃ sl, c.sl = sl := ⟨_, rfl⟩
  refine Spec.mono (R := fun s H1 => s = .v (.slice none 0 0) ∧ H1 = cliG (slP sl) (slE sl) c ++ [rowC f.ch]) ?_ (fun s H1 h => by rw [h.1, h.2]; exact outT_stay sl hsl rfl ⟨by decide, by decide, by decide⟩ rfl rfl rfl rfl)
  unfold cliH
  rw [hsl]
  refine spec_x Tryz.func15 rfl 5 rfl rfl fun w0 U => ?_
  all_goals
    repeat' ((conv => whnf); first
        | refine CutN.plain ?_
        | with_reducible refine Br.tt ?_
        | with_reducible refine Br.ff ?_
        | with_reducible refine Br.nt ?_
        | with_reducible refine Br.nf ?_
        | with_reducible refine Br.eeI ?_
        | with_reducible refine Br.nnI ?_
        | refine Br.yes (by decide) ?_
        | refine Br.no (by decide) ?_
        | refine AppN.own ?_
        | refine Need.go rfl ?_
        | refine QuiD.quiet (by kernel_rfl) ?_
        | refine IdxN.lit ?_
        | refine draw_go tabOK (by kernel_rfl) ?_
        | refine Need.go ⟨rfl, rfl⟩ ?_
        | refine Need.go ⟨⟨rfl, rfl, rfl⟩, rfl⟩ ?_
        | (with_reducible refine Br.dec (fun h => ?_) (fun h => ?_); first | (rotate_left; exfalso; omega; clear h) | (exfalso; omega; clear h) | skip)
        | (with_reducible refine Br.eqI (fun h => ?_) (fun h => ?_); first | (rotate_left; exfalso; omega; clear h) | (exfalso; omega; clear h) | skip)
        | (with_reducible refine Br.neI (fun h => ?_) (fun h => ?_); first | (rotate_left; exfalso; omega; clear h) | (exfalso; omega; clear h) | skip)
        | (with_reducible refine Br.eqS (fun h => ?_) (fun h => ?_); first | (rotate_left; exfalso; omega; clear h) | (exfalso; omega; clear h) | skip)
        | (with_reducible refine Br.neS (fun h => ?_) (fun h => ?_); first | (rotate_left; exfalso; omega; clear h) | (exfalso; omega; clear h) | skip)
        | (with_reducible refine Br.nd (fun h => ?_) (fun h => ?_); first | (rotate_left; exfalso; omega; clear h) | (exfalso; omega; clear h) | skip)
        | refine Ar.i64 (by omega) (by omega) ?_
        | refine call_inlineL (f := 27) Tryz.func27 rfl ?_
        | refine call_inlineL (f := 21) Tryz.func21 rfl ?_
        | (refine call_mem (f := 29) (args := [.v (.int .i64 now)]) (V := .int .i64 n) ?_ ?_; exact fun ρ w h => hw w)
        | (refine quiet_mem (f := 29) (args := [.v (.int .i64 now)]) (V := .int .i64 n) ?_ ?_; exact fun ρ w h => hw w)
        | (refine seg_mem (f := 29) (args := [.v (.int .i64 now)]) (V := .int .i64 n) ?_ ?_; exact fun ρ w h => hw w)
        | (refine call_mem (f := 43) (args := [chS f.ch (.rs 4 f.ch.mem.length cap)]) (V := .int .i64 2) ?_ ?_; exact fun ρ w h => (by have := chCheck_any f.ch _ w (sl_rs h (i := 4) rfl (Nat.le_refl _) h1 h2) hfl; rw [hx] at this; exact this))
        | (refine quiet_mem (f := 43) (args := [chS f.ch (.rs 4 f.ch.mem.length cap)]) (V := .int .i64 2) ?_ ?_; exact fun ρ w h => (by have := chCheck_any f.ch _ w (sl_rs h (i := 4) rfl (Nat.le_refl _) h1 h2) hfl; rw [hx] at this; exact this))
        | (refine seg_mem (f := 43) (args := [chS f.ch (.rs 4 f.ch.mem.length cap)]) (V := .int .i64 2) ?_ ?_; exact fun ρ w h => (by have := chCheck_any f.ch _ w (sl_rs h (i := 4) rfl (Nat.le_refl _) h1 h2) hfl; rw [hx] at this; exact this))
        | refine Need.go (by first | omega | decide | (simp <;> omega) | fail) ?_
        | refine Need.go (by first | (simp [Value.oneCell'] <;> omega) | fail) ?_
        | refine Need.go ⟨rfl, by omega, getD_one rfl rfl⟩ ?_
        | refine Need.go ⟨rfl, by omega, fun _ _ _ _ => rfl⟩ ?_
        | refine Br.both (fun h => ?_) (fun h => ?_))
    all_goals (conv => whnf)
    all_goals
      refine ⟨_, _, ⟨rfl, rfl⟩, by simp, kept_row ⟨rfl, trivial⟩, less5 (τ := [some 0, some 1, some 2, some 3, some 4]) rfl ⟨by decide, rfl⟩ ?_ ?_⟩
      all_goals repeat' (first | exact slP_leT _ | exact slE_le _ rfl | exact leT_junk rfl | refine And.intro ?_ ?_ | exact trivial | exact .inl ⟨rfl, rfl⟩ | rfl | exact .inr ⟨_, rfl, rfl, rfl⟩ | exact ⟨_, rfl, trivial⟩ | exact ⟨_, rfl, rfl⟩ | exact ⟨_, rfl, ⟨rfl, rfl, rfl⟩, fun _ _ _ _ => rfl⟩ | exact ⟨_, rfl, ⟨rfl, rfl, .inl rfl⟩, rfl⟩ | exact ⟨_, rfl, ⟨rfl, rfl, .inr rfl⟩, rfl⟩ | exact ⟨_, rfl, ⟨rfl, rfl, rfl, rfl, rfl⟩, rfl⟩ | exact ⟨_, rfl, ⟨rfl, rfl⟩, fun _ => Iff.rfl⟩ | refine ⟨_, rfl, rfl, ?_⟩ | refine ⟨_, rfl, ⟨rfl, rfl, rfl⟩, ?_⟩)
set_option maxRecDepth 100000 in
set_option maxHeartbeats 8000000 in
theorem cliTake_lo8 (c : CliM) (hc : c.ok) (f : FrM) (hfl : f.ch.mem.length ≤ 1000000) (now : Int) (hk : f.kind = 8) (ho : okCh f.ch = true) (hx : f.ch.epoch < c.ch.epoch) : TakeS c f now := by
  intro cap h1 h2
  have hmd := hc.made
  have hn : 0 ≤ nearC now ∧ nearC now ≤ 1099511627776 := by unfold nearC; omega
  obtain ⟨n, hnn⟩ : ∃ n, nearC now = n := ⟨_, rfl⟩
  rw [hnn] at hn ⊢
  have hw := fun w => hnn ▸ cliWithin_any now w
  have e : takeC c f n = (c, []) := by unfold takeC; rw [if_pos hk, if_pos (.inr hx)]
  rw [e]
  obtain ⟨sl, hsl⟩ : ∃ sl, c.sl = sl := ⟨_, rfl⟩
  refine Spec.mono (R := fun s H1 => s = .v (.slice none 0 0) ∧ H1 = cliG (slP sl) (slE sl) c ++ [rowC f.ch]) ?_ (fun s H1 h => by rw [h.1, h.2]; exact outT_stay sl hsl rfl ⟨by decide, by decide, by decide⟩ rfl rfl rfl rfl)
  unfold cliH
  rw [hsl]
  refine spec_x Tryz.func15 rfl 5 rfl rfl fun w0 U => ?_
  all_goals
    repeat' ((conv => whnf); first
        | refine CutN.plain ?_
        | with_reducible refine Br.tt ?_
        | with_reducible refine Br.ff ?_
        | with_reducible refine Br.nt ?_
        | with_reducible refine Br.nf ?_
        | with_reducible refine Br.eeI ?_
        | with_reducible refine Br.nnI ?_
        | refine Br.yes (by decide) ?_
        | refine Br.no (by decide) ?_
        | refine AppN.own ?_
        | refine Need.go rfl ?_
        | refine QuiD.quiet (by kernel_rfl) ?_
        | refine IdxN.lit ?_
        | refine draw_go tabOK (by kernel_rfl) ?_
        | refine Need.go ⟨rfl, rfl⟩ ?_
        | refine Need.go ⟨⟨rfl, rfl, rfl⟩, rfl⟩ ?_
        | (with_reducible refine Br.dec (fun h => ?_) (fun h => ?_); first | (rotate_left; exfalso; omega; clear h) | (exfalso; omega; clear h) | skip)
        | (with_reducible refine Br.eqI (fun h => ?_) (fun h => ?_); first | (rotate_left; exfalso; omega; clear h) | (exfalso; omega; clear h) | skip)
        | (with_reducible refine Br.neI (fun h => ?_) (fun h => ?_); first | (rotate_left; exfalso; omega; clear h) | (exfalso; omega; clear h) | skip)
        | (with_reducible refine Br.eqS (fun h => ?_) (fun h => ?_); first | (rotate_left; exfalso; omega; clear h) | (exfalso; omega; clear h) | skip)
        | (with_reducible refine Br.neS (fun h => ?_) (fun h => ?_); first | (rotate_left; exfalso; omega; clear h) | (exfalso; omega; clear h) | skip)
        | (with_reducible refine Br.nd (fun h => ?_) (fun h => ?_); first | (rotate_left; exfalso; omega; clear h) | (exfalso; omega; clear h) | skip)
        | refine Ar.i64 (by omega) (by omega) ?_
        | refine call_inlineL (f := 27) Tryz.func27 rfl ?_
        | refine call_inlineL (f := 21) Tryz.func21 rfl ?_
        | (refine call_mem (f := 29) (args := [.v (.int .i64 now)]) (V := .int .i64 n) ?_ ?_; exact fun ρ w h => hw w)
        | (refine quiet_mem (f := 29) (args := [.v (.int .i64 now)]) (V := .int .i64 n) ?_ ?_; exact fun ρ w h => hw w)
        | (refine seg_mem (f := 29) (args := [.v (.int .i64 now)]) (V := .int .i64 n) ?_ ?_; exact fun ρ w h => hw w)
        | (refine call_mem (f := 43) (args := [chS f.ch (.rs 4 f.ch.mem.length cap)]) (V := .int .i64 0) ?_ ?_; exact fun ρ w h => (by have := chCheck_any f.ch _ w (sl_rs h (i := 4) rfl (Nat.le_refl _) h1 h2) hfl; rw [ho] at this; exact this))
        | (refine quiet_mem (f := 43) (args := [chS f.ch (.rs 4 f.ch.mem.length cap)]) (V := .int .i64 0) ?_ ?_; exact fun ρ w h => (by have := chCheck_any f.ch _ w (sl_rs h (i := 4) rfl (Nat.le_refl _) h1 h2) hfl; rw [ho] at this; exact this))
        | (refine seg_mem (f := 43) (args := [chS f.ch (.rs 4 f.ch.mem.length cap)]) (V := .int .i64 0) ?_ ?_; exact fun ρ w h => (by have := chCheck_any f.ch _ w (sl_rs h (i := 4) rfl (Nat.le_refl _) h1 h2) hfl; rw [ho] at this; exact this))
        | refine Need.go (by first | omega | decide | (simp <;> omega) | fail) ?_
        | refine Need.go (by first | (simp [Value.oneCell'] <;> omega) | fail) ?_
        | refine Need.go ⟨rfl, by omega, getD_one rfl rfl⟩ ?_
        | refine Need.go ⟨rfl, by omega, fun _ _ _ _ => rfl⟩ ?_
        | refine Br.both (fun h => ?_) (fun h => ?_))
    all_goals (conv => whnf)
    all_goals
      refine ⟨_, _, ⟨rfl, rfl⟩, by simp, kept_row ⟨rfl, trivial⟩, less5 (τ := [some 0, some 1, some 2, some 3, some 4]) rfl ⟨by decide, rfl⟩ ?_ ?_⟩
      all_goals repeat' (first | exact slP_leT _ | exact slE_le _ rfl | exact leT_junk rfl | refine And.intro ?_ ?_ | exact trivial | exact .inl ⟨rfl, rfl⟩ | rfl | exact .inr ⟨_, rfl, rfl, rfl⟩ | exact ⟨_, rfl, trivial⟩ | exact ⟨_, rfl, rfl⟩ | exact ⟨_, rfl, ⟨rfl, rfl, rfl⟩, fun _ _ _ _ => rfl⟩ | exact ⟨_, rfl, ⟨rfl, rfl, .inl rfl⟩, rfl⟩ | exact ⟨_, rfl, ⟨rfl, rfl, .inr rfl⟩, rfl⟩ | exact ⟨_, rfl, ⟨rfl, rfl, rfl, rfl, rfl⟩, rfl⟩ | exact ⟨_, rfl, ⟨rfl, rfl⟩, fun _ => Iff.rfl⟩ | refine ⟨_, rfl, rfl, ?_⟩ | refine ⟨_, rfl, ⟨rfl, rfl, rfl⟩, ?_⟩)
set_option maxRecDepth 100000 in
set_option maxHeartbeats 8000000 in
theorem cliTake_no2 (c : CliM) (hc : c.ok) (f : FrM) (hfl : f.ch.mem.length ≤ 1000000) (now : Int) (hk : f.kind = 2) (hx : ¬ (¬ c.doing = 0 ∧ f.client = c.id ∧ f.seq = c.seq)) : TakeS c f now := by
  intro cap h1 h2
  have hmd := hc.made
  have hn : 0 ≤ nearC now ∧ nearC now ≤ 1099511627776 := by unfold nearC; omega
  obtain ⟨n, hnn⟩ : ∃ n, nearC now = n := ⟨_, rfl⟩
  rw [hnn] at hn ⊢
  have hw := fun w => hnn ▸ cliWithin_any now w
  have e : takeC c f n = (c, []) := by unfold takeC; rw [if_neg (by omega), if_pos hk, if_neg hx]
  rw [e]
  obtain ⟨sl, hsl⟩ : ∃ sl, c.sl = sl := ⟨_, rfl⟩
  refine Spec.mono (R := fun s H1 => s = .v (.slice none 0 0) ∧ H1 = cliG (slP sl) (slE sl) c ++ [rowC f.ch]) ?_ (fun s H1 h => by rw [h.1, h.2]; exact outT_stay sl hsl rfl ⟨by decide, by decide, by decide⟩ rfl rfl rfl rfl)
  have hB := cliBusy c hc
  unfold cliH at hB ⊢
  rw [hsl] at hB ⊢
  cases sl
  all_goals
    refine spec_x Tryz.func15 rfl 5 rfl rfl fun w0 U => ?_
    rcases (show c.doing = 0 ∨ (¬ c.doing = 0 ∧ ¬ f.client = c.id) ∨ (¬ c.doing = 0 ∧ f.client = c.id ∧ ¬ f.seq = c.seq) by omega) with hx | hx | hx
    all_goals
      repeat' ((conv => whnf); first
          | refine QuiD.draw (draw_go tabOK (by kernel_rfl) ?_)
          | refine CutN.plain ?_
          | with_reducible refine Br.tt ?_
          | with_reducible refine Br.ff ?_
          | with_reducible refine Br.nt ?_
          | with_reducible refine Br.nf ?_
          | with_reducible refine Br.eeI ?_
          | with_reducible refine Br.nnI ?_
          | refine Br.yes (by decide) ?_
          | refine Br.no (by decide) ?_
          | refine AppN.own ?_
          | refine Need.go rfl ?_
          | refine QuiD.quiet (by kernel_rfl) ?_
          | refine IdxN.lit ?_
          | refine draw_go tabOK (by kernel_rfl) ?_
          | refine Need.go ⟨rfl, rfl⟩ ?_
          | refine Need.go ⟨⟨rfl, rfl, rfl⟩, rfl⟩ ?_
          | (with_reducible refine Br.dec (fun h => ?_) (fun h => ?_); first | (rotate_left; exfalso; omega; clear h) | (exfalso; omega; clear h) | skip)
          | (with_reducible refine Br.eqI (fun h => ?_) (fun h => ?_); first | (rotate_left; exfalso; omega; clear h) | (exfalso; omega; clear h) | skip)
          | (with_reducible refine Br.neI (fun h => ?_) (fun h => ?_); first | (rotate_left; exfalso; omega; clear h) | (exfalso; omega; clear h) | skip)
          | (with_reducible refine Br.eqS (fun h => ?_) (fun h => ?_); first | (rotate_left; exfalso; omega; clear h) | (exfalso; omega; clear h) | skip)
          | (with_reducible refine Br.neS (fun h => ?_) (fun h => ?_); first | (rotate_left; exfalso; omega; clear h) | (exfalso; omega; clear h) | skip)
          | (with_reducible refine Br.nd (fun h => ?_) (fun h => ?_); first | (rotate_left; exfalso; omega; clear h) | (exfalso; omega; clear h) | skip)
          | refine Ar.i64 (by omega) (by omega) ?_
          | refine call_inlineL (f := 27) Tryz.func27 rfl ?_
          | (refine call_sp (f := 21) (hB) [0, 1, 2, 3] (by decide) rfl ⟨rfl, rfl, rfl, rfl, trivial⟩ rfl ?_; rintro s H1 ⟨rfl, rfl⟩)
          | (refine seg_sp (f := 21) (hB) (fun _ => rfl) [0, 1, 2, 3] (by decide) rfl ⟨rfl, rfl, rfl, rfl, trivial⟩ rfl ?_)
          | (refine call_mem (f := 29) (args := [.v (.int .i64 now)]) (V := .int .i64 n) ?_ ?_; exact fun ρ w h => hw w)
          | (refine quiet_mem (f := 29) (args := [.v (.int .i64 now)]) (V := .int .i64 n) ?_ ?_; exact fun ρ w h => hw w)
          | (refine seg_mem (f := 29) (args := [.v (.int .i64 now)]) (V := .int .i64 n) ?_ ?_; exact fun ρ w h => hw w)
          | refine Need.go (by first | omega | decide | (simp <;> omega) | fail) ?_
          | refine Need.go (by first | (simp [Value.oneCell'] <;> omega) | fail) ?_
          | refine Need.go ⟨rfl, by omega, getD_one rfl rfl⟩ ?_
          | refine Need.go ⟨rfl, by omega, fun _ _ _ _ => rfl⟩ ?_
          | refine Br.both (fun h => ?_) (fun h => ?_))
      all_goals (conv => whnf)
      all_goals
        refine ⟨_, _, ⟨rfl, rfl⟩, by simp, ⟨rfl, trivial⟩, less5 (τ := [some 0, some 1, some 2, some 3, some 4]) rfl ⟨by decide, rfl⟩ ?_ ?_⟩
        all_goals repeat' (first | exact slP_leT _ | exact slE_le _ rfl | exact leT_junk rfl | refine And.intro ?_ ?_ | exact trivial | exact .inl ⟨rfl, rfl⟩ | rfl | exact .inr ⟨_, rfl, rfl, rfl⟩ | exact ⟨_, rfl, trivial⟩ | exact ⟨_, rfl, rfl⟩ | exact ⟨_, rfl, ⟨rfl, rfl, rfl⟩, fun _ _ _ _ => rfl⟩ | exact ⟨_, rfl, ⟨rfl, rfl, .inl rfl⟩, rfl⟩ | exact ⟨_, rfl, ⟨rfl, rfl, .inr rfl⟩, rfl⟩ | exact ⟨_, rfl, ⟨rfl, rfl, rfl, rfl, rfl⟩, rfl⟩ | exact ⟨_, rfl, ⟨rfl, rfl⟩, fun _ => Iff.rfl⟩ | refine ⟨_, rfl, rfl, ?_⟩ | refine ⟨_, rfl, ⟨rfl, rfl, rfl⟩, ?_⟩)
set_option maxRecDepth 100000 in
set_option maxHeartbeats 8000000 in
theorem cliTake_no3 (c : CliM) (hc : c.ok) (f : FrM) (hfl : f.ch.mem.length ≤ 1000000) (now : Int) (hk : f.kind = 3) (hx : ¬ (c.doing = 2 ∧ f.client = c.id ∧ f.seq = c.seq ∧ f.try' = c.tries)) : TakeS c f now := by
  intro cap h1 h2
  have hmd := hc.made
  have hn : 0 ≤ nearC now ∧ nearC now ≤ 1099511627776 := by unfold nearC; omega
  obtain ⟨n, hnn⟩ : ∃ n, nearC now = n := ⟨_, rfl⟩
  rw [hnn] at hn ⊢
  have hw := fun w => hnn ▸ cliWithin_any now w
  have e : takeC c f n = (c, []) := by unfold takeC; rw [if_neg (by omega), if_neg (by omega), if_pos hk, if_neg hx]
  rw [e]
  obtain ⟨sl, hsl⟩ : ∃ sl, c.sl = sl := ⟨_, rfl⟩
  refine Spec.mono (R := fun s H1 => s = .v (.slice none 0 0) ∧ H1 = cliG (slP sl) (slE sl) c ++ [rowC f.ch]) ?_ (fun s H1 h => by rw [h.1, h.2]; exact outT_stay sl hsl rfl ⟨by decide, by decide, by decide⟩ rfl rfl rfl rfl)
  unfold cliH
  rw [hsl]
  refine spec_x Tryz.func15 rfl 5 rfl rfl fun w0 U => ?_
  rcases (show ¬ c.doing = 2 ∨ (c.doing = 2 ∧ ¬ f.client = c.id) ∨ (c.doing = 2 ∧ f.client = c.id ∧ ¬ f.seq = c.seq) ∨ (c.doing = 2 ∧ f.client = c.id ∧ f.seq = c.seq ∧ ¬ f.try' = c.tries) by omega) with hx | hx | hx | hx
  all_goals
    repeat' ((conv => whnf); first
        | refine CutN.plain ?_
        | with_reducible refine Br.tt ?_
        | with_reducible refine Br.ff ?_
        | with_reducible refine Br.nt ?_
        | with_reducible refine Br.nf ?_
        | with_reducible refine Br.eeI ?_
        | with_reducible refine Br.nnI ?_
        | refine Br.yes (by decide) ?_
        | refine Br.no (by decide) ?_
        | refine AppN.own ?_
        | refine Need.go rfl ?_
        | refine QuiD.quiet (by kernel_rfl) ?_
        | refine IdxN.lit ?_
        | refine draw_go tabOK (by kernel_rfl) ?_
        | refine Need.go ⟨rfl, rfl⟩ ?_
        | refine Need.go ⟨⟨rfl, rfl, rfl⟩, rfl⟩ ?_
        | (with_reducible refine Br.dec (fun h => ?_) (fun h => ?_); first | (rotate_left; exfalso; omega; clear h) | (exfalso; omega; clear h) | skip)
        | (with_reducible refine Br.eqI (fun h => ?_) (fun h => ?_); first | (rotate_left; exfalso; omega; clear h) | (exfalso; omega; clear h) | skip)
        | (with_reducible refine Br.neI (fun h => ?_) (fun h => ?_); first | (rotate_left; exfalso; omega; clear h) | (exfalso; omega; clear h) | skip)
        | (with_reducible refine Br.eqS (fun h => ?_) (fun h => ?_); first | (rotate_left; exfalso; omega; clear h) | (exfalso; omega; clear h) | skip)
        | (with_reducible refine Br.neS (fun h => ?_) (fun h => ?_); first | (rotate_left; exfalso; omega; clear h) | (exfalso; omega; clear h) | skip)
        | (with_reducible refine Br.nd (fun h => ?_) (fun h => ?_); first | (rotate_left; exfalso; omega; clear h) | (exfalso; omega; clear h) | skip)
        | refine Ar.i64 (by omega) (by omega) ?_
        | refine call_inlineL (f := 27) Tryz.func27 rfl ?_
        | refine call_inlineL (f := 21) Tryz.func21 rfl ?_
        | (refine call_mem (f := 29) (args := [.v (.int .i64 now)]) (V := .int .i64 n) ?_ ?_; exact fun ρ w h => hw w)
        | (refine quiet_mem (f := 29) (args := [.v (.int .i64 now)]) (V := .int .i64 n) ?_ ?_; exact fun ρ w h => hw w)
        | (refine seg_mem (f := 29) (args := [.v (.int .i64 now)]) (V := .int .i64 n) ?_ ?_; exact fun ρ w h => hw w)
        | refine Need.go (by first | omega | decide | (simp <;> omega) | fail) ?_
        | refine Need.go (by first | (simp [Value.oneCell'] <;> omega) | fail) ?_
        | refine Need.go ⟨rfl, by omega, getD_one rfl rfl⟩ ?_
        | refine Need.go ⟨rfl, by omega, fun _ _ _ _ => rfl⟩ ?_
        | refine Br.both (fun h => ?_) (fun h => ?_))
    all_goals (conv => whnf)
    all_goals
      refine ⟨_, _, ⟨rfl, rfl⟩, by simp, kept_row ⟨rfl, trivial⟩, less5 (τ := [some 0, some 1, some 2, some 3, some 4]) rfl ⟨by decide, rfl⟩ ?_ ?_⟩
      all_goals repeat' (first | exact slP_leT _ | exact slE_le _ rfl | exact leT_junk rfl | refine And.intro ?_ ?_ | exact trivial | exact .inl ⟨rfl, rfl⟩ | rfl | exact .inr ⟨_, rfl, rfl, rfl⟩ | exact ⟨_, rfl, trivial⟩ | exact ⟨_, rfl, rfl⟩ | exact ⟨_, rfl, ⟨rfl, rfl, rfl⟩, fun _ _ _ _ => rfl⟩ | exact ⟨_, rfl, ⟨rfl, rfl, .inl rfl⟩, rfl⟩ | exact ⟨_, rfl, ⟨rfl, rfl, .inr rfl⟩, rfl⟩ | exact ⟨_, rfl, ⟨rfl, rfl, rfl, rfl, rfl⟩, rfl⟩ | exact ⟨_, rfl, ⟨rfl, rfl⟩, fun _ => Iff.rfl⟩ | refine ⟨_, rfl, rfl, ?_⟩ | refine ⟨_, rfl, ⟨rfl, rfl, rfl⟩, ?_⟩)
set_option maxRecDepth 100000 in
set_option maxHeartbeats 8000000 in
theorem cliTake_else (c : CliM) (hc : c.ok) (f : FrM) (hfl : f.ch.mem.length ≤ 1000000) (now : Int) (hk : ¬ f.kind = 8 ∧ ¬ f.kind = 2 ∧ ¬ f.kind = 3) : TakeS c f now := by
  intro cap h1 h2
  have hmd := hc.made
  have hn : 0 ≤ nearC now ∧ nearC now ≤ 1099511627776 := by unfold nearC; omega
  obtain ⟨n, hnn⟩ : ∃ n, nearC now = n := ⟨_, rfl⟩
  rw [hnn] at hn ⊢
  have hw := fun w => hnn ▸ cliWithin_any now w
  have e : takeC c f n = (c, []) := by unfold takeC; rw [if_neg hk.1, if_neg hk.2.1, if_neg hk.2.2]
  rw [e]
  obtain ⟨sl, hsl⟩ : ∃ sl, c.sl = sl := ⟨_, rfl⟩
  refine Spec.mono (R := fun s H1 => s = .v (.slice none 0 0) ∧ H1 = cliG (slP sl) (slE sl) c ++ [rowC f.ch]) ?_ (fun s H1 h => by rw [h.1, h.2]; exact outT_stay sl hsl rfl ⟨by decide, by decide, by decide⟩ rfl rfl rfl rfl)
  unfold cliH
  rw [hsl]
  refine spec_x Tryz.func15 rfl 5 rfl rfl fun w0 U => ?_
  all_goals
    repeat' ((conv => whnf); first
        | refine CutN.plain ?_
        | with_reducible refine Br.tt ?_
        | with_reducible refine Br.ff ?_
        | with_reducible refine Br.nt ?_
        | with_reducible refine Br.nf ?_
        | with_reducible refine Br.eeI ?_
        | with_reducible refine Br.nnI ?_
        | refine Br.yes (by decide) ?_
        | refine Br.no (by decide) ?_
        | refine AppN.own ?_
        | refine Need.go rfl ?_
        | refine QuiD.quiet (by kernel_rfl) ?_
        | refine IdxN.lit ?_
        | refine draw_go tabOK (by kernel_rfl) ?_
        | refine Need.go ⟨rfl, rfl⟩ ?_
        | refine Need.go ⟨⟨rfl, rfl, rfl⟩, rfl⟩ ?_
        | (with_reducible refine Br.dec (fun h => ?_) (fun h => ?_); first | (rotate_left; exfalso; omega; clear h) | (exfalso; omega; clear h) | skip)
        | (with_reducible refine Br.eqI (fun h => ?_) (fun h => ?_); first | (rotate_left; exfalso; omega; clear h) | (exfalso; omega; clear h) | skip)
        | (with_reducible refine Br.neI (fun h => ?_) (fun h => ?_); first | (rotate_left; exfalso; omega; clear h) | (exfalso; omega; clear h) | skip)
        | (with_reducible refine Br.eqS (fun h => ?_) (fun h => ?_); first | (rotate_left; exfalso; omega; clear h) | (exfalso; omega; clear h) | skip)
        | (with_reducible refine Br.neS (fun h => ?_) (fun h => ?_); first | (rotate_left; exfalso; omega; clear h) | (exfalso; omega; clear h) | skip)
        | (with_reducible refine Br.nd (fun h => ?_) (fun h => ?_); first | (rotate_left; exfalso; omega; clear h) | (exfalso; omega; clear h) | skip)
        | refine Ar.i64 (by omega) (by omega) ?_
        | refine call_inlineL (f := 27) Tryz.func27 rfl ?_
        | refine call_inlineL (f := 21) Tryz.func21 rfl ?_
        | (refine call_mem (f := 29) (args := [.v (.int .i64 now)]) (V := .int .i64 n) ?_ ?_; exact fun ρ w h => hw w)
        | (refine quiet_mem (f := 29) (args := [.v (.int .i64 now)]) (V := .int .i64 n) ?_ ?_; exact fun ρ w h => hw w)
        | (refine seg_mem (f := 29) (args := [.v (.int .i64 now)]) (V := .int .i64 n) ?_ ?_; exact fun ρ w h => hw w)
        | refine Need.go (by first | omega | decide | (simp <;> omega) | fail) ?_
        | refine Need.go (by first | (simp [Value.oneCell'] <;> omega) | fail) ?_
        | refine Need.go ⟨rfl, by omega, getD_one rfl rfl⟩ ?_
        | refine Need.go ⟨rfl, by omega, fun _ _ _ _ => rfl⟩ ?_
        | refine Br.both (fun h => ?_) (fun h => ?_))
    all_goals (conv => whnf)
    all_goals
      refine ⟨_, _, ⟨rfl, rfl⟩, by simp, kept_row ⟨rfl, trivial⟩, less5 (τ := [some 0, some 1, some 2, some 3, some 4]) rfl ⟨by decide, rfl⟩ ?_ ?_⟩
      all_goals repeat' (first | exact slP_leT _ | exact slE_le _ rfl | exact leT_junk rfl | refine And.intro ?_ ?_ | exact trivial | exact .inl ⟨rfl, rfl⟩ | rfl | exact .inr ⟨_, rfl, rfl, rfl⟩ | exact ⟨_, rfl, trivial⟩ | exact ⟨_, rfl, rfl⟩ | exact ⟨_, rfl, ⟨rfl, rfl, rfl⟩, fun _ _ _ _ => rfl⟩ | exact ⟨_, rfl, ⟨rfl, rfl, .inl rfl⟩, rfl⟩ | exact ⟨_, rfl, ⟨rfl, rfl, .inr rfl⟩, rfl⟩ | exact ⟨_, rfl, ⟨rfl, rfl, rfl, rfl, rfl⟩, rfl⟩ | exact ⟨_, rfl, ⟨rfl, rfl⟩, fun _ => Iff.rfl⟩ | refine ⟨_, rfl, rfl, ?_⟩ | refine ⟨_, rfl, ⟨rfl, rfl, rfl⟩, ?_⟩)
set_option maxRecDepth 100000 in
set_option maxHeartbeats 8000000 in
theorem cliTake_lay (c : CliM) (hc : c.ok) (f : FrM) (now : Int) (hk : f.kind = 8) (ho : okCh f.ch = true) (hx : ¬ f.ch.epoch < c.ch.epoch) (hd : ¬ c.doing = 1) : TakeS c f now := by
  intro cap h1 h2
  have hmd := hc.made
  have hn : 0 ≤ nearC now ∧ nearC now ≤ 1099511627776 := by unfold nearC; omega
  obtain ⟨n, hnn⟩ : ∃ n, nearC now = n := ⟨_, rfl⟩
  rw [hnn] at hn ⊢
  have hw := fun w => hnn ▸ cliWithin_any now w
  have e : takeC c f n = ({ c with ch := f.ch }, []) := by unfold takeC; rw [if_pos hk, if_neg (by rw [ho]; simp; omega), if_neg hd]
  rw [e]
  obtain ⟨f1, f6, _⟩ := okCh_len ho
  have hfl : f.ch.mem.length ≤ 1000000 := by omega
  obtain ⟨sl, hsl⟩ : ∃ sl, c.sl = sl := ⟨_, rfl⟩
  refine Spec.mono (R := fun s H1 => s = .v (.slice none 0 0) ∧ H1 = [.blk 78 (cliLm 5 (slP sl) { c with ch := f.ch }), bkE c.bk, memC c.ch, slE sl, rowC f.ch, memC f.ch]) ?_ (fun s H1 h => by rw [h.1, h.2]; exact outT_stay sl hsl rfl (mi := 5) ⟨by decide, by decide, by decide⟩ rfl rfl rfl rfl)
  unfold cliH
  rw [hsl]
  refine spec_x Tryz.func15 rfl 5 rfl rfl fun w0 U => ?_
  repeat' ((conv => whnf); first
      | refine CutN.plain ?_
      | with_reducible refine Br.tt ?_
      | with_reducible refine Br.ff ?_
      | with_reducible refine Br.nt ?_
      | with_reducible refine Br.nf ?_
      | with_reducible refine Br.eeI ?_
      | with_reducible refine Br.nnI ?_
      | refine Br.yes (by decide) ?_
      | refine Br.no (by decide) ?_
      | refine AppN.own ?_
      | refine Need.go rfl ?_
      | refine QuiD.quiet (by kernel_rfl) ?_
      | refine IdxN.lit ?_
      | refine draw_go tabOK (by kernel_rfl) ?_
      | refine Need.go ⟨rfl, rfl⟩ ?_
      | refine Need.go ⟨⟨rfl, rfl, rfl⟩, rfl⟩ ?_
      | (with_reducible refine Br.dec (fun h => ?_) (fun h => ?_); first | (rotate_left; exfalso; omega; clear h) | (exfalso; omega; clear h) | skip)
      | (with_reducible refine Br.eqI (fun h => ?_) (fun h => ?_); first | (rotate_left; exfalso; omega; clear h) | (exfalso; omega; clear h) | skip)
      | (with_reducible refine Br.neI (fun h => ?_) (fun h => ?_); first | (rotate_left; exfalso; omega; clear h) | (exfalso; omega; clear h) | skip)
      | (with_reducible refine Br.eqS (fun h => ?_) (fun h => ?_); first | (rotate_left; exfalso; omega; clear h) | (exfalso; omega; clear h) | skip)
      | (with_reducible refine Br.neS (fun h => ?_) (fun h => ?_); first | (rotate_left; exfalso; omega; clear h) | (exfalso; omega; clear h) | skip)
      | (with_reducible refine Br.nd (fun h => ?_) (fun h => ?_); first | (rotate_left; exfalso; omega; clear h) | (exfalso; omega; clear h) | skip)
      | refine Ar.i64 (by omega) (by omega) ?_
      | refine call_inlineL (f := 27) Tryz.func27 rfl ?_
      | refine call_inlineL (f := 21) Tryz.func21 rfl ?_
      | (refine call_mem (f := 29) (args := [.v (.int .i64 now)]) (V := .int .i64 n) ?_ ?_; exact fun ρ w h => hw w)
      | (refine quiet_mem (f := 29) (args := [.v (.int .i64 now)]) (V := .int .i64 n) ?_ ?_; exact fun ρ w h => hw w)
      | (refine seg_mem (f := 29) (args := [.v (.int .i64 now)]) (V := .int .i64 n) ?_ ?_; exact fun ρ w h => hw w)
      | (refine call_mem (f := 43) (args := [chS f.ch (.rs 4 f.ch.mem.length cap)]) (V := .int .i64 0) ?_ ?_; exact fun ρ w h => (by have := chCheck_any f.ch _ w (sl_rs h (i := 4) rfl (Nat.le_refl _) h1 h2) hfl; rw [ho] at this; exact this))
      | (refine quiet_mem (f := 43) (args := [chS f.ch (.rs 4 f.ch.mem.length cap)]) (V := .int .i64 0) ?_ ?_; exact fun ρ w h => (by have := chCheck_any f.ch _ w (sl_rs h (i := 4) rfl (Nat.le_refl _) h1 h2) hfl; rw [ho] at this; exact this))
      | (refine seg_mem (f := 43) (args := [chS f.ch (.rs 4 f.ch.mem.length cap)]) (V := .int .i64 0) ?_ ?_; exact fun ρ w h => (by have := chCheck_any f.ch _ w (sl_rs h (i := 4) rfl (Nat.le_refl _) h1 h2) hfl; rw [ho] at this; exact this))
      | refine Need.go ⟨rfl, Nat.le_refl _, memF_one _⟩ ?_
      | refine Need.go ⟨by omega, (Nat.mul_le_mul_right _ (show f.ch.mem.length ≤ 6 by omega)).trans (by decide)⟩ ?_
      | refine Need.go (by first | omega | decide | (simp <;> omega) | fail) ?_
      | refine Need.go (by first | (simp [Value.oneCell'] <;> omega) | fail) ?_
      | refine Need.go ⟨rfl, by omega, getD_one rfl rfl⟩ ?_
      | refine Need.go ⟨rfl, by omega, fun _ _ _ _ => rfl⟩ ?_
      | refine Br.both (fun h => ?_) (fun h => ?_))
  all_goals (conv => whnf)
  all_goals
    refine ⟨_, _, ⟨rfl, rfl⟩, by simp, kept_row ⟨rfl, trivial⟩, less5 (τ := [some 0, some 1, some 2, some 3, some 4, some 6]) rfl ⟨by decide, rfl⟩ ?_ ?_⟩
    all_goals repeat' (first | exact slP_leT _ | exact slE_le _ rfl | exact leT_junk rfl | refine And.intro ?_ ?_ | exact trivial | exact .inl ⟨rfl, rfl⟩ | rfl | exact .inr ⟨_, rfl, rfl, rfl⟩ | exact ⟨_, rfl, trivial⟩ | exact ⟨_, rfl, rfl⟩ | exact ⟨_, rfl, ⟨rfl, rfl, rfl⟩, fun _ _ _ _ => rfl⟩ | exact ⟨_, rfl, ⟨rfl, rfl, .inl rfl⟩, rfl⟩ | exact ⟨_, rfl, ⟨rfl, rfl, .inr rfl⟩, rfl⟩ | exact ⟨_, rfl, ⟨rfl, rfl, rfl, rfl, rfl⟩, rfl⟩ | exact ⟨_, rfl, ⟨rfl, rfl⟩, fun _ => Iff.rfl⟩ | refine ⟨_, rfl, rfl, ?_⟩ | refine ⟨_, rfl, ⟨rfl, rfl, rfl⟩, ?_⟩)
set_option maxRecDepth 100000 in
set_option maxHeartbeats 8000000 in
theorem cliTake_try (c : CliM) (hc : c.ok) (f : FrM) (now : Int) (hk : f.kind = 8) (ho : okCh f.ch = true) (hx : ¬ f.ch.epoch < c.ch.epoch) (hd : c.doing = 1) : TakeS c f now := by
  intro cap h1 h2
  have hmd := hc.made
  have hn : 0 ≤ nearC now ∧ nearC now ≤ 1099511627776 := by unfold nearC; omega
  obtain ⟨n, hnn⟩ : ∃ n, nearC now = n := ⟨_, rfl⟩
  rw [hnn] at hn ⊢
  have hw := fun w => hnn ▸ cliWithin_any now w
  have hsl := hc.opn.1 (by omega)
  have e : takeC c f n = tryC { c with ch := f.ch } n := by unfold takeC; rw [if_pos hk, if_neg (by rw [ho]; simp; omega), if_pos hd]
  rw [e]
  obtain ⟨f1, f6, _⟩ := okCh_len ho
  have hfl : f.ch.mem.length ≤ 1000000 := by omega
  have hS := cliTry { c with ch := f.ch } hc.tries hfl n
  obtain ⟨x, hxx⟩ : ∃ x, tryC { c with ch := f.ch } n = x := ⟨_, rfl⟩
  have hx1 : x.2 = [callS x.1] := by rw [← hxx]; rfl
  have hx2 : x.1.sl = .opn := by rw [← hxx]; exact hsl
  rw [hxx, hx1] at hS
  rw [hxx]
  refine Spec.mono (R := fun s H1 => s = .os 6 1 ∧ H1 = [.blk 78 (cliLm 5 (.p 3 0) x.1), bkE x.1.bk, memC c.ch, slotE 0 noOut, rowC f.ch, memC x.1.ch, sndC1 [callS x.1]]) ?_ (fun s H1 h => by rw [h.1, h.2]; exact outT_some (l := [callS x.1]) .opn hx2 hx1 (mi := 5) (i := 6) ⟨by decide, by decide, by decide⟩ ⟨by decide, by decide, by decide, by decide⟩ rfl rfl rfl rfl rfl)
  rw [cliO_eq hsl]
  refine spec_x Tryz.func15 rfl 5 rfl rfl fun w0 U => ?_
  repeat' ((conv => whnf); first
      | refine CutN.plain ?_
      | with_reducible refine Br.tt ?_
      | with_reducible refine Br.ff ?_
      | with_reducible refine Br.nt ?_
      | with_reducible refine Br.nf ?_
      | with_reducible refine Br.eeI ?_
      | with_reducible refine Br.nnI ?_
      | refine Br.yes (by decide) ?_
      | refine Br.no (by decide) ?_
      | refine AppN.own ?_
      | refine Need.go rfl ?_
      | refine QuiD.quiet (by kernel_rfl) ?_
      | refine IdxN.lit ?_
      | refine draw_go tabOK (by kernel_rfl) ?_
      | refine Need.go ⟨rfl, rfl⟩ ?_
      | refine Need.go ⟨⟨rfl, rfl, rfl⟩, rfl⟩ ?_
      | (with_reducible refine Br.dec (fun h => ?_) (fun h => ?_); first | (rotate_left; exfalso; omega; clear h) | (exfalso; omega; clear h) | skip)
      | (with_reducible refine Br.eqI (fun h => ?_) (fun h => ?_); first | (rotate_left; exfalso; omega; clear h) | (exfalso; omega; clear h) | skip)
      | (with_reducible refine Br.neI (fun h => ?_) (fun h => ?_); first | (rotate_left; exfalso; omega; clear h) | (exfalso; omega; clear h) | skip)
      | (with_reducible refine Br.eqS (fun h => ?_) (fun h => ?_); first | (rotate_left; exfalso; omega; clear h) | (exfalso; omega; clear h) | skip)
      | (with_reducible refine Br.neS (fun h => ?_) (fun h => ?_); first | (rotate_left; exfalso; omega; clear h) | (exfalso; omega; clear h) | skip)
      | (with_reducible refine Br.nd (fun h => ?_) (fun h => ?_); first | (rotate_left; exfalso; omega; clear h) | (exfalso; omega; clear h) | skip)
      | refine Ar.i64 (by omega) (by omega) ?_
      | refine call_inlineL (f := 27) Tryz.func27 rfl ?_
      | refine call_inlineL (f := 21) Tryz.func21 rfl ?_
      | (refine call_mem (f := 29) (args := [.v (.int .i64 now)]) (V := .int .i64 n) ?_ ?_; exact fun ρ w h => hw w)
      | (refine quiet_mem (f := 29) (args := [.v (.int .i64 now)]) (V := .int .i64 n) ?_ ?_; exact fun ρ w h => hw w)
      | (refine seg_mem (f := 29) (args := [.v (.int .i64 now)]) (V := .int .i64 n) ?_ ?_; exact fun ρ w h => hw w)
      | (refine call_mem (f := 43) (args := [chS f.ch (.rs 4 f.ch.mem.length cap)]) (V := .int .i64 0) ?_ ?_; exact fun ρ w h => (by have := chCheck_any f.ch _ w (sl_rs h (i := 4) rfl (Nat.le_refl _) h1 h2) hfl; rw [ho] at this; exact this))
      | (refine quiet_mem (f := 43) (args := [chS f.ch (.rs 4 f.ch.mem.length cap)]) (V := .int .i64 0) ?_ ?_; exact fun ρ w h => (by have := chCheck_any f.ch _ w (sl_rs h (i := 4) rfl (Nat.le_refl _) h1 h2) hfl; rw [ho] at this; exact this))
      | (refine seg_mem (f := 43) (args := [chS f.ch (.rs 4 f.ch.mem.length cap)]) (V := .int .i64 0) ?_ ?_; exact fun ρ w h => (by have := chCheck_any f.ch _ w (sl_rs h (i := 4) rfl (Nat.le_refl _) h1 h2) hfl; rw [ho] at this; exact this))
      | refine Need.go ⟨rfl, Nat.le_refl _, memF_one _⟩ ?_
      | refine Need.go ⟨by omega, (Nat.mul_le_mul_right _ (show f.ch.mem.length ≤ 6 by omega)).trans (by decide)⟩ ?_
      | (refine call_sp (f := 31) (hS) [0, 1, 6, 3] (by decide) rfl ⟨rfl, rfl, rfl, rfl, trivial⟩ rfl ?_; rintro s H1 ⟨rfl, rfl⟩)
      | (refine seg_sp (f := 31) (hS) (fun _ => rfl) [0, 1, 6, 3] (by decide) rfl ⟨rfl, rfl, rfl, rfl, trivial⟩ rfl ?_)
      | refine Need.go (by first | omega | decide | (simp <;> omega) | fail) ?_
      | refine Need.go (by first | (simp [Value.oneCell'] <;> omega) | fail) ?_
      | refine Need.go ⟨rfl, by omega, getD_one rfl rfl⟩ ?_
      | refine Need.go ⟨rfl, by omega, fun _ _ _ _ => rfl⟩ ?_
      | refine Br.both (fun h => ?_) (fun h => ?_))
  all_goals (conv => whnf)
  all_goals
    refine ⟨_, _, ⟨rfl, rfl⟩, by simp, ⟨rfl, trivial⟩, less5 (τ := [some 0, some 1, some 2, some 3, some 4, some 6, some 7]) rfl ⟨by decide, rfl⟩ ?_ ?_⟩
    all_goals repeat' (first | exact leT_junk rfl | refine And.intro ?_ ?_ | exact trivial | exact .inl ⟨rfl, rfl⟩ | rfl | exact .inr ⟨_, rfl, rfl, rfl⟩ | exact ⟨_, rfl, trivial⟩ | exact ⟨_, rfl, rfl⟩ | exact ⟨_, rfl, ⟨rfl, rfl, rfl⟩, fun _ _ _ _ => rfl⟩ | exact ⟨_, rfl, ⟨rfl, rfl, .inl rfl⟩, rfl⟩ | exact ⟨_, rfl, ⟨rfl, rfl, .inr rfl⟩, rfl⟩ | exact ⟨_, rfl, ⟨rfl, rfl, rfl, rfl, rfl⟩, rfl⟩ | exact ⟨_, rfl, ⟨rfl, rfl⟩, fun _ => Iff.rfl⟩ | refine ⟨_, rfl, rfl, ?_⟩ | refine ⟨_, rfl, ⟨rfl, rfl, rfl⟩, ?_⟩)
set_option maxRecDepth 100000 in
set_option maxHeartbeats 8000000 in
theorem cliTake_end (c : CliM) (hc : c.ok) (f : FrM) (now : Int) (hk : f.kind = 2) (hx : ¬ c.doing = 0 ∧ f.client = c.id ∧ f.seq = c.seq) : TakeS c f now := by
  intro cap h1 h2
  have hmd := hc.made
  have hn : 0 ≤ nearC now ∧ nearC now ≤ 1099511627776 := by unfold nearC; omega
  obtain ⟨n, hnn⟩ : ∃ n, nearC now = n := ⟨_, rfl⟩
  rw [hnn] at hn ⊢
  have hw := fun w => hnn ▸ cliWithin_any now w
  obtain ⟨x1, x2, x3⟩ := hx
  have hsl := hc.opn.1 x1
  obtain ⟨o, ho⟩ : ∃ o : OutM, (⟨1, 0, f.res.code, f.res.value, f.res.version, f.res.pos⟩ : OutM) = o := ⟨_, rfl⟩
  have e : takeC c f n = (endC c o, []) := by unfold takeC; rw [if_neg (by omega), if_pos hk, if_pos ⟨x1, x2, x3⟩, ho]
  rw [e]
  have hS := cliEnd c o (by rw [← ho]; show (1 : Int) ≤ 1; decide) (by rw [← ho]; show (1 : Int) ≤ 3; decide)
  refine Spec.mono (R := fun s H1 => s = .v (.slice none 0 0) ∧ H1 = cliG (.p 3 0) (slotE 1 o) (endC c o) ++ [rowC f.ch]) ?_ (fun s H1 h => by rw [h.1, h.2]; exact outT_stay (.set o) rfl rfl (mi := 2) ⟨by decide, by decide, by decide⟩ rfl rfl rfl rfl)
  have hB := cliBusy c hc
  rw [cliO_eq hsl] at hB ⊢
  refine spec_x Tryz.func15 rfl 5 rfl rfl fun w0 U => ?_
  subst ho
  repeat' ((conv => whnf); first
      | refine QuiD.draw (draw_go tabOK (by kernel_rfl) ?_)
      | refine CutN.plain ?_
      | with_reducible refine Br.tt ?_
      | with_reducible refine Br.ff ?_
      | with_reducible refine Br.nt ?_
      | with_reducible refine Br.nf ?_
      | with_reducible refine Br.eeI ?_
      | with_reducible refine Br.nnI ?_
      | refine Br.yes (by decide) ?_
      | refine Br.no (by decide) ?_
      | refine AppN.own ?_
      | refine Need.go rfl ?_
      | refine QuiD.quiet (by kernel_rfl) ?_
      | refine IdxN.lit ?_
      | refine draw_go tabOK (by kernel_rfl) ?_
      | refine Need.go ⟨rfl, rfl⟩ ?_
      | refine Need.go ⟨⟨rfl, rfl, rfl⟩, rfl⟩ ?_
      | (with_reducible refine Br.dec (fun h => ?_) (fun h => ?_); first | (rotate_left; exfalso; omega; clear h) | (exfalso; omega; clear h) | skip)
      | (with_reducible refine Br.eqI (fun h => ?_) (fun h => ?_); first | (rotate_left; exfalso; omega; clear h) | (exfalso; omega; clear h) | skip)
      | (with_reducible refine Br.neI (fun h => ?_) (fun h => ?_); first | (rotate_left; exfalso; omega; clear h) | (exfalso; omega; clear h) | skip)
      | (with_reducible refine Br.eqS (fun h => ?_) (fun h => ?_); first | (rotate_left; exfalso; omega; clear h) | (exfalso; omega; clear h) | skip)
      | (with_reducible refine Br.neS (fun h => ?_) (fun h => ?_); first | (rotate_left; exfalso; omega; clear h) | (exfalso; omega; clear h) | skip)
      | (with_reducible refine Br.nd (fun h => ?_) (fun h => ?_); first | (rotate_left; exfalso; omega; clear h) | (exfalso; omega; clear h) | skip)
      | refine Ar.i64 (by omega) (by omega) ?_
      | refine call_inlineL (f := 27) Tryz.func27 rfl ?_
      | (refine call_sp (f := 21) (hB) [0, 1, 2, 3] (by decide) rfl ⟨rfl, rfl, rfl, rfl, trivial⟩ rfl ?_; rintro s H1 ⟨rfl, rfl⟩)
      | (refine seg_sp (f := 21) (hB) (fun _ => rfl) [0, 1, 2, 3] (by decide) rfl ⟨rfl, rfl, rfl, rfl, trivial⟩ rfl ?_)
      | (refine call_mem (f := 29) (args := [.v (.int .i64 now)]) (V := .int .i64 n) ?_ ?_; exact fun ρ w h => hw w)
      | (refine quiet_mem (f := 29) (args := [.v (.int .i64 now)]) (V := .int .i64 n) ?_ ?_; exact fun ρ w h => hw w)
      | (refine seg_mem (f := 29) (args := [.v (.int .i64 now)]) (V := .int .i64 n) ?_ ?_; exact fun ρ w h => hw w)
      | (refine call_sp (f := 44) (hS) [0, 1, 2, 3] (by decide) rfl ⟨rfl, rfl, rfl, rfl, trivial⟩ rfl ?_; rintro s H1 ⟨rfl, rfl⟩)
      | (refine seg_sp (f := 44) (hS) (fun _ => rfl) [0, 1, 2, 3] (by decide) rfl ⟨rfl, rfl, rfl, rfl, trivial⟩ rfl ?_)
      | refine Need.go (by first | omega | decide | (simp <;> omega) | fail) ?_
      | refine Need.go (by first | (simp [Value.oneCell'] <;> omega) | fail) ?_
      | refine Need.go ⟨rfl, by omega, getD_one rfl rfl⟩ ?_
      | refine Need.go ⟨rfl, by omega, fun _ _ _ _ => rfl⟩ ?_
      | refine Br.both (fun h => ?_) (fun h => ?_))
  all_goals (conv => whnf)
  all_goals
    refine ⟨_, _, ⟨rfl, rfl⟩, by simp, ⟨rfl, trivial⟩, less5 (τ := [some 0, some 1, some 2, some 3, some 4]) rfl ⟨by decide, rfl⟩ ?_ ?_⟩
    all_goals repeat' (first | exact leT_junk rfl | refine And.intro ?_ ?_ | exact trivial | exact .inl ⟨rfl, rfl⟩ | rfl | exact .inr ⟨_, rfl, rfl, rfl⟩ | exact ⟨_, rfl, trivial⟩ | exact ⟨_, rfl, rfl⟩ | exact ⟨_, rfl, ⟨rfl, rfl, rfl⟩, fun _ _ _ _ => rfl⟩ | exact ⟨_, rfl, ⟨rfl, rfl, .inl rfl⟩, rfl⟩ | exact ⟨_, rfl, ⟨rfl, rfl, .inr rfl⟩, rfl⟩ | exact ⟨_, rfl, ⟨rfl, rfl, rfl, rfl, rfl⟩, rfl⟩ | exact ⟨_, rfl, ⟨rfl, rfl⟩, fun _ => Iff.rfl⟩ | refine ⟨_, rfl, rfl, ?_⟩ | refine ⟨_, rfl, ⟨rfl, rfl, rfl⟩, ?_⟩)
set_option maxRecDepth 100000 in
set_option maxHeartbeats 8000000 in
theorem cliTake_ref (c : CliM) (hc : c.ok) (f : FrM) (now : Int) (hk : f.kind = 3) (hx : c.doing = 2 ∧ f.client = c.id ∧ f.seq = c.seq ∧ f.try' = c.tries) : TakeS c f now := by
  intro cap h1 h2
  have hmd := hc.made
  have hn : 0 ≤ nearC now ∧ nearC now ≤ 1099511627776 := by unfold nearC; omega
  obtain ⟨n, hnn⟩ : ∃ n, nearC now = n := ⟨_, rfl⟩
  rw [hnn] at hn ⊢
  have hw := fun w => hnn ▸ cliWithin_any now w
  obtain ⟨x1, x2, x3, x4⟩ := hx
  have hsl := hc.opn.1 (by omega)
  have e : takeC c f n = refC c f.reason n := by unfold takeC; rw [if_neg (by omega), if_neg (by omega), if_pos hk, if_pos ⟨x1, x2, x3, x4⟩]
  rw [e]
  have hS := cliRef c hc hsl f.reason n hn
  obtain ⟨x, hxx⟩ : ∃ x, refC c f.reason n = x := ⟨_, rfl⟩
  rw [hxx] at hS ⊢
  refine Spec.mono (R := fun s H1 => (x.2 = [] ∧ x.1.sl = .opn ∧ s = .v (.slice none 0 0) ∧ H1 = cliO x.1 ++ [rowC f.ch]) ∨ ∃ o, x.2 = [askS] ∧ x.1.sl = .set o ∧ s = .os 5 1 ∧ H1 = cliG (.p 3 0) (slotE 1 o) x.1 ++ [rowC f.ch, sndC1 [askS]]) ?_ (fun s H1 h => by
    rcases h with ⟨a1, a2, a3, a4⟩ | ⟨o, a1, a2, a3, a4⟩
    · rw [a3, a4]; exact outT_stay .opn a2 a1 (mi := 2) ⟨by decide, by decide, by decide⟩ rfl rfl rfl rfl
    · rw [a3, a4]; exact outT_some (l := [askS]) (.set o) a2 a1 (mi := 2) (i := 5) ⟨by decide, by decide, by decide⟩ ⟨by decide, by decide, by decide, by decide⟩ rfl rfl rfl rfl rfl)
  rw [cliO_eq hsl]
  refine spec_x Tryz.func15 rfl 5 rfl rfl fun w0 U => ?_
  repeat' ((conv => whnf); first
      | refine CutN.plain ?_
      | with_reducible refine Br.tt ?_
      | with_reducible refine Br.ff ?_
      | with_reducible refine Br.nt ?_
      | with_reducible refine Br.nf ?_
      | with_reducible refine Br.eeI ?_
      | with_reducible refine Br.nnI ?_
      | refine Br.yes (by decide) ?_
      | refine Br.no (by decide) ?_
      | refine AppN.own ?_
      | refine Need.go rfl ?_
      | refine QuiD.quiet (by kernel_rfl) ?_
      | refine IdxN.lit ?_
      | refine draw_go tabOK (by kernel_rfl) ?_
      | refine Need.go ⟨rfl, rfl⟩ ?_
      | refine Need.go ⟨⟨rfl, rfl, rfl⟩, rfl⟩ ?_
      | (with_reducible refine Br.dec (fun h => ?_) (fun h => ?_); first | (rotate_left; exfalso; omega; clear h) | (exfalso; omega; clear h) | skip)
      | (with_reducible refine Br.eqI (fun h => ?_) (fun h => ?_); first | (rotate_left; exfalso; omega; clear h) | (exfalso; omega; clear h) | skip)
      | (with_reducible refine Br.neI (fun h => ?_) (fun h => ?_); first | (rotate_left; exfalso; omega; clear h) | (exfalso; omega; clear h) | skip)
      | (with_reducible refine Br.eqS (fun h => ?_) (fun h => ?_); first | (rotate_left; exfalso; omega; clear h) | (exfalso; omega; clear h) | skip)
      | (with_reducible refine Br.neS (fun h => ?_) (fun h => ?_); first | (rotate_left; exfalso; omega; clear h) | (exfalso; omega; clear h) | skip)
      | (with_reducible refine Br.nd (fun h => ?_) (fun h => ?_); first | (rotate_left; exfalso; omega; clear h) | (exfalso; omega; clear h) | skip)
      | refine Ar.i64 (by omega) (by omega) ?_
      | refine call_inlineL (f := 27) Tryz.func27 rfl ?_
      | refine call_inlineL (f := 21) Tryz.func21 rfl ?_
      | (refine call_mem (f := 29) (args := [.v (.int .i64 now)]) (V := .int .i64 n) ?_ ?_; exact fun ρ w h => hw w)
      | (refine quiet_mem (f := 29) (args := [.v (.int .i64 now)]) (V := .int .i64 n) ?_ ?_; exact fun ρ w h => hw w)
      | (refine seg_mem (f := 29) (args := [.v (.int .i64 now)]) (V := .int .i64 n) ?_ ?_; exact fun ρ w h => hw w)
      | (refine call_sp (f := 45) hS [0, 1, 2, 3] (by decide) rfl ⟨rfl, rfl, rfl, rfl, trivial⟩ rfl ?_; rintro s H1 (⟨a1, a2, rfl, rfl⟩ | ⟨o, a1, a2, rfl, rfl⟩))
      | refine Need.go (by first | omega | decide | (simp <;> omega) | fail) ?_
      | refine Need.go (by first | (simp [Value.oneCell'] <;> omega) | fail) ?_
      | refine Need.go ⟨rfl, by omega, getD_one rfl rfl⟩ ?_
      | refine Need.go ⟨rfl, by omega, fun _ _ _ _ => rfl⟩ ?_
      | refine Br.both (fun h => ?_) (fun h => ?_))
  all_goals (conv => whnf)
  · refine ⟨_, _, .inl ⟨a1, a2, rfl, rfl⟩, by simp, ⟨rfl, trivial⟩, less5 (τ := [some 0, some 1, some 2, some 3, some 4]) rfl ⟨by decide, rfl⟩ ?_ ?_⟩
    all_goals repeat' (first | exact leT_junk rfl | refine And.intro ?_ ?_ | exact trivial | exact .inl ⟨rfl, rfl⟩ | rfl | exact .inr ⟨_, rfl, rfl, rfl⟩ | exact ⟨_, rfl, trivial⟩ | exact ⟨_, rfl, rfl⟩ | exact ⟨_, rfl, ⟨rfl, rfl, rfl⟩, fun _ _ _ _ => rfl⟩ | exact ⟨_, rfl, ⟨rfl, rfl, .inl rfl⟩, rfl⟩ | exact ⟨_, rfl, ⟨rfl, rfl, .inr rfl⟩, rfl⟩ | exact ⟨_, rfl, ⟨rfl, rfl, rfl, rfl, rfl⟩, rfl⟩ | exact ⟨_, rfl, ⟨rfl, rfl⟩, fun _ => Iff.rfl⟩ | refine ⟨_, rfl, rfl, ?_⟩ | refine ⟨_, rfl, ⟨rfl, rfl, rfl⟩, ?_⟩)
  · refine ⟨_, _, .inr ⟨o, a1, a2, rfl, rfl⟩, by simp, ⟨rfl, trivial⟩, less5 (τ := [some 0, some 1, some 2, some 3, some 4, some 6]) rfl ⟨by decide, rfl⟩ ?_ ?_⟩
    all_goals repeat' (first | exact leT_junk rfl | refine And.intro ?_ ?_ | exact trivial | exact .inl ⟨rfl, rfl⟩ | rfl | exact .inr ⟨_, rfl, rfl, rfl⟩ | exact ⟨_, rfl, trivial⟩ | exact ⟨_, rfl, rfl⟩ | exact ⟨_, rfl, ⟨rfl, rfl, rfl⟩, fun _ _ _ _ => rfl⟩ | exact ⟨_, rfl, ⟨rfl, rfl, .inl rfl⟩, rfl⟩ | exact ⟨_, rfl, ⟨rfl, rfl, .inr rfl⟩, rfl⟩ | exact ⟨_, rfl, ⟨rfl, rfl, rfl, rfl, rfl⟩, rfl⟩ | exact ⟨_, rfl, ⟨rfl, rfl⟩, fun _ => Iff.rfl⟩ | refine ⟨_, rfl, rfl, ?_⟩ | refine ⟨_, rfl, ⟨rfl, rfl, rfl⟩, ?_⟩)
/-- A frame is taken. -/
theorem cliTake (c : CliM) (hc : c.ok) (f : FrM) (hfl : f.ch.mem.length ≤ 1000000) (now : Int) : TakeS c f now := by
  by_cases h8 : f.kind = 8
  · cases ho : okCh f.ch with
    | false => exact cliTake_no8 c hc f hfl now h8 ho
    | true =>
      by_cases hx : f.ch.epoch < c.ch.epoch
      · exact cliTake_lo8 c hc f hfl now h8 ho hx
      · by_cases hd : c.doing = 1
        · exact cliTake_try c hc f now h8 ho hx hd
        · exact cliTake_lay c hc f now h8 ho hx hd
  by_cases h2 : f.kind = 2
  · by_cases hx : ¬ c.doing = 0 ∧ f.client = c.id ∧ f.seq = c.seq
    · exact cliTake_end c hc f now h2 hx
    · exact cliTake_no2 c hc f hfl now h2 hx
  by_cases h3 : f.kind = 3
  · by_cases hx : c.doing = 2 ∧ f.client = c.id ∧ f.seq = c.seq ∧ f.try' = c.tries
    · exact cliTake_ref c hc f now h3 hx
    · exact cliTake_no3 c hc f hfl now h3 hx
  exact cliTake_else c hc f hfl now ⟨h8, h2, h3⟩
end Go.Proofs.YtghfigeepnbjaaaGreat
