/-
  The client: refused. The client: what its operations leave may be. No program in sight, no condition. No condition.
-/
import Derived.Test.YtghfigeepnbjaaaGreatPG
import Derived.Test.YtghfigeepnbjaaaGreatP9
namespace Go.Proofs.YtghfigeepnbjaaaGreat
open Go.RowKit
set_option maxRecDepth 100000 in
set_option maxHeartbeats 8000000 in
theorem cliRef_u (c : CliM) (hc : c.ok) (ho : c.sl = .opn) (r now : Int) (hn : 0 ≤ now ∧ now ≤ 1099511627776) (h1 : r = 6 ∨ r = 5 ∨ r = 7) : Spec Tryz.prog 45 [.p 0 0, .v (.int .i64 r), .v (.int .i64 now)] (cliO c) (outE (onC { c with unsure := true } r now)) := by
  obtain ⟨x, hx⟩ : ∃ x, onC { c with unsure := true } r now = x := ⟨_, rfl⟩
  have hS := cliOnE { c with unsure := true } (ok_unsure hc) ho r now hn
  rw [hx] at hS ⊢
  refine spec_x Tryz.func45 rfl 4 rfl rfl fun w0 U => ?_
  rcases h1 with rfl | rfl | rfl
  all_goals
    repeat' ((conv => whnf); first
        | refine CutN.plain ?_
        | with_reducible refine Br.tt ?_
        | with_reducible refine Br.ff ?_
        | with_reducible refine Br.nt ?_
        | with_reducible refine Br.nf ?_
        | with_reducible refine Br.eeI ?_
        | with_reducible refine Br.nnI ?_
        | refine Br.yes (by decide) ?_
        | refine Br.no (by decide) ?_
        | refine AppN.own ?_
        | refine Need.go rfl ?_
        | refine QuiD.quiet (by kernel_rfl) ?_
        | refine IdxN.lit ?_
        | refine draw_go tabOK (by kernel_rfl) ?_
        | refine Need.go ⟨rfl, rfl⟩ ?_
        | refine Need.go ⟨⟨rfl, rfl, rfl⟩, rfl⟩ ?_
        | (with_reducible refine Br.dec (fun h => ?_) (fun h => ?_); first | (rotate_left; exfalso; omega; clear h) | (exfalso; omega; clear h) | skip)
        | (with_reducible refine Br.eqI (fun h => ?_) (fun h => ?_); first | (rotate_left; exfalso; omega; clear h) | (exfalso; omega; clear h) | skip)
        | (with_reducible refine Br.neI (fun h => ?_) (fun h => ?_); first | (rotate_left; exfalso; omega; clear h) | (exfalso; omega; clear h) | skip)
        | (with_reducible refine Br.eqS (fun h => ?_) (fun h => ?_); first | (rotate_left; exfalso; omega; clear h) | (exfalso; omega; clear h) | skip)
        | (with_reducible refine Br.neS (fun h => ?_) (fun h => ?_); first | (rotate_left; exfalso; omega; clear h) | (exfalso; omega; clear h) | skip)
        | (with_reducible refine Br.nd (fun h => ?_) (fun h => ?_); first | (rotate_left; exfalso; omega; clear h) | (exfalso; omega; clear h) | skip)
        | refine Ar.i64 (by omega) (by omega) ?_
        | (refine call_less (f := 38) (H1 := cliO { c with unsure := true }) rfl ⟨[some 0, some 1, some 2, some 3], ⟨by decide, rfl⟩, (by repeat' (first | exact trivial | exact .inl ⟨rfl, rfl⟩ | rfl | exact ⟨_, rfl, trivial⟩ | exact ⟨_, rfl, rfl⟩ | exact ⟨_, rfl, ⟨rfl, rfl, rfl⟩, fun _ _ _ _ => rfl⟩ | refine ⟨_, rfl, rfl, ?_⟩ | refine And.intro ?_ ?_)), trivial⟩ rfl ?_; refine call_sp (f := 38) hS [0, 1, 2, 3] (by decide) rfl ⟨rfl, rfl, rfl, rfl, trivial⟩ rfl ?_; rintro s H1 (⟨hl, hsl, rfl, rfl⟩ | ⟨o, hl, hsl, rfl, rfl⟩))
        | refine Need.go (by first | omega | decide | (simp <;> omega) | fail) ?_
        | refine Need.go (by first | (simp [Value.oneCell'] <;> omega) | fail) ?_
        | refine Need.go ⟨rfl, by omega, getD_one rfl rfl⟩ ?_
        | refine Need.go ⟨rfl, by omega, fun _ _ _ _ => rfl⟩ ?_
        | refine Br.both (fun h => ?_) (fun h => ?_))
    all_goals (conv => whnf)
    · refine ⟨_, _, .inl ⟨hl, hsl, rfl, rfl⟩, by simp, trivial, less4 (τ := [some 0, some 1, some 2, some 3]) rfl ⟨by decide, rfl⟩ ?_ ?_⟩
      all_goals repeat' (first | exact leT_junk rfl | refine And.intro ?_ ?_ | exact trivial | exact .inl ⟨rfl, rfl⟩ | rfl | exact .inr ⟨_, rfl, rfl, rfl⟩ | exact ⟨_, rfl, trivial⟩ | exact ⟨_, rfl, rfl⟩ | exact ⟨_, rfl, ⟨rfl, rfl, rfl⟩, fun _ _ _ _ => rfl⟩ | exact ⟨_, rfl, ⟨rfl, rfl, .inl rfl⟩, rfl⟩ | exact ⟨_, rfl, ⟨rfl, rfl, .inr rfl⟩, rfl⟩ | exact ⟨_, rfl, ⟨rfl, rfl, rfl, rfl, rfl⟩, rfl⟩ | exact ⟨_, rfl, ⟨rfl, rfl⟩, fun _ => Iff.rfl⟩ | refine ⟨_, rfl, rfl, ?_⟩ | refine ⟨_, rfl, ⟨rfl, rfl, rfl⟩, ?_⟩)
    · refine ⟨_, _, .inr ⟨o, hl, hsl, rfl, rfl⟩, by simp, trivial, less4 (τ := [some 0, some 1, some 2, some 3, some 4]) rfl ⟨by decide, rfl⟩ ?_ ?_⟩
      all_goals repeat' (first | exact leT_junk rfl | refine And.intro ?_ ?_ | exact trivial | exact .inl ⟨rfl, rfl⟩ | rfl | exact .inr ⟨_, rfl, rfl, rfl⟩ | exact ⟨_, rfl, trivial⟩ | exact ⟨_, rfl, rfl⟩ | exact ⟨_, rfl, ⟨rfl, rfl, rfl⟩, fun _ _ _ _ => rfl⟩ | exact ⟨_, rfl, ⟨rfl, rfl, .inl rfl⟩, rfl⟩ | exact ⟨_, rfl, ⟨rfl, rfl, .inr rfl⟩, rfl⟩ | exact ⟨_, rfl, ⟨rfl, rfl, rfl, rfl, rfl⟩, rfl⟩ | exact ⟨_, rfl, ⟨rfl, rfl⟩, fun _ => Iff.rfl⟩ | refine ⟨_, rfl, rfl, ?_⟩ | refine ⟨_, rfl, ⟨rfl, rfl, rfl⟩, ?_⟩)
set_option maxRecDepth 100000 in
set_option maxHeartbeats 8000000 in
theorem cliRef_g (c : CliM) (r now : Int) (h1 : r = 2 ∨ r = 10) : Spec Tryz.prog 45 [.p 0 0, .v (.int .i64 r), .v (.int .i64 now)] (cliO c) (outE (giveC c r)) := by
  refine Spec.mono (R := fun s H1 => s = .os 4 1 ∧ H1 = cliG (.p 3 0) (slotE 1 (giveO c r)) { c with doing := 0 } ++ [sndC1 [askS]]) ?_ (fun s H1 h => outE_give h)
  refine spec_x Tryz.func45 rfl 4 rfl rfl fun w0 U => ?_
  have hS := cliGive c r
  rcases h1 with rfl | rfl
  all_goals
    repeat' ((conv => whnf); first
        | refine CutN.plain ?_
        | with_reducible refine Br.tt ?_
        | with_reducible refine Br.ff ?_
        | with_reducible refine Br.nt ?_
        | with_reducible refine Br.nf ?_
        | with_reducible refine Br.eeI ?_
        | with_reducible refine Br.nnI ?_
        | refine Br.yes (by decide) ?_
        | refine Br.no (by decide) ?_
        | refine AppN.own ?_
        | refine Need.go rfl ?_
        | refine QuiD.quiet (by kernel_rfl) ?_
        | refine IdxN.lit ?_
        | refine draw_go tabOK (by kernel_rfl) ?_
        | refine Need.go ⟨rfl, rfl⟩ ?_
        | refine Need.go ⟨⟨rfl, rfl, rfl⟩, rfl⟩ ?_
        | (with_reducible refine Br.dec (fun h => ?_) (fun h => ?_); first | (rotate_left; exfalso; omega; clear h) | (exfalso; omega; clear h) | skip)
        | (with_reducible refine Br.eqI (fun h => ?_) (fun h => ?_); first | (rotate_left; exfalso; omega; clear h) | (exfalso; omega; clear h) | skip)
        | (with_reducible refine Br.neI (fun h => ?_) (fun h => ?_); first | (rotate_left; exfalso; omega; clear h) | (exfalso; omega; clear h) | skip)
        | (with_reducible refine Br.eqS (fun h => ?_) (fun h => ?_); first | (rotate_left; exfalso; omega; clear h) | (exfalso; omega; clear h) | skip)
        | (with_reducible refine Br.neS (fun h => ?_) (fun h => ?_); first | (rotate_left; exfalso; omega; clear h) | (exfalso; omega; clear h) | skip)
        | (with_reducible refine Br.nd (fun h => ?_) (fun h => ?_); first | (rotate_left; exfalso; omega; clear h) | (exfalso; omega; clear h) | skip)
        | refine Ar.i64 (by omega) (by omega) ?_
        | (refine call_sp (f := 39) (hS) [0, 1, 2, 3] (by decide) rfl ⟨rfl, rfl, rfl, rfl, trivial⟩ rfl ?_; rintro s H1 ⟨rfl, rfl⟩)
        | (refine seg_sp (f := 39) (hS) (fun _ => rfl) [0, 1, 2, 3] (by decide) rfl ⟨rfl, rfl, rfl, rfl, trivial⟩ rfl ?_)
        | refine Need.go (by first | omega | decide | (simp <;> omega) | fail) ?_
        | refine Need.go (by first | (simp [Value.oneCell'] <;> omega) | fail) ?_
        | refine Need.go ⟨rfl, by omega, getD_one rfl rfl⟩ ?_
        | refine Need.go ⟨rfl, by omega, fun _ _ _ _ => rfl⟩ ?_
        | refine Br.both (fun h => ?_) (fun h => ?_))
    all_goals (conv => whnf)
    refine ⟨_, _, ⟨rfl, rfl⟩, by simp, trivial, less4 (τ := [some 0, some 1, some 2, some 3, some 4]) rfl ⟨by decide, rfl⟩ ?_ ?_⟩
    all_goals repeat' (first | exact leT_junk rfl | refine And.intro ?_ ?_ | exact trivial | exact .inl ⟨rfl, rfl⟩ | rfl | exact .inr ⟨_, rfl, rfl, rfl⟩ | exact ⟨_, rfl, trivial⟩ | exact ⟨_, rfl, rfl⟩ | exact ⟨_, rfl, ⟨rfl, rfl, rfl⟩, fun _ _ _ _ => rfl⟩ | exact ⟨_, rfl, ⟨rfl, rfl, .inl rfl⟩, rfl⟩ | exact ⟨_, rfl, ⟨rfl, rfl, .inr rfl⟩, rfl⟩ | exact ⟨_, rfl, ⟨rfl, rfl, rfl, rfl, rfl⟩, rfl⟩ | exact ⟨_, rfl, ⟨rfl, rfl⟩, fun _ => Iff.rfl⟩ | refine ⟨_, rfl, rfl, ?_⟩ | refine ⟨_, rfl, ⟨rfl, rfl, rfl⟩, ?_⟩)
set_option maxRecDepth 100000 in
set_option maxHeartbeats 8000000 in
theorem cliRef_n (c : CliM) (hc : c.ok) (ho : c.sl = .opn) (r now : Int) (hn : 0 ≤ now ∧ now ≤ 1099511627776) (h1 : ¬ (r = 6 ∨ r = 5 ∨ r = 7)) (h2 : ¬ (r = 2 ∨ r = 10)) : Spec Tryz.prog 45 [.p 0 0, .v (.int .i64 r), .v (.int .i64 now)] (cliO c) (outE (onC c r now)) := by
  obtain ⟨x, hx⟩ : ∃ x, onC c r now = x := ⟨_, rfl⟩
  have hS := cliOnE c hc ho r now hn
  rw [hx] at hS ⊢
  refine spec_x Tryz.func45 rfl 4 rfl rfl fun w0 U => ?_
  repeat' ((conv => whnf); first
      | refine CutN.plain ?_
      | with_reducible refine Br.tt ?_
      | with_reducible refine Br.ff ?_
      | with_reducible refine Br.nt ?_
      | with_reducible refine Br.nf ?_
      | with_reducible refine Br.eeI ?_
      | with_reducible refine Br.nnI ?_
      | refine Br.yes (by decide) ?_
      | refine Br.no (by decide) ?_
      | refine AppN.own ?_
      | refine Need.go rfl ?_
      | refine QuiD.quiet (by kernel_rfl) ?_
      | refine IdxN.lit ?_
      | refine draw_go tabOK (by kernel_rfl) ?_
      | refine Need.go ⟨rfl, rfl⟩ ?_
      | refine Need.go ⟨⟨rfl, rfl, rfl⟩, rfl⟩ ?_
      | (with_reducible refine Br.dec (fun h => ?_) (fun h => ?_); first | (rotate_left; exfalso; omega; clear h) | (exfalso; omega; clear h) | skip)
      | (with_reducible refine Br.eqI (fun h => ?_) (fun h => ?_); first | (rotate_left; exfalso; omega; clear h) | (exfalso; omega; clear h) | skip)
      | (with_reducible refine Br.neI (fun h => ?_) (fun h => ?_); first | (rotate_left; exfalso; omega; clear h) | (exfalso; omega; clear h) | skip)
      | (with_reducible refine Br.eqS (fun h => ?_) (fun h => ?_); first | (rotate_left; exfalso; omega; clear h) | (exfalso; omega; clear h) | skip)
      | (with_reducible refine Br.neS (fun h => ?_) (fun h => ?_); first | (rotate_left; exfalso; omega; clear h) | (exfalso; omega; clear h) | skip)
      | (with_reducible refine Br.nd (fun h => ?_) (fun h => ?_); first | (rotate_left; exfalso; omega; clear h) | (exfalso; omega; clear h) | skip)
      | refine Ar.i64 (by omega) (by omega) ?_
      | (refine call_sp (f := 38) hS [0, 1, 2, 3] (by decide) rfl ⟨rfl, rfl, rfl, rfl, trivial⟩ rfl ?_; rintro s H1 (⟨hl, hsl, rfl, rfl⟩ | ⟨o, hl, hsl, rfl, rfl⟩))
      | refine Need.go (by first | omega | decide | (simp <;> omega) | fail) ?_
      | refine Need.go (by first | (simp [Value.oneCell'] <;> omega) | fail) ?_
      | refine Need.go ⟨rfl, by omega, getD_one rfl rfl⟩ ?_
      | refine Need.go ⟨rfl, by omega, fun _ _ _ _ => rfl⟩ ?_
      | refine Br.both (fun h => ?_) (fun h => ?_))
  all_goals (conv => whnf)
  · refine ⟨_, _, .inl ⟨hl, hsl, rfl, rfl⟩, by simp, trivial, less4 (τ := [some 0, some 1, some 2, some 3]) rfl ⟨by decide, rfl⟩ ?_ ?_⟩
    all_goals repeat' (first | exact leT_junk rfl | refine And.intro ?_ ?_ | exact trivial | exact .inl ⟨rfl, rfl⟩ | rfl | exact .inr ⟨_, rfl, rfl, rfl⟩ | exact ⟨_, rfl, trivial⟩ | exact ⟨_, rfl, rfl⟩ | exact ⟨_, rfl, ⟨rfl, rfl, rfl⟩, fun _ _ _ _ => rfl⟩ | exact ⟨_, rfl, ⟨rfl, rfl, .inl rfl⟩, rfl⟩ | exact ⟨_, rfl, ⟨rfl, rfl, .inr rfl⟩, rfl⟩ | exact ⟨_, rfl, ⟨rfl, rfl, rfl, rfl, rfl⟩, rfl⟩ | exact ⟨_, rfl, ⟨rfl, rfl⟩, fun _ => Iff.rfl⟩ | refine ⟨_, rfl, rfl, ?_⟩ | refine ⟨_, rfl, ⟨rfl, rfl, rfl⟩, ?_⟩)
  · refine ⟨_, _, .inr ⟨o, hl, hsl, rfl, rfl⟩, by simp, trivial, less4 (τ := [some 0, some 1, some 2, some 3, some 4]) rfl ⟨by decide, rfl⟩ ?_ ?_⟩
    all_goals repeat' (first | exact leT_junk rfl | refine And.intro ?_ ?_ | exact trivial | exact .inl ⟨rfl, rfl⟩ | rfl | exact .inr ⟨_, rfl, rfl, rfl⟩ | exact ⟨_, rfl, trivial⟩ | exact ⟨_, rfl, rfl⟩ | exact ⟨_, rfl, ⟨rfl, rfl, rfl⟩, fun _ _ _ _ => rfl⟩ | exact ⟨_, rfl, ⟨rfl, rfl, .inl rfl⟩, rfl⟩ | exact ⟨_, rfl, ⟨rfl, rfl, .inr rfl⟩, rfl⟩ | exact ⟨_, rfl, ⟨rfl, rfl, rfl, rfl, rfl⟩, rfl⟩ | exact ⟨_, rfl, ⟨rfl, rfl⟩, fun _ => Iff.rfl⟩ | refine ⟨_, rfl, rfl, ?_⟩ | refine ⟨_, rfl, ⟨rfl, rfl, rfl⟩, ?_⟩)
/-- The last try was refused. -/
theorem cliRef (c : CliM) (hc : c.ok) (ho : c.sl = .opn) (r now : Int) (hn : 0 ≤ now ∧ now ≤ 1099511627776) : Spec Tryz.prog 45 [.p 0 0, .v (.int .i64 r), .v (.int .i64 now)] (cliO c) (outE (refC c r now)) := by
  unfold refC
  split
  · exact cliRef_u c hc ho r now hn (by assumption)
  · split
    · exact cliRef_g c r now (by assumption)
    · exact cliRef_n c hc ho r now hn (by assumption) (by assumption)
end Go.Proofs.YtghfigeepnbjaaaGreat
namespace Go.Proofs.YtghfigeepnbjaaaGreat
theorem nearC_rng (n : Int) : 0 ≤ nearC n ∧ nearC n ≤ 1099511627776 := by unfold nearC; omega
theorem gapM_rng (n : Int) : 0 ≤ gapM n ∧ gapM n ≤ 64 := by unfold gapM; repeat' split <;> omega
/-- What is so of a client but for its call. -/
structure CliM.okU (c : CliM) : Prop where
  made : 1 ≤ c.classes
  bk : c.bk.ok
  ch : c.ch = chN ∨ okCh c.ch = true
  since : 0 ≤ c.since ∧ c.since ≤ 1099511627776
  til : 0 ≤ c.til ∧ c.til ≤ 2199023255552
  seq : 0 ≤ c.seq ∧ c.seq ≤ 4611686018427387904
  tries : 0 ≤ c.tries ∧ c.tries ≤ 4611686018427387904
  timeout : 0 ≤ c.timeout ∧ c.timeout ≤ 64
  budget : 0 ≤ c.budget ∧ c.budget ≤ 16
theorem CliM.ok.u {c : CliM} (h : c.ok) : c.okU := ⟨h.made, h.bk, h.ch, h.since, h.til, h.seq, h.tries, h.timeout, h.budget⟩
theorem CliM.okU.of {c : CliM} (h : c.okU) (hd : 0 ≤ c.doing ∧ c.doing ≤ 3) (ho : ¬ c.doing = 0 ↔ c.sl = .opn) : c.ok := ⟨h.made, h.bk, h.ch, hd, ho, h.since, h.til, h.seq, h.tries, h.timeout, h.budget⟩
theorem ask_okC {c : CliM} (h : c.okU) (ho : c.sl = .opn) {n : Int} (hn : 0 ≤ n ∧ n ≤ 1099511627776) : (askC c n).1.ok :=
  CliM.okU.of (c := (askC c n).1) ⟨h.made, h.bk, h.ch, hn, h.til, h.seq, h.tries, h.timeout, h.budget⟩ (by simp [askC]) ⟨fun _ => ho, fun _ => by simp [askC]⟩
theorem try_okC {c : CliM} (h : c.okU) (ho : c.sl = .opn) (ht : c.tries < 4611686018427387904) {n : Int} (hn : 0 ≤ n ∧ n ≤ 1099511627776) : (tryC c n).1.ok :=
  CliM.okU.of (c := (tryC c n).1) ⟨h.made, h.bk, h.ch, hn, h.til, h.seq, by have := h.tries; simp only [tryC]; omega, h.timeout, h.budget⟩ (by simp [tryC]) ⟨fun _ => ho, fun _ => by simp [tryC]⟩
theorem end_okC {c : CliM} (h : c.okU) (o : OutM) : (endC c o).ok :=
  CliM.okU.of (c := endC c o) ⟨h.made, h.bk, h.ch, h.since, h.til, h.seq, h.tries, h.timeout, h.budget⟩ (by simp [endC]) ⟨fun h => absurd rfl h, fun h => by cases h⟩
theorem on_okC {c : CliM} (h : c.okU) (ho : c.sl = .opn) (r : Int) {n : Int} (hn : 0 ≤ n ∧ n ≤ 1099511627776) : (onC c r n).1.ok := by
  have hb := tkF_ok c.bk n h.bk
  have hg := gapM_rng c.tries
  unfold onC
  split
  · exact end_okC h _
  · split
    · exact end_okC (c := { c with bk := (tkF c.bk n).1 }) ⟨h.made, hb, h.ch, h.since, h.til, h.seq, h.tries, h.timeout, h.budget⟩ _
    · exact CliM.okU.of (c := { c with bk := (tkF c.bk n).1, doing := 3, til := n + gapM c.tries }) ⟨h.made, hb, h.ch, h.since, by simp only; omega, h.seq, h.tries, h.timeout, h.budget⟩ (by simp) ⟨fun _ => ho, fun _ => by simp⟩
theorem u_unsure {c : CliM} (h : c.okU) : ({ c with unsure := true } : CliM).okU := ⟨h.made, h.bk, h.ch, h.since, h.til, h.seq, h.tries, h.timeout, h.budget⟩
theorem ref_okC {c : CliM} (h : c.okU) (ho : c.sl = .opn) (r : Int) {n : Int} (hn : 0 ≤ n ∧ n ≤ 1099511627776) : (refC c r n).1.ok := by
  unfold refC
  split
  · exact on_okC (c := { c with unsure := true }) (u_unsure h) ho r hn
  · split
    · exact end_okC h _
    · exact on_okC h ho r hn
theorem call_okC {c : CliM} (h : c.ok) (hs : c.seq < 4611686018427387904) (o : OpM) (cls dl now : Int) : (callC c o cls dl now).1.1.ok := by
  have hu := h.u
  have hsq := h.seq
  have hb : (beginC c o cls dl).okU := ⟨hu.made, hu.bk, hu.ch, hu.since, hu.til, by simp only [beginC]; omega, by simp [beginC], hu.timeout, hu.budget⟩
  unfold callC
  split
  · exact h
  · split
    · exact h
    · split
      · exact try_okC hb rfl (by simp [beginC]) (nearC_rng now)
      · exact ask_okC hb rfl (nearC_rng now)
theorem take_okC {c : CliM} (h : c.ok) (ht : c.tries < 4611686018427387904) (f : FrM) {n : Int} (hn : 0 ≤ n ∧ n ≤ 1099511627776) : (takeC c f n).1.ok := by
  have hu := h.u
  unfold takeC
  split
  · split
    · exact h
    · rename_i hx
      have hch : okCh f.ch = true := by
        cases he : okCh f.ch with
        | true => rfl
        | false => exact absurd (.inl he) hx
      have h2 : ({ c with ch := f.ch } : CliM).okU := ⟨hu.made, hu.bk, .inr hch, hu.since, hu.til, hu.seq, hu.tries, hu.timeout, hu.budget⟩
      split
      · exact try_okC h2 (h.opn.1 (by omega)) ht hn
      · exact h2.of h.doing h.opn
  · split
    · split
      · exact end_okC hu _
      · exact h
    · split
      · split
        · rename_i hx; exact ref_okC hu (h.opn.1 (by omega)) _ hn
        · exact h
      · exact h
theorem tick_okC {c : CliM} (h : c.ok) {n : Int} (hn : 0 ≤ n ∧ n ≤ 1099511627776) : (tickC c n).1.ok := by
  have hu := h.u
  unfold tickC
  split
  · split
    · exact on_okC (c := { c with unsure := true }) (u_unsure hu) (h.opn.1 (by omega)) _ hn
    · exact h
  · split
    · split
      · exact h
      · split
        · exact end_okC hu _
        · exact ask_okC hu (h.opn.1 (by omega)) hn
    · split
      · split
        · exact ask_okC hu (h.opn.1 (by omega)) hn
        · exact h
      · exact h
/-- What no operation changes but Call. -/
structure SameC (c d : CliM) : Prop where
  id : d.id = c.id
  classes : d.classes = c.classes
  timeout : d.timeout = c.timeout
  budget : d.budget = c.budget
  seq : d.seq = c.seq
  cls : d.cls = c.cls
  deadline : d.deadline = c.deadline
  op : d.op = c.op
theorem SameC.refl (c : CliM) : SameC c c := ⟨rfl, rfl, rfl, rfl, rfl, rfl, rfl, rfl⟩
theorem on_same (c : CliM) (r n : Int) : SameC c (onC c r n).1 ∧ (onC c r n).1.tries = c.tries ∧ (onC c r n).1.ch = c.ch ∧ (onC c r n).1.unsure = c.unsure := by
  unfold onC giveC endC
  repeat' split
  all_goals exact ⟨⟨rfl, rfl, rfl, rfl, rfl, rfl, rfl, rfl⟩, rfl, rfl, rfl⟩
theorem ref_same (c : CliM) (r n : Int) : SameC c (refC c r n).1 ∧ (refC c r n).1.tries = c.tries ∧ (refC c r n).1.ch = c.ch := by
  unfold refC
  split
  · obtain ⟨⟨h1, h2, h3, h4, h5, h6, h7, h8⟩, h9, h10, _⟩ := on_same { c with unsure := true } r n
    exact ⟨⟨h1, h2, h3, h4, h5, h6, h7, h8⟩, h9, h10⟩
  · split
    · exact ⟨⟨rfl, rfl, rfl, rfl, rfl, rfl, rfl, rfl⟩, rfl, rfl⟩
    · obtain ⟨h1, h2, h3, _⟩ := on_same c r n
      exact ⟨h1, h2, h3⟩
theorem take_same (c : CliM) (f : FrM) (n : Int) : SameC c (takeC c f n).1 := by
  unfold takeC
  split
  · split
    · exact .refl c
    · split
      · exact ⟨rfl, rfl, rfl, rfl, rfl, rfl, rfl, rfl⟩
      · exact ⟨rfl, rfl, rfl, rfl, rfl, rfl, rfl, rfl⟩
  · split
    · split
      · exact ⟨rfl, rfl, rfl, rfl, rfl, rfl, rfl, rfl⟩
      · exact .refl c
    · split
      · split
        · exact (ref_same c _ n).1
        · exact .refl c
      · exact .refl c
theorem tick_same (c : CliM) (n : Int) : SameC c (tickC c n).1 ∧ (tickC c n).1.tries = c.tries ∧ (tickC c n).1.ch = c.ch := by
  unfold tickC
  split
  · split
    · obtain ⟨⟨h1, h2, h3, h4, h5, h6, h7, h8⟩, h9, h10, _⟩ := on_same { c with unsure := true } 0 n
      exact ⟨⟨h1, h2, h3, h4, h5, h6, h7, h8⟩, h9, h10⟩
    · exact ⟨.refl c, rfl, rfl⟩
  · split
    · split
      · exact ⟨.refl c, rfl, rfl⟩
      · split
        · exact ⟨⟨rfl, rfl, rfl, rfl, rfl, rfl, rfl, rfl⟩, rfl, rfl⟩
        · exact ⟨⟨rfl, rfl, rfl, rfl, rfl, rfl, rfl, rfl⟩, rfl, rfl⟩
    · split
      · split
        · exact ⟨⟨rfl, rfl, rfl, rfl, rfl, rfl, rfl, rfl⟩, rfl, rfl⟩
        · exact ⟨.refl c, rfl, rfl⟩
      · exact ⟨.refl c, rfl, rfl⟩
theorem take_tries (c : CliM) (f : FrM) (n : Int) : (takeC c f n).1.tries ≤ c.tries + 1 ∧ c.tries ≤ (takeC c f n).1.tries := by
  have hr := (ref_same c f.reason n).2.1
  unfold takeC
  repeat' split
  all_goals first | omega | (simp only [tryC, endC]; omega)
theorem ch_len {c : CliM} (h : c.ok) : c.ch.mem.length ≤ 6 := by
  rcases h.ch with h | h
  · rw [h]; exact Nat.zero_le _
  · exact (okCh_len h).2.1
end Go.Proofs.YtghfigeepnbjaaaGreat
