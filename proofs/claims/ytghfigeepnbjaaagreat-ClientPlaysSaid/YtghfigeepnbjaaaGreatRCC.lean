/-
  An act's frame, by the document's client. No condition.
-/
import Derived.Test.YtghfigeepnbjaaaGreatRCB
import Derived.Test.YtghfigeepnbjaaaGreatPE
import Derived.Test.YtghfigeepnbjaaaGreatCliC
namespace Go.Proofs.YtghfigeepnbjaaaGreat
open Go.RowKit
abbrev actCs (y : ActC) : List SV := [.v (.int .u8 y.kind), .v (.int .u8 y.a), .v (.int .u8 y.b), .v (.int .i64 y.op.kind), .v (S y.op.key), .v (S y.op.value), .v (.int .i64 y.op.version)] ++ frL y.f (.v y.q) ++ [.v (.int .i64 y.n0), .v (.int .i64 y.n1), .v (.int .i64 y.n2)]
def ch5 (y : ActC) (c : CliM) : ChM := ⟨1 + y.a % 5 + y.b % 2 * c.ch.epoch, if y.b % 3 = 0 then [(y.a % 6, 1), ((y.a + 1) % 6, 1)] else [(y.a % 6, 1)], -1⟩
theorem ch_rng {c : CliM} (h : c.ok) : 0 ≤ c.ch.epoch ∧ c.ch.epoch ≤ 1099511627776 := by
  rcases h.ch with h | h
  · rw [h]; exact ⟨Int.le_refl _, show (0 : Int) ≤ 1099511627776 by decide⟩
  · have := okCh_len h; omega
theorem half_rng {b e : Int} (he : 0 ≤ e ∧ e ≤ 1099511627776) : 0 ≤ b % 2 * e ∧ b % 2 * e ≤ 1099511627776 := by
  rcases (show b % 2 = 0 ∨ b % 2 = 1 by omega) with h | h
  · rw [h, Int.zero_mul]; omega
  · rw [h, Int.one_mul]; exact he
section
variable (y : ActC) (hk : 0 ≤ y.kind ∧ y.kind ≤ 255) (ha : 0 ≤ y.a ∧ y.a ≤ 255) (hb : 0 ≤ y.b ∧ y.b ≤ 255) (z : RCy) (c : CliM) (hc : c.ok)
include hk ha hb hc
set_option maxRecDepth 100000 in
set_option maxHeartbeats 8000000 in
theorem rcFrame5_1 (h5 : y.kind % 11 = 5) (h3 : ¬ y.b % 3 = 0) : Spec Tryz.prog 14 [.agg (actCs y), .p 0 0] (rcH z c) fun s H1 => s = frS (frCfg ⟨1 + y.a % 5 + y.b % 2 * c.ch.epoch, [(y.a % 6, 1)], -1⟩) (.os 2 1) ∧ H1 = rcH z c ++ [.own 96 2 1 (memF [(y.a % 6, 1)])] := by
  have hse := hc.seq
  have htr := hc.tries
  have hep := ch_rng hc
  have hh := half_rng (b := y.b) hep
  obtain ⟨o, ho⟩ : ∃ o, (outcC c).1 = o := ⟨_, rfl⟩
  obtain ⟨hs, hhs⟩ : ∃ hs, (outcC c).2 = hs := ⟨_, rfl⟩
  unfold rcH
  rw [ho, hhs]
  obtain ⟨e, he⟩ : ∃ e, y.b % 2 * c.ch.epoch = e := ⟨_, rfl⟩
  rw [he] at hh ⊢
  refine spec_x Tryz.func14 rfl 2 rfl rfl fun w0 U => ?_
  repeat' ((conv => whnf); first
      | refine QuiD.draw (draw_go tabOK (by kernel_rfl) ?_)
      | rw [he]
      | refine CutN.plain ?_
      | with_reducible refine Br.tt ?_
      | with_reducible refine Br.ff ?_
      | with_reducible refine Br.nt ?_
      | with_reducible refine Br.nf ?_
      | with_reducible refine Br.eeI ?_
      | with_reducible refine Br.nnI ?_
      | refine Br.yes (by decide) ?_
      | refine Br.no (by decide) ?_
      | refine AppN.own ?_
      | refine Need.go rfl ?_
      | refine QuiD.quiet (by kernel_rfl) ?_
      | refine IdxN.lit ?_
      | refine draw_go tabOK (by kernel_rfl) ?_
      | refine Need.go ⟨rfl, rfl⟩ ?_
      | refine Need.go ⟨⟨rfl, rfl, rfl⟩, rfl⟩ ?_
      | (with_reducible refine Br.dec (fun h => ?_) (fun h => ?_); first | (rotate_left; exfalso; omega; clear h) | (exfalso; omega; clear h) | skip)
      | (with_reducible refine Br.eqI (fun h => ?_) (fun h => ?_); first | (rotate_left; exfalso; omega; clear h) | (exfalso; omega; clear h) | skip)
      | (with_reducible refine Br.neI (fun h => ?_) (fun h => ?_); first | (rotate_left; exfalso; omega; clear h) | (exfalso; omega; clear h) | skip)
      | (with_reducible refine Br.eqS (fun h => ?_) (fun h => ?_); first | (rotate_left; exfalso; omega; clear h) | (exfalso; omega; clear h) | skip)
      | (with_reducible refine Br.neS (fun h => ?_) (fun h => ?_); first | (rotate_left; exfalso; omega; clear h) | (exfalso; omega; clear h) | skip)
      | (with_reducible refine Br.nd (fun h => ?_) (fun h => ?_); first | (rotate_left; exfalso; omega; clear h) | (exfalso; omega; clear h) | skip)
      | refine Ar.i64 (by omega) (by omega) ?_
      | refine Need.go ⟨rfl, rfl, rfl, by omega, (Nat.mul_le_mul_right _ (show 1 + 1 ≤ 7 by omega)).trans (by decide)⟩ ?_
      | refine Need.go (by first | omega | decide | (simp <;> omega) | fail) ?_
      | refine Need.go (by first | (simp [Value.oneCell'] <;> omega) | fail) ?_
      | refine Need.go ⟨rfl, by omega, getD_one rfl rfl⟩ ?_
      | refine Need.go ⟨rfl, by omega, fun _ _ _ _ => rfl⟩ ?_
      | refine Br.both (fun h => ?_) (fun h => ?_))
  all_goals (conv => whnf)
  all_goals
    refine ⟨_, _, ⟨rfl, rfl⟩, by simp, trivial, less2 (τ := [some 0, some 1, some 4]) rfl ⟨by decide, rfl⟩ ?_ ?_⟩
    all_goals repeat' (first | exact ⟨_, rfl, ⟨rfl, rfl, rfl⟩, fun r c hr hc => mem1F _ _ r c hr hc⟩ | exact leT_junk rfl | refine And.intro ?_ ?_ | exact trivial | exact .inl ⟨rfl, rfl⟩ | rfl | exact .inr ⟨_, rfl, rfl, rfl⟩ | exact ⟨_, rfl, trivial⟩ | exact ⟨_, rfl, rfl⟩ | exact ⟨_, rfl, ⟨rfl, rfl, rfl⟩, fun _ _ _ _ => rfl⟩ | exact ⟨_, rfl, ⟨rfl, rfl, .inl rfl⟩, rfl⟩ | exact ⟨_, rfl, ⟨rfl, rfl, .inr rfl⟩, rfl⟩ | exact ⟨_, rfl, ⟨rfl, rfl, rfl, rfl, rfl⟩, rfl⟩ | exact ⟨_, rfl, ⟨rfl, rfl⟩, fun _ => Iff.rfl⟩ | refine ⟨_, rfl, rfl, ?_⟩ | refine ⟨_, rfl, ⟨rfl, rfl, rfl⟩, ?_⟩)
set_option maxRecDepth 100000 in
set_option maxHeartbeats 8000000 in
theorem rcFrame5_2 (h5 : y.kind % 11 = 5) (h3 : y.b % 3 = 0) : Spec Tryz.prog 14 [.agg (actCs y), .p 0 0] (rcH z c) fun s H1 => s = frS (frCfg ⟨1 + y.a % 5 + y.b % 2 * c.ch.epoch, [(y.a % 6, 1), ((y.a + 1) % 6, 1)], -1⟩) (.os 2 2) ∧ H1 = rcH z c ++ [.own 96 2 2 (memF [(y.a % 6, 1), ((y.a + 1) % 6, 1)])] := by
  have hse := hc.seq
  have htr := hc.tries
  have hep := ch_rng hc
  have hh := half_rng (b := y.b) hep
  obtain ⟨o, ho⟩ : ∃ o, (outcC c).1 = o := ⟨_, rfl⟩
  obtain ⟨hs, hhs⟩ : ∃ hs, (outcC c).2 = hs := ⟨_, rfl⟩
  unfold rcH
  rw [ho, hhs]
  obtain ⟨e, he⟩ : ∃ e, y.b % 2 * c.ch.epoch = e := ⟨_, rfl⟩
  rw [he] at hh ⊢
  refine spec_x Tryz.func14 rfl 2 rfl rfl fun w0 U => ?_
  repeat' ((conv => whnf); first
      | refine QuiD.draw (draw_go tabOK (by kernel_rfl) ?_)
      | rw [he]
      | refine CutN.plain ?_
      | with_reducible refine Br.tt ?_
      | with_reducible refine Br.ff ?_
      | with_reducible refine Br.nt ?_
      | with_reducible refine Br.nf ?_
      | with_reducible refine Br.eeI ?_
      | with_reducible refine Br.nnI ?_
      | refine Br.yes (by decide) ?_
      | refine Br.no (by decide) ?_
      | refine AppN.own ?_
      | refine Need.go rfl ?_
      | refine QuiD.quiet (by kernel_rfl) ?_
      | refine IdxN.lit ?_
      | refine draw_go tabOK (by kernel_rfl) ?_
      | refine Need.go ⟨rfl, rfl⟩ ?_
      | refine Need.go ⟨⟨rfl, rfl, rfl⟩, rfl⟩ ?_
      | (with_reducible refine Br.dec (fun h => ?_) (fun h => ?_); first | (rotate_left; exfalso; omega; clear h) | (exfalso; omega; clear h) | skip)
      | (with_reducible refine Br.eqI (fun h => ?_) (fun h => ?_); first | (rotate_left; exfalso; omega; clear h) | (exfalso; omega; clear h) | skip)
      | (with_reducible refine Br.neI (fun h => ?_) (fun h => ?_); first | (rotate_left; exfalso; omega; clear h) | (exfalso; omega; clear h) | skip)
      | (with_reducible refine Br.eqS (fun h => ?_) (fun h => ?_); first | (rotate_left; exfalso; omega; clear h) | (exfalso; omega; clear h) | skip)
      | (with_reducible refine Br.neS (fun h => ?_) (fun h => ?_); first | (rotate_left; exfalso; omega; clear h) | (exfalso; omega; clear h) | skip)
      | (with_reducible refine Br.nd (fun h => ?_) (fun h => ?_); first | (rotate_left; exfalso; omega; clear h) | (exfalso; omega; clear h) | skip)
      | refine Ar.i64 (by omega) (by omega) ?_
      | refine Need.go ⟨rfl, rfl, rfl, by omega, (Nat.mul_le_mul_right _ (show 1 + 1 ≤ 7 by omega)).trans (by decide)⟩ ?_
      | refine Need.go (by first | omega | decide | (simp <;> omega) | fail) ?_
      | refine Need.go (by first | (simp [Value.oneCell'] <;> omega) | fail) ?_
      | refine Need.go ⟨rfl, by omega, getD_one rfl rfl⟩ ?_
      | refine Need.go ⟨rfl, by omega, fun _ _ _ _ => rfl⟩ ?_
      | refine Br.both (fun h => ?_) (fun h => ?_))
  all_goals (conv => whnf)
  all_goals
    refine ⟨_, _, ⟨rfl, rfl⟩, by simp, trivial, less2 (τ := [some 0, some 1, some 7]) rfl ⟨by decide, rfl⟩ ?_ ?_⟩
    all_goals repeat' (first | exact ⟨_, rfl, ⟨rfl, rfl, rfl⟩, fun r c hr hc => by rcases (show r = 0 ∨ r = 1 by omega) with rfl | rfl <;> rcases (show c = 0 ∨ c = 1 by omega) with rfl | rfl <;> rfl⟩ | exact leT_junk rfl | refine And.intro ?_ ?_ | exact trivial | exact .inl ⟨rfl, rfl⟩ | rfl | exact .inr ⟨_, rfl, rfl, rfl⟩ | exact ⟨_, rfl, trivial⟩ | exact ⟨_, rfl, rfl⟩ | exact ⟨_, rfl, ⟨rfl, rfl, rfl⟩, fun _ _ _ _ => rfl⟩ | exact ⟨_, rfl, ⟨rfl, rfl, .inl rfl⟩, rfl⟩ | exact ⟨_, rfl, ⟨rfl, rfl, .inr rfl⟩, rfl⟩ | exact ⟨_, rfl, ⟨rfl, rfl, rfl, rfl, rfl⟩, rfl⟩ | exact ⟨_, rfl, ⟨rfl, rfl⟩, fun _ => Iff.rfl⟩ | refine ⟨_, rfl, rfl, ?_⟩ | refine ⟨_, rfl, ⟨rfl, rfl, rfl⟩, ?_⟩)
set_option maxRecDepth 100000 in
set_option maxHeartbeats 8000000 in
theorem rcFrame9 (h9 : y.kind % 11 = 9) : Spec Tryz.prog 14 [.agg (actCs y), .p 0 0] (rcH z c) fun s H1 => s = frS y.f (.v y.q) ∧ H1 = rcH z c := by
  have hse := hc.seq
  have htr := hc.tries
  have hep := ch_rng hc
  have hh := half_rng (b := y.b) hep
  obtain ⟨o, ho⟩ : ∃ o, (outcC c).1 = o := ⟨_, rfl⟩
  obtain ⟨hs, hhs⟩ : ∃ hs, (outcC c).2 = hs := ⟨_, rfl⟩
  unfold rcH
  rw [ho, hhs]
  refine spec_x Tryz.func14 rfl 2 rfl rfl fun w0 U => ?_
  repeat' ((conv => whnf); first
      | refine QuiD.draw (draw_go tabOK (by kernel_rfl) ?_)
      | refine CutN.plain ?_
      | with_reducible refine Br.tt ?_
      | with_reducible refine Br.ff ?_
      | with_reducible refine Br.nt ?_
      | with_reducible refine Br.nf ?_
      | with_reducible refine Br.eeI ?_
      | with_reducible refine Br.nnI ?_
      | refine Br.yes (by decide) ?_
      | refine Br.no (by decide) ?_
      | refine AppN.own ?_
      | refine Need.go rfl ?_
      | refine QuiD.quiet (by kernel_rfl) ?_
      | refine IdxN.lit ?_
      | refine draw_go tabOK (by kernel_rfl) ?_
      | refine Need.go ⟨rfl, rfl⟩ ?_
      | refine Need.go ⟨⟨rfl, rfl, rfl⟩, rfl⟩ ?_
      | (with_reducible refine Br.dec (fun h => ?_) (fun h => ?_); first | (rotate_left; exfalso; omega; clear h) | (exfalso; omega; clear h) | skip)
      | (with_reducible refine Br.eqI (fun h => ?_) (fun h => ?_); first | (rotate_left; exfalso; omega; clear h) | (exfalso; omega; clear h) | skip)
      | (with_reducible refine Br.neI (fun h => ?_) (fun h => ?_); first | (rotate_left; exfalso; omega; clear h) | (exfalso; omega; clear h) | skip)
      | (with_reducible refine Br.eqS (fun h => ?_) (fun h => ?_); first | (rotate_left; exfalso; omega; clear h) | (exfalso; omega; clear h) | skip)
      | (with_reducible refine Br.neS (fun h => ?_) (fun h => ?_); first | (rotate_left; exfalso; omega; clear h) | (exfalso; omega; clear h) | skip)
      | (with_reducible refine Br.nd (fun h => ?_) (fun h => ?_); first | (rotate_left; exfalso; omega; clear h) | (exfalso; omega; clear h) | skip)
      | refine Ar.i64 (by omega) (by omega) ?_
      | refine Need.go (by first | omega | decide | (simp <;> omega) | fail) ?_
      | refine Need.go (by first | (simp [Value.oneCell'] <;> omega) | fail) ?_
      | refine Need.go ⟨rfl, by omega, getD_one rfl rfl⟩ ?_
      | refine Need.go ⟨rfl, by omega, fun _ _ _ _ => rfl⟩ ?_
      | refine Br.both (fun h => ?_) (fun h => ?_))
  all_goals (conv => whnf)
  all_goals
    refine ⟨_, _, ⟨rfl, rfl⟩, by simp, trivial, less2 (τ := [some 0, some 1]) rfl ⟨by decide, rfl⟩ ?_ ?_⟩
    all_goals repeat' (first | exact leT_junk rfl | refine And.intro ?_ ?_ | exact trivial | exact .inl ⟨rfl, rfl⟩ | rfl | exact .inr ⟨_, rfl, rfl, rfl⟩ | exact ⟨_, rfl, trivial⟩ | exact ⟨_, rfl, rfl⟩ | exact ⟨_, rfl, ⟨rfl, rfl, rfl⟩, fun _ _ _ _ => rfl⟩ | exact ⟨_, rfl, ⟨rfl, rfl, .inl rfl⟩, rfl⟩ | exact ⟨_, rfl, ⟨rfl, rfl, .inr rfl⟩, rfl⟩ | exact ⟨_, rfl, ⟨rfl, rfl, rfl, rfl, rfl⟩, rfl⟩ | exact ⟨_, rfl, ⟨rfl, rfl⟩, fun _ => Iff.rfl⟩ | refine ⟨_, rfl, rfl, ?_⟩ | refine ⟨_, rfl, ⟨rfl, rfl, rfl⟩, ?_⟩)
set_option maxRecDepth 100000 in
set_option maxHeartbeats 8000000 in
theorem rcFrameX (h5 : ¬ y.kind % 11 = 5) (h9 : ¬ y.kind % 11 = 9) : Spec Tryz.prog 14 [.agg (actCs y), .p 0 0] (rcH z c) fun s H1 => ∃ f : FrM, f.ch = chN ∧ s = frS f (.v (.slice none 0 0)) ∧ H1 = rcH z c := by
  have hse := hc.seq
  have htr := hc.tries
  have hep := ch_rng hc
  have hh := half_rng (b := y.b) hep
  obtain ⟨o, ho⟩ : ∃ o, (outcC c).1 = o := ⟨_, rfl⟩
  obtain ⟨hs, hhs⟩ : ∃ hs, (outcC c).2 = hs := ⟨_, rfl⟩
  unfold rcH
  rw [ho, hhs]
  refine spec_x Tryz.func14 rfl 2 rfl rfl fun w0 U => ?_
  repeat' ((conv => whnf); first
      | refine QuiD.draw (draw_go tabOK (by kernel_rfl) ?_)
      | refine CutN.plain ?_
      | with_reducible refine Br.tt ?_
      | with_reducible refine Br.ff ?_
      | with_reducible refine Br.nt ?_
      | with_reducible refine Br.nf ?_
      | with_reducible refine Br.eeI ?_
      | with_reducible refine Br.nnI ?_
      | refine Br.yes (by decide) ?_
      | refine Br.no (by decide) ?_
      | refine AppN.own ?_
      | refine Need.go rfl ?_
      | refine QuiD.quiet (by kernel_rfl) ?_
      | refine IdxN.lit ?_
      | refine draw_go tabOK (by kernel_rfl) ?_
      | refine Need.go ⟨rfl, rfl⟩ ?_
      | refine Need.go ⟨⟨rfl, rfl, rfl⟩, rfl⟩ ?_
      | (with_reducible refine Br.dec (fun h => ?_) (fun h => ?_); first | (rotate_left; exfalso; omega; clear h) | (exfalso; omega; clear h) | skip)
      | (with_reducible refine Br.eqI (fun h => ?_) (fun h => ?_); first | (rotate_left; exfalso; omega; clear h) | (exfalso; omega; clear h) | skip)
      | (with_reducible refine Br.neI (fun h => ?_) (fun h => ?_); first | (rotate_left; exfalso; omega; clear h) | (exfalso; omega; clear h) | skip)
      | (with_reducible refine Br.eqS (fun h => ?_) (fun h => ?_); first | (rotate_left; exfalso; omega; clear h) | (exfalso; omega; clear h) | skip)
      | (with_reducible refine Br.neS (fun h => ?_) (fun h => ?_); first | (rotate_left; exfalso; omega; clear h) | (exfalso; omega; clear h) | skip)
      | (with_reducible refine Br.nd (fun h => ?_) (fun h => ?_); first | (rotate_left; exfalso; omega; clear h) | (exfalso; omega; clear h) | skip)
      | refine Ar.i64 (by omega) (by omega) ?_
      | refine Need.go (by first | omega | decide | (simp <;> omega) | fail) ?_
      | refine Need.go (by first | (simp [Value.oneCell'] <;> omega) | fail) ?_
      | refine Need.go ⟨rfl, by omega, getD_one rfl rfl⟩ ?_
      | refine Need.go ⟨rfl, by omega, fun _ _ _ _ => rfl⟩ ?_
      | refine Br.both (fun h => ?_) (fun h => ?_))
  all_goals (conv => whnf)
  all_goals first
    | (refine ⟨_, _, ⟨{ frZ with kind := 2, client := c.id, seq := c.seq, try' := c.tries, res := ⟨1, [], y.b, y.b⟩ }, rfl, rfl, rfl⟩, by simp, trivial, less2 (τ := [some 0, some 1]) rfl ⟨by decide, rfl⟩ ?_ ?_⟩
       all_goals repeat' (first | exact leT_junk rfl | refine And.intro ?_ ?_ | exact trivial | exact .inl ⟨rfl, rfl⟩ | rfl | exact .inr ⟨_, rfl, rfl, rfl⟩ | exact ⟨_, rfl, trivial⟩ | exact ⟨_, rfl, rfl⟩ | exact ⟨_, rfl, ⟨rfl, rfl, rfl⟩, fun _ _ _ _ => rfl⟩ | exact ⟨_, rfl, ⟨rfl, rfl, .inl rfl⟩, rfl⟩ | exact ⟨_, rfl, ⟨rfl, rfl, .inr rfl⟩, rfl⟩ | exact ⟨_, rfl, ⟨rfl, rfl, rfl, rfl, rfl⟩, rfl⟩ | exact ⟨_, rfl, ⟨rfl, rfl⟩, fun _ => Iff.rfl⟩ | refine ⟨_, rfl, rfl, ?_⟩ | refine ⟨_, rfl, ⟨rfl, rfl, rfl⟩, ?_⟩)
       done)
    | (refine ⟨_, _, ⟨{ frZ with kind := 2, client := c.id, seq := c.seq, try' := c.tries - 1, res := ⟨1, [], y.b, y.b⟩ }, rfl, rfl, rfl⟩, by simp, trivial, less2 (τ := [some 0, some 1]) rfl ⟨by decide, rfl⟩ ?_ ?_⟩
       all_goals repeat' (first | exact leT_junk rfl | refine And.intro ?_ ?_ | exact trivial | exact .inl ⟨rfl, rfl⟩ | rfl | exact .inr ⟨_, rfl, rfl, rfl⟩ | exact ⟨_, rfl, trivial⟩ | exact ⟨_, rfl, rfl⟩ | exact ⟨_, rfl, ⟨rfl, rfl, rfl⟩, fun _ _ _ _ => rfl⟩ | exact ⟨_, rfl, ⟨rfl, rfl, .inl rfl⟩, rfl⟩ | exact ⟨_, rfl, ⟨rfl, rfl, .inr rfl⟩, rfl⟩ | exact ⟨_, rfl, ⟨rfl, rfl, rfl, rfl, rfl⟩, rfl⟩ | exact ⟨_, rfl, ⟨rfl, rfl⟩, fun _ => Iff.rfl⟩ | refine ⟨_, rfl, rfl, ?_⟩ | refine ⟨_, rfl, ⟨rfl, rfl, rfl⟩, ?_⟩)
       done)
    | (refine ⟨_, _, ⟨{ frZ with kind := 2, client := c.id, seq := c.seq - 1, try' := c.tries, res := ⟨1, [], y.b, y.b⟩ }, rfl, rfl, rfl⟩, by simp, trivial, less2 (τ := [some 0, some 1]) rfl ⟨by decide, rfl⟩ ?_ ?_⟩
       all_goals repeat' (first | exact leT_junk rfl | refine And.intro ?_ ?_ | exact trivial | exact .inl ⟨rfl, rfl⟩ | rfl | exact .inr ⟨_, rfl, rfl, rfl⟩ | exact ⟨_, rfl, trivial⟩ | exact ⟨_, rfl, rfl⟩ | exact ⟨_, rfl, ⟨rfl, rfl, rfl⟩, fun _ _ _ _ => rfl⟩ | exact ⟨_, rfl, ⟨rfl, rfl, .inl rfl⟩, rfl⟩ | exact ⟨_, rfl, ⟨rfl, rfl, .inr rfl⟩, rfl⟩ | exact ⟨_, rfl, ⟨rfl, rfl, rfl, rfl, rfl⟩, rfl⟩ | exact ⟨_, rfl, ⟨rfl, rfl⟩, fun _ => Iff.rfl⟩ | refine ⟨_, rfl, rfl, ?_⟩ | refine ⟨_, rfl, ⟨rfl, rfl, rfl⟩, ?_⟩)
       done)
    | (refine ⟨_, _, ⟨{ frZ with kind := 2, client := c.id, seq := c.seq - 1, try' := c.tries - 1, res := ⟨1, [], y.b, y.b⟩ }, rfl, rfl, rfl⟩, by simp, trivial, less2 (τ := [some 0, some 1]) rfl ⟨by decide, rfl⟩ ?_ ?_⟩
       all_goals repeat' (first | exact leT_junk rfl | refine And.intro ?_ ?_ | exact trivial | exact .inl ⟨rfl, rfl⟩ | rfl | exact .inr ⟨_, rfl, rfl, rfl⟩ | exact ⟨_, rfl, trivial⟩ | exact ⟨_, rfl, rfl⟩ | exact ⟨_, rfl, ⟨rfl, rfl, rfl⟩, fun _ _ _ _ => rfl⟩ | exact ⟨_, rfl, ⟨rfl, rfl, .inl rfl⟩, rfl⟩ | exact ⟨_, rfl, ⟨rfl, rfl, .inr rfl⟩, rfl⟩ | exact ⟨_, rfl, ⟨rfl, rfl, rfl, rfl, rfl⟩, rfl⟩ | exact ⟨_, rfl, ⟨rfl, rfl⟩, fun _ => Iff.rfl⟩ | refine ⟨_, rfl, rfl, ?_⟩ | refine ⟨_, rfl, ⟨rfl, rfl, rfl⟩, ?_⟩)
       done)
    | (refine ⟨_, _, ⟨{ frZ with kind := 3, client := c.id, seq := c.seq, try' := c.tries, reason := y.b % 12 }, rfl, rfl, rfl⟩, by simp, trivial, less2 (τ := [some 0, some 1]) rfl ⟨by decide, rfl⟩ ?_ ?_⟩
       all_goals repeat' (first | exact leT_junk rfl | refine And.intro ?_ ?_ | exact trivial | exact .inl ⟨rfl, rfl⟩ | rfl | exact .inr ⟨_, rfl, rfl, rfl⟩ | exact ⟨_, rfl, trivial⟩ | exact ⟨_, rfl, rfl⟩ | exact ⟨_, rfl, ⟨rfl, rfl, rfl⟩, fun _ _ _ _ => rfl⟩ | exact ⟨_, rfl, ⟨rfl, rfl, .inl rfl⟩, rfl⟩ | exact ⟨_, rfl, ⟨rfl, rfl, .inr rfl⟩, rfl⟩ | exact ⟨_, rfl, ⟨rfl, rfl, rfl, rfl, rfl⟩, rfl⟩ | exact ⟨_, rfl, ⟨rfl, rfl⟩, fun _ => Iff.rfl⟩ | refine ⟨_, rfl, rfl, ?_⟩ | refine ⟨_, rfl, ⟨rfl, rfl, rfl⟩, ?_⟩)
       done)
    | (refine ⟨_, _, ⟨{ frZ with kind := 3, client := c.id, seq := c.seq, try' := c.tries - 1, reason := y.b % 12 }, rfl, rfl, rfl⟩, by simp, trivial, less2 (τ := [some 0, some 1]) rfl ⟨by decide, rfl⟩ ?_ ?_⟩
       all_goals repeat' (first | exact leT_junk rfl | refine And.intro ?_ ?_ | exact trivial | exact .inl ⟨rfl, rfl⟩ | rfl | exact .inr ⟨_, rfl, rfl, rfl⟩ | exact ⟨_, rfl, trivial⟩ | exact ⟨_, rfl, rfl⟩ | exact ⟨_, rfl, ⟨rfl, rfl, rfl⟩, fun _ _ _ _ => rfl⟩ | exact ⟨_, rfl, ⟨rfl, rfl, .inl rfl⟩, rfl⟩ | exact ⟨_, rfl, ⟨rfl, rfl, .inr rfl⟩, rfl⟩ | exact ⟨_, rfl, ⟨rfl, rfl, rfl, rfl, rfl⟩, rfl⟩ | exact ⟨_, rfl, ⟨rfl, rfl⟩, fun _ => Iff.rfl⟩ | refine ⟨_, rfl, rfl, ?_⟩ | refine ⟨_, rfl, ⟨rfl, rfl, rfl⟩, ?_⟩)
       done)
    | (refine ⟨_, _, ⟨{ frZ with kind := 3, client := c.id, seq := c.seq - 1, try' := c.tries, reason := y.b % 12 }, rfl, rfl, rfl⟩, by simp, trivial, less2 (τ := [some 0, some 1]) rfl ⟨by decide, rfl⟩ ?_ ?_⟩
       all_goals repeat' (first | exact leT_junk rfl | refine And.intro ?_ ?_ | exact trivial | exact .inl ⟨rfl, rfl⟩ | rfl | exact .inr ⟨_, rfl, rfl, rfl⟩ | exact ⟨_, rfl, trivial⟩ | exact ⟨_, rfl, rfl⟩ | exact ⟨_, rfl, ⟨rfl, rfl, rfl⟩, fun _ _ _ _ => rfl⟩ | exact ⟨_, rfl, ⟨rfl, rfl, .inl rfl⟩, rfl⟩ | exact ⟨_, rfl, ⟨rfl, rfl, .inr rfl⟩, rfl⟩ | exact ⟨_, rfl, ⟨rfl, rfl, rfl, rfl, rfl⟩, rfl⟩ | exact ⟨_, rfl, ⟨rfl, rfl⟩, fun _ => Iff.rfl⟩ | refine ⟨_, rfl, rfl, ?_⟩ | refine ⟨_, rfl, ⟨rfl, rfl, rfl⟩, ?_⟩)
       done)
    | (refine ⟨_, _, ⟨{ frZ with kind := 3, client := c.id, seq := c.seq - 1, try' := c.tries - 1, reason := y.b % 12 }, rfl, rfl, rfl⟩, by simp, trivial, less2 (τ := [some 0, some 1]) rfl ⟨by decide, rfl⟩ ?_ ?_⟩
       all_goals repeat' (first | exact leT_junk rfl | refine And.intro ?_ ?_ | exact trivial | exact .inl ⟨rfl, rfl⟩ | rfl | exact .inr ⟨_, rfl, rfl, rfl⟩ | exact ⟨_, rfl, trivial⟩ | exact ⟨_, rfl, rfl⟩ | exact ⟨_, rfl, ⟨rfl, rfl, rfl⟩, fun _ _ _ _ => rfl⟩ | exact ⟨_, rfl, ⟨rfl, rfl, .inl rfl⟩, rfl⟩ | exact ⟨_, rfl, ⟨rfl, rfl, .inr rfl⟩, rfl⟩ | exact ⟨_, rfl, ⟨rfl, rfl, rfl, rfl, rfl⟩, rfl⟩ | exact ⟨_, rfl, ⟨rfl, rfl⟩, fun _ => Iff.rfl⟩ | refine ⟨_, rfl, rfl, ?_⟩ | refine ⟨_, rfl, ⟨rfl, rfl, rfl⟩, ?_⟩)
       done)
    | fail
end
end Go.Proofs.YtghfigeepnbjaaaGreat
