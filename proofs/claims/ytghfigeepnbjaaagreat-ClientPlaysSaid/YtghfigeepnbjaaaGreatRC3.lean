/-
  The document's client: on, try. No condition.
-/
import Derived.Test.YtghfigeepnbjaaaGreatRC2
import Derived.Test.YtghfigeepnbjaaaGreatPH
namespace Go.Proofs.YtghfigeepnbjaaaGreat
open Go.RowKit
/-- Where it is when it has gone on. -/
def onY (y : RCy) (c : CliM) : RCy := if c.doing = 3 then { y with at' := c.til } else y
set_option maxRecDepth 100000 in
set_option maxHeartbeats 4000000 in
theorem rcOn (y : RCy) (c : CliM) (hc : c.ok) (r now : Int) (hn : 0 ≤ now ∧ now ≤ 1099511627776) : Spec Tryz.prog 40 [.p 0 0, .v (.int .i64 r), .v (.int .i64 now)] (rcH y c) fun s H1 => s = .tup [] ∧ H1 = rcH (onY y (onC c r now).1) (onC c r now).1 := by
  have hbk := hc.bk
  have htr := hc.tries
  have hbu := hc.budget
  obtain ⟨o, ho⟩ : ∃ o, (outcC c).1 = o := ⟨_, rfl⟩
  obtain ⟨hs, hh⟩ : ∃ hs, (outcC c).2 = hs := ⟨_, rfl⟩
  unfold rcH
  rw [ho, hh]
  by_cases h1 : c.budget < c.tries ∨ c.deadline < now
  · have e : onC c r now = giveC c r := if_pos h1
    rw [e]
    have ey : onY y (giveC c r).1 = y := if_neg (show ¬ (0 : Int) = 3 by decide)
    rw [ey]
    refine spec_x Tryz.func40 rfl 2 rfl rfl fun w0 U => ?_
    by_cases h2 : c.budget < c.tries
    · repeat' ((conv => whnf); first
        | refine QuiD.draw (draw_go tabOK (by kernel_rfl) ?_)
        | refine CutN.plain ?_
        | with_reducible refine Br.tt ?_
        | with_reducible refine Br.ff ?_
        | with_reducible refine Br.nt ?_
        | with_reducible refine Br.nf ?_
        | with_reducible refine Br.eeI ?_
        | with_reducible refine Br.nnI ?_
        | refine Br.yes (by decide) ?_
        | refine Br.no (by decide) ?_
        | refine AppN.own ?_
        | refine Need.go rfl ?_
        | refine QuiD.quiet (by kernel_rfl) ?_
        | refine IdxN.lit ?_
        | refine draw_go tabOK (by kernel_rfl) ?_
        | refine Need.go ⟨rfl, rfl⟩ ?_
        | refine Need.go ⟨⟨rfl, rfl, rfl⟩, rfl⟩ ?_
        | (with_reducible refine Br.dec (fun h => ?_) (fun h => ?_); first | (rotate_left; exfalso; omega; clear h) | (exfalso; omega; clear h) | skip)
        | (with_reducible refine Br.eqI (fun h => ?_) (fun h => ?_); first | (rotate_left; exfalso; omega; clear h) | (exfalso; omega; clear h) | skip)
        | (with_reducible refine Br.neI (fun h => ?_) (fun h => ?_); first | (rotate_left; exfalso; omega; clear h) | (exfalso; omega; clear h) | skip)
        | (with_reducible refine Br.eqS (fun h => ?_) (fun h => ?_); first | (rotate_left; exfalso; omega; clear h) | (exfalso; omega; clear h) | skip)
        | (with_reducible refine Br.neS (fun h => ?_) (fun h => ?_); first | (rotate_left; exfalso; omega; clear h) | (exfalso; omega; clear h) | skip)
        | (with_reducible refine Br.nd (fun h => ?_) (fun h => ?_); first | (rotate_left; exfalso; omega; clear h) | (exfalso; omega; clear h) | skip)
        | refine Ar.i64 (by omega) (by omega) ?_
        | (refine call_sp (f := 42) (rcLeave y c o hs r) [0, 1] (by decide) rfl ⟨rfl, rfl, trivial⟩ rfl ?_; rintro s H1 ⟨rfl, rfl⟩)
        | (refine seg_sp (f := 42) (rcLeave y c o hs r) (fun _ => rfl) [0, 1] (by decide) rfl ⟨rfl, rfl, trivial⟩ rfl ?_)
        | refine Need.go (by first | omega | decide | (simp <;> omega) | fail) ?_
        | refine Need.go (by first | (simp [Value.oneCell'] <;> omega) | fail) ?_
        | refine Need.go ⟨rfl, by omega, getD_one rfl rfl⟩ ?_
        | refine Need.go ⟨rfl, by omega, fun _ _ _ _ => rfl⟩ ?_
        | refine Br.both (fun h => ?_) (fun h => ?_))
      all_goals (conv => whnf)
      refine ⟨_, _, ⟨rfl, rfl⟩, by simp, trivial, less2 (τ := [some 0, some 1]) rfl ⟨by decide, rfl⟩ ?_ ?_⟩
      all_goals repeat' (first | exact leT_junk rfl | refine And.intro ?_ ?_ | exact trivial | exact .inl ⟨rfl, rfl⟩ | rfl | exact .inr ⟨_, rfl, rfl, rfl⟩ | exact ⟨_, rfl, trivial⟩ | exact ⟨_, rfl, rfl⟩ | exact ⟨_, rfl, ⟨rfl, rfl, rfl⟩, fun _ _ _ _ => rfl⟩ | exact ⟨_, rfl, ⟨rfl, rfl, .inl rfl⟩, rfl⟩ | exact ⟨_, rfl, ⟨rfl, rfl, .inr rfl⟩, rfl⟩ | exact ⟨_, rfl, ⟨rfl, rfl, rfl, rfl, rfl⟩, rfl⟩ | exact ⟨_, rfl, ⟨rfl, rfl⟩, fun _ => Iff.rfl⟩ | refine ⟨_, rfl, rfl, ?_⟩ | refine ⟨_, rfl, ⟨rfl, rfl, rfl⟩, ?_⟩)
    · have h3 : c.deadline < now := by omega
      repeat' ((conv => whnf); first
          | refine QuiD.draw (draw_go tabOK (by kernel_rfl) ?_)
          | refine CutN.plain ?_
          | with_reducible refine Br.tt ?_
          | with_reducible refine Br.ff ?_
          | with_reducible refine Br.nt ?_
          | with_reducible refine Br.nf ?_
          | with_reducible refine Br.eeI ?_
          | with_reducible refine Br.nnI ?_
          | refine Br.yes (by decide) ?_
          | refine Br.no (by decide) ?_
          | refine AppN.own ?_
          | refine Need.go rfl ?_
          | refine QuiD.quiet (by kernel_rfl) ?_
          | refine IdxN.lit ?_
          | refine draw_go tabOK (by kernel_rfl) ?_
          | refine Need.go ⟨rfl, rfl⟩ ?_
          | refine Need.go ⟨⟨rfl, rfl, rfl⟩, rfl⟩ ?_
          | (with_reducible refine Br.dec (fun h => ?_) (fun h => ?_); first | (rotate_left; exfalso; omega; clear h) | (exfalso; omega; clear h) | skip)
          | (with_reducible refine Br.eqI (fun h => ?_) (fun h => ?_); first | (rotate_left; exfalso; omega; clear h) | (exfalso; omega; clear h) | skip)
          | (with_reducible refine Br.neI (fun h => ?_) (fun h => ?_); first | (rotate_left; exfalso; omega; clear h) | (exfalso; omega; clear h) | skip)
          | (with_reducible refine Br.eqS (fun h => ?_) (fun h => ?_); first | (rotate_left; exfalso; omega; clear h) | (exfalso; omega; clear h) | skip)
          | (with_reducible refine Br.neS (fun h => ?_) (fun h => ?_); first | (rotate_left; exfalso; omega; clear h) | (exfalso; omega; clear h) | skip)
          | (with_reducible refine Br.nd (fun h => ?_) (fun h => ?_); first | (rotate_left; exfalso; omega; clear h) | (exfalso; omega; clear h) | skip)
          | refine Ar.i64 (by omega) (by omega) ?_
          | (refine call_sp (f := 42) (rcLeave y c o hs r) [0, 1] (by decide) rfl ⟨rfl, rfl, trivial⟩ rfl ?_; rintro s H1 ⟨rfl, rfl⟩)
          | (refine seg_sp (f := 42) (rcLeave y c o hs r) (fun _ => rfl) [0, 1] (by decide) rfl ⟨rfl, rfl, trivial⟩ rfl ?_)
          | refine Need.go (by first | omega | decide | (simp <;> omega) | fail) ?_
          | refine Need.go (by first | (simp [Value.oneCell'] <;> omega) | fail) ?_
          | refine Need.go ⟨rfl, by omega, getD_one rfl rfl⟩ ?_
          | refine Need.go ⟨rfl, by omega, fun _ _ _ _ => rfl⟩ ?_
          | refine Br.both (fun h => ?_) (fun h => ?_))
      all_goals (conv => whnf)
      refine ⟨_, _, ⟨rfl, rfl⟩, by simp, trivial, less2 (τ := [some 0, some 1]) rfl ⟨by decide, rfl⟩ ?_ ?_⟩
      all_goals repeat' (first | exact leT_junk rfl | refine And.intro ?_ ?_ | exact trivial | exact .inl ⟨rfl, rfl⟩ | rfl | exact .inr ⟨_, rfl, rfl, rfl⟩ | exact ⟨_, rfl, trivial⟩ | exact ⟨_, rfl, rfl⟩ | exact ⟨_, rfl, ⟨rfl, rfl, rfl⟩, fun _ _ _ _ => rfl⟩ | exact ⟨_, rfl, ⟨rfl, rfl, .inl rfl⟩, rfl⟩ | exact ⟨_, rfl, ⟨rfl, rfl, .inr rfl⟩, rfl⟩ | exact ⟨_, rfl, ⟨rfl, rfl, rfl, rfl, rfl⟩, rfl⟩ | exact ⟨_, rfl, ⟨rfl, rfl⟩, fun _ => Iff.rfl⟩ | refine ⟨_, rfl, rfl, ?_⟩ | refine ⟨_, rfl, ⟨rfl, rfl, rfl⟩, ?_⟩)
  · have h2 : ¬ c.budget < c.tries := fun h => h1 (.inl h)
    have h3 : ¬ c.deadline < now := fun h => h1 (.inr h)
    have htk := rbkTake c.bk hbk now
    obtain ⟨b', hb'⟩ : ∃ b', (tkF c.bk now).1 = b' := ⟨_, rfl⟩
    cases h4 : (tkF c.bk now).2 with
    | false =>
      have e : onC c r now = giveC { c with bk := b' } r := by unfold onC; rw [if_neg h1, if_pos h4, hb']
      rw [e]
      rw [h4, hb'] at htk
      have ey : onY y (giveC { c with bk := b' } r).1 = y := if_neg (show ¬ (0 : Int) = 3 by decide)
      rw [ey]
      refine spec_x Tryz.func40 rfl 2 rfl rfl fun w0 U => ?_
      repeat' ((conv => whnf); first
          | refine QuiD.draw (draw_go tabOK (by kernel_rfl) ?_)
          | refine CutN.plain ?_
          | with_reducible refine Br.tt ?_
          | with_reducible refine Br.ff ?_
          | with_reducible refine Br.nt ?_
          | with_reducible refine Br.nf ?_
          | with_reducible refine Br.eeI ?_
          | with_reducible refine Br.nnI ?_
          | refine Br.yes (by decide) ?_
          | refine Br.no (by decide) ?_
          | refine AppN.own ?_
          | refine Need.go rfl ?_
          | refine QuiD.quiet (by kernel_rfl) ?_
          | refine IdxN.lit ?_
          | refine draw_go tabOK (by kernel_rfl) ?_
          | refine Need.go ⟨rfl, rfl⟩ ?_
          | refine Need.go ⟨⟨rfl, rfl, rfl⟩, rfl⟩ ?_
          | (with_reducible refine Br.dec (fun h => ?_) (fun h => ?_); first | (rotate_left; exfalso; omega; clear h) | (exfalso; omega; clear h) | skip)
          | (with_reducible refine Br.eqI (fun h => ?_) (fun h => ?_); first | (rotate_left; exfalso; omega; clear h) | (exfalso; omega; clear h) | skip)
          | (with_reducible refine Br.neI (fun h => ?_) (fun h => ?_); first | (rotate_left; exfalso; omega; clear h) | (exfalso; omega; clear h) | skip)
          | (with_reducible refine Br.eqS (fun h => ?_) (fun h => ?_); first | (rotate_left; exfalso; omega; clear h) | (exfalso; omega; clear h) | skip)
          | (with_reducible refine Br.neS (fun h => ?_) (fun h => ?_); first | (rotate_left; exfalso; omega; clear h) | (exfalso; omega; clear h) | skip)
          | (with_reducible refine Br.nd (fun h => ?_) (fun h => ?_); first | (rotate_left; exfalso; omega; clear h) | (exfalso; omega; clear h) | skip)
          | refine Ar.i64 (by omega) (by omega) ?_
          | (refine call_sp (f := 63) (htk) [1] (by decide) rfl ⟨rfl, trivial⟩ rfl ?_; rintro s H1 ⟨rfl, rfl⟩)
          | (refine seg_sp (f := 63) (htk) (fun _ => rfl) [1] (by decide) rfl ⟨rfl, trivial⟩ rfl ?_)
          | (refine call_sp (f := 42) (rcLeave y { c with bk := b' } o hs r) [0, 1] (by decide) rfl ⟨rfl, rfl, trivial⟩ rfl ?_; rintro s H1 ⟨rfl, rfl⟩)
          | (refine seg_sp (f := 42) (rcLeave y { c with bk := b' } o hs r) (fun _ => rfl) [0, 1] (by decide) rfl ⟨rfl, rfl, trivial⟩ rfl ?_)
          | refine Need.go (by first | omega | decide | (simp <;> omega) | fail) ?_
          | refine Need.go (by first | (simp [Value.oneCell'] <;> omega) | fail) ?_
          | refine Need.go ⟨rfl, by omega, getD_one rfl rfl⟩ ?_
          | refine Need.go ⟨rfl, by omega, fun _ _ _ _ => rfl⟩ ?_
          | refine Br.both (fun h => ?_) (fun h => ?_))
      all_goals (conv => whnf)
      refine ⟨_, _, ⟨rfl, rfl⟩, by simp, trivial, less2 (τ := [some 0, some 1]) rfl ⟨by decide, rfl⟩ ?_ ?_⟩
      all_goals repeat' (first | exact leT_junk rfl | refine And.intro ?_ ?_ | exact trivial | exact .inl ⟨rfl, rfl⟩ | rfl | exact .inr ⟨_, rfl, rfl, rfl⟩ | exact ⟨_, rfl, trivial⟩ | exact ⟨_, rfl, rfl⟩ | exact ⟨_, rfl, ⟨rfl, rfl, rfl⟩, fun _ _ _ _ => rfl⟩ | exact ⟨_, rfl, ⟨rfl, rfl, .inl rfl⟩, rfl⟩ | exact ⟨_, rfl, ⟨rfl, rfl, .inr rfl⟩, rfl⟩ | exact ⟨_, rfl, ⟨rfl, rfl, rfl, rfl, rfl⟩, rfl⟩ | exact ⟨_, rfl, ⟨rfl, rfl⟩, fun _ => Iff.rfl⟩ | refine ⟨_, rfl, rfl, ?_⟩ | refine ⟨_, rfl, ⟨rfl, rfl, rfl⟩, ?_⟩)
    | true =>
      have e : onC c r now = ({ c with bk := b', doing := 3, til := now + gapM c.tries }, []) := by unfold onC; rw [if_neg h1, if_neg (by rw [h4]; exact Bool.noConfusion), hb']
      rw [e]
      rw [h4, hb'] at htk
      have hg := gapM_rng c.tries
      have ey : onY y { c with bk := b', doing := 3, til := now + gapM c.tries } = { y with at' := now + gapM c.tries } := if_pos rfl
      dsimp only
      rw [ey]
      have eo : outcC { c with bk := b', doing := 3, til := now + gapM c.tries } = outcC c := rfl
      rw [eo, ho, hh]
      refine spec_x Tryz.func40 rfl 2 rfl rfl fun w0 U => ?_
      repeat' ((conv => whnf); first
          | refine QuiD.draw (draw_go tabOK (by kernel_rfl) ?_)
          | refine CutN.plain ?_
          | with_reducible refine Br.tt ?_
          | with_reducible refine Br.ff ?_
          | with_reducible refine Br.nt ?_
          | with_reducible refine Br.nf ?_
          | with_reducible refine Br.eeI ?_
          | with_reducible refine Br.nnI ?_
          | refine Br.yes (by decide) ?_
          | refine Br.no (by decide) ?_
          | refine AppN.own ?_
          | refine Need.go rfl ?_
          | refine QuiD.quiet (by kernel_rfl) ?_
          | refine IdxN.lit ?_
          | refine draw_go tabOK (by kernel_rfl) ?_
          | refine Need.go ⟨rfl, rfl⟩ ?_
          | refine Need.go ⟨⟨rfl, rfl, rfl⟩, rfl⟩ ?_
          | (with_reducible refine Br.dec (fun h => ?_) (fun h => ?_); first | (rotate_left; exfalso; omega; clear h) | (exfalso; omega; clear h) | skip)
          | (with_reducible refine Br.eqI (fun h => ?_) (fun h => ?_); first | (rotate_left; exfalso; omega; clear h) | (exfalso; omega; clear h) | skip)
          | (with_reducible refine Br.neI (fun h => ?_) (fun h => ?_); first | (rotate_left; exfalso; omega; clear h) | (exfalso; omega; clear h) | skip)
          | (with_reducible refine Br.eqS (fun h => ?_) (fun h => ?_); first | (rotate_left; exfalso; omega; clear h) | (exfalso; omega; clear h) | skip)
          | (with_reducible refine Br.neS (fun h => ?_) (fun h => ?_); first | (rotate_left; exfalso; omega; clear h) | (exfalso; omega; clear h) | skip)
          | (with_reducible refine Br.nd (fun h => ?_) (fun h => ?_); first | (rotate_left; exfalso; omega; clear h) | (exfalso; omega; clear h) | skip)
          | refine Ar.i64 (by omega) (by omega) ?_
          | (refine call_sp (f := 63) (htk) [1] (by decide) rfl ⟨rfl, trivial⟩ rfl ?_; rintro s H1 ⟨rfl, rfl⟩)
          | (refine seg_sp (f := 63) (htk) (fun _ => rfl) [1] (by decide) rfl ⟨rfl, trivial⟩ rfl ?_)
          | (refine call_mem (f := 64) (args := [.v (.int .i64 c.tries), .v (.int .i64 64)]) (V := .int .i64 (gapM c.tries)) ?_ ?_; exact fun ρ w h => rgap_any c.tries w)
          | (refine quiet_mem (f := 64) (args := [.v (.int .i64 c.tries), .v (.int .i64 64)]) (V := .int .i64 (gapM c.tries)) ?_ ?_; exact fun ρ w h => rgap_any c.tries w)
          | (refine seg_mem (f := 64) (args := [.v (.int .i64 c.tries), .v (.int .i64 64)]) (V := .int .i64 (gapM c.tries)) ?_ ?_; exact fun ρ w h => rgap_any c.tries w)
          | refine Need.go (by first | omega | decide | (simp <;> omega) | fail) ?_
          | refine Need.go (by first | (simp [Value.oneCell'] <;> omega) | fail) ?_
          | refine Need.go ⟨rfl, by omega, getD_one rfl rfl⟩ ?_
          | refine Need.go ⟨rfl, by omega, fun _ _ _ _ => rfl⟩ ?_
          | refine Br.both (fun h => ?_) (fun h => ?_))
      all_goals (conv => whnf)
      refine ⟨_, _, ⟨rfl, rfl⟩, by simp, trivial, less2 (τ := [some 0, some 1]) rfl ⟨by decide, rfl⟩ ?_ ?_⟩
      all_goals repeat' (first | exact leT_junk rfl | refine And.intro ?_ ?_ | exact trivial | exact .inl ⟨rfl, rfl⟩ | rfl | exact .inr ⟨_, rfl, rfl, rfl⟩ | exact ⟨_, rfl, trivial⟩ | exact ⟨_, rfl, rfl⟩ | exact ⟨_, rfl, ⟨rfl, rfl, rfl⟩, fun _ _ _ _ => rfl⟩ | exact ⟨_, rfl, ⟨rfl, rfl, .inl rfl⟩, rfl⟩ | exact ⟨_, rfl, ⟨rfl, rfl, .inr rfl⟩, rfl⟩ | exact ⟨_, rfl, ⟨rfl, rfl, rfl, rfl, rfl⟩, rfl⟩ | exact ⟨_, rfl, ⟨rfl, rfl⟩, fun _ => Iff.rfl⟩ | refine ⟨_, rfl, rfl, ?_⟩ | refine ⟨_, rfl, ⟨rfl, rfl, rfl⟩, ?_⟩)
/-- A member's number, where it lies. -/
theorem chs_cell {c : ChM} {b off cap : Nat} {u : World} (h : ChSl u (.slice (some ⟨b, off, none⟩) c.mem.length cap) c) {k : Nat} (hk : k < c.mem.length) : ∀ j v, [Value.int .i64 (c.mem.getD k (0, 0)).1][j]? = some v → u.cell? ⟨b, off + k * 2 + 0 + j, none⟩ = some v := fun j v hj => by
  rcases j with _ | j
  · simp only [List.getElem?_cons_zero, Option.some.injEq] at hj
    subst hj
    obtain ⟨a, cap, e, _, _, hr⟩ := h
    obtain ⟨b, off, ha, _, hc⟩ := hr (by omega)
    simp only [Value.slice.injEq] at e
    rw [ha] at e
    have e1 := e.1
    simp only [Option.some.injEq, Addr.mk.injEq, and_true] at e1
    have := hc k 0 hk (by decide)
    rw [e1.1, e1.2, Nat.add_zero]
    exact this
  · simp at hj
theorem member_at {c : ChM} (h : okCh c = true) {k : Nat} (hk : k < c.mem.length) : memberM c (k : Int) = (c.mem.getD k (0, 0)).1 := by
  unfold memberM
  rw [if_pos ⟨h, by omega, by omega⟩, Int.toNat_natCast]
/-- A heap with the chain's fact behind. -/
abbrev rcHf (y : RCy) (c : CliM) (Z : Nat → Prop) (Q : World → Prop) : List HE := rcH y c ++ [.res false Z Q]
theorem less3 {m : List HE} {s s0 : SV} {H' H1 : List HE} {τ : List (Option Nat)} (hl : m.length = 3) (hτ : (τ.filterMap id).Nodup ∧ idpB 0 3 τ = true) (h1 : leH H' τ τ H1) (h2 : leT τ [s] [s0]) : Less m.length [s] H' [s0] H1 := ⟨τ, by rw [hl]; exact hτ, h1, h2⟩
set_option maxRecDepth 100000 in
set_option maxHeartbeats 8000000 in
theorem rcTry (y : RCy) (c : CliM) (ht : 0 ≤ c.tries ∧ c.tries ≤ 4611686018427387904) (hk : okCh c.ch = true) {b off cap : Nat} (hy : y.ma = some ⟨b, off, none⟩ ∧ y.mn = c.ch.mem.length ∧ y.mc = cap) (h1 : y.ck = 1) (h2 : y.cc = c.id) {Z : Nat → Prop} {Q : World → Prop} (hq : ∀ u, Q u → ChSl u (.slice (some ⟨b, off, none⟩) c.ch.mem.length cap) c.ch) (now : Int) :
    Spec Tryz.prog 36 [.p 0 0, .v (.int .i64 now)] (rcHf y c Z Q) fun s H1 => s = .os 3 1 ∧ H1 = rcHf { y with ce := c.ch.epoch, at' := now } (tryC c now).1 Z Q ++ [rsnd1 (tryC c now).2] := by
  obtain ⟨o, ho⟩ : ∃ o, (outcC c).1 = o := ⟨_, rfl⟩
  obtain ⟨hs, hh⟩ : ∃ hs, (outcC c).2 = hs := ⟨_, rfl⟩
  have eo : outcC (tryC c now).1 = outcC c := rfl
  unfold rcHf rcH
  rw [eo, ho, hh]
  obtain ⟨d, qa, qn, qc, ma, mn, mc, ck, ce, cc, at'⟩ := y
  obtain ⟨ha, hb, hc⟩ := hy
  dsimp only at ha hb hc h1 h2
  subst ha hb hc h1 h2
  have hl := okCh_len hk
  cases hr : readsO c.op with
  | true =>
    have hm := member_at hk (k := c.ch.mem.length - 1) (by omega)
    rw [show ((c.ch.mem.length - 1 : Nat) : Int) = (c.ch.mem.length : Int) - 1 by omega] at hm
    have e : (tryC c now).2 = [callD (c.ch.mem.getD (c.ch.mem.length - 1) (0, 0)).1 { c with tries := c.tries + 1, doing := 2, since := now }] := by
      simp only [tryC, callS, toC]; rw [if_pos hr, hm]
    rw [e]
    obtain ⟨t, ht'⟩ : ∃ t, (c.ch.mem.getD (c.ch.mem.length - 1) (0, 0)).1 = t := ⟨_, rfl⟩
    obtain ⟨t0, ht0⟩ : ∃ t, (c.ch.mem.getD 0 (0, 0)).1 = t := ⟨_, rfl⟩
    have hc0 := fun u hu => ht0 ▸ chs_cell (hq u hu) (k := 0) (by omega)
    have hcl := fun u hu => ht' ▸ chs_cell (hq u hu) (k := c.ch.mem.length - 1) (by omega)
    rw [ht']
    refine spec_x Tryz.func36 rfl 3 rfl rfl fun w0 U => ?_
    repeat' ((conv => whnf); first
        | (refine ord_to tabOK (.ho 1 [16] [1,0,2,3,4,5,6,7,8,9,10,11,12,13,14,15,16,17,18,19,20] .leaf) (show _ = 21 from rfl) (by kernel_rfl) (by kernel_rfl) 7 [] [(0, .ent (.blk 85 (rcL ⟨d, qa, qn, qc, some ⟨b, off, none⟩, c.ch.mem.length, mc, 1, c.ch.epoch, c.id, at'⟩ { c with tries := c.tries + 1 } o hs)))] [] ?_ ?_)
        | (refine QuiD.draw (ord_to tabOK (.ho 1 [16] [1,0,2,3,4,5,6,7,8,9,10,11,12,13,14,15,16,17,18,19,20] .leaf) (show _ = 21 from rfl) (by kernel_rfl) (by kernel_rfl) 7 [] [(0, .ent (.blk 85 (rcL ⟨d, qa, qn, qc, some ⟨b, off, none⟩, c.ch.mem.length, mc, 1, c.ch.epoch, c.id, at'⟩ { c with tries := c.tries + 1 } o hs)))] [] ?_ ?_))
        | refine CutN.plain ?_
        | with_reducible refine Br.tt ?_
        | with_reducible refine Br.ff ?_
        | with_reducible refine Br.nt ?_
        | with_reducible refine Br.nf ?_
        | with_reducible refine Br.eeI ?_
        | with_reducible refine Br.nnI ?_
        | refine Br.yes (by decide) ?_
        | refine Br.no (by decide) ?_
        | refine AppN.own ?_
        | refine Need.go rfl ?_
        | refine QuiD.quiet (by kernel_rfl) ?_
        | refine IdxN.lit ?_
        | refine draw_go tabOK (by kernel_rfl) ?_
        | refine Need.go ⟨rfl, rfl⟩ ?_
        | refine Need.go ⟨⟨rfl, rfl, rfl⟩, rfl⟩ ?_
        | (with_reducible refine Br.dec (fun h => ?_) (fun h => ?_); first | (rotate_left; exfalso; omega; clear h) | (exfalso; omega; clear h) | skip)
        | (with_reducible refine Br.eqI (fun h => ?_) (fun h => ?_); first | (rotate_left; exfalso; omega; clear h) | (exfalso; omega; clear h) | skip)
        | (with_reducible refine Br.neI (fun h => ?_) (fun h => ?_); first | (rotate_left; exfalso; omega; clear h) | (exfalso; omega; clear h) | skip)
        | (with_reducible refine Br.eqS (fun h => ?_) (fun h => ?_); first | (rotate_left; exfalso; omega; clear h) | (exfalso; omega; clear h) | skip)
        | (with_reducible refine Br.neS (fun h => ?_) (fun h => ?_); first | (rotate_left; exfalso; omega; clear h) | (exfalso; omega; clear h) | skip)
        | (with_reducible refine Br.nd (fun h => ?_) (fun h => ?_); first | (rotate_left; exfalso; omega; clear h) | (exfalso; omega; clear h) | skip)
        | refine Ar.i64 (by omega) (by omega) ?_
        | refine And.intro ?_ ?_
        | (refine ⟨[some 0, some 1, some 2], ⟨by decide, rfl⟩, ?_, ?_⟩; all_goals (repeat' (first | exact leT_junk rfl | refine And.intro ?_ ?_ | exact trivial | exact .inl ⟨rfl, rfl⟩ | rfl | exact .inr ⟨_, rfl, rfl, rfl⟩ | exact ⟨_, rfl, trivial⟩ | exact ⟨_, rfl, rfl⟩ | exact ⟨_, rfl, ⟨rfl, rfl, rfl⟩, fun _ _ _ _ => rfl⟩ | exact ⟨_, rfl, ⟨rfl, rfl, .inl rfl⟩, rfl⟩ | exact ⟨_, rfl, ⟨rfl, rfl, .inr rfl⟩, rfl⟩ | exact ⟨_, rfl, ⟨rfl, rfl, rfl, rfl, rfl⟩, rfl⟩ | exact ⟨_, rfl, ⟨rfl, rfl⟩, fun _ => Iff.rfl⟩ | refine ⟨_, rfl, rfl, ?_⟩ | refine ⟨_, rfl, ⟨rfl, rfl, rfl⟩, ?_⟩)); done)
        | refine Ar.i64 (by dsimp only; omega) (by dsimp only; omega) ?_
        | refine Need.go (by dsimp only; omega) ?_
        | (refine call_mem (f := 59) (args := [opS c.op]) (V := .bool true) ?_ ?_; exact fun ρ w h => rreads_at c.op true w hr)
        | (refine quiet_mem (f := 59) (args := [opS c.op]) (V := .bool true) ?_ ?_; exact fun ρ w h => rreads_at c.op true w hr)
        | (refine seg_mem (f := 59) (args := [opS c.op]) (V := .bool true) ?_ ?_; exact fun ρ w h => rreads_at c.op true w hr)
        | (refine LoadC.mk' [Value.int .i64 t0] rfl rfl (fun w0 U ρ w h => hc0 w ((h.ent 2 _ rfl).1)) ?_)
        | (refine LoadC.mk' [Value.int .i64 t] rfl rfl (fun w0 U ρ w h => by have := hcl w ((h.ent 2 _ rfl).1); rwa [show Int.toNat ((c.ch.mem.length : Int) - 1) = c.ch.mem.length - 1 by omega]) ?_)
        | refine Need.go (by first | omega | decide | (simp <;> omega) | fail) ?_
        | refine Need.go (by first | (simp [Value.oneCell'] <;> omega) | fail) ?_
        | refine Need.go ⟨rfl, by omega, getD_one rfl rfl⟩ ?_
        | refine Need.go ⟨rfl, by omega, fun _ _ _ _ => rfl⟩ ?_
        | refine Br.both (fun h => ?_) (fun h => ?_))
    all_goals (conv => whnf)
    refine ⟨_, _, ⟨rfl, rfl⟩, by simp, ⟨rfl, trivial⟩, less3 (τ := [some 0, some 1, some 2, some 3]) rfl ⟨by decide, rfl⟩ ?_ ?_⟩
    all_goals repeat' (first | exact ⟨_, rfl, ⟨rfl, rfl, rfl⟩, fun r j hr hj => sndF1 (callD t { c with tries := c.tries + 1, doing := 2, since := now }) (.slice none 0 0) r j hr hj⟩ | exact leT_junk rfl | refine And.intro ?_ ?_ | exact trivial | exact .inl ⟨rfl, rfl⟩ | rfl | exact .inr ⟨_, rfl, rfl, rfl⟩ | exact ⟨_, rfl, trivial⟩ | exact ⟨_, rfl, rfl⟩ | exact ⟨_, rfl, ⟨rfl, rfl, rfl⟩, fun _ _ _ _ => rfl⟩ | exact ⟨_, rfl, ⟨rfl, rfl, .inl rfl⟩, rfl⟩ | exact ⟨_, rfl, ⟨rfl, rfl, .inr rfl⟩, rfl⟩ | exact ⟨_, rfl, ⟨rfl, rfl, rfl, rfl, rfl⟩, rfl⟩ | exact ⟨_, rfl, ⟨rfl, rfl⟩, fun _ => Iff.rfl⟩ | refine ⟨_, rfl, rfl, ?_⟩ | refine ⟨_, rfl, ⟨rfl, rfl, rfl⟩, ?_⟩)
  | false =>
    have hm := member_at hk (k := 0) (by omega)
    have e : (tryC c now).2 = [callD (c.ch.mem.getD 0 (0, 0)).1 { c with tries := c.tries + 1, doing := 2, since := now }] := by
      simp only [tryC, callS, toC]; rw [if_neg (by rw [hr]; exact Bool.false_ne_true), ← hm]; rfl
    rw [e]
    obtain ⟨t0, ht0⟩ : ∃ t, (c.ch.mem.getD 0 (0, 0)).1 = t := ⟨_, rfl⟩
    have hc0 := fun u hu => ht0 ▸ chs_cell (hq u hu) (k := 0) (by omega)
    rw [ht0]
    refine spec_x Tryz.func36 rfl 3 rfl rfl fun w0 U => ?_
    repeat' ((conv => whnf); first
        | (refine ord_to tabOK (.ho 1 [16] [1,0,2,3,4,5,6,7,8,9,10,11,12,13,14,15,16,17,18,19,20] .leaf) (show _ = 21 from rfl) (by kernel_rfl) (by kernel_rfl) 7 [] [(0, .ent (.blk 85 (rcL ⟨d, qa, qn, qc, some ⟨b, off, none⟩, c.ch.mem.length, mc, 1, c.ch.epoch, c.id, at'⟩ { c with tries := c.tries + 1 } o hs)))] [] ?_ ?_)
        | (refine QuiD.draw (ord_to tabOK (.ho 1 [16] [1,0,2,3,4,5,6,7,8,9,10,11,12,13,14,15,16,17,18,19,20] .leaf) (show _ = 21 from rfl) (by kernel_rfl) (by kernel_rfl) 7 [] [(0, .ent (.blk 85 (rcL ⟨d, qa, qn, qc, some ⟨b, off, none⟩, c.ch.mem.length, mc, 1, c.ch.epoch, c.id, at'⟩ { c with tries := c.tries + 1 } o hs)))] [] ?_ ?_))
        | refine CutN.plain ?_
        | with_reducible refine Br.tt ?_
        | with_reducible refine Br.ff ?_
        | with_reducible refine Br.nt ?_
        | with_reducible refine Br.nf ?_
        | with_reducible refine Br.eeI ?_
        | with_reducible refine Br.nnI ?_
        | refine Br.yes (by decide) ?_
        | refine Br.no (by decide) ?_
        | refine AppN.own ?_
        | refine Need.go rfl ?_
        | refine QuiD.quiet (by kernel_rfl) ?_
        | refine IdxN.lit ?_
        | refine draw_go tabOK (by kernel_rfl) ?_
        | refine Need.go ⟨rfl, rfl⟩ ?_
        | refine Need.go ⟨⟨rfl, rfl, rfl⟩, rfl⟩ ?_
        | (with_reducible refine Br.dec (fun h => ?_) (fun h => ?_); first | (rotate_left; exfalso; omega; clear h) | (exfalso; omega; clear h) | skip)
        | (with_reducible refine Br.eqI (fun h => ?_) (fun h => ?_); first | (rotate_left; exfalso; omega; clear h) | (exfalso; omega; clear h) | skip)
        | (with_reducible refine Br.neI (fun h => ?_) (fun h => ?_); first | (rotate_left; exfalso; omega; clear h) | (exfalso; omega; clear h) | skip)
        | (with_reducible refine Br.eqS (fun h => ?_) (fun h => ?_); first | (rotate_left; exfalso; omega; clear h) | (exfalso; omega; clear h) | skip)
        | (with_reducible refine Br.neS (fun h => ?_) (fun h => ?_); first | (rotate_left; exfalso; omega; clear h) | (exfalso; omega; clear h) | skip)
        | (with_reducible refine Br.nd (fun h => ?_) (fun h => ?_); first | (rotate_left; exfalso; omega; clear h) | (exfalso; omega; clear h) | skip)
        | refine Ar.i64 (by omega) (by omega) ?_
        | refine And.intro ?_ ?_
        | (refine ⟨[some 0, some 1, some 2], ⟨by decide, rfl⟩, ?_, ?_⟩; all_goals (repeat' (first | exact leT_junk rfl | refine And.intro ?_ ?_ | exact trivial | exact .inl ⟨rfl, rfl⟩ | rfl | exact .inr ⟨_, rfl, rfl, rfl⟩ | exact ⟨_, rfl, trivial⟩ | exact ⟨_, rfl, rfl⟩ | exact ⟨_, rfl, ⟨rfl, rfl, rfl⟩, fun _ _ _ _ => rfl⟩ | exact ⟨_, rfl, ⟨rfl, rfl, .inl rfl⟩, rfl⟩ | exact ⟨_, rfl, ⟨rfl, rfl, .inr rfl⟩, rfl⟩ | exact ⟨_, rfl, ⟨rfl, rfl, rfl, rfl, rfl⟩, rfl⟩ | exact ⟨_, rfl, ⟨rfl, rfl⟩, fun _ => Iff.rfl⟩ | refine ⟨_, rfl, rfl, ?_⟩ | refine ⟨_, rfl, ⟨rfl, rfl, rfl⟩, ?_⟩)); done)
        | (refine call_mem (f := 59) (args := [opS c.op]) (V := .bool false) ?_ ?_; exact fun ρ w h => rreads_at c.op false w hr)
        | (refine quiet_mem (f := 59) (args := [opS c.op]) (V := .bool false) ?_ ?_; exact fun ρ w h => rreads_at c.op false w hr)
        | (refine seg_mem (f := 59) (args := [opS c.op]) (V := .bool false) ?_ ?_; exact fun ρ w h => rreads_at c.op false w hr)
        | (refine LoadC.mk' [Value.int .i64 t0] rfl rfl (fun w0 U ρ w h => hc0 w ((h.ent 2 _ rfl).1)) ?_)
        | refine Need.go (by first | omega | decide | (simp <;> omega) | fail) ?_
        | refine Need.go (by first | (simp [Value.oneCell'] <;> omega) | fail) ?_
        | refine Need.go ⟨rfl, by omega, getD_one rfl rfl⟩ ?_
        | refine Need.go ⟨rfl, by omega, fun _ _ _ _ => rfl⟩ ?_
        | refine Br.both (fun h => ?_) (fun h => ?_))
    all_goals (conv => whnf)
    refine ⟨_, _, ⟨rfl, rfl⟩, by simp, ⟨rfl, trivial⟩, less3 (τ := [some 0, some 1, some 2, some 3]) rfl ⟨by decide, rfl⟩ ?_ ?_⟩
    all_goals repeat' (first | exact ⟨_, rfl, ⟨rfl, rfl, rfl⟩, fun r j hr hj => sndF1 (callD t0 { c with tries := c.tries + 1, doing := 2, since := now }) (.slice none 0 0) r j hr hj⟩ | exact leT_junk rfl | refine And.intro ?_ ?_ | exact trivial | exact .inl ⟨rfl, rfl⟩ | rfl | exact .inr ⟨_, rfl, rfl, rfl⟩ | exact ⟨_, rfl, trivial⟩ | exact ⟨_, rfl, rfl⟩ | exact ⟨_, rfl, ⟨rfl, rfl, rfl⟩, fun _ _ _ _ => rfl⟩ | exact ⟨_, rfl, ⟨rfl, rfl, .inl rfl⟩, rfl⟩ | exact ⟨_, rfl, ⟨rfl, rfl, .inr rfl⟩, rfl⟩ | exact ⟨_, rfl, ⟨rfl, rfl, rfl, rfl, rfl⟩, rfl⟩ | exact ⟨_, rfl, ⟨rfl, rfl⟩, fun _ => Iff.rfl⟩ | refine ⟨_, rfl, rfl, ?_⟩ | refine ⟨_, rfl, ⟨rfl, rfl, rfl⟩, ?_⟩)
end Go.Proofs.YtghfigeepnbjaaaGreat
