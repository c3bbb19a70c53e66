/-
  The document's client: Begin. No condition.
-/
import Derived.Test.YtghfigeepnbjaaaGreatRC3
namespace Go.Proofs.YtghfigeepnbjaaaGreat
open Go.RowKit
theorem ord_each {P : Program} {w0 : World} {U : Nat → Prop} {T : Tab} (hT : TabOK P T) {id : Nat} {ops : Array Oper} {tm : List SV} {H : List HE} {K : List SV → List HE → Prop} (t : OT) {n : Nat} (_ : ops.size = n) (hW : waitB ops = true) (hB : otB t ops = true)
    (h : allX P w0 U T t ops tm H K) : DrawN P w0 U id ops tm H K := ord_out hT hW (ord_tree hT t ops hB h)
/-- Where it is behind a call. -/
def beY (y : RCy) (c : CliM) (r : (CliM × List SndM) × Int) : RCy := if r.2 = 0 then { y with ck := 1, ce := if 0 < c.ch.epoch then c.ch.epoch else 0, cc := c.id, at' := r.1.1.since } else y
/-- What a fact says of the chain. -/
def chFact (y : RCy) (c : ChM) (Q : World → Prop) : Prop := okCh c = true → ∃ b off, y.ma = some ⟨b, off, none⟩ ∧ y.mn = c.mem.length ∧ ∀ u, Q u → ChSl u (.slice (some ⟨b, off, none⟩) c.mem.length y.mc) c
abbrev tellB (y : RCy) (r : (CliM × List SndM) × Int) (Z : Nat → Prop) (Q : World → Prop) (s : SV) (H1 : List HE) : Prop := (r.1.2 = [] ∧ s = .tup [.v (.slice none 0 0), .v (.int .i64 r.2)] ∧ H1 = rcHf y r.1.1 Z Q) ∨ (s = .tup [.os 3 r.1.2.length, .v (.int .i64 r.2)] ∧ H1 = rcHf y r.1.1 Z Q ++ [rsnd1 r.1.2])
set_option maxRecDepth 100000 in
set_option maxHeartbeats 8000000 in
theorem rcBegin (y : RCy) (c : CliM) (hqn : (y.qn : Int) = c.classes) (hc : c.ok) {Z : Nat → Prop} {Q : World → Prop} (hq : chFact y c.ch Q) (op : OpM) (cls dl now : Int) : Spec Tryz.prog 10 [.p 0 0, opS op, .v (.int .i64 cls), .v (.int .i64 dl), .v (.int .i64 now)] (rcHf y c Z Q) (tellB (beY y c (callC c op cls dl now)) (callC c op cls dl now) Z Q) := by
  have hdo := hc.doing
  have hse := hc.seq
  obtain ⟨k, hk⟩ : ∃ k, chkO op = k := ⟨_, rfl⟩
  obtain ⟨o, ho⟩ : ∃ o, (outcC c).1 = o := ⟨_, rfl⟩
  obtain ⟨hs, hh⟩ : ∃ hs, (outcC c).2 = hs := ⟨_, rfl⟩
  have eh : rcHf y c Z Q = rcHo y c o hs ++ [.res false Z Q] := by unfold rcHf rcH; rw [ho, hh]
  have hke := fun w => rcheck_at op k w hk
  have hn : 0 ≤ nearC now ∧ nearC now ≤ 1099511627776 := by unfold nearC; omega
  by_cases h0 : c.doing = 0
  case neg =>
    have e : callC c op cls dl now = ((c, []), 63) := by unfold callC; rw [if_pos h0]
    rw [e]
    unfold tellB
    have ey : beY y c ((c, []), 63) = y := if_neg (show ¬ (63 : Int) = 0 by decide)
    rw [ey]
    dsimp only
    rw [eh]
    refine spec_x Tryz.func10 rfl 3 rfl rfl fun w0 U => ?_
    repeat' ((conv => whnf); first
        | refine CutN.plain ?_
        | with_reducible refine Br.tt ?_
        | with_reducible refine Br.ff ?_
        | with_reducible refine Br.nt ?_
        | with_reducible refine Br.nf ?_
        | with_reducible refine Br.eeI ?_
        | with_reducible refine Br.nnI ?_
        | refine Br.yes (by decide) ?_
        | refine Br.no (by decide) ?_
        | refine AppN.own ?_
        | refine Need.go rfl ?_
        | refine QuiD.quiet (by kernel_rfl) ?_
        | refine IdxN.lit ?_
        | refine draw_go tabOK (by kernel_rfl) ?_
        | refine Need.go ⟨rfl, rfl⟩ ?_
        | refine Need.go ⟨⟨rfl, rfl, rfl⟩, rfl⟩ ?_
        | (with_reducible refine Br.dec (fun h => ?_) (fun h => ?_); first | (rotate_left; exfalso; omega; clear h) | (exfalso; omega; clear h) | skip)
        | (with_reducible refine Br.eqI (fun h => ?_) (fun h => ?_); first | (rotate_left; exfalso; omega; clear h) | (exfalso; omega; clear h) | skip)
        | (with_reducible refine Br.neI (fun h => ?_) (fun h => ?_); first | (rotate_left; exfalso; omega; clear h) | (exfalso; omega; clear h) | skip)
        | (with_reducible refine Br.eqS (fun h => ?_) (fun h => ?_); first | (rotate_left; exfalso; omega; clear h) | (exfalso; omega; clear h) | skip)
        | (with_reducible refine Br.neS (fun h => ?_) (fun h => ?_); first | (rotate_left; exfalso; omega; clear h) | (exfalso; omega; clear h) | skip)
        | (with_reducible refine Br.nd (fun h => ?_) (fun h => ?_); first | (rotate_left; exfalso; omega; clear h) | (exfalso; omega; clear h) | skip)
        | refine Ar.i64 (by omega) (by omega) ?_
        | refine Need.go (by first | omega | decide | (simp <;> omega) | fail) ?_
        | refine Need.go (by first | (simp [Value.oneCell'] <;> omega) | fail) ?_
        | refine Need.go ⟨rfl, by omega, getD_one rfl rfl⟩ ?_
        | refine Need.go ⟨rfl, by omega, fun _ _ _ _ => rfl⟩ ?_
        | refine Br.both (fun h => ?_) (fun h => ?_))
    all_goals (conv => whnf)
    all_goals
      refine ⟨_, _, .inl ⟨rfl, rfl, rfl⟩, by simp, ⟨rfl, trivial⟩, less3 (τ := [some 0, some 1, some 2]) rfl ⟨by decide, rfl⟩ ?_ ?_⟩
      all_goals repeat' (first | exact leT_junk rfl | refine And.intro ?_ ?_ | exact trivial | exact .inl ⟨rfl, rfl⟩ | rfl | exact .inr ⟨_, rfl, rfl, rfl⟩ | exact ⟨_, rfl, trivial⟩ | exact ⟨_, rfl, rfl⟩ | exact ⟨_, rfl, ⟨rfl, rfl, rfl⟩, fun _ _ _ _ => rfl⟩ | exact ⟨_, rfl, ⟨rfl, rfl, .inl rfl⟩, rfl⟩ | exact ⟨_, rfl, ⟨rfl, rfl, .inr rfl⟩, rfl⟩ | exact ⟨_, rfl, ⟨rfl, rfl, rfl, rfl, rfl⟩, rfl⟩ | exact ⟨_, rfl, ⟨rfl, rfl⟩, fun _ => Iff.rfl⟩ | refine ⟨_, rfl, rfl, ?_⟩ | refine ⟨_, rfl, ⟨rfl, rfl, rfl⟩, ?_⟩)
  by_cases hx : ¬ chkO op = 0 ∨ cls < 0 ∨ c.classes ≤ cls ∨ dl < 0 ∨ 1099511627776 < dl
  · have e : callC c op cls dl now = ((c, []), 2) := by unfold callC; rw [if_neg (by omega), if_pos hx]
    rw [e]
    unfold tellB
    have ey : beY y c ((c, []), 2) = y := if_neg (show ¬ (2 : Int) = 0 by decide)
    rw [ey]
    dsimp only
    rw [eh]
    rw [hk] at hx
    refine spec_x Tryz.func10 rfl 3 rfl rfl fun w0 U => ?_
    repeat' ((conv => whnf); first
        | refine CutN.plain ?_
        | with_reducible refine Br.tt ?_
        | with_reducible refine Br.ff ?_
        | with_reducible refine Br.nt ?_
        | with_reducible refine Br.nf ?_
        | with_reducible refine Br.eeI ?_
        | with_reducible refine Br.nnI ?_
        | refine Br.yes (by decide) ?_
        | refine Br.no (by decide) ?_
        | refine AppN.own ?_
        | refine Need.go rfl ?_
        | refine QuiD.quiet (by kernel_rfl) ?_
        | refine IdxN.lit ?_
        | refine draw_go tabOK (by kernel_rfl) ?_
        | refine Need.go ⟨rfl, rfl⟩ ?_
        | refine Need.go ⟨⟨rfl, rfl, rfl⟩, rfl⟩ ?_
        | (with_reducible refine Br.dec (fun h => ?_) (fun h => ?_); first | (rotate_left; exfalso; omega; clear h) | (exfalso; omega; clear h) | skip)
        | (with_reducible refine Br.eqI (fun h => ?_) (fun h => ?_); first | (rotate_left; exfalso; omega; clear h) | (exfalso; omega; clear h) | skip)
        | (with_reducible refine Br.neI (fun h => ?_) (fun h => ?_); first | (rotate_left; exfalso; omega; clear h) | (exfalso; omega; clear h) | skip)
        | (with_reducible refine Br.eqS (fun h => ?_) (fun h => ?_); first | (rotate_left; exfalso; omega; clear h) | (exfalso; omega; clear h) | skip)
        | (with_reducible refine Br.neS (fun h => ?_) (fun h => ?_); first | (rotate_left; exfalso; omega; clear h) | (exfalso; omega; clear h) | skip)
        | (with_reducible refine Br.nd (fun h => ?_) (fun h => ?_); first | (rotate_left; exfalso; omega; clear h) | (exfalso; omega; clear h) | skip)
        | refine Ar.i64 (by omega) (by omega) ?_
        | (refine call_mem (f := 33) (args := [opS op]) (V := .int .i64 k) ?_ ?_; exact fun ρ w h => hke w)
        | (refine quiet_mem (f := 33) (args := [opS op]) (V := .int .i64 k) ?_ ?_; exact fun ρ w h => hke w)
        | (refine seg_mem (f := 33) (args := [opS op]) (V := .int .i64 k) ?_ ?_; exact fun ρ w h => hke w)
        | refine Need.go (by first | omega | decide | (simp <;> omega) | fail) ?_
        | refine Need.go (by first | (simp [Value.oneCell'] <;> omega) | fail) ?_
        | refine Need.go ⟨rfl, by omega, getD_one rfl rfl⟩ ?_
        | refine Need.go ⟨rfl, by omega, fun _ _ _ _ => rfl⟩ ?_
        | refine Br.both (fun h => ?_) (fun h => ?_))
    all_goals (conv => whnf)
    all_goals
      refine ⟨_, _, .inl ⟨rfl, rfl, rfl⟩, by simp, ⟨rfl, trivial⟩, less3 (τ := [some 0, some 1, some 2]) rfl ⟨by decide, rfl⟩ ?_ ?_⟩
      all_goals repeat' (first | exact leT_junk rfl | refine And.intro ?_ ?_ | exact trivial | exact .inl ⟨rfl, rfl⟩ | rfl | exact .inr ⟨_, rfl, rfl, rfl⟩ | exact ⟨_, rfl, trivial⟩ | exact ⟨_, rfl, rfl⟩ | exact ⟨_, rfl, ⟨rfl, rfl, rfl⟩, fun _ _ _ _ => rfl⟩ | exact ⟨_, rfl, ⟨rfl, rfl, .inl rfl⟩, rfl⟩ | exact ⟨_, rfl, ⟨rfl, rfl, .inr rfl⟩, rfl⟩ | exact ⟨_, rfl, ⟨rfl, rfl, rfl, rfl, rfl⟩, rfl⟩ | exact ⟨_, rfl, ⟨rfl, rfl⟩, fun _ => Iff.rfl⟩ | refine ⟨_, rfl, rfl, ?_⟩ | refine ⟨_, rfl, ⟨rfl, rfl, rfl⟩, ?_⟩)
  · have hk0 : k = 0 := by rw [← hk]; exact Classical.byContradiction fun h => hx (.inl h)
    obtain ⟨n, hnn⟩ : ∃ n, nearC now = n := ⟨_, rfl⟩
    have hw := fun w => hnn ▸ rcNear_any now w
    have hx' : 0 ≤ cls ∧ cls < c.classes ∧ 0 ≤ dl ∧ dl ≤ 1099511627776 := by omega
    subst hk0
    by_cases hep : 0 < c.ch.epoch
    · have hch : okCh c.ch = true := by
        rcases hc.ch with h | h
        · rw [h] at hep; exact absurd hep (by decide)
        · exact h
      obtain ⟨b, off, q1, q2, q3⟩ := hq hch
      have e : callC c op cls dl now = (tryC (beginC c op cls dl) n, 0) := by unfold callC; rw [if_neg (by omega), if_neg hx, if_pos hep, hnn]
      have ey : beY y c (tryC (beginC c op cls dl) n, 0) = { y with ck := 1, ce := c.ch.epoch, cc := c.id, at' := n } := by
        unfold beY
        rw [if_pos rfl, if_pos hep]
        rfl
      rw [e, ey]
      unfold tellB
      have ht := rcTry { y with ck := 1, ce := 0, cc := c.id } (beginC c op cls dl) (show (0 : Int) ≤ 0 ∧ (0 : Int) ≤ 4611686018427387904 by decide) hch (b := b) (off := off) (cap := y.mc) ⟨q1, q2, rfl⟩ rfl rfl q3 (Z := Z) n
      have hl1 : (tryC (beginC c op cls dl) n).2.length = 1 := rfl
      dsimp only
      rw [hl1]
      rw [eh]
      refine spec_x Tryz.func10 rfl 3 rfl rfl fun w0 U => ?_
      repeat' ((conv => whnf); first
          | refine QuiD.draw (ord_each tabOK .leaf (show _ = 18 from rfl) (by kernel_rfl) (by kernel_rfl) ?_)
          | refine ord_each tabOK .leaf (show _ = 18 from rfl) (by kernel_rfl) (by kernel_rfl) ?_
          | refine CutN.plain ?_
          | with_reducible refine Br.tt ?_
          | with_reducible refine Br.ff ?_
          | with_reducible refine Br.nt ?_
          | with_reducible refine Br.nf ?_
          | with_reducible refine Br.eeI ?_
          | with_reducible refine Br.nnI ?_
          | refine Br.yes (by decide) ?_
          | refine Br.no (by decide) ?_
          | refine AppN.own ?_
          | refine Need.go rfl ?_
          | refine QuiD.quiet (by kernel_rfl) ?_
          | refine IdxN.lit ?_
          | refine draw_go tabOK (by kernel_rfl) ?_
          | refine Need.go ⟨rfl, rfl⟩ ?_
          | refine Need.go ⟨⟨rfl, rfl, rfl⟩, rfl⟩ ?_
          | (with_reducible refine Br.dec (fun h => ?_) (fun h => ?_); first | (rotate_left; exfalso; omega; clear h) | (exfalso; omega; clear h) | skip)
          | (with_reducible refine Br.eqI (fun h => ?_) (fun h => ?_); first | (rotate_left; exfalso; omega; clear h) | (exfalso; omega; clear h) | skip)
          | (with_reducible refine Br.neI (fun h => ?_) (fun h => ?_); first | (rotate_left; exfalso; omega; clear h) | (exfalso; omega; clear h) | skip)
          | (with_reducible refine Br.eqS (fun h => ?_) (fun h => ?_); first | (rotate_left; exfalso; omega; clear h) | (exfalso; omega; clear h) | skip)
          | (with_reducible refine Br.neS (fun h => ?_) (fun h => ?_); first | (rotate_left; exfalso; omega; clear h) | (exfalso; omega; clear h) | skip)
          | (with_reducible refine Br.nd (fun h => ?_) (fun h => ?_); first | (rotate_left; exfalso; omega; clear h) | (exfalso; omega; clear h) | skip)
          | refine Ar.i64 (by omega) (by omega) ?_
          | (refine call_mem (f := 33) (args := [opS op]) (V := .int .i64 0) ?_ ?_; exact fun ρ w h => hke w)
          | (refine quiet_mem (f := 33) (args := [opS op]) (V := .int .i64 0) ?_ ?_; exact fun ρ w h => hke w)
          | (refine seg_mem (f := 33) (args := [opS op]) (V := .int .i64 0) ?_ ?_; exact fun ρ w h => hke w)
          | (refine call_mem (f := 35) (args := [.v (.int .i64 now)]) (V := .int .i64 n) ?_ ?_; exact fun ρ w h => hw w)
          | (refine quiet_mem (f := 35) (args := [.v (.int .i64 now)]) (V := .int .i64 n) ?_ ?_; exact fun ρ w h => hw w)
          | (refine seg_mem (f := 35) (args := [.v (.int .i64 now)]) (V := .int .i64 n) ?_ ?_; exact fun ρ w h => hw w)
          | (refine call_less (f := 36) (H1 := [.blk 85 (rcL { y with ck := 1, ce := 0, cc := c.id } (beginC c op cls dl) noOut false), rbkE c.bk, .res false Z Q, .blk 37 [.v (.int .i64 op.kind), .v (S op.key), .v (S op.value), .v (.int .i64 op.version)]]) rfl ⟨[some 0, some 1, some 2, some 3], ⟨by decide, rfl⟩, (by repeat' (first | refine And.intro ?_ ?_ | exact trivial | exact .inl ⟨rfl, rfl⟩ | rfl | exact ⟨_, rfl, trivial⟩ | exact ⟨_, rfl, rfl⟩ | exact ⟨_, rfl, ⟨rfl, rfl, rfl⟩, fun _ _ _ _ => rfl⟩ | exact ⟨_, rfl, ⟨rfl, rfl⟩, fun _ => Iff.rfl⟩ | refine ⟨_, rfl, rfl, ?_⟩)), trivial⟩ rfl ?_; refine call_sp (f := 36) ht [0, 1, 2] (by decide) rfl ⟨rfl, rfl, rfl, trivial⟩ rfl ?_; rintro s H1 ⟨rfl, rfl⟩)
          | refine Ar.i64 (by dsimp only; omega) (by dsimp only; omega) ?_
          | refine Need.go (by first | omega | decide | (simp <;> omega) | fail) ?_
          | refine Need.go (by first | (simp [Value.oneCell'] <;> omega) | fail) ?_
          | refine Need.go ⟨rfl, by omega, getD_one rfl rfl⟩ ?_
          | refine Need.go ⟨rfl, by omega, fun _ _ _ _ => rfl⟩ ?_
          | refine Br.both (fun h => ?_) (fun h => ?_))
      all_goals (conv => whnf)
      all_goals
        refine ⟨_, _, .inr ⟨rfl, rfl⟩, by simp, ⟨rfl, trivial⟩, less3 (τ := [some 0, some 1, some 2, some 4]) rfl ⟨by decide, rfl⟩ ?_ ?_⟩
        all_goals repeat' (first | exact leT_junk rfl | refine And.intro ?_ ?_ | exact trivial | exact .inl ⟨rfl, rfl⟩ | rfl | exact .inr ⟨_, rfl, rfl, rfl⟩ | exact ⟨_, rfl, trivial⟩ | exact ⟨_, rfl, rfl⟩ | exact ⟨_, rfl, ⟨rfl, rfl, rfl⟩, fun _ _ _ _ => rfl⟩ | exact ⟨_, rfl, ⟨rfl, rfl, .inl rfl⟩, rfl⟩ | exact ⟨_, rfl, ⟨rfl, rfl, .inr rfl⟩, rfl⟩ | exact ⟨_, rfl, ⟨rfl, rfl, rfl, rfl, rfl⟩, rfl⟩ | exact ⟨_, rfl, ⟨rfl, rfl⟩, fun _ => Iff.rfl⟩ | refine ⟨_, rfl, rfl, ?_⟩ | refine ⟨_, rfl, ⟨rfl, rfl, rfl⟩, ?_⟩)
    · have hep0 : c.ch.epoch = 0 := by
        rcases hc.ch with h | h
        · rw [h]; rfl
        · have := okCh_len h; omega
      have e : callC c op cls dl now = (askC (beginC c op cls dl) n, 0) := by unfold callC; rw [if_neg (by omega), if_neg hx, if_neg hep, hnn]
      have ey : beY y c (askC (beginC c op cls dl) n, 0) = { y with ck := 1, ce := 0, cc := c.id, at' := n } := by
        unfold beY
        rw [if_pos rfl, if_neg hep]
        rfl
      rw [e, ey]
      unfold tellB
      have ha := rcAsk { y with ck := 1, ce := 0, cc := c.id } (beginC c op cls dl) n
      have hl1 : (askC (beginC c op cls dl) n).2.length = 1 := rfl
      dsimp only
      rw [hl1]
      rw [eh]
      refine spec_x Tryz.func10 rfl 3 rfl rfl fun w0 U => ?_
      repeat' ((conv => whnf); first
          | refine QuiD.draw (ord_each tabOK .leaf (show _ = 18 from rfl) (by kernel_rfl) (by kernel_rfl) ?_)
          | refine ord_each tabOK .leaf (show _ = 18 from rfl) (by kernel_rfl) (by kernel_rfl) ?_
          | refine CutN.plain ?_
          | with_reducible refine Br.tt ?_
          | with_reducible refine Br.ff ?_
          | with_reducible refine Br.nt ?_
          | with_reducible refine Br.nf ?_
          | with_reducible refine Br.eeI ?_
          | with_reducible refine Br.nnI ?_
          | refine Br.yes (by decide) ?_
          | refine Br.no (by decide) ?_
          | refine AppN.own ?_
          | refine Need.go rfl ?_
          | refine QuiD.quiet (by kernel_rfl) ?_
          | refine IdxN.lit ?_
          | refine draw_go tabOK (by kernel_rfl) ?_
          | refine Need.go ⟨rfl, rfl⟩ ?_
          | refine Need.go ⟨⟨rfl, rfl, rfl⟩, rfl⟩ ?_
          | (with_reducible refine Br.dec (fun h => ?_) (fun h => ?_); first | (rotate_left; exfalso; omega; clear h) | (exfalso; omega; clear h) | skip)
          | (with_reducible refine Br.eqI (fun h => ?_) (fun h => ?_); first | (rotate_left; exfalso; omega; clear h) | (exfalso; omega; clear h) | skip)
          | (with_reducible refine Br.neI (fun h => ?_) (fun h => ?_); first | (rotate_left; exfalso; omega; clear h) | (exfalso; omega; clear h) | skip)
          | (with_reducible refine Br.eqS (fun h => ?_) (fun h => ?_); first | (rotate_left; exfalso; omega; clear h) | (exfalso; omega; clear h) | skip)
          | (with_reducible refine Br.neS (fun h => ?_) (fun h => ?_); first | (rotate_left; exfalso; omega; clear h) | (exfalso; omega; clear h) | skip)
          | (with_reducible refine Br.nd (fun h => ?_) (fun h => ?_); first | (rotate_left; exfalso; omega; clear h) | (exfalso; omega; clear h) | skip)
          | refine Ar.i64 (by omega) (by omega) ?_
          | (refine call_mem (f := 33) (args := [opS op]) (V := .int .i64 0) ?_ ?_; exact fun ρ w h => hke w)
          | (refine quiet_mem (f := 33) (args := [opS op]) (V := .int .i64 0) ?_ ?_; exact fun ρ w h => hke w)
          | (refine seg_mem (f := 33) (args := [opS op]) (V := .int .i64 0) ?_ ?_; exact fun ρ w h => hke w)
          | (refine call_mem (f := 35) (args := [.v (.int .i64 now)]) (V := .int .i64 n) ?_ ?_; exact fun ρ w h => hw w)
          | (refine quiet_mem (f := 35) (args := [.v (.int .i64 now)]) (V := .int .i64 n) ?_ ?_; exact fun ρ w h => hw w)
          | (refine seg_mem (f := 35) (args := [.v (.int .i64 now)]) (V := .int .i64 n) ?_ ?_; exact fun ρ w h => hw w)
          | (refine call_less (f := 34) (H1 := [.blk 85 (rcL { y with ck := 1, ce := 0, cc := c.id } (beginC c op cls dl) noOut false), rbkE c.bk, .res false Z Q, .blk 37 [.v (.int .i64 op.kind), .v (S op.key), .v (S op.value), .v (.int .i64 op.version)]]) rfl ⟨[some 0, some 1, some 2, some 3], ⟨by decide, rfl⟩, (by repeat' (first | refine And.intro ?_ ?_ | exact trivial | exact .inl ⟨rfl, rfl⟩ | rfl | exact ⟨_, rfl, trivial⟩ | exact ⟨_, rfl, rfl⟩ | exact ⟨_, rfl, ⟨rfl, rfl, rfl⟩, fun _ _ _ _ => rfl⟩ | exact ⟨_, rfl, ⟨rfl, rfl⟩, fun _ => Iff.rfl⟩ | refine ⟨_, rfl, rfl, ?_⟩)), trivial⟩ rfl ?_; refine call_sp (f := 34) ha [0, 1] (by decide) rfl ⟨rfl, rfl, trivial⟩ rfl ?_; rintro s H1 ⟨rfl, rfl⟩)
          | refine Ar.i64 (by dsimp only; omega) (by dsimp only; omega) ?_
          | refine Need.go (by first | omega | decide | (simp <;> omega) | fail) ?_
          | refine Need.go (by first | (simp [Value.oneCell'] <;> omega) | fail) ?_
          | refine Need.go ⟨rfl, by omega, getD_one rfl rfl⟩ ?_
          | refine Need.go ⟨rfl, by omega, fun _ _ _ _ => rfl⟩ ?_
          | refine Br.both (fun h => ?_) (fun h => ?_))
      all_goals (conv => whnf)
      all_goals
        refine ⟨_, _, .inr ⟨rfl, rfl⟩, by simp, ⟨rfl, trivial⟩, less3 (τ := [some 0, some 1, some 2, some 4]) rfl ⟨by decide, rfl⟩ ?_ ?_⟩
        all_goals repeat' (first | exact leT_junk rfl | refine And.intro ?_ ?_ | exact trivial | exact .inl ⟨rfl, rfl⟩ | rfl | exact .inr ⟨_, rfl, rfl, rfl⟩ | exact ⟨_, rfl, trivial⟩ | exact ⟨_, rfl, rfl⟩ | exact ⟨_, rfl, ⟨rfl, rfl, rfl⟩, fun _ _ _ _ => rfl⟩ | exact ⟨_, rfl, ⟨rfl, rfl, .inl rfl⟩, rfl⟩ | exact ⟨_, rfl, ⟨rfl, rfl, .inr rfl⟩, rfl⟩ | exact ⟨_, rfl, ⟨rfl, rfl, rfl, rfl, rfl⟩, rfl⟩ | exact ⟨_, rfl, ⟨rfl, rfl⟩, fun _ => Iff.rfl⟩ | refine ⟨_, rfl, rfl, ?_⟩ | refine ⟨_, rfl, ⟨rfl, rfl, rfl⟩, ?_⟩)
end Go.Proofs.YtghfigeepnbjaaaGreat
