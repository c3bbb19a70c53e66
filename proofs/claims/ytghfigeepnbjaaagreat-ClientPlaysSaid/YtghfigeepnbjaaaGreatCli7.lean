/-
  The client: Call; Outcome, Seq, Tries. No condition.
-/
import Derived.Test.YtghfigeepnbjaaaGreatCli6
namespace Go.Proofs.YtghfigeepnbjaaaGreat
open Go.RowKit
abbrev opS (o : OpM) : SV := .agg [.v (.int .i64 o.kind), .v (S o.key), .v (S o.value), .v (.int .i64 o.version)]
/-- The same, as the walk finds it. -/
def outcS (sl : SlM) : SV := match sl with
  | .set o => .tup [outS o, .v (.bool true)]
  | .opn => .tup [outS noOut, .v (.bool false)]
  | .no => .tup [outS noOut, .kb false]
/-- What a call's outcome is told as. -/
def outcC (c : CliM) : OutM × Bool := match c.sl with
  | .set o => (o, true)
  | _ => (noOut, false)
set_option maxRecDepth 100000 in
set_option maxHeartbeats 4000000 in
theorem cliOutcome (c : CliM) (hc : c.ok) : Spec Tryz.prog 20 [.p 0 0] (cliH c) fun s H1 => s = .tup [outS (outcC c).1, .v (.bool (outcC c).2)] ∧ H1 = cliH c := by
  refine Spec.val (s0 := outcS c.sl) ?_ (fun ρ => by unfold outcS outcC; cases c.sl <;> rfl)
  have h1 := hc.made
  obtain ⟨sl, hsl⟩ : ∃ sl, c.sl = sl := ⟨_, rfl⟩
  unfold cliH outcS
  rw [hsl]
  refine spec_x Tryz.func20 rfl 4 rfl rfl fun w0 U => ?_
  cases sl with
  | no =>
    repeat' ((conv => whnf); first
        | refine CutN.plain ?_
        | with_reducible refine Br.tt ?_
        | with_reducible refine Br.ff ?_
        | with_reducible refine Br.nt ?_
        | with_reducible refine Br.nf ?_
        | with_reducible refine Br.eeI ?_
        | with_reducible refine Br.nnI ?_
        | refine Br.yes (by decide) ?_
        | refine Br.no (by decide) ?_
        | refine AppN.own ?_
        | refine Need.go rfl ?_
        | refine QuiD.quiet (by kernel_rfl) ?_
        | refine IdxN.lit ?_
        | refine draw_go tabOK (by kernel_rfl) ?_
        | refine Need.go ⟨rfl, rfl⟩ ?_
        | refine Need.go ⟨⟨rfl, rfl, rfl⟩, rfl⟩ ?_
        | (with_reducible refine Br.dec (fun h => ?_) (fun h => ?_); first | (rotate_left; exfalso; omega; clear h) | (exfalso; omega; clear h) | skip)
        | (with_reducible refine Br.eqI (fun h => ?_) (fun h => ?_); first | (rotate_left; exfalso; omega; clear h) | (exfalso; omega; clear h) | skip)
        | (with_reducible refine Br.neI (fun h => ?_) (fun h => ?_); first | (rotate_left; exfalso; omega; clear h) | (exfalso; omega; clear h) | skip)
        | (with_reducible refine Br.eqS (fun h => ?_) (fun h => ?_); first | (rotate_left; exfalso; omega; clear h) | (exfalso; omega; clear h) | skip)
        | (with_reducible refine Br.neS (fun h => ?_) (fun h => ?_); first | (rotate_left; exfalso; omega; clear h) | (exfalso; omega; clear h) | skip)
        | (with_reducible refine Br.nd (fun h => ?_) (fun h => ?_); first | (rotate_left; exfalso; omega; clear h) | (exfalso; omega; clear h) | skip)
        | refine Ar.i64 (by omega) (by omega) ?_
        | refine call_inlineL (f := 27) Tryz.func27 rfl ?_
        | refine Need.go (by first | omega | decide | (simp <;> omega) | fail) ?_
        | refine Need.go (by first | (simp [Value.oneCell'] <;> omega) | fail) ?_
        | refine Need.go ⟨rfl, by omega, getD_one rfl rfl⟩ ?_
        | refine Need.go ⟨rfl, by omega, fun _ _ _ _ => rfl⟩ ?_
        | refine Br.both (fun h => ?_) (fun h => ?_))
    all_goals (conv => whnf)
    all_goals
      refine ⟨_, _, ⟨rfl, rfl⟩, by simp, trivial, less4 (τ := [some 0, some 1, some 2, some 3]) rfl ⟨by decide, rfl⟩ ?_ ?_⟩
      all_goals repeat' (first | exact leT_junk rfl | refine And.intro ?_ ?_ | exact trivial | exact .inl ⟨rfl, rfl⟩ | rfl | exact .inr ⟨_, rfl, rfl, rfl⟩ | exact ⟨_, rfl, trivial⟩ | exact ⟨_, rfl, rfl⟩ | exact ⟨_, rfl, ⟨rfl, rfl, rfl⟩, fun _ _ _ _ => rfl⟩ | exact ⟨_, rfl, ⟨rfl, rfl, .inl rfl⟩, rfl⟩ | exact ⟨_, rfl, ⟨rfl, rfl, .inr rfl⟩, rfl⟩ | exact ⟨_, rfl, ⟨rfl, rfl, rfl, rfl, rfl⟩, rfl⟩ | exact ⟨_, rfl, ⟨rfl, rfl⟩, fun _ => Iff.rfl⟩ | refine ⟨_, rfl, rfl, ?_⟩ | refine ⟨_, rfl, ⟨rfl, rfl, rfl⟩, ?_⟩)
  | opn =>
    have hS := slotUnset.val (s1 := .tup [outS noOut, .v (.bool false)]) (fun _ => rfl)
    repeat' ((conv => whnf); first
        | refine CutN.plain ?_
        | with_reducible refine Br.tt ?_
        | with_reducible refine Br.ff ?_
        | with_reducible refine Br.nt ?_
        | with_reducible refine Br.nf ?_
        | with_reducible refine Br.eeI ?_
        | with_reducible refine Br.nnI ?_
        | refine Br.yes (by decide) ?_
        | refine Br.no (by decide) ?_
        | refine AppN.own ?_
        | refine Need.go rfl ?_
        | refine QuiD.quiet (by kernel_rfl) ?_
        | refine IdxN.lit ?_
        | refine draw_go tabOK (by kernel_rfl) ?_
        | refine Need.go ⟨rfl, rfl⟩ ?_
        | refine Need.go ⟨⟨rfl, rfl, rfl⟩, rfl⟩ ?_
        | (with_reducible refine Br.dec (fun h => ?_) (fun h => ?_); first | (rotate_left; exfalso; omega; clear h) | (exfalso; omega; clear h) | skip)
        | (with_reducible refine Br.eqI (fun h => ?_) (fun h => ?_); first | (rotate_left; exfalso; omega; clear h) | (exfalso; omega; clear h) | skip)
        | (with_reducible refine Br.neI (fun h => ?_) (fun h => ?_); first | (rotate_left; exfalso; omega; clear h) | (exfalso; omega; clear h) | skip)
        | (with_reducible refine Br.eqS (fun h => ?_) (fun h => ?_); first | (rotate_left; exfalso; omega; clear h) | (exfalso; omega; clear h) | skip)
        | (with_reducible refine Br.neS (fun h => ?_) (fun h => ?_); first | (rotate_left; exfalso; omega; clear h) | (exfalso; omega; clear h) | skip)
        | (with_reducible refine Br.nd (fun h => ?_) (fun h => ?_); first | (rotate_left; exfalso; omega; clear h) | (exfalso; omega; clear h) | skip)
        | refine Ar.i64 (by omega) (by omega) ?_
        | refine call_inlineL (f := 27) Tryz.func27 rfl ?_
        | (refine call_sp (f := 50) (hS) [3] (by decide) rfl ⟨rfl, trivial⟩ rfl ?_; rintro s H1 ⟨rfl, rfl⟩)
        | (refine seg_sp (f := 50) (hS) (fun _ => rfl) [3] (by decide) rfl ⟨rfl, trivial⟩ rfl ?_)
        | refine Need.go (by first | omega | decide | (simp <;> omega) | fail) ?_
        | refine Need.go (by first | (simp [Value.oneCell'] <;> omega) | fail) ?_
        | refine Need.go ⟨rfl, by omega, getD_one rfl rfl⟩ ?_
        | refine Need.go ⟨rfl, by omega, fun _ _ _ _ => rfl⟩ ?_
        | refine Br.both (fun h => ?_) (fun h => ?_))
    all_goals (conv => whnf)
    all_goals
      refine ⟨_, _, ⟨rfl, rfl⟩, by simp, trivial, less4 (τ := [some 0, some 1, some 2, some 3]) rfl ⟨by decide, rfl⟩ ?_ ?_⟩
      all_goals repeat' (first | exact leT_junk rfl | refine And.intro ?_ ?_ | exact trivial | exact .inl ⟨rfl, rfl⟩ | rfl | exact .inr ⟨_, rfl, rfl, rfl⟩ | exact ⟨_, rfl, trivial⟩ | exact ⟨_, rfl, rfl⟩ | exact ⟨_, rfl, ⟨rfl, rfl, rfl⟩, fun _ _ _ _ => rfl⟩ | exact ⟨_, rfl, ⟨rfl, rfl, .inl rfl⟩, rfl⟩ | exact ⟨_, rfl, ⟨rfl, rfl, .inr rfl⟩, rfl⟩ | exact ⟨_, rfl, ⟨rfl, rfl, rfl, rfl, rfl⟩, rfl⟩ | exact ⟨_, rfl, ⟨rfl, rfl⟩, fun _ => Iff.rfl⟩ | refine ⟨_, rfl, rfl, ?_⟩ | refine ⟨_, rfl, ⟨rfl, rfl, rfl⟩, ?_⟩)
  | set o =>
    have hS := (slotGet o).val (s1 := .tup [outS o, .v (.bool true)]) (fun _ => rfl)
    repeat' ((conv => whnf); first
        | refine CutN.plain ?_
        | with_reducible refine Br.tt ?_
        | with_reducible refine Br.ff ?_
        | with_reducible refine Br.nt ?_
        | with_reducible refine Br.nf ?_
        | with_reducible refine Br.eeI ?_
        | with_reducible refine Br.nnI ?_
        | refine Br.yes (by decide) ?_
        | refine Br.no (by decide) ?_
        | refine AppN.own ?_
        | refine Need.go rfl ?_
        | refine QuiD.quiet (by kernel_rfl) ?_
        | refine IdxN.lit ?_
        | refine draw_go tabOK (by kernel_rfl) ?_
        | refine Need.go ⟨rfl, rfl⟩ ?_
        | refine Need.go ⟨⟨rfl, rfl, rfl⟩, rfl⟩ ?_
        | (with_reducible refine Br.dec (fun h => ?_) (fun h => ?_); first | (rotate_left; exfalso; omega; clear h) | (exfalso; omega; clear h) | skip)
        | (with_reducible refine Br.eqI (fun h => ?_) (fun h => ?_); first | (rotate_left; exfalso; omega; clear h) | (exfalso; omega; clear h) | skip)
        | (with_reducible refine Br.neI (fun h => ?_) (fun h => ?_); first | (rotate_left; exfalso; omega; clear h) | (exfalso; omega; clear h) | skip)
        | (with_reducible refine Br.eqS (fun h => ?_) (fun h => ?_); first | (rotate_left; exfalso; omega; clear h) | (exfalso; omega; clear h) | skip)
        | (with_reducible refine Br.neS (fun h => ?_) (fun h => ?_); first | (rotate_left; exfalso; omega; clear h) | (exfalso; omega; clear h) | skip)
        | (with_reducible refine Br.nd (fun h => ?_) (fun h => ?_); first | (rotate_left; exfalso; omega; clear h) | (exfalso; omega; clear h) | skip)
        | refine Ar.i64 (by omega) (by omega) ?_
        | refine call_inlineL (f := 27) Tryz.func27 rfl ?_
        | (refine call_sp (f := 50) (hS) [3] (by decide) rfl ⟨rfl, trivial⟩ rfl ?_; rintro s H1 ⟨rfl, rfl⟩)
        | (refine seg_sp (f := 50) (hS) (fun _ => rfl) [3] (by decide) rfl ⟨rfl, trivial⟩ rfl ?_)
        | refine Need.go (by first | omega | decide | (simp <;> omega) | fail) ?_
        | refine Need.go (by first | (simp [Value.oneCell'] <;> omega) | fail) ?_
        | refine Need.go ⟨rfl, by omega, getD_one rfl rfl⟩ ?_
        | refine Need.go ⟨rfl, by omega, fun _ _ _ _ => rfl⟩ ?_
        | refine Br.both (fun h => ?_) (fun h => ?_))
    all_goals (conv => whnf)
    all_goals
      refine ⟨_, _, ⟨rfl, rfl⟩, by simp, trivial, less4 (τ := [some 0, some 1, some 2, some 3]) rfl ⟨by decide, rfl⟩ ?_ ?_⟩
      all_goals repeat' (first | exact leT_junk rfl | refine And.intro ?_ ?_ | exact trivial | exact .inl ⟨rfl, rfl⟩ | rfl | exact .inr ⟨_, rfl, rfl, rfl⟩ | exact ⟨_, rfl, trivial⟩ | exact ⟨_, rfl, rfl⟩ | exact ⟨_, rfl, ⟨rfl, rfl, rfl⟩, fun _ _ _ _ => rfl⟩ | exact ⟨_, rfl, ⟨rfl, rfl, .inl rfl⟩, rfl⟩ | exact ⟨_, rfl, ⟨rfl, rfl, .inr rfl⟩, rfl⟩ | exact ⟨_, rfl, ⟨rfl, rfl, rfl, rfl, rfl⟩, rfl⟩ | exact ⟨_, rfl, ⟨rfl, rfl⟩, fun _ => Iff.rfl⟩ | refine ⟨_, rfl, rfl, ?_⟩ | refine ⟨_, rfl, ⟨rfl, rfl, rfl⟩, ?_⟩)
set_option maxRecDepth 100000 in
set_option maxHeartbeats 1000000 in
theorem cliSeq (c : CliM) (hc : c.ok) : Spec Tryz.prog 48 [.p 0 0] (cliH c) fun s H1 => s = .v (.int .i64 c.seq) ∧ H1 = cliH c := by
  have h1 := hc.made
  refine spec_x Tryz.func48 rfl 4 rfl rfl fun w0 U => ?_
  repeat' ((conv => whnf); first
      | refine CutN.plain ?_
      | with_reducible refine Br.tt ?_
      | with_reducible refine Br.ff ?_
      | with_reducible refine Br.nt ?_
      | with_reducible refine Br.nf ?_
      | with_reducible refine Br.eeI ?_
      | with_reducible refine Br.nnI ?_
      | refine Br.yes (by decide) ?_
      | refine Br.no (by decide) ?_
      | refine AppN.own ?_
      | refine Need.go rfl ?_
      | refine QuiD.quiet (by kernel_rfl) ?_
      | refine IdxN.lit ?_
      | refine draw_go tabOK (by kernel_rfl) ?_
      | refine Need.go ⟨rfl, rfl⟩ ?_
      | refine Need.go ⟨⟨rfl, rfl, rfl⟩, rfl⟩ ?_
      | (with_reducible refine Br.dec (fun h => ?_) (fun h => ?_); first | (rotate_left; exfalso; omega; clear h) | (exfalso; omega; clear h) | skip)
      | (with_reducible refine Br.eqI (fun h => ?_) (fun h => ?_); first | (rotate_left; exfalso; omega; clear h) | (exfalso; omega; clear h) | skip)
      | (with_reducible refine Br.neI (fun h => ?_) (fun h => ?_); first | (rotate_left; exfalso; omega; clear h) | (exfalso; omega; clear h) | skip)
      | (with_reducible refine Br.eqS (fun h => ?_) (fun h => ?_); first | (rotate_left; exfalso; omega; clear h) | (exfalso; omega; clear h) | skip)
      | (with_reducible refine Br.neS (fun h => ?_) (fun h => ?_); first | (rotate_left; exfalso; omega; clear h) | (exfalso; omega; clear h) | skip)
      | (with_reducible refine Br.nd (fun h => ?_) (fun h => ?_); first | (rotate_left; exfalso; omega; clear h) | (exfalso; omega; clear h) | skip)
      | refine Ar.i64 (by omega) (by omega) ?_
      | refine call_inlineL (f := 27) Tryz.func27 rfl ?_
      | refine Need.go (by first | omega | decide | (simp <;> omega) | fail) ?_
      | refine Need.go (by first | (simp [Value.oneCell'] <;> omega) | fail) ?_
      | refine Need.go ⟨rfl, by omega, getD_one rfl rfl⟩ ?_
      | refine Need.go ⟨rfl, by omega, fun _ _ _ _ => rfl⟩ ?_
      | refine Br.both (fun h => ?_) (fun h => ?_))
  all_goals (conv => whnf)
  refine ⟨_, _, ⟨rfl, rfl⟩, by simp, kept_same, less4 (τ := [some 0, some 1, some 2, some 3]) rfl ⟨by decide, rfl⟩ ?_ ?_⟩
  all_goals repeat' (first | exact slP_le _ | exact slE_le _ rfl | exact leT_junk rfl | refine And.intro ?_ ?_ | exact trivial | exact .inl ⟨rfl, rfl⟩ | rfl | exact .inr ⟨_, rfl, rfl, rfl⟩ | exact ⟨_, rfl, trivial⟩ | exact ⟨_, rfl, rfl⟩ | exact ⟨_, rfl, ⟨rfl, rfl, rfl⟩, fun _ _ _ _ => rfl⟩ | exact ⟨_, rfl, ⟨rfl, rfl, .inl rfl⟩, rfl⟩ | exact ⟨_, rfl, ⟨rfl, rfl, .inr rfl⟩, rfl⟩ | exact ⟨_, rfl, ⟨rfl, rfl, rfl, rfl, rfl⟩, rfl⟩ | exact ⟨_, rfl, ⟨rfl, rfl⟩, fun _ => Iff.rfl⟩ | refine ⟨_, rfl, rfl, ?_⟩ | refine ⟨_, rfl, ⟨rfl, rfl, rfl⟩, ?_⟩)
set_option maxRecDepth 100000 in
set_option maxHeartbeats 1000000 in
theorem cliTries (c : CliM) (hc : c.ok) : Spec Tryz.prog 49 [.p 0 0] (cliH c) fun s H1 => s = .v (.int .i64 c.tries) ∧ H1 = cliH c := by
  have h1 := hc.made
  refine spec_x Tryz.func49 rfl 4 rfl rfl fun w0 U => ?_
  repeat' ((conv => whnf); first
      | refine CutN.plain ?_
      | with_reducible refine Br.tt ?_
      | with_reducible refine Br.ff ?_
      | with_reducible refine Br.nt ?_
      | with_reducible refine Br.nf ?_
      | with_reducible refine Br.eeI ?_
      | with_reducible refine Br.nnI ?_
      | refine Br.yes (by decide) ?_
      | refine Br.no (by decide) ?_
      | refine AppN.own ?_
      | refine Need.go rfl ?_
      | refine QuiD.quiet (by kernel_rfl) ?_
      | refine IdxN.lit ?_
      | refine draw_go tabOK (by kernel_rfl) ?_
      | refine Need.go ⟨rfl, rfl⟩ ?_
      | refine Need.go ⟨⟨rfl, rfl, rfl⟩, rfl⟩ ?_
      | (with_reducible refine Br.dec (fun h => ?_) (fun h => ?_); first | (rotate_left; exfalso; omega; clear h) | (exfalso; omega; clear h) | skip)
      | (with_reducible refine Br.eqI (fun h => ?_) (fun h => ?_); first | (rotate_left; exfalso; omega; clear h) | (exfalso; omega; clear h) | skip)
      | (with_reducible refine Br.neI (fun h => ?_) (fun h => ?_); first | (rotate_left; exfalso; omega; clear h) | (exfalso; omega; clear h) | skip)
      | (with_reducible refine Br.eqS (fun h => ?_) (fun h => ?_); first | (rotate_left; exfalso; omega; clear h) | (exfalso; omega; clear h) | skip)
      | (with_reducible refine Br.neS (fun h => ?_) (fun h => ?_); first | (rotate_left; exfalso; omega; clear h) | (exfalso; omega; clear h) | skip)
      | (with_reducible refine Br.nd (fun h => ?_) (fun h => ?_); first | (rotate_left; exfalso; omega; clear h) | (exfalso; omega; clear h) | skip)
      | refine Ar.i64 (by omega) (by omega) ?_
      | refine call_inlineL (f := 27) Tryz.func27 rfl ?_
      | refine Need.go (by first | omega | decide | (simp <;> omega) | fail) ?_
      | refine Need.go (by first | (simp [Value.oneCell'] <;> omega) | fail) ?_
      | refine Need.go ⟨rfl, by omega, getD_one rfl rfl⟩ ?_
      | refine Need.go ⟨rfl, by omega, fun _ _ _ _ => rfl⟩ ?_
      | refine Br.both (fun h => ?_) (fun h => ?_))
  all_goals (conv => whnf)
  refine ⟨_, _, ⟨rfl, rfl⟩, by simp, kept_same, less4 (τ := [some 0, some 1, some 2, some 3]) rfl ⟨by decide, rfl⟩ ?_ ?_⟩
  all_goals repeat' (first | exact slP_le _ | exact slE_le _ rfl | exact leT_junk rfl | refine And.intro ?_ ?_ | exact trivial | exact .inl ⟨rfl, rfl⟩ | rfl | exact .inr ⟨_, rfl, rfl, rfl⟩ | exact ⟨_, rfl, trivial⟩ | exact ⟨_, rfl, rfl⟩ | exact ⟨_, rfl, ⟨rfl, rfl, rfl⟩, fun _ _ _ _ => rfl⟩ | exact ⟨_, rfl, ⟨rfl, rfl, .inl rfl⟩, rfl⟩ | exact ⟨_, rfl, ⟨rfl, rfl, .inr rfl⟩, rfl⟩ | exact ⟨_, rfl, ⟨rfl, rfl, rfl, rfl, rfl⟩, rfl⟩ | exact ⟨_, rfl, ⟨rfl, rfl⟩, fun _ => Iff.rfl⟩ | refine ⟨_, rfl, rfl, ?_⟩ | refine ⟨_, rfl, ⟨rfl, rfl, rfl⟩, ?_⟩)
abbrev mkE (e : Int) (q : SV) : SV := .tup [q, .v (.int .i64 e)]
abbrev CallS' (c : CliM) (o : OpM) (cls dl now : Int) : Prop := Spec Tryz.prog 9 [.p 0 0, opS o, .v (.int .i64 cls), .v (.int .i64 dl), .v (.int .i64 now)] (cliH c)
  (OutO (cliH (callC c o cls dl now).1.1) 68 30 (callC c o cls dl now).1.2.length (sndF (callC c o cls dl now).1.2 fun _ => .slice none 0 0) (mkE (callC c o cls dl now).2))
theorem outK_stay {r : CliM × List SndM} {H1 : List HE} {er : Int} (sl : SlM) (hsl : r.1.sl = sl) (hl : r.2 = []) (h0 : H1[0]? = some (.blk 78 (cliLm 2 (slP sl) r.1))) (h1 : H1[1]? = some (bkE r.1.bk)) (h2 : H1[2]? = some (memC r.1.ch)) (h3 : H1[3]? = some (slE sl)) :
    OutO (cliH r.1) 68 30 r.2.length (sndF r.2 fun _ => .slice none 0 0) (mkE er) (mkE er (.v (.slice none 0 0))) H1 :=
  ⟨[0, 1, 2, 3], ⟨by decide, rfl⟩, named_cli sl r.1 hsl (spσ4 _ _) h0 h1 h2 h3, .inl ⟨by rw [hl]; rfl, rfl⟩⟩
theorem outK_some {r : CliM × List SndM} {x : SndM} {H1 : List HE} {er : Int} (hsl : r.1.sl = .opn) (hl : r.2 = [x]) (h0 : H1[0]? = some (.blk 78 (cliLm 2 (.p 4 0) r.1))) (h1 : H1[1]? = some (bkE r.1.bk)) (h2 : H1[2]? = some (memC r.1.ch)) (h3 : H1[4]? = some (slotE 0 noOut)) (h4 : H1[5]? = some (sndC1 [x])) :
    OutO (cliH r.1) 68 30 r.2.length (sndF r.2 fun _ => .slice none 0 0) (mkE er) (mkE er (.os 5 1)) H1 :=
  ⟨[0, 1, 2, 4], ⟨by decide, rfl⟩, by rw [cliO_eq hsl]; exact ⟨h0, h1, h2, h3, trivial⟩, .inr ⟨5, by decide, by rw [hl]; rfl, by rw [hl]; exact h4⟩⟩
theorem kept_sl {sl : SlM} {l : List HE} : keptR (slE sl :: l) [slE sl] := by cases sl <;> trivial
set_option maxRecDepth 100000 in
set_option maxHeartbeats 8000000 in
theorem cliCall_busy (c : CliM) (hc : c.ok) (o : OpM) (cls dl now : Int) (hb : ¬ c.doing = 0) : CallS' c o cls dl now := by
  have hmd := hc.made
  have e : callC c o cls dl now = ((c, []), 63) := by unfold callC; rw [if_pos hb]
  unfold CallS'
  rw [e]
  obtain ⟨sl, hsl⟩ : ∃ sl, c.sl = sl := ⟨_, rfl⟩
  refine Spec.mono (R := fun s H1 => s = mkE 63 (.v (.slice none 0 0)) ∧ H1 = cliG (slP sl) (slE sl) c) ?_ (fun s H1 h => by rw [h.1, h.2]; exact outK_stay sl hsl rfl rfl rfl rfl rfl)
  unfold cliH
  rw [hsl]
  refine spec_x Tryz.func9 rfl 4 rfl rfl fun w0 U => ?_
  all_goals
    repeat' ((conv => whnf); first
        | refine CutN.plain ?_
        | with_reducible refine Br.tt ?_
        | with_reducible refine Br.ff ?_
        | with_reducible refine Br.nt ?_
        | with_reducible refine Br.nf ?_
        | with_reducible refine Br.eeI ?_
        | with_reducible refine Br.nnI ?_
        | refine Br.yes (by decide) ?_
        | refine Br.no (by decide) ?_
        | refine AppN.own ?_
        | refine Need.go rfl ?_
        | refine QuiD.quiet (by kernel_rfl) ?_
        | refine IdxN.lit ?_
        | refine draw_go tabOK (by kernel_rfl) ?_
        | refine Need.go ⟨rfl, rfl⟩ ?_
        | refine Need.go ⟨⟨rfl, rfl, rfl⟩, rfl⟩ ?_
        | (with_reducible refine Br.dec (fun h => ?_) (fun h => ?_); first | (rotate_left; exfalso; omega; clear h) | (exfalso; omega; clear h) | skip)
        | (with_reducible refine Br.eqI (fun h => ?_) (fun h => ?_); first | (rotate_left; exfalso; omega; clear h) | (exfalso; omega; clear h) | skip)
        | (with_reducible refine Br.neI (fun h => ?_) (fun h => ?_); first | (rotate_left; exfalso; omega; clear h) | (exfalso; omega; clear h) | skip)
        | (with_reducible refine Br.eqS (fun h => ?_) (fun h => ?_); first | (rotate_left; exfalso; omega; clear h) | (exfalso; omega; clear h) | skip)
        | (with_reducible refine Br.neS (fun h => ?_) (fun h => ?_); first | (rotate_left; exfalso; omega; clear h) | (exfalso; omega; clear h) | skip)
        | (with_reducible refine Br.nd (fun h => ?_) (fun h => ?_); first | (rotate_left; exfalso; omega; clear h) | (exfalso; omega; clear h) | skip)
        | refine Ar.i64 (by omega) (by omega) ?_
        | refine call_inlineL (f := 27) Tryz.func27 rfl ?_
        | refine call_inlineL (f := 21) Tryz.func21 rfl ?_
        | refine Need.go (by first | omega | decide | (simp <;> omega) | fail) ?_
        | refine Need.go (by first | (simp [Value.oneCell'] <;> omega) | fail) ?_
        | refine Need.go ⟨rfl, by omega, getD_one rfl rfl⟩ ?_
        | refine Need.go ⟨rfl, by omega, fun _ _ _ _ => rfl⟩ ?_
        | refine Br.both (fun h => ?_) (fun h => ?_))
    all_goals (conv => whnf)
    all_goals
      refine ⟨_, _, ⟨rfl, rfl⟩, by simp, kept_sl, less4 (τ := [some 0, some 1, some 2, some 3]) rfl ⟨by decide, rfl⟩ ?_ ?_⟩
      all_goals repeat' (first | exact slP_leT _ | exact slE_le _ rfl | exact leT_junk rfl | refine And.intro ?_ ?_ | exact trivial | exact .inl ⟨rfl, rfl⟩ | rfl | exact .inr ⟨_, rfl, rfl, rfl⟩ | exact ⟨_, rfl, trivial⟩ | exact ⟨_, rfl, rfl⟩ | exact ⟨_, rfl, ⟨rfl, rfl, rfl⟩, fun _ _ _ _ => rfl⟩ | exact ⟨_, rfl, ⟨rfl, rfl, .inl rfl⟩, rfl⟩ | exact ⟨_, rfl, ⟨rfl, rfl, .inr rfl⟩, rfl⟩ | exact ⟨_, rfl, ⟨rfl, rfl, rfl, rfl, rfl⟩, rfl⟩ | exact ⟨_, rfl, ⟨rfl, rfl⟩, fun _ => Iff.rfl⟩ | refine ⟨_, rfl, rfl, ?_⟩ | refine ⟨_, rfl, ⟨rfl, rfl, rfl⟩, ?_⟩)
set_option maxRecDepth 100000 in
set_option maxHeartbeats 8000000 in
theorem cliCall_bad (c : CliM) (hc : c.ok) (o : OpM) (cls dl now : Int) (hb : c.doing = 0) (hx : ¬ chkO o = 0 ∨ cls < 0 ∨ c.classes ≤ cls ∨ dl < 0 ∨ 1099511627776 < dl) : CallS' c o cls dl now := by
  have hmd := hc.made
  have e : callC c o cls dl now = ((c, []), 2) := by unfold callC; rw [if_neg (by omega), if_pos hx]
  unfold CallS'
  rw [e]
  obtain ⟨sl, hsl⟩ : ∃ sl, c.sl = sl := ⟨_, rfl⟩
  refine Spec.mono (R := fun s H1 => s = mkE 2 (.v (.slice none 0 0)) ∧ H1 = cliG (slP sl) (slE sl) c) ?_ (fun s H1 h => by rw [h.1, h.2]; exact outK_stay sl hsl rfl rfl rfl rfl rfl)
  unfold cliH
  rw [hsl]
  refine spec_x Tryz.func9 rfl 4 rfl rfl fun w0 U => ?_
  obtain ⟨ch, hch⟩ : ∃ ch, chkO o = ch := ⟨_, rfl⟩
  rw [hch] at hx
  rcases (show ¬ ch = 0 ∨ (ch = 0 ∧ cls < 0) ∨ (ch = 0 ∧ ¬ cls < 0 ∧ c.classes ≤ cls) ∨ (ch = 0 ∧ ¬ cls < 0 ∧ ¬ c.classes ≤ cls ∧ dl < 0) ∨ (ch = 0 ∧ ¬ cls < 0 ∧ ¬ c.classes ≤ cls ∧ ¬ dl < 0 ∧ 1099511627776 < dl) by omega) with hx | hx | hx | hx | hx
  all_goals
    repeat' ((conv => whnf); first
        | refine CutN.plain ?_
        | with_reducible refine Br.tt ?_
        | with_reducible refine Br.ff ?_
        | with_reducible refine Br.nt ?_
        | with_reducible refine Br.nf ?_
        | with_reducible refine Br.eeI ?_
        | with_reducible refine Br.nnI ?_
        | refine Br.yes (by decide) ?_
        | refine Br.no (by decide) ?_
        | refine AppN.own ?_
        | refine Need.go rfl ?_
        | refine QuiD.quiet (by kernel_rfl) ?_
        | refine IdxN.lit ?_
        | refine draw_go tabOK (by kernel_rfl) ?_
        | refine Need.go ⟨rfl, rfl⟩ ?_
        | refine Need.go ⟨⟨rfl, rfl, rfl⟩, rfl⟩ ?_
        | (with_reducible refine Br.dec (fun h => ?_) (fun h => ?_); first | (rotate_left; exfalso; omega; clear h) | (exfalso; omega; clear h) | skip)
        | (with_reducible refine Br.eqI (fun h => ?_) (fun h => ?_); first | (rotate_left; exfalso; omega; clear h) | (exfalso; omega; clear h) | skip)
        | (with_reducible refine Br.neI (fun h => ?_) (fun h => ?_); first | (rotate_left; exfalso; omega; clear h) | (exfalso; omega; clear h) | skip)
        | (with_reducible refine Br.eqS (fun h => ?_) (fun h => ?_); first | (rotate_left; exfalso; omega; clear h) | (exfalso; omega; clear h) | skip)
        | (with_reducible refine Br.neS (fun h => ?_) (fun h => ?_); first | (rotate_left; exfalso; omega; clear h) | (exfalso; omega; clear h) | skip)
        | (with_reducible refine Br.nd (fun h => ?_) (fun h => ?_); first | (rotate_left; exfalso; omega; clear h) | (exfalso; omega; clear h) | skip)
        | refine Ar.i64 (by omega) (by omega) ?_
        | refine call_inlineL (f := 27) Tryz.func27 rfl ?_
        | refine call_inlineL (f := 21) Tryz.func21 rfl ?_
        | (refine call_mem (f := 28) (args := [opS o]) (V := .int .i64 ch) ?_ ?_; exact fun ρ w h => check_at o ch w hch)
        | (refine quiet_mem (f := 28) (args := [opS o]) (V := .int .i64 ch) ?_ ?_; exact fun ρ w h => check_at o ch w hch)
        | (refine seg_mem (f := 28) (args := [opS o]) (V := .int .i64 ch) ?_ ?_; exact fun ρ w h => check_at o ch w hch)
        | refine Need.go (by first | omega | decide | (simp <;> omega) | fail) ?_
        | refine Need.go (by first | (simp [Value.oneCell'] <;> omega) | fail) ?_
        | refine Need.go ⟨rfl, by omega, getD_one rfl rfl⟩ ?_
        | refine Need.go ⟨rfl, by omega, fun _ _ _ _ => rfl⟩ ?_
        | refine Br.both (fun h => ?_) (fun h => ?_))
    all_goals (conv => whnf)
    all_goals
      refine ⟨_, _, ⟨rfl, rfl⟩, by simp, kept_sl, less4 (τ := [some 0, some 1, some 2, some 3]) rfl ⟨by decide, rfl⟩ ?_ ?_⟩
      all_goals repeat' (first | exact slP_leT _ | exact slE_le _ rfl | exact leT_junk rfl | refine And.intro ?_ ?_ | exact trivial | exact .inl ⟨rfl, rfl⟩ | rfl | exact .inr ⟨_, rfl, rfl, rfl⟩ | exact ⟨_, rfl, trivial⟩ | exact ⟨_, rfl, rfl⟩ | exact ⟨_, rfl, ⟨rfl, rfl, rfl⟩, fun _ _ _ _ => rfl⟩ | exact ⟨_, rfl, ⟨rfl, rfl, .inl rfl⟩, rfl⟩ | exact ⟨_, rfl, ⟨rfl, rfl, .inr rfl⟩, rfl⟩ | exact ⟨_, rfl, ⟨rfl, rfl, rfl, rfl, rfl⟩, rfl⟩ | exact ⟨_, rfl, ⟨rfl, rfl⟩, fun _ => Iff.rfl⟩ | refine ⟨_, rfl, rfl, ?_⟩ | refine ⟨_, rfl, ⟨rfl, rfl, rfl⟩, ?_⟩)
set_option maxRecDepth 100000 in
set_option maxHeartbeats 8000000 in
theorem cliCall_try (c : CliM) (hc : c.ok) (hl : c.ch.mem.length ≤ 1000000) (o : OpM) (cls dl now : Int) (hb : c.doing = 0) (hx : ¬ (¬ chkO o = 0 ∨ cls < 0 ∨ c.classes ≤ cls ∨ dl < 0 ∨ 1099511627776 < dl)) (he : 0 < c.ch.epoch) : CallS' c o cls dl now := by
  have hmd := hc.made
  have hsq := hc.seq
  have hno : ¬ c.sl = .opn := fun h => hc.opn.2 h hb
  obtain ⟨n, hnn⟩ : ∃ n, nearC now = n := ⟨_, rfl⟩
  have hw := fun w => hnn ▸ cliWithin_any now w
  have e : callC c o cls dl now = (tryC (beginC c o cls dl) n, 0) := by unfold callC; rw [if_neg (by omega), if_neg hx, if_pos he, hnn]
  unfold CallS'
  rw [e]
  have hch : chkO o = 0 := by omega
  obtain ⟨sl, hsl⟩ : ∃ sl, c.sl = sl := ⟨_, rfl⟩
  obtain ⟨x, hxx⟩ : ∃ x, tryC (beginC c o cls dl) n = x := ⟨_, rfl⟩
  obtain ⟨y, hy⟩ : ∃ y, callS (tryC (beginC c o cls dl) n).1 = y := ⟨_, rfl⟩
  have hx1 : x.2 = [y] := by rw [← hxx, ← hy]; rfl
  have hx2 : x.1.sl = .opn := by rw [← hxx]; rfl
  have hS : Spec Tryz.prog 31 [.p 0 0, .v (.int .i64 n)] (cliO (beginC c o cls dl)) fun s H1 => s = .os 4 1 ∧ H1 = cliO x.1 ++ [sndC1 [y]] := by
    rw [← hxx, ← hy]
    exact cliTry (beginC c o cls dl) (show (0 : Int) ≤ 0 ∧ (0 : Int) ≤ 4611686018427387904 by decide) hl n
  rw [hxx]
  refine Spec.mono (R := fun s H1 => s = mkE 0 (.os 5 1) ∧ H1 = [.blk 78 (cliLm 2 (.p 4 0) x.1), bkE x.1.bk, memC x.1.ch, .none, slotE 0 noOut, sndC1 [y]]) ?_ (fun s H1 h => by rw [h.1, h.2]; exact outK_some hx2 hx1 rfl rfl rfl rfl rfl)
  unfold cliH
  rw [hsl]
  rcases sl with _ | _ | o'
  rotate_left
  · exact absurd hsl hno
  rotate_left
  all_goals
    refine spec_x Tryz.func9 rfl 4 rfl rfl fun w0 U => ?_
    repeat' ((conv => whnf); first
        | refine CutN.plain ?_
        | with_reducible refine Br.tt ?_
        | with_reducible refine Br.ff ?_
        | with_reducible refine Br.nt ?_
        | with_reducible refine Br.nf ?_
        | with_reducible refine Br.eeI ?_
        | with_reducible refine Br.nnI ?_
        | refine Br.yes (by decide) ?_
        | refine Br.no (by decide) ?_
        | refine AppN.own ?_
        | refine Need.go rfl ?_
        | refine QuiD.quiet (by kernel_rfl) ?_
        | refine IdxN.lit ?_
        | refine draw_go tabOK (by kernel_rfl) ?_
        | refine Need.go ⟨rfl, rfl⟩ ?_
        | refine Need.go ⟨⟨rfl, rfl, rfl⟩, rfl⟩ ?_
        | (with_reducible refine Br.dec (fun h => ?_) (fun h => ?_); first | (rotate_left; exfalso; omega; clear h) | (exfalso; omega; clear h) | skip)
        | (with_reducible refine Br.eqI (fun h => ?_) (fun h => ?_); first | (rotate_left; exfalso; omega; clear h) | (exfalso; omega; clear h) | skip)
        | (with_reducible refine Br.neI (fun h => ?_) (fun h => ?_); first | (rotate_left; exfalso; omega; clear h) | (exfalso; omega; clear h) | skip)
        | (with_reducible refine Br.eqS (fun h => ?_) (fun h => ?_); first | (rotate_left; exfalso; omega; clear h) | (exfalso; omega; clear h) | skip)
        | (with_reducible refine Br.neS (fun h => ?_) (fun h => ?_); first | (rotate_left; exfalso; omega; clear h) | (exfalso; omega; clear h) | skip)
        | (with_reducible refine Br.nd (fun h => ?_) (fun h => ?_); first | (rotate_left; exfalso; omega; clear h) | (exfalso; omega; clear h) | skip)
        | refine Ar.i64 (by omega) (by omega) ?_
        | refine call_inlineL (f := 27) Tryz.func27 rfl ?_
        | refine call_inlineL (f := 21) Tryz.func21 rfl ?_
        | (refine call_mem (f := 28) (args := [opS o]) (V := .int .i64 0) ?_ ?_; exact fun ρ w h => check_at o 0 w hch)
        | (refine quiet_mem (f := 28) (args := [opS o]) (V := .int .i64 0) ?_ ?_; exact fun ρ w h => check_at o 0 w hch)
        | (refine seg_mem (f := 28) (args := [opS o]) (V := .int .i64 0) ?_ ?_; exact fun ρ w h => check_at o 0 w hch)
        | (refine call_mem (f := 29) (args := [.v (.int .i64 now)]) (V := .int .i64 n) ?_ ?_; exact fun ρ w h => hw w)
        | (refine quiet_mem (f := 29) (args := [.v (.int .i64 now)]) (V := .int .i64 n) ?_ ?_; exact fun ρ w h => hw w)
        | (refine seg_mem (f := 29) (args := [.v (.int .i64 now)]) (V := .int .i64 n) ?_ ?_; exact fun ρ w h => hw w)
        | (refine call_sp (f := 30) (slotNew) [] (by decide) rfl trivial rfl ?_; rintro s H1 ⟨rfl, rfl⟩)
        | (refine seg_sp (f := 30) (slotNew) (fun _ => rfl) [] (by decide) rfl trivial rfl ?_)
        | (refine call_less (f := 31) (H1 := [.blk 78 (cliLm 2 (.p 5 0) (beginC c o cls dl)), bkE c.bk, memC c.ch, .none, .none, slotE 0 noOut]) rfl ⟨[some 0, some 1, some 2, some 3, some 4, some 5], ⟨by decide, rfl⟩, (by repeat' (first | exact trivial | exact .inl ⟨rfl, rfl⟩ | rfl | exact ⟨_, rfl, trivial⟩ | exact ⟨_, rfl, rfl⟩ | exact ⟨_, rfl, ⟨rfl, rfl, rfl⟩, fun _ _ _ _ => rfl⟩ | refine ⟨_, rfl, rfl, ?_⟩ | refine And.intro ?_ ?_)), trivial⟩ rfl ?_; refine call_sp (f := 31) hS [0, 1, 2, 5] (by decide) rfl ⟨rfl, rfl, rfl, rfl, trivial⟩ rfl ?_; rintro s H1 ⟨rfl, rfl⟩)
        | refine Need.go (by first | omega | decide | (simp <;> omega) | fail) ?_
        | refine Need.go (by first | (simp [Value.oneCell'] <;> omega) | fail) ?_
        | refine Need.go ⟨rfl, by omega, getD_one rfl rfl⟩ ?_
        | refine Need.go ⟨rfl, by omega, fun _ _ _ _ => rfl⟩ ?_
        | refine Br.both (fun h => ?_) (fun h => ?_))
    all_goals (conv => whnf)
    all_goals
      refine ⟨_, _, ⟨rfl, rfl⟩, by simp, trivial, less4 (τ := [some 0, some 1, some 2, some 3, some 5, some 6]) rfl ⟨by decide, rfl⟩ ?_ ?_⟩
      all_goals repeat' (first | exact leT_junk rfl | refine And.intro ?_ ?_ | exact trivial | exact .inl ⟨rfl, rfl⟩ | rfl | exact .inr ⟨_, rfl, rfl, rfl⟩ | exact ⟨_, rfl, trivial⟩ | exact ⟨_, rfl, rfl⟩ | exact ⟨_, rfl, ⟨rfl, rfl, rfl⟩, fun _ _ _ _ => rfl⟩ | exact ⟨_, rfl, ⟨rfl, rfl, .inl rfl⟩, rfl⟩ | exact ⟨_, rfl, ⟨rfl, rfl, .inr rfl⟩, rfl⟩ | exact ⟨_, rfl, ⟨rfl, rfl, rfl, rfl, rfl⟩, rfl⟩ | exact ⟨_, rfl, ⟨rfl, rfl⟩, fun _ => Iff.rfl⟩ | refine ⟨_, rfl, rfl, ?_⟩ | refine ⟨_, rfl, ⟨rfl, rfl, rfl⟩, ?_⟩)
set_option maxRecDepth 100000 in
set_option maxHeartbeats 8000000 in
theorem cliCall_ask (c : CliM) (hc : c.ok) (hl : c.ch.mem.length ≤ 1000000) (o : OpM) (cls dl now : Int) (hb : c.doing = 0) (hx : ¬ (¬ chkO o = 0 ∨ cls < 0 ∨ c.classes ≤ cls ∨ dl < 0 ∨ 1099511627776 < dl)) (he : ¬ 0 < c.ch.epoch) : CallS' c o cls dl now := by
  have hmd := hc.made
  have hsq := hc.seq
  have hno : ¬ c.sl = .opn := fun h => hc.opn.2 h hb
  obtain ⟨n, hnn⟩ : ∃ n, nearC now = n := ⟨_, rfl⟩
  have hw := fun w => hnn ▸ cliWithin_any now w
  have e : callC c o cls dl now = (askC (beginC c o cls dl) n, 0) := by unfold callC; rw [if_neg (by omega), if_neg hx, if_neg he, hnn]
  unfold CallS'
  rw [e]
  have hch : chkO o = 0 := by omega
  obtain ⟨sl, hsl⟩ : ∃ sl, c.sl = sl := ⟨_, rfl⟩
  obtain ⟨x, hxx⟩ : ∃ x, askC (beginC c o cls dl) n = x := ⟨_, rfl⟩
  obtain ⟨y, hy⟩ : ∃ y, askS = y := ⟨_, rfl⟩
  have hx1 : x.2 = [y] := by rw [← hxx, ← hy]; rfl
  have hx2 : x.1.sl = .opn := by rw [← hxx]; rfl
  have hS : Spec Tryz.prog 32 [.p 0 0, .v (.int .i64 n)] (cliO (beginC c o cls dl)) fun s H1 => s = .os 4 1 ∧ H1 = cliO x.1 ++ [sndC1 [y]] := by
    rw [← hxx, ← hy]
    exact cliAsk (beginC c o cls dl) n
  rw [hxx]
  refine Spec.mono (R := fun s H1 => s = mkE 0 (.os 5 1) ∧ H1 = [.blk 78 (cliLm 2 (.p 4 0) x.1), bkE x.1.bk, memC x.1.ch, .none, slotE 0 noOut, sndC1 [y]]) ?_ (fun s H1 h => by rw [h.1, h.2]; exact outK_some hx2 hx1 rfl rfl rfl rfl rfl)
  unfold cliH
  rw [hsl]
  rcases sl with _ | _ | o'
  rotate_left
  · exact absurd hsl hno
  rotate_left
  all_goals
    refine spec_x Tryz.func9 rfl 4 rfl rfl fun w0 U => ?_
    repeat' ((conv => whnf); first
        | refine CutN.plain ?_
        | with_reducible refine Br.tt ?_
        | with_reducible refine Br.ff ?_
        | with_reducible refine Br.nt ?_
        | with_reducible refine Br.nf ?_
        | with_reducible refine Br.eeI ?_
        | with_reducible refine Br.nnI ?_
        | refine Br.yes (by decide) ?_
        | refine Br.no (by decide) ?_
        | refine AppN.own ?_
        | refine Need.go rfl ?_
        | refine QuiD.quiet (by kernel_rfl) ?_
        | refine IdxN.lit ?_
        | refine draw_go tabOK (by kernel_rfl) ?_
        | refine Need.go ⟨rfl, rfl⟩ ?_
        | refine Need.go ⟨⟨rfl, rfl, rfl⟩, rfl⟩ ?_
        | (with_reducible refine Br.dec (fun h => ?_) (fun h => ?_); first | (rotate_left; exfalso; omega; clear h) | (exfalso; omega; clear h) | skip)
        | (with_reducible refine Br.eqI (fun h => ?_) (fun h => ?_); first | (rotate_left; exfalso; omega; clear h) | (exfalso; omega; clear h) | skip)
        | (with_reducible refine Br.neI (fun h => ?_) (fun h => ?_); first | (rotate_left; exfalso; omega; clear h) | (exfalso; omega; clear h) | skip)
        | (with_reducible refine Br.eqS (fun h => ?_) (fun h => ?_); first | (rotate_left; exfalso; omega; clear h) | (exfalso; omega; clear h) | skip)
        | (with_reducible refine Br.neS (fun h => ?_) (fun h => ?_); first | (rotate_left; exfalso; omega; clear h) | (exfalso; omega; clear h) | skip)
        | (with_reducible refine Br.nd (fun h => ?_) (fun h => ?_); first | (rotate_left; exfalso; omega; clear h) | (exfalso; omega; clear h) | skip)
        | refine Ar.i64 (by omega) (by omega) ?_
        | refine call_inlineL (f := 27) Tryz.func27 rfl ?_
        | refine call_inlineL (f := 21) Tryz.func21 rfl ?_
        | (refine call_mem (f := 28) (args := [opS o]) (V := .int .i64 0) ?_ ?_; exact fun ρ w h => check_at o 0 w hch)
        | (refine quiet_mem (f := 28) (args := [opS o]) (V := .int .i64 0) ?_ ?_; exact fun ρ w h => check_at o 0 w hch)
        | (refine seg_mem (f := 28) (args := [opS o]) (V := .int .i64 0) ?_ ?_; exact fun ρ w h => check_at o 0 w hch)
        | (refine call_mem (f := 29) (args := [.v (.int .i64 now)]) (V := .int .i64 n) ?_ ?_; exact fun ρ w h => hw w)
        | (refine quiet_mem (f := 29) (args := [.v (.int .i64 now)]) (V := .int .i64 n) ?_ ?_; exact fun ρ w h => hw w)
        | (refine seg_mem (f := 29) (args := [.v (.int .i64 now)]) (V := .int .i64 n) ?_ ?_; exact fun ρ w h => hw w)
        | (refine call_sp (f := 30) (slotNew) [] (by decide) rfl trivial rfl ?_; rintro s H1 ⟨rfl, rfl⟩)
        | (refine seg_sp (f := 30) (slotNew) (fun _ => rfl) [] (by decide) rfl trivial rfl ?_)
        | (refine call_less (f := 32) (H1 := [.blk 78 (cliLm 2 (.p 5 0) (beginC c o cls dl)), bkE c.bk, memC c.ch, .none, .none, slotE 0 noOut]) rfl ⟨[some 0, some 1, some 2, some 3, some 4, some 5], ⟨by decide, rfl⟩, (by repeat' (first | exact trivial | exact .inl ⟨rfl, rfl⟩ | rfl | exact ⟨_, rfl, trivial⟩ | exact ⟨_, rfl, rfl⟩ | exact ⟨_, rfl, ⟨rfl, rfl, rfl⟩, fun _ _ _ _ => rfl⟩ | refine ⟨_, rfl, rfl, ?_⟩ | refine And.intro ?_ ?_)), trivial⟩ rfl ?_; refine call_sp (f := 32) hS [0, 1, 2, 5] (by decide) rfl ⟨rfl, rfl, rfl, rfl, trivial⟩ rfl ?_; rintro s H1 ⟨rfl, rfl⟩)
        | refine Need.go (by first | omega | decide | (simp <;> omega) | fail) ?_
        | refine Need.go (by first | (simp [Value.oneCell'] <;> omega) | fail) ?_
        | refine Need.go ⟨rfl, by omega, getD_one rfl rfl⟩ ?_
        | refine Need.go ⟨rfl, by omega, fun _ _ _ _ => rfl⟩ ?_
        | refine Br.both (fun h => ?_) (fun h => ?_))
    all_goals (conv => whnf)
    all_goals
      refine ⟨_, _, ⟨rfl, rfl⟩, by simp, trivial, less4 (τ := [some 0, some 1, some 2, some 3, some 5, some 6]) rfl ⟨by decide, rfl⟩ ?_ ?_⟩
      all_goals repeat' (first | exact leT_junk rfl | refine And.intro ?_ ?_ | exact trivial | exact .inl ⟨rfl, rfl⟩ | rfl | exact .inr ⟨_, rfl, rfl, rfl⟩ | exact ⟨_, rfl, trivial⟩ | exact ⟨_, rfl, rfl⟩ | exact ⟨_, rfl, ⟨rfl, rfl, rfl⟩, fun _ _ _ _ => rfl⟩ | exact ⟨_, rfl, ⟨rfl, rfl, .inl rfl⟩, rfl⟩ | exact ⟨_, rfl, ⟨rfl, rfl, .inr rfl⟩, rfl⟩ | exact ⟨_, rfl, ⟨rfl, rfl, rfl, rfl, rfl⟩, rfl⟩ | exact ⟨_, rfl, ⟨rfl, rfl⟩, fun _ => Iff.rfl⟩ | refine ⟨_, rfl, rfl, ?_⟩ | refine ⟨_, rfl, ⟨rfl, rfl, rfl⟩, ?_⟩)
/-- A call is begun, or not. -/
theorem cliCall (c : CliM) (hc : c.ok) (hl : c.ch.mem.length ≤ 1000000) (o : OpM) (cls dl now : Int) : CallS' c o cls dl now := by
  by_cases hb : c.doing = 0
  · by_cases hx : ¬ chkO o = 0 ∨ cls < 0 ∨ c.classes ≤ cls ∨ dl < 0 ∨ 1099511627776 < dl
    · exact cliCall_bad c hc o cls dl now hb hx
    · by_cases he : 0 < c.ch.epoch
      · exact cliCall_try c hc hl o cls dl now hb hx he
      · exact cliCall_ask c hc hl o cls dl now hb hx he
  · exact cliCall_busy c hc o cls dl now hb
end Go.Proofs.YtghfigeepnbjaaaGreat
