/-
  The document's client: Take. No condition.
-/
import Derived.Test.YtghfigeepnbjaaaGreatRC6
namespace Go.Proofs.YtghfigeepnbjaaaGreat
open Go.RowKit
section
variable (y : RCy) (c : CliM) (f : FrM) (fa : Option Addr) (fc : Nat) (now : Int) {Z : Nat → Prop} {Q : World → Prop} {Zf : Nat → Prop} {Qf : World → Prop}
set_option maxRecDepth 100000 in
set_option maxHeartbeats 8000000 in
theorem rcTake_none (h8 : ¬ f.kind = 8) (h2 : ¬ (f.kind = 2 ∧ ¬ c.doing = 0 ∧ f.client = c.id ∧ f.seq = c.seq)) (h3 : ¬ (f.kind = 3 ∧ c.doing = 2 ∧ f.client = c.id ∧ f.seq = c.seq ∧ f.try' = c.tries)) : TkS y c f fa fc now Z Q Zf Qf y c [] := by
  obtain ⟨n, hnn⟩ : ∃ n, nearC now = n := ⟨_, rfl⟩
  have hw := fun w => hnn ▸ rcNear_any now w
  obtain ⟨o, ho⟩ : ∃ o, (outcC c).1 = o := ⟨_, rfl⟩
  obtain ⟨hs, hh⟩ : ∃ hs, (outcC c).2 = hs := ⟨_, rfl⟩
  unfold TkS rcH
  rw [ho, hh]
  refine spec_x Tryz.func16 rfl 4 rfl rfl fun w0 U => ?_
  repeat' ((conv => whnf); first
      | refine QuiD.draw (draw_go tabOK (by kernel_rfl) ?_)
      | refine CutN.plain ?_
      | with_reducible refine Br.tt ?_
      | with_reducible refine Br.ff ?_
      | with_reducible refine Br.nt ?_
      | with_reducible refine Br.nf ?_
      | with_reducible refine Br.eeI ?_
      | with_reducible refine Br.nnI ?_
      | refine Br.yes (by decide) ?_
      | refine Br.no (by decide) ?_
      | refine AppN.own ?_
      | refine Need.go rfl ?_
      | refine QuiD.quiet (by kernel_rfl) ?_
      | refine IdxN.lit ?_
      | refine draw_go tabOK (by kernel_rfl) ?_
      | refine Need.go ⟨rfl, rfl⟩ ?_
      | refine Need.go ⟨⟨rfl, rfl, rfl⟩, rfl⟩ ?_
      | (with_reducible refine Br.dec (fun h => ?_) (fun h => ?_); first | (rotate_left; exfalso; omega; clear h) | (exfalso; omega; clear h) | skip)
      | (with_reducible refine Br.eqI (fun h => ?_) (fun h => ?_); first | (rotate_left; exfalso; omega; clear h) | (exfalso; omega; clear h) | skip)
      | (with_reducible refine Br.neI (fun h => ?_) (fun h => ?_); first | (rotate_left; exfalso; omega; clear h) | (exfalso; omega; clear h) | skip)
      | (with_reducible refine Br.eqS (fun h => ?_) (fun h => ?_); first | (rotate_left; exfalso; omega; clear h) | (exfalso; omega; clear h) | skip)
      | (with_reducible refine Br.neS (fun h => ?_) (fun h => ?_); first | (rotate_left; exfalso; omega; clear h) | (exfalso; omega; clear h) | skip)
      | (with_reducible refine Br.nd (fun h => ?_) (fun h => ?_); first | (rotate_left; exfalso; omega; clear h) | (exfalso; omega; clear h) | skip)
      | refine Ar.i64 (by omega) (by omega) ?_
      | (refine call_mem (f := 35) (args := [.v (.int .i64 now)]) (V := .int .i64 n) ?_ ?_; exact fun ρ w h => hw w)
      | (refine quiet_mem (f := 35) (args := [.v (.int .i64 now)]) (V := .int .i64 n) ?_ ?_; exact fun ρ w h => hw w)
      | (refine seg_mem (f := 35) (args := [.v (.int .i64 now)]) (V := .int .i64 n) ?_ ?_; exact fun ρ w h => hw w)
      | refine Need.go (by first | omega | decide | (simp <;> omega) | fail) ?_
      | refine Need.go (by first | (simp [Value.oneCell'] <;> omega) | fail) ?_
      | refine Need.go ⟨rfl, by omega, getD_one rfl rfl⟩ ?_
      | refine Need.go ⟨rfl, by omega, fun _ _ _ _ => rfl⟩ ?_
      | refine Br.both (fun h => ?_) (fun h => ?_))
  all_goals (conv => whnf)
  all_goals
    refine ⟨_, _, ⟨rfl, rfl⟩, by simp, ⟨rfl, rfl, trivial⟩, less4 (τ := [some 0, some 1, some 2, some 3, none]) rfl ⟨by decide, rfl⟩ ?_ ?_⟩
    all_goals repeat' (first | exact .inr ⟨_, rfl, rfl, rfl⟩ | exact leT_junk rfl | refine And.intro ?_ ?_ | exact trivial | exact .inl ⟨rfl, rfl⟩ | rfl | exact .inr ⟨_, rfl, rfl, rfl⟩ | exact ⟨_, rfl, trivial⟩ | exact ⟨_, rfl, rfl⟩ | exact ⟨_, rfl, ⟨rfl, rfl, rfl⟩, fun _ _ _ _ => rfl⟩ | exact ⟨_, rfl, ⟨rfl, rfl, .inl rfl⟩, rfl⟩ | exact ⟨_, rfl, ⟨rfl, rfl, .inr rfl⟩, rfl⟩ | exact ⟨_, rfl, ⟨rfl, rfl, rfl, rfl, rfl⟩, rfl⟩ | exact ⟨_, rfl, ⟨rfl, rfl⟩, fun _ => Iff.rfl⟩ | refine ⟨_, rfl, rfl, ?_⟩ | refine ⟨_, rfl, ⟨rfl, rfl, rfl⟩, ?_⟩)
set_option maxRecDepth 100000 in
set_option maxHeartbeats 8000000 in
theorem rcTake_end (h2 : f.kind = 2) (hd : ¬ c.doing = 0) (hc : f.client = c.id) (hse : f.seq = c.seq) : TkS y c f fa fc now Z Q Zf Qf y (endC c ⟨1, 0, f.res.code, f.res.value, f.res.version, f.res.pos⟩) [] := by
  obtain ⟨n, hnn⟩ : ∃ n, nearC now = n := ⟨_, rfl⟩
  have hw := fun w => hnn ▸ rcNear_any now w
  obtain ⟨o, ho⟩ : ∃ o, (outcC c).1 = o := ⟨_, rfl⟩
  obtain ⟨hs, hh⟩ : ∃ hs, (outcC c).2 = hs := ⟨_, rfl⟩
  have hen := rcEnd y c o hs ⟨1, 0, f.res.code, f.res.value, f.res.version, f.res.pos⟩
  unfold TkS
  rw [show rcH y (endC c ⟨1, 0, f.res.code, f.res.value, f.res.version, f.res.pos⟩) = rcHo y { c with doing := 0 } ⟨1, 0, f.res.code, f.res.value, f.res.version, f.res.pos⟩ true from rfl]
  unfold rcH
  rw [ho, hh]
  refine spec_x Tryz.func16 rfl 4 rfl rfl fun w0 U => ?_
  repeat' ((conv => whnf); first
      | refine QuiD.draw (draw_go tabOK (by kernel_rfl) ?_)
      | refine CutN.plain ?_
      | with_reducible refine Br.tt ?_
      | with_reducible refine Br.ff ?_
      | with_reducible refine Br.nt ?_
      | with_reducible refine Br.nf ?_
      | with_reducible refine Br.eeI ?_
      | with_reducible refine Br.nnI ?_
      | refine Br.yes (by decide) ?_
      | refine Br.no (by decide) ?_
      | refine AppN.own ?_
      | refine Need.go rfl ?_
      | refine QuiD.quiet (by kernel_rfl) ?_
      | refine IdxN.lit ?_
      | refine draw_go tabOK (by kernel_rfl) ?_
      | refine Need.go ⟨rfl, rfl⟩ ?_
      | refine Need.go ⟨⟨rfl, rfl, rfl⟩, rfl⟩ ?_
      | (with_reducible refine Br.dec (fun h => ?_) (fun h => ?_); first | (rotate_left; exfalso; omega; clear h) | (exfalso; omega; clear h) | skip)
      | (with_reducible refine Br.eqI (fun h => ?_) (fun h => ?_); first | (rotate_left; exfalso; omega; clear h) | (exfalso; omega; clear h) | skip)
      | (with_reducible refine Br.neI (fun h => ?_) (fun h => ?_); first | (rotate_left; exfalso; omega; clear h) | (exfalso; omega; clear h) | skip)
      | (with_reducible refine Br.eqS (fun h => ?_) (fun h => ?_); first | (rotate_left; exfalso; omega; clear h) | (exfalso; omega; clear h) | skip)
      | (with_reducible refine Br.neS (fun h => ?_) (fun h => ?_); first | (rotate_left; exfalso; omega; clear h) | (exfalso; omega; clear h) | skip)
      | (with_reducible refine Br.nd (fun h => ?_) (fun h => ?_); first | (rotate_left; exfalso; omega; clear h) | (exfalso; omega; clear h) | skip)
      | refine Ar.i64 (by omega) (by omega) ?_
      | (refine call_mem (f := 35) (args := [.v (.int .i64 now)]) (V := .int .i64 n) ?_ ?_; exact fun ρ w h => hw w)
      | (refine quiet_mem (f := 35) (args := [.v (.int .i64 now)]) (V := .int .i64 n) ?_ ?_; exact fun ρ w h => hw w)
      | (refine seg_mem (f := 35) (args := [.v (.int .i64 now)]) (V := .int .i64 n) ?_ ?_; exact fun ρ w h => hw w)
      | (refine call_sp (f := 47) (hen) [0, 1] (by decide) rfl ⟨rfl, rfl, trivial⟩ rfl ?_; rintro s H1 ⟨rfl, rfl⟩)
      | (refine seg_sp (f := 47) (hen) (fun _ => rfl) [0, 1] (by decide) rfl ⟨rfl, rfl, trivial⟩ rfl ?_)
      | refine Need.go (by first | omega | decide | (simp <;> omega) | fail) ?_
      | refine Need.go (by first | (simp [Value.oneCell'] <;> omega) | fail) ?_
      | refine Need.go ⟨rfl, by omega, getD_one rfl rfl⟩ ?_
      | refine Need.go ⟨rfl, by omega, fun _ _ _ _ => rfl⟩ ?_
      | refine Br.both (fun h => ?_) (fun h => ?_))
  all_goals (conv => whnf)
  all_goals
    refine ⟨_, _, ⟨rfl, rfl⟩, by simp, ⟨rfl, rfl, trivial⟩, less4 (τ := [some 0, some 1, some 2, some 3, none]) rfl ⟨by decide, rfl⟩ ?_ ?_⟩
    all_goals repeat' (first | exact .inr ⟨_, rfl, rfl, rfl⟩ | exact leT_junk rfl | refine And.intro ?_ ?_ | exact trivial | exact .inl ⟨rfl, rfl⟩ | rfl | exact .inr ⟨_, rfl, rfl, rfl⟩ | exact ⟨_, rfl, trivial⟩ | exact ⟨_, rfl, rfl⟩ | exact ⟨_, rfl, ⟨rfl, rfl, rfl⟩, fun _ _ _ _ => rfl⟩ | exact ⟨_, rfl, ⟨rfl, rfl, .inl rfl⟩, rfl⟩ | exact ⟨_, rfl, ⟨rfl, rfl, .inr rfl⟩, rfl⟩ | exact ⟨_, rfl, ⟨rfl, rfl, rfl, rfl, rfl⟩, rfl⟩ | exact ⟨_, rfl, ⟨rfl, rfl⟩, fun _ => Iff.rfl⟩ | refine ⟨_, rfl, rfl, ?_⟩ | refine ⟨_, rfl, ⟨rfl, rfl, rfl⟩, ?_⟩)
end
end Go.Proofs.YtghfigeepnbjaaaGreat
