/-
  The document's client: Take. No condition.
-/
import Derived.Test.YtghfigeepnbjaaaGreatRC6
namespace Go.Proofs.YtghfigeepnbjaaaGreat
open Go.RowKit
section
variable (y : RCy) (c : CliM) (f : FrM) (fa : Option Addr) (fc : Nat) (now : Int) {Z : Nat → Prop} {Q : World → Prop} {Zf : Nat → Prop} {Qf : World → Prop}
set_option maxRecDepth 100000 in
set_option maxHeartbeats 8000000 in
theorem rcTake_unsure (hc' : c.ok) (h3 : f.kind = 3) (hd : c.doing = 2) (hc : f.client = c.id) (hse : f.seq = c.seq) (htr : f.try' = c.tries) (hr : f.reason = 6 ∨ f.reason = 5 ∨ f.reason = 7) : TkS y c f fa fc now Z Q Zf Qf (flY y (onC { c with unsure := true } f.reason (nearC now)).1) (onC { c with unsure := true } f.reason (nearC now)).1 (onC { c with unsure := true } f.reason (nearC now)).2 := by
  obtain ⟨n, hnn⟩ : ∃ n, nearC now = n := ⟨_, rfl⟩
  have hw := fun w => hnn ▸ rcNear_any now w
  rw [hnn]
  have hn : 0 ≤ n ∧ n ≤ 1099511627776 := by rw [← hnn]; unfold nearC; omega
  have hon := rcOn y { c with unsure := true } (ok_unsure hc') f.reason n hn
  rw [onY_fl, show rcH y { c with unsure := true } = rcHo y { c with unsure := true } (outcC c).1 (outcC c).2 from rfl] at hon
  have hx := on_two { c with unsure := true } f.reason n
  obtain ⟨r, hr'⟩ : ∃ r, onC { c with unsure := true } f.reason n = r := ⟨_, rfl⟩
  rw [hr'] at hon hx ⊢
  obtain ⟨y1, hy1⟩ : ∃ y1, flY y r.1 = y1 := ⟨_, rfl⟩
  rw [hy1] at hon ⊢
  obtain ⟨c1, l1⟩ := r
  dsimp only at hx
  unfold TkS
  obtain ⟨o, ho⟩ : ∃ o, (outcC c).1 = o := ⟨_, rfl⟩
  obtain ⟨hs, hh⟩ : ∃ hs, (outcC c).2 = hs := ⟨_, rfl⟩
  rw [show rcH y c = rcHo y c (outcC c).1 (outcC c).2 from rfl]
  rw [ho, hh] at hon ⊢
  clear hr' hy1
  rcases hx with ⟨rfl, hd1⟩ | ⟨rfl, hd1⟩
  · have haf := rcAfter_no y1 c1 (by omega)
    refine spec_x Tryz.func16 rfl 4 rfl rfl fun w0 U => ?_
    repeat' ((conv => whnf); first
        | refine QuiD.draw (draw_go tabOK (by kernel_rfl) ?_)
        | refine CutN.plain ?_
        | with_reducible refine Br.tt ?_
        | with_reducible refine Br.ff ?_
        | with_reducible refine Br.nt ?_
        | with_reducible refine Br.nf ?_
        | with_reducible refine Br.eeI ?_
        | with_reducible refine Br.nnI ?_
        | refine Br.yes (by decide) ?_
        | refine Br.no (by decide) ?_
        | refine AppN.own ?_
        | refine Need.go rfl ?_
        | refine QuiD.quiet (by kernel_rfl) ?_
        | refine IdxN.lit ?_
        | refine draw_go tabOK (by kernel_rfl) ?_
        | refine Need.go ⟨rfl, rfl⟩ ?_
        | refine Need.go ⟨⟨rfl, rfl, rfl⟩, rfl⟩ ?_
        | (with_reducible refine Br.dec (fun h => ?_) (fun h => ?_); first | (rotate_left; exfalso; omega; clear h) | (exfalso; omega; clear h) | skip)
        | (with_reducible refine Br.eqI (fun h => ?_) (fun h => ?_); first | (rotate_left; exfalso; omega; clear h) | (exfalso; omega; clear h) | skip)
        | (with_reducible refine Br.neI (fun h => ?_) (fun h => ?_); first | (rotate_left; exfalso; omega; clear h) | (exfalso; omega; clear h) | skip)
        | (with_reducible refine Br.eqS (fun h => ?_) (fun h => ?_); first | (rotate_left; exfalso; omega; clear h) | (exfalso; omega; clear h) | skip)
        | (with_reducible refine Br.neS (fun h => ?_) (fun h => ?_); first | (rotate_left; exfalso; omega; clear h) | (exfalso; omega; clear h) | skip)
        | (with_reducible refine Br.nd (fun h => ?_) (fun h => ?_); first | (rotate_left; exfalso; omega; clear h) | (exfalso; omega; clear h) | skip)
        | refine Ar.i64 (by omega) (by omega) ?_
        | (refine call_mem (f := 35) (args := [.v (.int .i64 now)]) (V := .int .i64 n) ?_ ?_; exact fun ρ w h => hw w)
        | (refine quiet_mem (f := 35) (args := [.v (.int .i64 now)]) (V := .int .i64 n) ?_ ?_; exact fun ρ w h => hw w)
        | (refine seg_mem (f := 35) (args := [.v (.int .i64 now)]) (V := .int .i64 n) ?_ ?_; exact fun ρ w h => hw w)
        | (refine call_less (f := 40) (H1 := rcHo y { c with unsure := true } o hs ++ [.res false Z Q, .res false Zf Qf, .blk 46 (frL f (.v (.slice fa f.ch.mem.length fc)))]) rfl ⟨[some 0, some 1, some 2, some 3, some 4], ⟨by decide, rfl⟩, (by repeat' (first | refine And.intro ?_ ?_ | exact trivial | exact .inl ⟨rfl, rfl⟩ | rfl | exact ⟨_, rfl, trivial⟩ | exact ⟨_, rfl, rfl⟩ | exact ⟨_, rfl, ⟨rfl, rfl, rfl⟩, fun _ _ _ _ => rfl⟩ | exact ⟨_, rfl, ⟨rfl, rfl⟩, fun _ => Iff.rfl⟩ | refine ⟨_, rfl, rfl, ?_⟩ | exact leC_b (by first | (show (f.reason == 7) = true; simp; omega) | (rw [show c.unsure = false by assumption]; simp; omega)) | exact leC_kb (by symm; assumption))), trivial⟩ rfl ?_; refine call_sp (f := 40) hon [0, 1] (by decide) rfl ⟨rfl, rfl, trivial⟩ rfl ?_; rintro s H1 ⟨rfl, rfl⟩)
        | (refine call_sp (f := 41) (haf) [0, 1] (by decide) rfl ⟨rfl, rfl, trivial⟩ rfl ?_; rintro s H1 ⟨rfl, rfl⟩)
        | (refine seg_sp (f := 41) (haf) (fun _ => rfl) [0, 1] (by decide) rfl ⟨rfl, rfl, trivial⟩ rfl ?_)
        | refine Need.go (by first | omega | decide | (simp <;> omega) | fail) ?_
        | refine Need.go (by first | (simp [Value.oneCell'] <;> omega) | fail) ?_
        | refine Need.go ⟨rfl, by omega, getD_one rfl rfl⟩ ?_
        | refine Need.go ⟨rfl, by omega, fun _ _ _ _ => rfl⟩ ?_
        | refine Br.both (fun h => ?_) (fun h => ?_))
    all_goals (conv => whnf)
    all_goals
      refine ⟨_, _, ⟨rfl, rfl⟩, by simp, ⟨rfl, rfl, trivial⟩, less4 (τ := [some 0, some 1, some 2, some 3, none]) rfl ⟨by decide, rfl⟩ ?_ ?_⟩
      all_goals repeat' (first | exact .inr ⟨_, rfl, rfl, rfl⟩ | exact leT_junk rfl | refine And.intro ?_ ?_ | exact trivial | exact .inl ⟨rfl, rfl⟩ | rfl | exact .inr ⟨_, rfl, rfl, rfl⟩ | exact ⟨_, rfl, trivial⟩ | exact ⟨_, rfl, rfl⟩ | exact ⟨_, rfl, ⟨rfl, rfl, rfl⟩, fun _ _ _ _ => rfl⟩ | exact ⟨_, rfl, ⟨rfl, rfl, .inl rfl⟩, rfl⟩ | exact ⟨_, rfl, ⟨rfl, rfl, .inr rfl⟩, rfl⟩ | exact ⟨_, rfl, ⟨rfl, rfl, rfl, rfl, rfl⟩, rfl⟩ | exact ⟨_, rfl, ⟨rfl, rfl⟩, fun _ => Iff.rfl⟩ | refine ⟨_, rfl, rfl, ?_⟩ | refine ⟨_, rfl, ⟨rfl, rfl, rfl⟩, ?_⟩)
  · have haf := rcAfter_yes y1 c1 hd1
    refine spec_x Tryz.func16 rfl 4 rfl rfl fun w0 U => ?_
    repeat' ((conv => whnf); first
        | refine QuiD.draw (draw_go tabOK (by kernel_rfl) ?_)
        | refine CutN.plain ?_
        | with_reducible refine Br.tt ?_
        | with_reducible refine Br.ff ?_
        | with_reducible refine Br.nt ?_
        | with_reducible refine Br.nf ?_
        | with_reducible refine Br.eeI ?_
        | with_reducible refine Br.nnI ?_
        | refine Br.yes (by decide) ?_
        | refine Br.no (by decide) ?_
        | refine AppN.own ?_
        | refine Need.go rfl ?_
        | refine QuiD.quiet (by kernel_rfl) ?_
        | refine IdxN.lit ?_
        | refine draw_go tabOK (by kernel_rfl) ?_
        | refine Need.go ⟨rfl, rfl⟩ ?_
        | refine Need.go ⟨⟨rfl, rfl, rfl⟩, rfl⟩ ?_
        | (with_reducible refine Br.dec (fun h => ?_) (fun h => ?_); first | (rotate_left; exfalso; omega; clear h) | (exfalso; omega; clear h) | skip)
        | (with_reducible refine Br.eqI (fun h => ?_) (fun h => ?_); first | (rotate_left; exfalso; omega; clear h) | (exfalso; omega; clear h) | skip)
        | (with_reducible refine Br.neI (fun h => ?_) (fun h => ?_); first | (rotate_left; exfalso; omega; clear h) | (exfalso; omega; clear h) | skip)
        | (with_reducible refine Br.eqS (fun h => ?_) (fun h => ?_); first | (rotate_left; exfalso; omega; clear h) | (exfalso; omega; clear h) | skip)
        | (with_reducible refine Br.neS (fun h => ?_) (fun h => ?_); first | (rotate_left; exfalso; omega; clear h) | (exfalso; omega; clear h) | skip)
        | (with_reducible refine Br.nd (fun h => ?_) (fun h => ?_); first | (rotate_left; exfalso; omega; clear h) | (exfalso; omega; clear h) | skip)
        | refine Ar.i64 (by omega) (by omega) ?_
        | (refine call_mem (f := 35) (args := [.v (.int .i64 now)]) (V := .int .i64 n) ?_ ?_; exact fun ρ w h => hw w)
        | (refine quiet_mem (f := 35) (args := [.v (.int .i64 now)]) (V := .int .i64 n) ?_ ?_; exact fun ρ w h => hw w)
        | (refine seg_mem (f := 35) (args := [.v (.int .i64 now)]) (V := .int .i64 n) ?_ ?_; exact fun ρ w h => hw w)
        | (refine call_less (f := 40) (H1 := rcHo y { c with unsure := true } o hs ++ [.res false Z Q, .res false Zf Qf, .blk 46 (frL f (.v (.slice fa f.ch.mem.length fc)))]) rfl ⟨[some 0, some 1, some 2, some 3, some 4], ⟨by decide, rfl⟩, (by repeat' (first | refine And.intro ?_ ?_ | exact trivial | exact .inl ⟨rfl, rfl⟩ | rfl | exact ⟨_, rfl, trivial⟩ | exact ⟨_, rfl, rfl⟩ | exact ⟨_, rfl, ⟨rfl, rfl, rfl⟩, fun _ _ _ _ => rfl⟩ | exact ⟨_, rfl, ⟨rfl, rfl⟩, fun _ => Iff.rfl⟩ | refine ⟨_, rfl, rfl, ?_⟩ | exact leC_b (by first | (show (f.reason == 7) = true; simp; omega) | (rw [show c.unsure = false by assumption]; simp; omega)) | exact leC_kb (by symm; assumption))), trivial⟩ rfl ?_; refine call_sp (f := 40) hon [0, 1] (by decide) rfl ⟨rfl, rfl, trivial⟩ rfl ?_; rintro s H1 ⟨rfl, rfl⟩)
        | (refine call_sp (f := 41) (haf) [0, 1] (by decide) rfl ⟨rfl, rfl, trivial⟩ rfl ?_; rintro s H1 ⟨rfl, rfl⟩)
        | (refine seg_sp (f := 41) (haf) (fun _ => rfl) [0, 1] (by decide) rfl ⟨rfl, rfl, trivial⟩ rfl ?_)
        | refine Need.go (by first | omega | decide | (simp <;> omega) | fail) ?_
        | refine Need.go (by first | (simp [Value.oneCell'] <;> omega) | fail) ?_
        | refine Need.go ⟨rfl, by omega, getD_one rfl rfl⟩ ?_
        | refine Need.go ⟨rfl, by omega, fun _ _ _ _ => rfl⟩ ?_
        | refine Br.both (fun h => ?_) (fun h => ?_))
    all_goals (conv => whnf)
    all_goals
      refine ⟨_, _, ⟨rfl, rfl⟩, by simp, ⟨rfl, rfl, trivial⟩, less4 (τ := [some 0, some 1, some 2, some 3, some 5]) rfl ⟨by decide, rfl⟩ ?_ ?_⟩
      all_goals repeat' (first | exact leT_junk rfl | refine And.intro ?_ ?_ | exact trivial | exact .inl ⟨rfl, rfl⟩ | rfl | exact .inr ⟨_, rfl, rfl, rfl⟩ | exact ⟨_, rfl, trivial⟩ | exact ⟨_, rfl, rfl⟩ | exact ⟨_, rfl, ⟨rfl, rfl, rfl⟩, fun _ _ _ _ => rfl⟩ | exact ⟨_, rfl, ⟨rfl, rfl, .inl rfl⟩, rfl⟩ | exact ⟨_, rfl, ⟨rfl, rfl, .inr rfl⟩, rfl⟩ | exact ⟨_, rfl, ⟨rfl, rfl, rfl, rfl, rfl⟩, rfl⟩ | exact ⟨_, rfl, ⟨rfl, rfl⟩, fun _ => Iff.rfl⟩ | refine ⟨_, rfl, rfl, ?_⟩ | refine ⟨_, rfl, ⟨rfl, rfl, rfl⟩, ?_⟩)
end
end Go.Proofs.YtghfigeepnbjaaaGreat
