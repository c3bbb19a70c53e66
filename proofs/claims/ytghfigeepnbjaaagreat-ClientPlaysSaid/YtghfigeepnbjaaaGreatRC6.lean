/-
  The document's client: Take. No condition.
-/
import Derived.Test.YtghfigeepnbjaaaGreatRC4
import Derived.Test.YtghfigeepnbjaaaGreatRC5
namespace Go.Proofs.YtghfigeepnbjaaaGreat
open Go.RowKit
/-- Take, from here to there. -/
abbrev TkS (y : RCy) (c : CliM) (f : FrM) (fa : Option Addr) (fc : Nat) (now : Int) (Z : Nat → Prop) (Q : World → Prop) (Zf : Nat → Prop) (Qf : World → Prop) (y' : RCy) (c' : CliM) (l : List SndM) : Prop :=
  Spec Tryz.prog 16 [.p 0 0, frS f (.v (.slice fa f.ch.mem.length fc)), .v (.int .i64 now)] (rcH y c ++ [.res false Z Q, .res false Zf Qf]) fun s H1 => s = .os 4 l.length ∧ H1 = rcH y' c' ++ [.res false Z Q, .res false Zf Qf] ++ [rsnd1 l]
theorem leC_b {σ : List (Option Nat)} {x b : Bool} (h : x = b) : leC σ (.v (.bool x)) (.v (.bool b)) := h
theorem leC_kb {σ : List (Option Nat)} {x b : Bool} (h : x = b) : leC σ (.kb x) (.v (.bool b)) := h
section
variable (y : RCy) (c : CliM) (f : FrM) (fa : Option Addr) (fc : Nat) (now : Int) {Z : Nat → Prop} {Q : World → Prop} {Zf : Nat → Prop} {Qf : World → Prop}
set_option maxRecDepth 100000 in
set_option maxHeartbeats 8000000 in
theorem rcTake_no8 (h8 : f.kind = 8) (hx : okCh f.ch = false ∨ f.ch.epoch < c.ch.epoch) (hl : f.ch.mem.length ≤ 1000000) (hqf : ∀ u, Qf u → ChSl u (.slice fa f.ch.mem.length fc) f.ch) : TkS y c f fa fc now Z Q Zf Qf y c [] := by
  obtain ⟨n, hnn⟩ : ∃ n, nearC now = n := ⟨_, rfl⟩
  have hw := fun w => hnn ▸ rcNear_any now w
  obtain ⟨o, ho⟩ : ∃ o, (outcC c).1 = o := ⟨_, rfl⟩
  obtain ⟨hs, hh⟩ : ∃ hs, (outcC c).2 = hs := ⟨_, rfl⟩
  unfold TkS rcH
  rw [ho, hh]
  cases hok : okCh f.ch with
  | true =>
    have hck : ∀ w : World, ChSl w (.slice fa f.ch.mem.length fc) f.ch → Calls Tryz.prog 46 #[chV f.ch (.slice fa f.ch.mem.length fc)] w fun e w' => e = .returned (.int .i64 0) ∧ w.grownBy w' none := fun w hw => by
      have := rchCheck_any f.ch _ w hw hl
      rw [hok] at this
      exact this
    have hx : f.ch.epoch < c.ch.epoch := by rcases hx with h | h; (rw [hok] at h; cases h); exact h
    refine spec_x Tryz.func16 rfl 4 rfl rfl fun w0 U => ?_
    repeat' ((conv => whnf); first
        | refine QuiD.draw (draw_go tabOK (by kernel_rfl) ?_)
        | refine CutN.plain ?_
        | with_reducible refine Br.tt ?_
        | with_reducible refine Br.ff ?_
        | with_reducible refine Br.nt ?_
        | with_reducible refine Br.nf ?_
        | with_reducible refine Br.eeI ?_
        | with_reducible refine Br.nnI ?_
        | refine Br.yes (by decide) ?_
        | refine Br.no (by decide) ?_
        | refine AppN.own ?_
        | refine Need.go rfl ?_
        | refine QuiD.quiet (by kernel_rfl) ?_
        | refine IdxN.lit ?_
        | refine draw_go tabOK (by kernel_rfl) ?_
        | refine Need.go ⟨rfl, rfl⟩ ?_
        | refine Need.go ⟨⟨rfl, rfl, rfl⟩, rfl⟩ ?_
        | (with_reducible refine Br.dec (fun h => ?_) (fun h => ?_); first | (rotate_left; exfalso; omega; clear h) | (exfalso; omega; clear h) | skip)
        | (with_reducible refine Br.eqI (fun h => ?_) (fun h => ?_); first | (rotate_left; exfalso; omega; clear h) | (exfalso; omega; clear h) | skip)
        | (with_reducible refine Br.neI (fun h => ?_) (fun h => ?_); first | (rotate_left; exfalso; omega; clear h) | (exfalso; omega; clear h) | skip)
        | (with_reducible refine Br.eqS (fun h => ?_) (fun h => ?_); first | (rotate_left; exfalso; omega; clear h) | (exfalso; omega; clear h) | skip)
        | (with_reducible refine Br.neS (fun h => ?_) (fun h => ?_); first | (rotate_left; exfalso; omega; clear h) | (exfalso; omega; clear h) | skip)
        | (with_reducible refine Br.nd (fun h => ?_) (fun h => ?_); first | (rotate_left; exfalso; omega; clear h) | (exfalso; omega; clear h) | skip)
        | refine Ar.i64 (by omega) (by omega) ?_
        | (refine call_mem (f := 35) (args := [.v (.int .i64 now)]) (V := .int .i64 n) ?_ ?_; exact fun ρ w h => hw w)
        | (refine quiet_mem (f := 35) (args := [.v (.int .i64 now)]) (V := .int .i64 n) ?_ ?_; exact fun ρ w h => hw w)
        | (refine seg_mem (f := 35) (args := [.v (.int .i64 now)]) (V := .int .i64 n) ?_ ?_; exact fun ρ w h => hw w)
        | (refine call_mem (f := 46) (args := [chS f.ch (.v (.slice fa f.ch.mem.length fc))]) (V := .int .i64 0) ?_ ?_; exact fun ρ w h => hck w (hqf w (h.at.ent 3 _ rfl).1))
        | (refine quiet_mem (f := 46) (args := [chS f.ch (.v (.slice fa f.ch.mem.length fc))]) (V := .int .i64 0) ?_ ?_; exact fun ρ w h => hck w (hqf w (h.at.ent 3 _ rfl).1))
        | (refine seg_mem (f := 46) (args := [chS f.ch (.v (.slice fa f.ch.mem.length fc))]) (V := .int .i64 0) ?_ ?_; exact fun ρ w h => hck w (hqf w (h.at.ent 3 _ rfl).1))
        | refine Need.go (by first | omega | decide | (simp <;> omega) | fail) ?_
        | refine Need.go (by first | (simp [Value.oneCell'] <;> omega) | fail) ?_
        | refine Need.go ⟨rfl, by omega, getD_one rfl rfl⟩ ?_
        | refine Need.go ⟨rfl, by omega, fun _ _ _ _ => rfl⟩ ?_
        | refine Br.both (fun h => ?_) (fun h => ?_))
    all_goals (conv => whnf)
    all_goals
      refine ⟨_, _, ⟨rfl, rfl⟩, by simp, ⟨rfl, rfl, trivial⟩, less4 (τ := [some 0, some 1, some 2, some 3, none]) rfl ⟨by decide, rfl⟩ ?_ ?_⟩
      all_goals repeat' (first | exact .inr ⟨_, rfl, rfl, rfl⟩ | exact leT_junk rfl | refine And.intro ?_ ?_ | exact trivial | exact .inl ⟨rfl, rfl⟩ | rfl | exact .inr ⟨_, rfl, rfl, rfl⟩ | exact ⟨_, rfl, trivial⟩ | exact ⟨_, rfl, rfl⟩ | exact ⟨_, rfl, ⟨rfl, rfl, rfl⟩, fun _ _ _ _ => rfl⟩ | exact ⟨_, rfl, ⟨rfl, rfl, .inl rfl⟩, rfl⟩ | exact ⟨_, rfl, ⟨rfl, rfl, .inr rfl⟩, rfl⟩ | exact ⟨_, rfl, ⟨rfl, rfl, rfl, rfl, rfl⟩, rfl⟩ | exact ⟨_, rfl, ⟨rfl, rfl⟩, fun _ => Iff.rfl⟩ | refine ⟨_, rfl, rfl, ?_⟩ | refine ⟨_, rfl, ⟨rfl, rfl, rfl⟩, ?_⟩)
  | false =>
    have hck : ∀ w : World, ChSl w (.slice fa f.ch.mem.length fc) f.ch → Calls Tryz.prog 46 #[chV f.ch (.slice fa f.ch.mem.length fc)] w fun e w' => e = .returned (.int .i64 2) ∧ w.grownBy w' none := fun w hw => by
      have := rchCheck_any f.ch _ w hw hl
      rw [hok] at this
      exact this
    clear hx
    refine spec_x Tryz.func16 rfl 4 rfl rfl fun w0 U => ?_
    repeat' ((conv => whnf); first
        | refine QuiD.draw (draw_go tabOK (by kernel_rfl) ?_)
        | refine CutN.plain ?_
        | with_reducible refine Br.tt ?_
        | with_reducible refine Br.ff ?_
        | with_reducible refine Br.nt ?_
        | with_reducible refine Br.nf ?_
        | with_reducible refine Br.eeI ?_
        | with_reducible refine Br.nnI ?_
        | refine Br.yes (by decide) ?_
        | refine Br.no (by decide) ?_
        | refine AppN.own ?_
        | refine Need.go rfl ?_
        | refine QuiD.quiet (by kernel_rfl) ?_
        | refine IdxN.lit ?_
        | refine draw_go tabOK (by kernel_rfl) ?_
        | refine Need.go ⟨rfl, rfl⟩ ?_
        | refine Need.go ⟨⟨rfl, rfl, rfl⟩, rfl⟩ ?_
        | (with_reducible refine Br.dec (fun h => ?_) (fun h => ?_); first | (rotate_left; exfalso; omega; clear h) | (exfalso; omega; clear h) | skip)
        | (with_reducible refine Br.eqI (fun h => ?_) (fun h => ?_); first | (rotate_left; exfalso; omega; clear h) | (exfalso; omega; clear h) | skip)
        | (with_reducible refine Br.neI (fun h => ?_) (fun h => ?_); first | (rotate_left; exfalso; omega; clear h) | (exfalso; omega; clear h) | skip)
        | (with_reducible refine Br.eqS (fun h => ?_) (fun h => ?_); first | (rotate_left; exfalso; omega; clear h) | (exfalso; omega; clear h) | skip)
        | (with_reducible refine Br.neS (fun h => ?_) (fun h => ?_); first | (rotate_left; exfalso; omega; clear h) | (exfalso; omega; clear h) | skip)
        | (with_reducible refine Br.nd (fun h => ?_) (fun h => ?_); first | (rotate_left; exfalso; omega; clear h) | (exfalso; omega; clear h) | skip)
        | refine Ar.i64 (by omega) (by omega) ?_
        | (refine call_mem (f := 35) (args := [.v (.int .i64 now)]) (V := .int .i64 n) ?_ ?_; exact fun ρ w h => hw w)
        | (refine quiet_mem (f := 35) (args := [.v (.int .i64 now)]) (V := .int .i64 n) ?_ ?_; exact fun ρ w h => hw w)
        | (refine seg_mem (f := 35) (args := [.v (.int .i64 now)]) (V := .int .i64 n) ?_ ?_; exact fun ρ w h => hw w)
        | (refine call_mem (f := 46) (args := [chS f.ch (.v (.slice fa f.ch.mem.length fc))]) (V := .int .i64 2) ?_ ?_; exact fun ρ w h => hck w (hqf w (h.at.ent 3 _ rfl).1))
        | (refine quiet_mem (f := 46) (args := [chS f.ch (.v (.slice fa f.ch.mem.length fc))]) (V := .int .i64 2) ?_ ?_; exact fun ρ w h => hck w (hqf w (h.at.ent 3 _ rfl).1))
        | (refine seg_mem (f := 46) (args := [chS f.ch (.v (.slice fa f.ch.mem.length fc))]) (V := .int .i64 2) ?_ ?_; exact fun ρ w h => hck w (hqf w (h.at.ent 3 _ rfl).1))
        | refine Need.go (by first | omega | decide | (simp <;> omega) | fail) ?_
        | refine Need.go (by first | (simp [Value.oneCell'] <;> omega) | fail) ?_
        | refine Need.go ⟨rfl, by omega, getD_one rfl rfl⟩ ?_
        | refine Need.go ⟨rfl, by omega, fun _ _ _ _ => rfl⟩ ?_
        | refine Br.both (fun h => ?_) (fun h => ?_))
    all_goals (conv => whnf)
    all_goals
      refine ⟨_, _, ⟨rfl, rfl⟩, by simp, ⟨rfl, rfl, trivial⟩, less4 (τ := [some 0, some 1, some 2, some 3, none]) rfl ⟨by decide, rfl⟩ ?_ ?_⟩
      all_goals repeat' (first | exact .inr ⟨_, rfl, rfl, rfl⟩ | exact leT_junk rfl | refine And.intro ?_ ?_ | exact trivial | exact .inl ⟨rfl, rfl⟩ | rfl | exact .inr ⟨_, rfl, rfl, rfl⟩ | exact ⟨_, rfl, trivial⟩ | exact ⟨_, rfl, rfl⟩ | exact ⟨_, rfl, ⟨rfl, rfl, rfl⟩, fun _ _ _ _ => rfl⟩ | exact ⟨_, rfl, ⟨rfl, rfl, .inl rfl⟩, rfl⟩ | exact ⟨_, rfl, ⟨rfl, rfl, .inr rfl⟩, rfl⟩ | exact ⟨_, rfl, ⟨rfl, rfl, rfl, rfl, rfl⟩, rfl⟩ | exact ⟨_, rfl, ⟨rfl, rfl⟩, fun _ => Iff.rfl⟩ | refine ⟨_, rfl, rfl, ?_⟩ | refine ⟨_, rfl, ⟨rfl, rfl, rfl⟩, ?_⟩)
set_option maxRecDepth 100000 in
set_option maxHeartbeats 8000000 in
theorem rcTake_new (h8 : f.kind = 8) (hok : okCh f.ch = true) (hep : c.ch.epoch ≤ f.ch.epoch) (hl : f.ch.mem.length ≤ 1000000) (hqf : ∀ u, Qf u → ChSl u (.slice fa f.ch.mem.length fc) f.ch) (hd : ¬ c.doing = 1) : TkS y c f fa fc now Z Q Zf Qf { y with ma := fa, mn := f.ch.mem.length, mc := fc } { c with ch := f.ch } [] := by
  obtain ⟨n, hnn⟩ : ∃ n, nearC now = n := ⟨_, rfl⟩
  have hw := fun w => hnn ▸ rcNear_any now w
  obtain ⟨o, ho⟩ : ∃ o, (outcC c).1 = o := ⟨_, rfl⟩
  obtain ⟨hs, hh⟩ : ∃ hs, (outcC c).2 = hs := ⟨_, rfl⟩
  unfold TkS
  rw [show rcH { y with ma := fa, mn := f.ch.mem.length, mc := fc } { c with ch := f.ch } = rcHo { y with ma := fa, mn := f.ch.mem.length, mc := fc } { c with ch := f.ch } (outcC c).1 (outcC c).2 from rfl]
  unfold rcH
  rw [ho, hh]
  have hck : ∀ w : World, ChSl w (.slice fa f.ch.mem.length fc) f.ch → Calls Tryz.prog 46 #[chV f.ch (.slice fa f.ch.mem.length fc)] w fun e w' => e = .returned (.int .i64 0) ∧ w.grownBy w' none := fun w hw => by
    have := rchCheck_any f.ch _ w hw hl
    rw [hok] at this
    exact this
  refine spec_x Tryz.func16 rfl 4 rfl rfl fun w0 U => ?_
  repeat' ((conv => whnf); first
      | refine QuiD.draw (draw_go tabOK (by kernel_rfl) ?_)
      | refine CutN.plain ?_
      | with_reducible refine Br.tt ?_
      | with_reducible refine Br.ff ?_
      | with_reducible refine Br.nt ?_
      | with_reducible refine Br.nf ?_
      | with_reducible refine Br.eeI ?_
      | with_reducible refine Br.nnI ?_
      | refine Br.yes (by decide) ?_
      | refine Br.no (by decide) ?_
      | refine AppN.own ?_
      | refine Need.go rfl ?_
      | refine QuiD.quiet (by kernel_rfl) ?_
      | refine IdxN.lit ?_
      | refine draw_go tabOK (by kernel_rfl) ?_
      | refine Need.go ⟨rfl, rfl⟩ ?_
      | refine Need.go ⟨⟨rfl, rfl, rfl⟩, rfl⟩ ?_
      | (with_reducible refine Br.dec (fun h => ?_) (fun h => ?_); first | (rotate_left; exfalso; omega; clear h) | (exfalso; omega; clear h) | skip)
      | (with_reducible refine Br.eqI (fun h => ?_) (fun h => ?_); first | (rotate_left; exfalso; omega; clear h) | (exfalso; omega; clear h) | skip)
      | (with_reducible refine Br.neI (fun h => ?_) (fun h => ?_); first | (rotate_left; exfalso; omega; clear h) | (exfalso; omega; clear h) | skip)
      | (with_reducible refine Br.eqS (fun h => ?_) (fun h => ?_); first | (rotate_left; exfalso; omega; clear h) | (exfalso; omega; clear h) | skip)
      | (with_reducible refine Br.neS (fun h => ?_) (fun h => ?_); first | (rotate_left; exfalso; omega; clear h) | (exfalso; omega; clear h) | skip)
      | (with_reducible refine Br.nd (fun h => ?_) (fun h => ?_); first | (rotate_left; exfalso; omega; clear h) | (exfalso; omega; clear h) | skip)
      | refine Ar.i64 (by omega) (by omega) ?_
      | (refine call_mem (f := 35) (args := [.v (.int .i64 now)]) (V := .int .i64 n) ?_ ?_; exact fun ρ w h => hw w)
      | (refine quiet_mem (f := 35) (args := [.v (.int .i64 now)]) (V := .int .i64 n) ?_ ?_; exact fun ρ w h => hw w)
      | (refine seg_mem (f := 35) (args := [.v (.int .i64 now)]) (V := .int .i64 n) ?_ ?_; exact fun ρ w h => hw w)
      | (refine call_mem (f := 46) (args := [chS f.ch (.v (.slice fa f.ch.mem.length fc))]) (V := .int .i64 0) ?_ ?_; exact fun ρ w h => hck w (hqf w (h.at.ent 3 _ rfl).1))
      | (refine quiet_mem (f := 46) (args := [chS f.ch (.v (.slice fa f.ch.mem.length fc))]) (V := .int .i64 0) ?_ ?_; exact fun ρ w h => hck w (hqf w (h.at.ent 3 _ rfl).1))
      | (refine seg_mem (f := 46) (args := [chS f.ch (.v (.slice fa f.ch.mem.length fc))]) (V := .int .i64 0) ?_ ?_; exact fun ρ w h => hck w (hqf w (h.at.ent 3 _ rfl).1))
      | refine Need.go (by first | omega | decide | (simp <;> omega) | fail) ?_
      | refine Need.go (by first | (simp [Value.oneCell'] <;> omega) | fail) ?_
      | refine Need.go ⟨rfl, by omega, getD_one rfl rfl⟩ ?_
      | refine Need.go ⟨rfl, by omega, fun _ _ _ _ => rfl⟩ ?_
      | refine Br.both (fun h => ?_) (fun h => ?_))
  all_goals (conv => whnf)
  all_goals
    refine ⟨_, _, ⟨rfl, rfl⟩, by simp, ⟨rfl, rfl, trivial⟩, less4 (τ := [some 0, some 1, some 2, some 3, none]) rfl ⟨by decide, rfl⟩ ?_ ?_⟩
    all_goals repeat' (first | exact .inr ⟨_, rfl, rfl, rfl⟩ | exact leT_junk rfl | refine And.intro ?_ ?_ | exact trivial | exact .inl ⟨rfl, rfl⟩ | rfl | exact .inr ⟨_, rfl, rfl, rfl⟩ | exact ⟨_, rfl, trivial⟩ | exact ⟨_, rfl, rfl⟩ | exact ⟨_, rfl, ⟨rfl, rfl, rfl⟩, fun _ _ _ _ => rfl⟩ | exact ⟨_, rfl, ⟨rfl, rfl, .inl rfl⟩, rfl⟩ | exact ⟨_, rfl, ⟨rfl, rfl, .inr rfl⟩, rfl⟩ | exact ⟨_, rfl, ⟨rfl, rfl, rfl, rfl, rfl⟩, rfl⟩ | exact ⟨_, rfl, ⟨rfl, rfl⟩, fun _ => Iff.rfl⟩ | refine ⟨_, rfl, rfl, ?_⟩ | refine ⟨_, rfl, ⟨rfl, rfl, rfl⟩, ?_⟩)
set_option maxRecDepth 100000 in
set_option maxHeartbeats 8000000 in
theorem rcTake_try (ht : 0 ≤ c.tries ∧ c.tries ≤ 4611686018427387904) (h8 : f.kind = 8) (hok : okCh f.ch = true) (hep : c.ch.epoch ≤ f.ch.epoch) (hl : f.ch.mem.length ≤ 1000000) (hqf : ∀ u, Qf u → ChSl u (.slice fa f.ch.mem.length fc) f.ch) (hd : c.doing = 1) (hfa : ∃ b off, fa = some ⟨b, off, none⟩) (hck1 : y.ck = 1) (hcc : y.cc = c.id) : TkS y c f fa fc now Z Q Zf Qf { y with ma := fa, mn := f.ch.mem.length, mc := fc, ce := f.ch.epoch, at' := nearC now } (tryC { c with ch := f.ch } (nearC now)).1 (tryC { c with ch := f.ch } (nearC now)).2 := by
  obtain ⟨n, hnn⟩ : ∃ n, nearC now = n := ⟨_, rfl⟩
  have hw := fun w => hnn ▸ rcNear_any now w
  rw [hnn]
  obtain ⟨b, off, rfl⟩ := hfa
  have htr := rcTry { y with ma := some ⟨b, off, none⟩, mn := f.ch.mem.length, mc := fc } { c with ch := f.ch } ht hok (b := b) (off := off) (cap := fc) ⟨rfl, rfl, rfl⟩ hck1 hcc hqf (Z := Zf) n
  unfold rcHf at htr
  rw [show rcH { y with ma := some ⟨b, off, none⟩, mn := f.ch.mem.length, mc := fc } { c with ch := f.ch } = rcHo { y with ma := some ⟨b, off, none⟩, mn := f.ch.mem.length, mc := fc } { c with ch := f.ch } (outcC c).1 (outcC c).2 from rfl] at htr
  obtain ⟨o, ho⟩ : ∃ o, (outcC c).1 = o := ⟨_, rfl⟩
  obtain ⟨hs, hh⟩ : ∃ hs, (outcC c).2 = hs := ⟨_, rfl⟩
  have hl1 : (tryC { c with ch := f.ch } n).2.length = 1 := rfl
  unfold TkS
  rw [hl1]
  rw [show rcH y c = rcHo y c (outcC c).1 (outcC c).2 from rfl]
  rw [ho, hh] at htr ⊢
  have hck : ∀ w : World, ChSl w (.slice (some ⟨b, off, none⟩) f.ch.mem.length fc) f.ch → Calls Tryz.prog 46 #[chV f.ch (.slice (some ⟨b, off, none⟩) f.ch.mem.length fc)] w fun e w' => e = .returned (.int .i64 0) ∧ w.grownBy w' none := fun w hw => by
    have := rchCheck_any f.ch _ w hw hl
    rw [hok] at this
    exact this
  refine spec_x Tryz.func16 rfl 4 rfl rfl fun w0 U => ?_
  repeat' ((conv => whnf); first
      | refine QuiD.draw (draw_go tabOK (by kernel_rfl) ?_)
      | refine CutN.plain ?_
      | with_reducible refine Br.tt ?_
      | with_reducible refine Br.ff ?_
      | with_reducible refine Br.nt ?_
      | with_reducible refine Br.nf ?_
      | with_reducible refine Br.eeI ?_
      | with_reducible refine Br.nnI ?_
      | refine Br.yes (by decide) ?_
      | refine Br.no (by decide) ?_
      | refine AppN.own ?_
      | refine Need.go rfl ?_
      | refine QuiD.quiet (by kernel_rfl) ?_
      | refine IdxN.lit ?_
      | refine draw_go tabOK (by kernel_rfl) ?_
      | refine Need.go ⟨rfl, rfl⟩ ?_
      | refine Need.go ⟨⟨rfl, rfl, rfl⟩, rfl⟩ ?_
      | (with_reducible refine Br.dec (fun h => ?_) (fun h => ?_); first | (rotate_left; exfalso; omega; clear h) | (exfalso; omega; clear h) | skip)
      | (with_reducible refine Br.eqI (fun h => ?_) (fun h => ?_); first | (rotate_left; exfalso; omega; clear h) | (exfalso; omega; clear h) | skip)
      | (with_reducible refine Br.neI (fun h => ?_) (fun h => ?_); first | (rotate_left; exfalso; omega; clear h) | (exfalso; omega; clear h) | skip)
      | (with_reducible refine Br.eqS (fun h => ?_) (fun h => ?_); first | (rotate_left; exfalso; omega; clear h) | (exfalso; omega; clear h) | skip)
      | (with_reducible refine Br.neS (fun h => ?_) (fun h => ?_); first | (rotate_left; exfalso; omega; clear h) | (exfalso; omega; clear h) | skip)
      | (with_reducible refine Br.nd (fun h => ?_) (fun h => ?_); first | (rotate_left; exfalso; omega; clear h) | (exfalso; omega; clear h) | skip)
      | refine Ar.i64 (by omega) (by omega) ?_
      | (refine call_mem (f := 35) (args := [.v (.int .i64 now)]) (V := .int .i64 n) ?_ ?_; exact fun ρ w h => hw w)
      | (refine quiet_mem (f := 35) (args := [.v (.int .i64 now)]) (V := .int .i64 n) ?_ ?_; exact fun ρ w h => hw w)
      | (refine seg_mem (f := 35) (args := [.v (.int .i64 now)]) (V := .int .i64 n) ?_ ?_; exact fun ρ w h => hw w)
      | (refine call_mem (f := 46) (args := [chS f.ch (.v (.slice (some ⟨b, off, none⟩) f.ch.mem.length fc))]) (V := .int .i64 0) ?_ ?_; exact fun ρ w h => hck w (hqf w (h.at.ent 3 _ rfl).1))
      | (refine quiet_mem (f := 46) (args := [chS f.ch (.v (.slice (some ⟨b, off, none⟩) f.ch.mem.length fc))]) (V := .int .i64 0) ?_ ?_; exact fun ρ w h => hck w (hqf w (h.at.ent 3 _ rfl).1))
      | (refine seg_mem (f := 46) (args := [chS f.ch (.v (.slice (some ⟨b, off, none⟩) f.ch.mem.length fc))]) (V := .int .i64 0) ?_ ?_; exact fun ρ w h => hck w (hqf w (h.at.ent 3 _ rfl).1))
      | (refine call_sp (f := 36) (htr) [0, 1, 3] (by decide) rfl ⟨rfl, rfl, rfl, trivial⟩ rfl ?_; rintro s H1 ⟨rfl, rfl⟩)
      | (refine seg_sp (f := 36) (htr) (fun _ => rfl) [0, 1, 3] (by decide) rfl ⟨rfl, rfl, rfl, trivial⟩ rfl ?_)
      | refine Need.go (by first | omega | decide | (simp <;> omega) | fail) ?_
      | refine Need.go (by first | (simp [Value.oneCell'] <;> omega) | fail) ?_
      | refine Need.go ⟨rfl, by omega, getD_one rfl rfl⟩ ?_
      | refine Need.go ⟨rfl, by omega, fun _ _ _ _ => rfl⟩ ?_
      | refine Br.both (fun h => ?_) (fun h => ?_))
  all_goals (conv => whnf)
  all_goals
    refine ⟨_, _, ⟨rfl, rfl⟩, by simp, ⟨rfl, rfl, trivial⟩, less4 (τ := [some 0, some 1, some 2, some 3, some 5]) rfl ⟨by decide, rfl⟩ ?_ ?_⟩
    all_goals repeat' (first | exact leT_junk rfl | refine And.intro ?_ ?_ | exact trivial | exact .inl ⟨rfl, rfl⟩ | rfl | exact .inr ⟨_, rfl, rfl, rfl⟩ | exact ⟨_, rfl, trivial⟩ | exact ⟨_, rfl, rfl⟩ | exact ⟨_, rfl, ⟨rfl, rfl, rfl⟩, fun _ _ _ _ => rfl⟩ | exact ⟨_, rfl, ⟨rfl, rfl, .inl rfl⟩, rfl⟩ | exact ⟨_, rfl, ⟨rfl, rfl, .inr rfl⟩, rfl⟩ | exact ⟨_, rfl, ⟨rfl, rfl, rfl, rfl, rfl⟩, rfl⟩ | exact ⟨_, rfl, ⟨rfl, rfl⟩, fun _ => Iff.rfl⟩ | refine ⟨_, rfl, rfl, ?_⟩ | refine ⟨_, rfl, ⟨rfl, rfl, rfl⟩, ?_⟩)
end
end Go.Proofs.YtghfigeepnbjaaaGreat
