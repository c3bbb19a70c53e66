/-
  The document's links: New, Send, Double. No condition.
-/
import Derived.Test.YtfniieigeofbdaaLr1
namespace Go.Proofs.Ytfniieigeofbdaa
set_option maxRecDepth 100000 in
set_option maxHeartbeats 1000000 in
theorem raddr_any (n : Int) (w : World) : Calls Try.prog 59 #[.int .i64 n] w fun e w' => e = .returned (.bool (decide (addrP n))) ∧ w.grownBy w' none := by
  refine x_calls tabOK Try.func59 rfl [.v (.int .i64 n)] [] noLoc rfl rfl (rel0 w) ?_
  repeat' ((conv => whnf); first
      | refine CutN.plain ?_
      | with_reducible refine Br.tt ?_
      | with_reducible refine Br.ff ?_
      | with_reducible refine Br.nt ?_
      | with_reducible refine Br.nf ?_
      | with_reducible refine Br.eeI ?_
      | with_reducible refine Br.nnI ?_
      | refine Br.yes (by decide) ?_
      | refine Br.no (by decide) ?_
      | refine AppN.own ?_
      | refine Need.go rfl ?_
      | refine QuiD.quiet (by kernel_rfl) ?_
      | refine IdxN.lit ?_
      | refine draw_go tabOK (by kernel_rfl) ?_
      | refine Need.go ⟨rfl, rfl⟩ ?_
      | refine Need.go ⟨⟨rfl, rfl, rfl⟩, rfl⟩ ?_
      | (with_reducible refine Br.dec (fun h => ?_) (fun h => ?_); first | (rotate_left; exfalso; omega; clear h) | (exfalso; omega; clear h) | skip)
      | (with_reducible refine Br.eqI (fun h => ?_) (fun h => ?_); first | (rotate_left; exfalso; omega; clear h) | (exfalso; omega; clear h) | skip)
      | (with_reducible refine Br.neI (fun h => ?_) (fun h => ?_); first | (rotate_left; exfalso; omega; clear h) | (exfalso; omega; clear h) | skip)
      | (with_reducible refine Br.eqS (fun h => ?_) (fun h => ?_); first | (rotate_left; exfalso; omega; clear h) | (exfalso; omega; clear h) | skip)
      | (with_reducible refine Br.neS (fun h => ?_) (fun h => ?_); first | (rotate_left; exfalso; omega; clear h) | (exfalso; omega; clear h) | skip)
      | (with_reducible refine Br.nd (fun h => ?_) (fun h => ?_); first | (rotate_left; exfalso; omega; clear h) | (exfalso; omega; clear h) | skip)
      | refine Ar.i64 (by omega) (by omega) ?_
      | refine Need.go (by first | omega | decide | (simp <;> omega) | fail) ?_
      | refine Need.go (by first | (simp [Value.oneCell'] <;> omega) | fail) ?_
      | refine Need.go ⟨rfl, by omega, getD_one rfl rfl⟩ ?_
      | refine Need.go ⟨rfl, by omega, fun _ _ _ _ => rfl⟩ ?_
      | refine Br.both (fun h => ?_) (fun h => ?_))
  all_goals (conv => whnf)
  all_goals exact ret_pure (fun _ => congrArg Value.bool (by first | exact Eq.symm (decide_eq_true (show addrP n by unfold addrP; omega)) | exact Eq.symm (decide_eq_false (show ¬ addrP n by unfold addrP; omega)) | exact decide_eq_decide.2 (show _ ↔ addrP n by unfold addrP; omega)))
set_option maxRecDepth 100000 in
set_option maxHeartbeats 2000000 in
theorem rlNew_no {cap : Int} (hc : cap < 1 ∨ 64 < cap) (w : World) : Calls Try.prog 32 #[.int .i64 cap] w fun e w' => e = .returned (.tuple #[.pointer none, .int .i64 2]) ∧ w.grownBy w' none := by
  refine x_calls tabOK Try.func32 rfl [.v (.int .i64 cap)] [] noLoc rfl rfl (rel0 w) ?_
  repeat' ((conv => whnf); first
      | refine CutN.plain ?_
      | with_reducible refine Br.tt ?_
      | with_reducible refine Br.ff ?_
      | with_reducible refine Br.nt ?_
      | with_reducible refine Br.nf ?_
      | with_reducible refine Br.eeI ?_
      | with_reducible refine Br.nnI ?_
      | refine Br.yes (by decide) ?_
      | refine Br.no (by decide) ?_
      | refine AppN.own ?_
      | refine Need.go rfl ?_
      | refine QuiD.quiet (by kernel_rfl) ?_
      | refine IdxN.lit ?_
      | refine draw_go tabOK (by kernel_rfl) ?_
      | refine Need.go ⟨rfl, rfl⟩ ?_
      | refine Need.go ⟨⟨rfl, rfl, rfl⟩, rfl⟩ ?_
      | (with_reducible refine Br.dec (fun h => ?_) (fun h => ?_); first | (rotate_left; exfalso; omega; clear h) | (exfalso; omega; clear h) | skip)
      | (with_reducible refine Br.eqI (fun h => ?_) (fun h => ?_); first | (rotate_left; exfalso; omega; clear h) | (exfalso; omega; clear h) | skip)
      | (with_reducible refine Br.neI (fun h => ?_) (fun h => ?_); first | (rotate_left; exfalso; omega; clear h) | (exfalso; omega; clear h) | skip)
      | (with_reducible refine Br.eqS (fun h => ?_) (fun h => ?_); first | (rotate_left; exfalso; omega; clear h) | (exfalso; omega; clear h) | skip)
      | (with_reducible refine Br.neS (fun h => ?_) (fun h => ?_); first | (rotate_left; exfalso; omega; clear h) | (exfalso; omega; clear h) | skip)
      | (with_reducible refine Br.nd (fun h => ?_) (fun h => ?_); first | (rotate_left; exfalso; omega; clear h) | (exfalso; omega; clear h) | skip)
      | refine Ar.i64 (by omega) (by omega) ?_
      | refine Need.go (by first | omega | decide | (simp <;> omega) | fail) ?_
      | refine Need.go (by first | (simp [Value.oneCell'] <;> omega) | fail) ?_
      | refine Need.go ⟨rfl, by omega, getD_one rfl rfl⟩ ?_
      | refine Need.go ⟨rfl, by omega, fun _ _ _ _ => rfl⟩ ?_
      | refine Br.both (fun h => ?_) (fun h => ?_))
  all_goals (conv => whnf)
  all_goals exact ret_pure (fun _ => rfl)
set_option maxRecDepth 100000 in
set_option maxHeartbeats 2000000 in
theorem rlNew {cap : Int} (h1 : 1 ≤ cap) (h2 : cap ≤ 64) : Spec Try.prog 32 [.v (.int .i64 cap)] [] fun s H1 => s = .tup [.p 0 0, .v (.int .i64 0)] ∧ H1 = rlH cap [] := by
  refine spec_x Try.func32 rfl 0 rfl rfl fun w0 U => ?_
  repeat' ((conv => whnf); first
      | refine CutN.plain ?_
      | with_reducible refine Br.tt ?_
      | with_reducible refine Br.ff ?_
      | with_reducible refine Br.nt ?_
      | with_reducible refine Br.nf ?_
      | with_reducible refine Br.eeI ?_
      | with_reducible refine Br.nnI ?_
      | refine Br.yes (by decide) ?_
      | refine Br.no (by decide) ?_
      | refine AppN.own ?_
      | refine Need.go rfl ?_
      | refine QuiD.quiet (by kernel_rfl) ?_
      | refine IdxN.lit ?_
      | refine draw_go tabOK (by kernel_rfl) ?_
      | refine Need.go ⟨rfl, rfl⟩ ?_
      | refine Need.go ⟨⟨rfl, rfl, rfl⟩, rfl⟩ ?_
      | (with_reducible refine Br.dec (fun h => ?_) (fun h => ?_); first | (rotate_left; exfalso; omega; clear h) | (exfalso; omega; clear h) | skip)
      | (with_reducible refine Br.eqI (fun h => ?_) (fun h => ?_); first | (rotate_left; exfalso; omega; clear h) | (exfalso; omega; clear h) | skip)
      | (with_reducible refine Br.neI (fun h => ?_) (fun h => ?_); first | (rotate_left; exfalso; omega; clear h) | (exfalso; omega; clear h) | skip)
      | (with_reducible refine Br.eqS (fun h => ?_) (fun h => ?_); first | (rotate_left; exfalso; omega; clear h) | (exfalso; omega; clear h) | skip)
      | (with_reducible refine Br.neS (fun h => ?_) (fun h => ?_); first | (rotate_left; exfalso; omega; clear h) | (exfalso; omega; clear h) | skip)
      | (with_reducible refine Br.nd (fun h => ?_) (fun h => ?_); first | (rotate_left; exfalso; omega; clear h) | (exfalso; omega; clear h) | skip)
      | refine Ar.i64 (by omega) (by omega) ?_
      | refine Need.go (by first | omega | decide | (simp <;> omega) | fail) ?_
      | refine Need.go (by first | (simp [Value.oneCell'] <;> omega) | fail) ?_
      | refine Need.go ⟨rfl, by omega, getD_one rfl rfl⟩ ?_
      | refine Need.go ⟨rfl, by omega, fun _ _ _ _ => rfl⟩ ?_
      | refine Br.both (fun h => ?_) (fun h => ?_))
  all_goals (conv => whnf)
  refine ⟨_, _, ⟨rfl, rfl⟩, by simp, trivial, ⟨[some 0, none], ⟨by decide, rfl⟩, ?_, ?_⟩⟩
  all_goals repeat' (first | exact .inr ⟨_, rfl, rfl, rfl⟩ | exact leT_junk rfl | refine And.intro ?_ ?_ | exact trivial | exact .inl ⟨rfl, rfl⟩ | rfl | exact .inr ⟨_, rfl, rfl, rfl⟩ | exact ⟨_, rfl, trivial⟩ | exact ⟨_, rfl, rfl⟩ | exact ⟨_, rfl, ⟨rfl, rfl, rfl⟩, fun _ _ _ _ => rfl⟩ | exact ⟨_, rfl, ⟨rfl, rfl, .inl rfl⟩, rfl⟩ | exact ⟨_, rfl, ⟨rfl, rfl, .inr rfl⟩, rfl⟩ | exact ⟨_, rfl, ⟨rfl, rfl, rfl, rfl, rfl⟩, rfl⟩ | exact ⟨_, rfl, ⟨rfl, rfl⟩, fun _ => Iff.rfl⟩ | refine ⟨_, rfl, rfl, ?_⟩ | refine ⟨_, rfl, ⟨rfl, rfl, rfl⟩, ?_⟩)
/-- What the document's links lie in behind a mail that was taken. -/
abbrev rlHp (cap : Int) (L : List MailM) : List HE := [.blk 107 [.v (.int .i64 cap), .os 2 L.length], .none, rlE L]
set_option maxRecDepth 100000 in
set_option maxHeartbeats 4000000 in
theorem rlSend_no (cap : Int) (L : List MailM) (hL : L.length ≤ 99999) (f t : Int) (x : List UInt8) {L' : List MailM} {er : Int} (hm : sendM cap L ⟨f, t, x⟩ = (L', er)) (h0 : ¬ er = 0) :
    Spec Try.prog 36 [.p 0 0, .agg [.v (.int .i64 f), .v (.int .i64 t), .v (S x)]] (rlH cap L) fun s H1 => s = .v (.int .i64 er) ∧ H1 = rlH cap L := by
  refine spec_x Try.func36 rfl 2 rfl rfl fun w0 U => ?_
  simp only [sendM] at hm
  by_cases ha : ¬ addrP f ∨ ¬ addrP t ∨ f = t
  · rw [if_pos ha] at hm
    cases hm
    repeat' ((conv => whnf); first
        | refine CutN.plain ?_
        | with_reducible refine Br.tt ?_
        | with_reducible refine Br.ff ?_
        | with_reducible refine Br.nt ?_
        | with_reducible refine Br.nf ?_
        | with_reducible refine Br.eeI ?_
        | with_reducible refine Br.nnI ?_
        | refine Br.yes (by decide) ?_
        | refine Br.no (by decide) ?_
        | refine AppN.own ?_
        | refine Need.go rfl ?_
        | refine QuiD.quiet (by kernel_rfl) ?_
        | refine IdxN.lit ?_
        | refine draw_go tabOK (by kernel_rfl) ?_
        | refine Need.go ⟨rfl, rfl⟩ ?_
        | refine Need.go ⟨⟨rfl, rfl, rfl⟩, rfl⟩ ?_
        | (with_reducible refine Br.dec (fun h => ?_) (fun h => ?_); first | (rotate_left; exfalso; omega; clear h) | (exfalso; omega; clear h) | skip)
        | (with_reducible refine Br.eqI (fun h => ?_) (fun h => ?_); first | (rotate_left; exfalso; omega; clear h) | (exfalso; omega; clear h) | skip)
        | (with_reducible refine Br.neI (fun h => ?_) (fun h => ?_); first | (rotate_left; exfalso; omega; clear h) | (exfalso; omega; clear h) | skip)
        | (with_reducible refine Br.eqS (fun h => ?_) (fun h => ?_); first | (rotate_left; exfalso; omega; clear h) | (exfalso; omega; clear h) | skip)
        | (with_reducible refine Br.neS (fun h => ?_) (fun h => ?_); first | (rotate_left; exfalso; omega; clear h) | (exfalso; omega; clear h) | skip)
        | (with_reducible refine Br.nd (fun h => ?_) (fun h => ?_); first | (rotate_left; exfalso; omega; clear h) | (exfalso; omega; clear h) | skip)
        | refine Ar.i64 (by omega) (by omega) ?_
        | (refine call_mem (f := 59) (args := [.v (.int .i64 f)]) (V := .bool (decide (addrP f))) ?_ ?_; exact fun ρ w h => raddr_any f w)
        | (refine quiet_mem (f := 59) (args := [.v (.int .i64 f)]) (V := .bool (decide (addrP f))) ?_ ?_; exact fun ρ w h => raddr_any f w)
        | (refine seg_mem (f := 59) (args := [.v (.int .i64 f)]) (V := .bool (decide (addrP f))) ?_ ?_; exact fun ρ w h => raddr_any f w)
        | (refine call_mem (f := 59) (args := [.v (.int .i64 t)]) (V := .bool (decide (addrP t))) ?_ ?_; exact fun ρ w h => raddr_any t w)
        | (refine quiet_mem (f := 59) (args := [.v (.int .i64 t)]) (V := .bool (decide (addrP t))) ?_ ?_; exact fun ρ w h => raddr_any t w)
        | (refine seg_mem (f := 59) (args := [.v (.int .i64 t)]) (V := .bool (decide (addrP t))) ?_ ?_; exact fun ρ w h => raddr_any t w)
        | refine Need.go (by first | omega | decide | (simp <;> omega) | fail) ?_
        | refine Need.go (by first | (simp [Value.oneCell'] <;> omega) | fail) ?_
        | refine Need.go ⟨rfl, by omega, getD_one rfl rfl⟩ ?_
        | refine Need.go ⟨rfl, by omega, fun _ _ _ _ => rfl⟩ ?_
        | refine Br.both (fun h => ?_) (fun h => ?_))
    all_goals (conv => whnf)
    all_goals first
      | (exfalso; simp_all; done)
      | (refine ⟨_, _, ⟨rfl, rfl⟩, by simp, trivial, ⟨[some 0, some 1], ⟨by decide, rfl⟩, ?_, ?_⟩⟩
         all_goals repeat' (first | exact leT_junk rfl | refine And.intro ?_ ?_ | exact trivial | exact .inl ⟨rfl, rfl⟩ | rfl | exact .inr ⟨_, rfl, rfl, rfl⟩ | exact ⟨_, rfl, trivial⟩ | exact ⟨_, rfl, rfl⟩ | exact ⟨_, rfl, ⟨rfl, rfl, rfl⟩, fun _ _ _ _ => rfl⟩ | exact ⟨_, rfl, ⟨rfl, rfl, .inl rfl⟩, rfl⟩ | exact ⟨_, rfl, ⟨rfl, rfl, .inr rfl⟩, rfl⟩ | exact ⟨_, rfl, ⟨rfl, rfl, rfl, rfl, rfl⟩, rfl⟩ | exact ⟨_, rfl, ⟨rfl, rfl⟩, fun _ => Iff.rfl⟩ | refine ⟨_, rfl, rfl, ?_⟩ | refine ⟨_, rfl, ⟨rfl, rfl, rfl⟩, ?_⟩))
  rw [if_neg ha] at hm
  have ha1 : addrP f := Classical.not_not.1 fun h => ha (.inl h)
  have ha2 : addrP t := Classical.not_not.1 fun h => ha (.inr (.inl h))
  have ha3 : f ≠ t := fun h => ha (.inr (.inr h))
  have d1 : decide (addrP f) = true := decide_eq_true ha1
  have d2 : decide (addrP t) = true := decide_eq_true ha2
  clear ha ha1 ha2
  by_cases hx : 512 < x.length
  · rw [if_pos hx] at hm
    cases hm
    repeat' ((conv => whnf); first
        | refine QuiD.draw (draw_go tabOK (by kernel_rfl) ?_)
        | refine CutN.plain ?_
        | with_reducible refine Br.tt ?_
        | with_reducible refine Br.ff ?_
        | with_reducible refine Br.nt ?_
        | with_reducible refine Br.nf ?_
        | with_reducible refine Br.eeI ?_
        | with_reducible refine Br.nnI ?_
        | refine Br.yes (by decide) ?_
        | refine Br.no (by decide) ?_
        | refine AppN.own ?_
        | refine Need.go rfl ?_
        | refine QuiD.quiet (by kernel_rfl) ?_
        | refine IdxN.lit ?_
        | refine draw_go tabOK (by kernel_rfl) ?_
        | refine Need.go ⟨rfl, rfl⟩ ?_
        | refine Need.go ⟨⟨rfl, rfl, rfl⟩, rfl⟩ ?_
        | (with_reducible refine Br.dec (fun h => ?_) (fun h => ?_); first | (rotate_left; exfalso; omega; clear h) | (exfalso; omega; clear h) | skip)
        | (with_reducible refine Br.eqI (fun h => ?_) (fun h => ?_); first | (rotate_left; exfalso; omega; clear h) | (exfalso; omega; clear h) | skip)
        | (with_reducible refine Br.neI (fun h => ?_) (fun h => ?_); first | (rotate_left; exfalso; omega; clear h) | (exfalso; omega; clear h) | skip)
        | (with_reducible refine Br.eqS (fun h => ?_) (fun h => ?_); first | (rotate_left; exfalso; omega; clear h) | (exfalso; omega; clear h) | skip)
        | (with_reducible refine Br.neS (fun h => ?_) (fun h => ?_); first | (rotate_left; exfalso; omega; clear h) | (exfalso; omega; clear h) | skip)
        | (with_reducible refine Br.nd (fun h => ?_) (fun h => ?_); first | (rotate_left; exfalso; omega; clear h) | (exfalso; omega; clear h) | skip)
        | refine Ar.i64 (by omega) (by omega) ?_
        | (refine call_mem (f := 59) (args := [.v (.int .i64 f)]) (V := .bool true) ?_ ?_; exact fun ρ w h => d1 ▸ raddr_any f w)
        | (refine quiet_mem (f := 59) (args := [.v (.int .i64 f)]) (V := .bool true) ?_ ?_; exact fun ρ w h => d1 ▸ raddr_any f w)
        | (refine seg_mem (f := 59) (args := [.v (.int .i64 f)]) (V := .bool true) ?_ ?_; exact fun ρ w h => d1 ▸ raddr_any f w)
        | (refine call_mem (f := 59) (args := [.v (.int .i64 t)]) (V := .bool true) ?_ ?_; exact fun ρ w h => d2 ▸ raddr_any t w)
        | (refine quiet_mem (f := 59) (args := [.v (.int .i64 t)]) (V := .bool true) ?_ ?_; exact fun ρ w h => d2 ▸ raddr_any t w)
        | (refine seg_mem (f := 59) (args := [.v (.int .i64 t)]) (V := .bool true) ?_ ?_; exact fun ρ w h => d2 ▸ raddr_any t w)
        | refine Need.go (by first | omega | decide | (simp <;> omega) | fail) ?_
        | refine Need.go (by first | (simp [Value.oneCell'] <;> omega) | fail) ?_
        | refine Need.go ⟨rfl, by omega, getD_one rfl rfl⟩ ?_
        | refine Need.go ⟨rfl, by omega, fun _ _ _ _ => rfl⟩ ?_
        | refine Br.both (fun h => ?_) (fun h => ?_))
    all_goals (conv => whnf)
    refine ⟨_, _, ⟨rfl, rfl⟩, by simp, trivial, ⟨[some 0, some 1], ⟨by decide, rfl⟩, ?_, ?_⟩⟩
    all_goals repeat' (first | exact leT_junk rfl | refine And.intro ?_ ?_ | exact trivial | exact .inl ⟨rfl, rfl⟩ | rfl | exact .inr ⟨_, rfl, rfl, rfl⟩ | exact ⟨_, rfl, trivial⟩ | exact ⟨_, rfl, rfl⟩ | exact ⟨_, rfl, ⟨rfl, rfl, rfl⟩, fun _ _ _ _ => rfl⟩ | exact ⟨_, rfl, ⟨rfl, rfl, .inl rfl⟩, rfl⟩ | exact ⟨_, rfl, ⟨rfl, rfl, .inr rfl⟩, rfl⟩ | exact ⟨_, rfl, ⟨rfl, rfl, rfl, rfl, rfl⟩, rfl⟩ | exact ⟨_, rfl, ⟨rfl, rfl⟩, fun _ => Iff.rfl⟩ | refine ⟨_, rfl, rfl, ?_⟩ | refine ⟨_, rfl, ⟨rfl, rfl, rfl⟩, ?_⟩)
  rw [if_neg hx] at hm
  by_cases hc : cap ≤ (listM L f t).length
  · rw [if_pos hc] at hm
    cases hm
    repeat' ((conv => whnf); first
        | refine QuiD.draw (draw_go tabOK (by kernel_rfl) ?_)
        | refine CutN.plain ?_
        | with_reducible refine Br.tt ?_
        | with_reducible refine Br.ff ?_
        | with_reducible refine Br.nt ?_
        | with_reducible refine Br.nf ?_
        | with_reducible refine Br.eeI ?_
        | with_reducible refine Br.nnI ?_
        | refine Br.yes (by decide) ?_
        | refine Br.no (by decide) ?_
        | refine AppN.own ?_
        | refine Need.go rfl ?_
        | refine QuiD.quiet (by kernel_rfl) ?_
        | refine IdxN.lit ?_
        | refine draw_go tabOK (by kernel_rfl) ?_
        | refine Need.go ⟨rfl, rfl⟩ ?_
        | refine Need.go ⟨⟨rfl, rfl, rfl⟩, rfl⟩ ?_
        | (with_reducible refine Br.dec (fun h => ?_) (fun h => ?_); first | (rotate_left; exfalso; omega; clear h) | (exfalso; omega; clear h) | skip)
        | (with_reducible refine Br.eqI (fun h => ?_) (fun h => ?_); first | (rotate_left; exfalso; omega; clear h) | (exfalso; omega; clear h) | skip)
        | (with_reducible refine Br.neI (fun h => ?_) (fun h => ?_); first | (rotate_left; exfalso; omega; clear h) | (exfalso; omega; clear h) | skip)
        | (with_reducible refine Br.eqS (fun h => ?_) (fun h => ?_); first | (rotate_left; exfalso; omega; clear h) | (exfalso; omega; clear h) | skip)
        | (with_reducible refine Br.neS (fun h => ?_) (fun h => ?_); first | (rotate_left; exfalso; omega; clear h) | (exfalso; omega; clear h) | skip)
        | (with_reducible refine Br.nd (fun h => ?_) (fun h => ?_); first | (rotate_left; exfalso; omega; clear h) | (exfalso; omega; clear h) | skip)
        | refine Ar.i64 (by omega) (by omega) ?_
        | (refine call_mem (f := 59) (args := [.v (.int .i64 f)]) (V := .bool true) ?_ ?_; exact fun ρ w h => d1 ▸ raddr_any f w)
        | (refine quiet_mem (f := 59) (args := [.v (.int .i64 f)]) (V := .bool true) ?_ ?_; exact fun ρ w h => d1 ▸ raddr_any f w)
        | (refine seg_mem (f := 59) (args := [.v (.int .i64 f)]) (V := .bool true) ?_ ?_; exact fun ρ w h => d1 ▸ raddr_any f w)
        | (refine call_mem (f := 59) (args := [.v (.int .i64 t)]) (V := .bool true) ?_ ?_; exact fun ρ w h => d2 ▸ raddr_any t w)
        | (refine quiet_mem (f := 59) (args := [.v (.int .i64 t)]) (V := .bool true) ?_ ?_; exact fun ρ w h => d2 ▸ raddr_any t w)
        | (refine seg_mem (f := 59) (args := [.v (.int .i64 t)]) (V := .bool true) ?_ ?_; exact fun ρ w h => d2 ▸ raddr_any t w)
        | (refine seg_sp1 (f := 57) rfl (rlList cap L (by omega) f t) [0, 1] (by decide) rfl (fun _ => ⟨rfl, rfl, trivial⟩) rfl rfl ?_)
        | refine Need.go (by first | omega | decide | (simp <;> omega) | fail) ?_
        | refine Need.go (by first | (simp [Value.oneCell'] <;> omega) | fail) ?_
        | refine Need.go ⟨rfl, by omega, getD_one rfl rfl⟩ ?_
        | refine Need.go ⟨rfl, by omega, fun _ _ _ _ => rfl⟩ ?_
        | refine Br.both (fun h => ?_) (fun h => ?_))
    all_goals (conv => whnf)
    refine ⟨_, _, ⟨rfl, rfl⟩, by simp, trivial, ⟨[some 0, some 1], ⟨by decide, rfl⟩, ?_, ?_⟩⟩
    all_goals repeat' (first | exact leT_junk rfl | refine And.intro ?_ ?_ | exact trivial | exact .inl ⟨rfl, rfl⟩ | rfl | exact .inr ⟨_, rfl, rfl, rfl⟩ | exact ⟨_, rfl, trivial⟩ | exact ⟨_, rfl, rfl⟩ | exact ⟨_, rfl, ⟨rfl, rfl, rfl⟩, fun _ _ _ _ => rfl⟩ | exact ⟨_, rfl, ⟨rfl, rfl, .inl rfl⟩, rfl⟩ | exact ⟨_, rfl, ⟨rfl, rfl, .inr rfl⟩, rfl⟩ | exact ⟨_, rfl, ⟨rfl, rfl, rfl, rfl, rfl⟩, rfl⟩ | exact ⟨_, rfl, ⟨rfl, rfl⟩, fun _ => Iff.rfl⟩ | refine ⟨_, rfl, rfl, ?_⟩ | refine ⟨_, rfl, ⟨rfl, rfl, rfl⟩, ?_⟩)
  · rw [if_neg hc] at hm
    cases hm
    exact absurd rfl h0
set_option maxRecDepth 100000 in
set_option maxHeartbeats 4000000 in
theorem rlSend_yes (cap : Int) (L : List MailM) (hL : L.length ≤ 99999) (f t : Int) (x : List UInt8) {L' : List MailM} (hm : sendM cap L ⟨f, t, x⟩ = (L', 0)) :
    Spec Try.prog 36 [.p 0 0, .agg [.v (.int .i64 f), .v (.int .i64 t), .v (S x)]] (rlH cap L) fun s H1 => s = .v (.int .i64 0) ∧ H1 = rlHp cap L' := by
  refine spec_x Try.func36 rfl 2 rfl rfl fun w0 U => ?_
  simp only [sendM] at hm
  by_cases ha : ¬ addrP f ∨ ¬ addrP t ∨ f = t
  · rw [if_pos ha] at hm
    injection hm with _ h
    cases h
  rw [if_neg ha] at hm
  have ha1 : addrP f := Classical.not_not.1 fun h => ha (.inl h)
  have ha2 : addrP t := Classical.not_not.1 fun h => ha (.inr (.inl h))
  have ha3 : f ≠ t := fun h => ha (.inr (.inr h))
  have d1 : decide (addrP f) = true := decide_eq_true ha1
  have d2 : decide (addrP t) = true := decide_eq_true ha2
  clear ha ha1 ha2
  by_cases hx : 512 < x.length
  · rw [if_pos hx] at hm
    injection hm with _ h
    cases h
  rw [if_neg hx] at hm
  by_cases hc : cap ≤ (listM L f t).length
  · rw [if_pos hc] at hm
    injection hm with _ h
    cases h
  rw [if_neg hc] at hm
  injection hm with hm _
  subst hm
  have hlen : (L ++ [MailM.mk f t x]).length = L.length + 1 := by simp
  have hrow : ∀ r c, r < (L ++ [MailM.mk f t x]).length → c < 3 → rowsApp L.length (mailF L) (fun r c => (mailC ⟨f, t, x⟩).getD (r * 3 + c) undef) r c = mailF (L ++ [⟨f, t, x⟩]) r c := fun r c hr hc => rowsF_snoc mailC mailZ 3 L ⟨f, t, x⟩ r c (by simpa using hr) hc
  repeat' ((conv => whnf); first
      | refine QuiD.draw (draw_go tabOK (by kernel_rfl) ?_)
      | (refine ord_to tabOK (.ho 0 [5,8] [0,1,2,3,4,5,6,7,8,9,10,11] (.sp 6 5 [0,1,2,3,4,6,5,7,8,9,10,11] [0,1,2,3,4,5,6,7,8,9,10,11] (.sp 7 6 [0,1,2,3,4,5,7,6,8,9,10,11] [0,1,2,3,4,5,6,7,8,9,10,11] .leaf .leaf) .leaf)) (show _ = 12 from rfl) (by kernel_rfl) (by kernel_rfl) 38 [] [(0, .ent (.blk 107 [.v (.int .i64 cap), .os 4 (L ++ [MailM.mk f t x]).length])), (1, .ent .none)] [rlE (L ++ [⟨f, t, x⟩])] ?_ ?_)
      | (refine QuiD.draw (ord_to tabOK (.ho 0 [5,8] [0,1,2,3,4,5,6,7,8,9,10,11] (.sp 6 5 [0,1,2,3,4,6,5,7,8,9,10,11] [0,1,2,3,4,5,6,7,8,9,10,11] (.sp 7 6 [0,1,2,3,4,5,7,6,8,9,10,11] [0,1,2,3,4,5,6,7,8,9,10,11] .leaf .leaf) .leaf)) (show _ = 12 from rfl) (by kernel_rfl) (by kernel_rfl) 38 [] [(0, .ent (.blk 107 [.v (.int .i64 cap), .os 4 (L ++ [MailM.mk f t x]).length])), (1, .ent .none)] [rlE (L ++ [⟨f, t, x⟩])] ?_ ?_))
      | refine CutN.plain ?_
      | with_reducible refine Br.tt ?_
      | with_reducible refine Br.ff ?_
      | with_reducible refine Br.nt ?_
      | with_reducible refine Br.nf ?_
      | with_reducible refine Br.eeI ?_
      | with_reducible refine Br.nnI ?_
      | refine Br.yes (by decide) ?_
      | refine Br.no (by decide) ?_
      | refine AppN.own ?_
      | refine Need.go rfl ?_
      | refine QuiD.quiet (by kernel_rfl) ?_
      | refine IdxN.lit ?_
      | refine draw_go tabOK (by kernel_rfl) ?_
      | refine Need.go ⟨rfl, rfl⟩ ?_
      | refine Need.go ⟨⟨rfl, rfl, rfl⟩, rfl⟩ ?_
      | (with_reducible refine Br.dec (fun h => ?_) (fun h => ?_); first | (rotate_left; exfalso; omega; clear h) | (exfalso; omega; clear h) | skip)
      | (with_reducible refine Br.eqI (fun h => ?_) (fun h => ?_); first | (rotate_left; exfalso; omega; clear h) | (exfalso; omega; clear h) | skip)
      | (with_reducible refine Br.neI (fun h => ?_) (fun h => ?_); first | (rotate_left; exfalso; omega; clear h) | (exfalso; omega; clear h) | skip)
      | (with_reducible refine Br.eqS (fun h => ?_) (fun h => ?_); first | (rotate_left; exfalso; omega; clear h) | (exfalso; omega; clear h) | skip)
      | (with_reducible refine Br.neS (fun h => ?_) (fun h => ?_); first | (rotate_left; exfalso; omega; clear h) | (exfalso; omega; clear h) | skip)
      | (with_reducible refine Br.nd (fun h => ?_) (fun h => ?_); first | (rotate_left; exfalso; omega; clear h) | (exfalso; omega; clear h) | skip)
      | refine Ar.i64 (by omega) (by omega) ?_
      | (refine call_mem (f := 59) (args := [.v (.int .i64 f)]) (V := .bool true) ?_ ?_; exact fun ρ w h => d1 ▸ raddr_any f w)
      | (refine quiet_mem (f := 59) (args := [.v (.int .i64 f)]) (V := .bool true) ?_ ?_; exact fun ρ w h => d1 ▸ raddr_any f w)
      | (refine seg_mem (f := 59) (args := [.v (.int .i64 f)]) (V := .bool true) ?_ ?_; exact fun ρ w h => d1 ▸ raddr_any f w)
      | (refine call_mem (f := 59) (args := [.v (.int .i64 t)]) (V := .bool true) ?_ ?_; exact fun ρ w h => d2 ▸ raddr_any t w)
      | (refine quiet_mem (f := 59) (args := [.v (.int .i64 t)]) (V := .bool true) ?_ ?_; exact fun ρ w h => d2 ▸ raddr_any t w)
      | (refine seg_mem (f := 59) (args := [.v (.int .i64 t)]) (V := .bool true) ?_ ?_; exact fun ρ w h => d2 ▸ raddr_any t w)
      | (refine seg_sp1 (f := 57) rfl (rlList cap L (by omega) f t) [0, 1] (by decide) rfl (fun _ => ⟨rfl, rfl, trivial⟩) rfl rfl ?_)
      | refine Need.go ⟨rfl, Nat.le_refl _, mailF_one L _⟩ ?_
      | refine Need.go ⟨by omega, (Nat.mul_le_mul_right _ (show L.length ≤ 1000000 by omega)).trans (by decide)⟩ ?_
      | refine Need.go ⟨rfl, rfl, rfl, by omega, (Nat.mul_le_mul_right _ (show L.length + 1 ≤ 1000000 by omega)).trans (by decide)⟩ ?_
      | refine And.intro ?_ ?_
      | (refine ⟨[some 0, some 1, some 2, some 3, some 6], ⟨by decide, rfl⟩, ?_, ?_⟩; all_goals (repeat' (first | exact ⟨_, rfl, ⟨rfl, rfl, hlen.symm⟩, hrow⟩ | exact .inl ⟨rfl, congrArg (SV.os _) hlen⟩ | exact leT_junk rfl | refine And.intro ?_ ?_ | exact trivial | exact .inl ⟨rfl, rfl⟩ | rfl | exact .inr ⟨_, rfl, rfl, rfl⟩ | exact ⟨_, rfl, trivial⟩ | exact ⟨_, rfl, rfl⟩ | exact ⟨_, rfl, ⟨rfl, rfl, rfl⟩, fun _ _ _ _ => rfl⟩ | exact ⟨_, rfl, ⟨rfl, rfl, .inl rfl⟩, rfl⟩ | exact ⟨_, rfl, ⟨rfl, rfl, .inr rfl⟩, rfl⟩ | exact ⟨_, rfl, ⟨rfl, rfl, rfl, rfl, rfl⟩, rfl⟩ | exact ⟨_, rfl, ⟨rfl, rfl⟩, fun _ => Iff.rfl⟩ | refine ⟨_, rfl, rfl, ?_⟩ | refine ⟨_, rfl, ⟨rfl, rfl, rfl⟩, ?_⟩)); done)
      | (refine ⟨[some 0, some 1, some 2, some 3, some 5], ⟨by decide, rfl⟩, ?_, ?_⟩; all_goals (repeat' (first | exact ⟨_, rfl, ⟨rfl, rfl, hlen.symm⟩, hrow⟩ | exact .inl ⟨rfl, congrArg (SV.os _) hlen⟩ | exact leT_junk rfl | refine And.intro ?_ ?_ | exact trivial | exact .inl ⟨rfl, rfl⟩ | rfl | exact .inr ⟨_, rfl, rfl, rfl⟩ | exact ⟨_, rfl, trivial⟩ | exact ⟨_, rfl, rfl⟩ | exact ⟨_, rfl, ⟨rfl, rfl, rfl⟩, fun _ _ _ _ => rfl⟩ | exact ⟨_, rfl, ⟨rfl, rfl, .inl rfl⟩, rfl⟩ | exact ⟨_, rfl, ⟨rfl, rfl, .inr rfl⟩, rfl⟩ | exact ⟨_, rfl, ⟨rfl, rfl, rfl, rfl, rfl⟩, rfl⟩ | exact ⟨_, rfl, ⟨rfl, rfl⟩, fun _ => Iff.rfl⟩ | refine ⟨_, rfl, rfl, ?_⟩ | refine ⟨_, rfl, ⟨rfl, rfl, rfl⟩, ?_⟩)); done)
      | (refine ⟨[some 0, some 1, some 2, some 3, some 4], ⟨by decide, rfl⟩, ?_, ?_⟩; all_goals (repeat' (first | exact ⟨_, rfl, ⟨rfl, rfl, hlen.symm⟩, hrow⟩ | exact .inl ⟨rfl, congrArg (SV.os _) hlen⟩ | exact leT_junk rfl | refine And.intro ?_ ?_ | exact trivial | exact .inl ⟨rfl, rfl⟩ | rfl | exact .inr ⟨_, rfl, rfl, rfl⟩ | exact ⟨_, rfl, trivial⟩ | exact ⟨_, rfl, rfl⟩ | exact ⟨_, rfl, ⟨rfl, rfl, rfl⟩, fun _ _ _ _ => rfl⟩ | exact ⟨_, rfl, ⟨rfl, rfl, .inl rfl⟩, rfl⟩ | exact ⟨_, rfl, ⟨rfl, rfl, .inr rfl⟩, rfl⟩ | exact ⟨_, rfl, ⟨rfl, rfl, rfl, rfl, rfl⟩, rfl⟩ | exact ⟨_, rfl, ⟨rfl, rfl⟩, fun _ => Iff.rfl⟩ | refine ⟨_, rfl, rfl, ?_⟩ | refine ⟨_, rfl, ⟨rfl, rfl, rfl⟩, ?_⟩)); done)
      | refine Need.go (by first | omega | decide | (simp <;> omega) | fail) ?_
      | refine Need.go (by first | (simp [Value.oneCell'] <;> omega) | fail) ?_
      | refine Need.go ⟨rfl, by omega, getD_one rfl rfl⟩ ?_
      | refine Need.go ⟨rfl, by omega, fun _ _ _ _ => rfl⟩ ?_
      | refine Br.both (fun h => ?_) (fun h => ?_))
  all_goals (conv => whnf)
  refine ⟨_, _, ⟨rfl, rfl⟩, by simp, trivial, ⟨[some 0, some 1, some 4], ⟨by decide, rfl⟩, ?_, ?_⟩⟩
  all_goals repeat' (first | exact leT_junk rfl | refine And.intro ?_ ?_ | exact trivial | exact .inl ⟨rfl, rfl⟩ | rfl | exact .inr ⟨_, rfl, rfl, rfl⟩ | exact ⟨_, rfl, trivial⟩ | exact ⟨_, rfl, rfl⟩ | exact ⟨_, rfl, ⟨rfl, rfl, rfl⟩, fun _ _ _ _ => rfl⟩ | exact ⟨_, rfl, ⟨rfl, rfl, .inl rfl⟩, rfl⟩ | exact ⟨_, rfl, ⟨rfl, rfl, .inr rfl⟩, rfl⟩ | exact ⟨_, rfl, ⟨rfl, rfl, rfl, rfl, rfl⟩, rfl⟩ | exact ⟨_, rfl, ⟨rfl, rfl⟩, fun _ => Iff.rfl⟩ | refine ⟨_, rfl, rfl, ?_⟩ | refine ⟨_, rfl, ⟨rfl, rfl, rfl⟩, ?_⟩)
end Go.Proofs.Ytfniieigeofbdaa
