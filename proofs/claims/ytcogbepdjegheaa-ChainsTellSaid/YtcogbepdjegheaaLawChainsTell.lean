/-
  The walk of ChainsTell. No condition.
-/
import Derived.Test.YtcogbepdjegheaaCh9
import Derived.Test.YtcogbepdjegheaaCh11
import Derived.Test.YtcogbepdjegheaaRowsIn
namespace Go.Proofs.Ytcogbepdjegheaa.lawChainsTell
open Go.Proofs.Ytcogbepdjegheaa Go.RowKit
theorem sameCh_refl' (c : ChM) : sameCh c c = true := by simp [sameCh]
set_option maxRecDepth 100000 in
set_option maxHeartbeats 4000000 in
theorem ends_any (c : ChM) (p : Value) (n : Int) (w : World) (hp : ChSl w p c) (hl : c.mem.length ≤ 1000000) :
    Calls Try.prog 44 #[chV c p, .int .i64 n] w fun e w' => e = .returned (.bool true) ∧ w.grownBy w' none := by
  obtain ⟨a, cap, rfl, h1, h2, hr⟩ := hp
  refine x_calls tabOK Try.func44 rfl [chS c (.rs 0 c.mem.length cap), .v (.int .i64 n)] _ _ rfl rfl (relR1 hr) ?_
  repeat' ((conv => whnf); first
      | with_reducible refine Br.tt ?_
      | with_reducible refine Br.ff ?_
      | with_reducible refine Br.nt ?_
      | with_reducible refine Br.nf ?_
      | with_reducible refine Br.eeI ?_
      | with_reducible refine Br.nnI ?_
      | refine Br.yes (by decide) ?_
      | refine Br.no (by decide) ?_
      | refine Need.go rfl ?_
      | refine QuiD.quiet (by kernel_rfl) ?_
      | refine draw_go tabOK (by kernel_rfl) ?_
      | refine Need.go ⟨rfl, rfl⟩ ?_
      | with_reducible refine Br.dec (fun h => ?_) (fun h => ?_)
      | with_reducible refine Br.eqI (fun h => ?_) (fun h => ?_)
      | with_reducible refine Br.neI (fun h => ?_) (fun h => ?_)
      | with_reducible refine Br.eqS (fun h => ?_) (fun h => ?_)
      | with_reducible refine Br.neS (fun h => ?_) (fun h => ?_)
      | with_reducible refine Br.nd (fun h => ?_) (fun h => ?_)
      | refine Ar.i64 (by omega) (by omega) ?_
      | (refine call_mem (f := 70) (args := [chS c (.rs 0 _ _)]) (V := .tuple #[.int .i64 (memberM c 0), .int .i64 (memberM c (c.mem.length - 1))]) ?_ ?_; exact fun ρ w h => rends_any c _ w (sl_rs h (i := 0) rfl (Nat.le_refl _) h1 h2) hl)
      | (refine quiet_mem (f := 70) (args := [chS c (.rs 0 _ _)]) (V := .tuple #[.int .i64 (memberM c 0), .int .i64 (memberM c (c.mem.length - 1))]) ?_ ?_; exact fun ρ w h => rends_any c _ w (sl_rs h (i := 0) rfl (Nat.le_refl _) h1 h2) hl)
      | (refine seg_mem (f := 70) (args := [chS c (.rs 0 _ _)]) (V := .tuple #[.int .i64 (memberM c 0), .int .i64 (memberM c (c.mem.length - 1))]) ?_ ?_; exact fun ρ w h => rends_any c _ w (sl_rs h (i := 0) rfl (Nat.le_refl _) h1 h2) hl)
      | (refine call_mem (f := 42) (args := [chS c (.rs 0 _ _), .v (.int .i64 n)]) (V := .tuple #[.int .i64 (sinceM c n).1, .bool (sinceM c n).2]) ?_ ?_; exact fun ρ w h => since_any c _ n w (sl_rs h (i := 0) rfl (Nat.le_refl _) h1 h2) hl)
      | (refine quiet_mem (f := 42) (args := [chS c (.rs 0 _ _), .v (.int .i64 n)]) (V := .tuple #[.int .i64 (sinceM c n).1, .bool (sinceM c n).2]) ?_ ?_; exact fun ρ w h => since_any c _ n w (sl_rs h (i := 0) rfl (Nat.le_refl _) h1 h2) hl)
      | (refine seg_mem (f := 42) (args := [chS c (.rs 0 _ _), .v (.int .i64 n)]) (V := .tuple #[.int .i64 (sinceM c n).1, .bool (sinceM c n).2]) ?_ ?_; exact fun ρ w h => since_any c _ n w (sl_rs h (i := 0) rfl (Nat.le_refl _) h1 h2) hl)
      | (refine call_mem (f := 71) (args := [chS c (.rs 0 _ _), .v (.int .i64 n)]) (V := .tuple #[.int .i64 (sinceM c n).1, .bool (sinceM c n).2]) ?_ ?_; exact fun ρ w h => rsince_any c _ n w (sl_rs h (i := 0) rfl (Nat.le_refl _) h1 h2) hl)
      | (refine quiet_mem (f := 71) (args := [chS c (.rs 0 _ _), .v (.int .i64 n)]) (V := .tuple #[.int .i64 (sinceM c n).1, .bool (sinceM c n).2]) ?_ ?_; exact fun ρ w h => rsince_any c _ n w (sl_rs h (i := 0) rfl (Nat.le_refl _) h1 h2) hl)
      | (refine seg_mem (f := 71) (args := [chS c (.rs 0 _ _), .v (.int .i64 n)]) (V := .tuple #[.int .i64 (sinceM c n).1, .bool (sinceM c n).2]) ?_ ?_; exact fun ρ w h => rsince_any c _ n w (sl_rs h (i := 0) rfl (Nat.le_refl _) h1 h2) hl)
      | (refine call_mem (f := 29) (args := [chS c (.rs 0 _ _)]) (V := .int .i64 (memberM c 0)) ?_ ?_; exact fun ρ w h => head_any c _ w (sl_rs h (i := 0) rfl (Nat.le_refl _) h1 h2) hl)
      | (refine quiet_mem (f := 29) (args := [chS c (.rs 0 _ _)]) (V := .int .i64 (memberM c 0)) ?_ ?_; exact fun ρ w h => head_any c _ w (sl_rs h (i := 0) rfl (Nat.le_refl _) h1 h2) hl)
      | (refine seg_mem (f := 29) (args := [chS c (.rs 0 _ _)]) (V := .int .i64 (memberM c 0)) ?_ ?_; exact fun ρ w h => head_any c _ w (sl_rs h (i := 0) rfl (Nat.le_refl _) h1 h2) hl)
      | (refine call_mem (f := 30) (args := [chS c (.rs 0 _ _)]) (V := .int .i64 (memberM c (c.mem.length - 1))) ?_ ?_; exact fun ρ w h => tail_any c _ w (sl_rs h (i := 0) rfl (Nat.le_refl _) h1 h2) hl)
      | (refine quiet_mem (f := 30) (args := [chS c (.rs 0 _ _)]) (V := .int .i64 (memberM c (c.mem.length - 1))) ?_ ?_; exact fun ρ w h => tail_any c _ w (sl_rs h (i := 0) rfl (Nat.le_refl _) h1 h2) hl)
      | (refine seg_mem (f := 30) (args := [chS c (.rs 0 _ _)]) (V := .int .i64 (memberM c (c.mem.length - 1))) ?_ ?_; exact fun ρ w h => tail_any c _ w (sl_rs h (i := 0) rfl (Nat.le_refl _) h1 h2) hl)
      | (refine call_mem (f := 40) (args := [chS c (.rs 0 _ _), .v (.int .i64 n)]) (V := .int .i64 (nextM c n)) ?_ ?_; exact fun ρ w h => next_any c _ n w (sl_rs h (i := 0) rfl (Nat.le_refl _) h1 h2) hl)
      | (refine quiet_mem (f := 40) (args := [chS c (.rs 0 _ _), .v (.int .i64 n)]) (V := .int .i64 (nextM c n)) ?_ ?_; exact fun ρ w h => next_any c _ n w (sl_rs h (i := 0) rfl (Nat.le_refl _) h1 h2) hl)
      | (refine seg_mem (f := 40) (args := [chS c (.rs 0 _ _), .v (.int .i64 n)]) (V := .int .i64 (nextM c n)) ?_ ?_; exact fun ρ w h => next_any c _ n w (sl_rs h (i := 0) rfl (Nat.le_refl _) h1 h2) hl)
      | (refine call_mem (f := 41) (args := [chS c (.rs 0 _ _), .v (.int .i64 n)]) (V := .int .i64 (prevM c n)) ?_ ?_; exact fun ρ w h => prev_any c _ n w (sl_rs h (i := 0) rfl (Nat.le_refl _) h1 h2) hl)
      | (refine quiet_mem (f := 41) (args := [chS c (.rs 0 _ _), .v (.int .i64 n)]) (V := .int .i64 (prevM c n)) ?_ ?_; exact fun ρ w h => prev_any c _ n w (sl_rs h (i := 0) rfl (Nat.le_refl _) h1 h2) hl)
      | (refine seg_mem (f := 41) (args := [chS c (.rs 0 _ _), .v (.int .i64 n)]) (V := .int .i64 (prevM c n)) ?_ ?_; exact fun ρ w h => prev_any c _ n w (sl_rs h (i := 0) rfl (Nat.le_refl _) h1 h2) hl)
      | (refine call_mem (f := 72) (args := [chS c (.rs 0 _ _), .v (.int .i64 n), .v (.int .i64 1)]) (V := .int .i64 (nextM c n)) ?_ ?_; exact fun ρ w h => (by have := rstep_any c _ n 1 w (sl_rs h (i := 0) rfl (Nat.le_refl _) h1 h2) hl (by decide); rw [stepM_next] at this; exact this))
      | (refine quiet_mem (f := 72) (args := [chS c (.rs 0 _ _), .v (.int .i64 n), .v (.int .i64 1)]) (V := .int .i64 (nextM c n)) ?_ ?_; exact fun ρ w h => (by have := rstep_any c _ n 1 w (sl_rs h (i := 0) rfl (Nat.le_refl _) h1 h2) hl (by decide); rw [stepM_next] at this; exact this))
      | (refine seg_mem (f := 72) (args := [chS c (.rs 0 _ _), .v (.int .i64 n), .v (.int .i64 1)]) (V := .int .i64 (nextM c n)) ?_ ?_; exact fun ρ w h => (by have := rstep_any c _ n 1 w (sl_rs h (i := 0) rfl (Nat.le_refl _) h1 h2) hl (by decide); rw [stepM_next] at this; exact this))
      | (refine call_mem (f := 72) (args := [chS c (.rs 0 _ _), .v (.int .i64 n), .v (.int .i64 (-1))]) (V := .int .i64 (prevM c n)) ?_ ?_; exact fun ρ w h => (by have := rstep_any c _ n (-1) w (sl_rs h (i := 0) rfl (Nat.le_refl _) h1 h2) hl (by decide); rw [stepM_prev] at this; exact this))
      | (refine quiet_mem (f := 72) (args := [chS c (.rs 0 _ _), .v (.int .i64 n), .v (.int .i64 (-1))]) (V := .int .i64 (prevM c n)) ?_ ?_; exact fun ρ w h => (by have := rstep_any c _ n (-1) w (sl_rs h (i := 0) rfl (Nat.le_refl _) h1 h2) hl (by decide); rw [stepM_prev] at this; exact this))
      | (refine seg_mem (f := 72) (args := [chS c (.rs 0 _ _), .v (.int .i64 n), .v (.int .i64 (-1))]) (V := .int .i64 (prevM c n)) ?_ ?_; exact fun ρ w h => (by have := rstep_any c _ n (-1) w (sl_rs h (i := 0) rfl (Nat.le_refl _) h1 h2) hl (by decide); rw [stepM_prev] at this; exact this))
      | refine Need.go (by first | omega | decide | (simp <;> omega) | fail) ?_
      | refine Need.go (by first | (simp [Value.oneCell'] <;> omega) | fail) ?_
      | refine Need.go ⟨rfl, by omega, getD_one rfl rfl⟩ ?_
      | refine Need.go ⟨rfl, by omega, fun _ _ _ _ => rfl⟩ ?_
      | refine Br.both (fun h => ?_) (fun h => ?_))
  (conv => whnf)
  refine ret_pure (fun _ => ?_)
  show Value.bool ((sinceM c n).2 == (sinceM c n).2) = .bool true
  rw [beq_self_eq_true]
set_option maxRecDepth 100000 in
set_option maxHeartbeats 4000000 in
theorem core (c d : ChM) (p q : Value) (n : Int) (w : World) (hp : ChSl w p c) (hq : ChSl w q d) :
    Calls Try.prog 10 #[chV c p, chV d q, .int .i64 n] w fun e w' => e = .returned (.bool true) ∧ w.grownBy w' none := by
  obtain ⟨a, cap, rfl, h1, h2, hr⟩ := hp
  obtain ⟨a2, cap2, rfl, h12, h22, hr2⟩ := hq
  refine x_calls tabOK Try.func10 rfl [chS c (.rs 0 c.mem.length cap), chS d (.rs 1 d.mem.length cap2), .v (.int .i64 n)] _ _ rfl rfl (relR2 hr hr2) ?_
  repeat' ((conv => whnf); first
      | with_reducible refine Br.tt ?_
      | with_reducible refine Br.ff ?_
      | with_reducible refine Br.nt ?_
      | with_reducible refine Br.nf ?_
      | with_reducible refine Br.eeI ?_
      | with_reducible refine Br.nnI ?_
      | refine Br.yes (by decide) ?_
      | refine Br.no (by decide) ?_
      | refine Need.go rfl ?_
      | refine QuiD.quiet (by kernel_rfl) ?_
      | refine draw_go tabOK (by kernel_rfl) ?_
      | refine Need.go ⟨rfl, rfl⟩ ?_
      | with_reducible refine Br.dec (fun h => ?_) (fun h => ?_)
      | with_reducible refine Br.eqI (fun h => ?_) (fun h => ?_)
      | with_reducible refine Br.neI (fun h => ?_) (fun h => ?_)
      | with_reducible refine Br.eqS (fun h => ?_) (fun h => ?_)
      | with_reducible refine Br.neS (fun h => ?_) (fun h => ?_)
      | with_reducible refine Br.nd (fun h => ?_) (fun h => ?_)
      | refine Ar.i64 (by omega) (by omega) ?_
      | refine call_inlineL (f := 31) Try.func31 rfl ?_
      | (refine call_mem (f := 32) (args := []) (V := .bool true) ?_ ?_; exact fun ρ w h => linked_any w)
      | (refine quiet_mem (f := 32) (args := []) (V := .bool true) ?_ ?_; exact fun ρ w h => linked_any w)
      | (refine seg_mem (f := 32) (args := []) (V := .bool true) ?_ ?_; exact fun ρ w h => linked_any w)
      | refine Need.go (by first | omega | decide | (simp <;> omega) | fail) ?_
      | refine Need.go (by first | (simp [Value.oneCell'] <;> omega) | fail) ?_
      | refine Need.go ⟨rfl, by omega, getD_one rfl rfl⟩ ?_
      | refine Need.go ⟨rfl, by omega, fun _ _ _ _ => rfl⟩ ?_
      | refine Br.both (fun h => ?_) (fun h => ?_))
  all_goals (conv => whnf)
  all_goals first | exact ret_pure (fun _ => rfl) | skip
  refine loop_up 20 (fun k : Int => -1 ≤ k ∧ k ≤ 8) (fun k => (8 - k).toNat) (fun k => [(7, .v (.int .i64 k)), (8, .junk)]) (fun _ => []) (fun _ => []) (-1) ⟨by omega, by omega⟩ (by
    (conv => whnf)
    refine ⟨[some 0, some 1, some 2, some 3, some 4, some 5], by decide, ?_, ?_⟩
    all_goals repeat' (first | exact trivial | exact .inl ⟨rfl, rfl⟩ | rfl | exact .inr ⟨_, rfl, rfl, rfl⟩ | exact ⟨_, rfl, trivial⟩ | exact ⟨_, rfl, rfl⟩ | exact ⟨_, rfl, ⟨rfl, rfl, rfl⟩, fun _ _ _ _ => rfl⟩ | refine ⟨_, rfl, rfl, ?_⟩ | refine ⟨_, rfl, ⟨rfl, rfl, rfl⟩, ?_⟩ | refine And.intro ?_ ?_)) (fun k hk => ?_)
  obtain ⟨hk0, hk8⟩ := hk
  repeat' ((conv => whnf); first
      | with_reducible refine Br.yes (beq_self_eq_true _) ?_
      | with_reducible refine Br.tt ?_
      | with_reducible refine Br.ff ?_
      | with_reducible refine Br.nt ?_
      | with_reducible refine Br.nf ?_
      | with_reducible refine Br.eeI ?_
      | with_reducible refine Br.nnI ?_
      | refine Br.yes (by decide) ?_
      | refine Br.no (by decide) ?_
      | refine Need.go rfl ?_
      | refine QuiD.quiet (by kernel_rfl) ?_
      | refine draw_go tabOK (by kernel_rfl) ?_
      | refine Need.go ⟨rfl, rfl⟩ ?_
      | with_reducible refine Br.dec (fun h => ?_) (fun h => ?_)
      | with_reducible refine Br.eqI (fun h => ?_) (fun h => ?_)
      | with_reducible refine Br.neI (fun h => ?_) (fun h => ?_)
      | with_reducible refine Br.eqS (fun h => ?_) (fun h => ?_)
      | with_reducible refine Br.neS (fun h => ?_) (fun h => ?_)
      | with_reducible refine Br.nd (fun h => ?_) (fun h => ?_)
      | refine Ar.i64 (by omega) (by omega) ?_
      | (refine call_mem (f := 44) (args := [chS c (.rs 0 _ _), .v (.int .i64 n)]) (V := .bool true) ?_ ?_; exact fun ρ w h => ends_any c _ n w (sl_rs h (i := 0) rfl (Nat.le_refl _) h1 h2) (by omega))
      | (refine quiet_mem (f := 44) (args := [chS c (.rs 0 _ _), .v (.int .i64 n)]) (V := .bool true) ?_ ?_; exact fun ρ w h => ends_any c _ n w (sl_rs h (i := 0) rfl (Nat.le_refl _) h1 h2) (by omega))
      | (refine seg_mem (f := 44) (args := [chS c (.rs 0 _ _), .v (.int .i64 n)]) (V := .bool true) ?_ ?_; exact fun ρ w h => ends_any c _ n w (sl_rs h (i := 0) rfl (Nat.le_refl _) h1 h2) (by omega))
      | (refine call_mem (f := 44) (args := [chS c (.rs 0 _ _), .v (.int .i64 k)]) (V := .bool true) ?_ ?_; exact fun ρ w h => ends_any c _ k w (sl_rs h (i := 0) rfl (Nat.le_refl _) h1 h2) (by omega))
      | (refine quiet_mem (f := 44) (args := [chS c (.rs 0 _ _), .v (.int .i64 k)]) (V := .bool true) ?_ ?_; exact fun ρ w h => ends_any c _ k w (sl_rs h (i := 0) rfl (Nat.le_refl _) h1 h2) (by omega))
      | (refine seg_mem (f := 44) (args := [chS c (.rs 0 _ _), .v (.int .i64 k)]) (V := .bool true) ?_ ?_; exact fun ρ w h => ends_any c _ k w (sl_rs h (i := 0) rfl (Nat.le_refl _) h1 h2) (by omega))
      | (refine call_mem (f := 45) (args := [chS c (.rs 0 _ _)]) (V := .tuple #[S (putM c).1, .int .i64 (putM c).2]) ?_ ?_; exact fun ρ w h => put_any c _ w (sl_rs h (i := 0) rfl (Nat.le_refl _) h1 h2) (by omega))
      | (refine quiet_mem (f := 45) (args := [chS c (.rs 0 _ _)]) (V := .tuple #[S (putM c).1, .int .i64 (putM c).2]) ?_ ?_; exact fun ρ w h => put_any c _ w (sl_rs h (i := 0) rfl (Nat.le_refl _) h1 h2) (by omega))
      | (refine seg_mem (f := 45) (args := [chS c (.rs 0 _ _)]) (V := .tuple #[S (putM c).1, .int .i64 (putM c).2]) ?_ ?_; exact fun ρ w h => put_any c _ w (sl_rs h (i := 0) rfl (Nat.le_refl _) h1 h2) (by omega))
      | (refine call_mem (f := 46) (args := [chS c (.rs 0 _ _)]) (V := .tuple #[S (putM c).1, .int .i64 (putM c).2]) ?_ ?_; exact fun ρ w h => rput_any c _ w (sl_rs h (i := 0) rfl (Nat.le_refl _) h1 h2) (by omega))
      | (refine quiet_mem (f := 46) (args := [chS c (.rs 0 _ _)]) (V := .tuple #[S (putM c).1, .int .i64 (putM c).2]) ?_ ?_; exact fun ρ w h => rput_any c _ w (sl_rs h (i := 0) rfl (Nat.le_refl _) h1 h2) (by omega))
      | (refine seg_mem (f := 46) (args := [chS c (.rs 0 _ _)]) (V := .tuple #[S (putM c).1, .int .i64 (putM c).2]) ?_ ?_; exact fun ρ w h => rput_any c _ w (sl_rs h (i := 0) rfl (Nat.le_refl _) h1 h2) (by omega))
      | (refine call_mem (f := 28) (args := [chS c (.rs 0 _ _)]) (V := .int .i64 (if okCh c then 0 else 2)) ?_ ?_; exact fun ρ w h => chCheck_any c _ w (sl_rs h (i := 0) rfl (Nat.le_refl _) h1 h2) (by omega))
      | (refine quiet_mem (f := 28) (args := [chS c (.rs 0 _ _)]) (V := .int .i64 (if okCh c then 0 else 2)) ?_ ?_; exact fun ρ w h => chCheck_any c _ w (sl_rs h (i := 0) rfl (Nat.le_refl _) h1 h2) (by omega))
      | (refine seg_mem (f := 28) (args := [chS c (.rs 0 _ _)]) (V := .int .i64 (if okCh c then 0 else 2)) ?_ ?_; exact fun ρ w h => chCheck_any c _ w (sl_rs h (i := 0) rfl (Nat.le_refl _) h1 h2) (by omega))
      | (refine call_mem (f := 47) (args := [chS c (.rs 0 _ _)]) (V := .int .i64 (if okCh c then 0 else 2)) ?_ ?_; exact fun ρ w h => rchCheck_any c _ w (sl_rs h (i := 0) rfl (Nat.le_refl _) h1 h2) (by omega))
      | (refine quiet_mem (f := 47) (args := [chS c (.rs 0 _ _)]) (V := .int .i64 (if okCh c then 0 else 2)) ?_ ?_; exact fun ρ w h => rchCheck_any c _ w (sl_rs h (i := 0) rfl (Nat.le_refl _) h1 h2) (by omega))
      | (refine seg_mem (f := 47) (args := [chS c (.rs 0 _ _)]) (V := .int .i64 (if okCh c then 0 else 2)) ?_ ?_; exact fun ρ w h => rchCheck_any c _ w (sl_rs h (i := 0) rfl (Nat.le_refl _) h1 h2) (by omega))
      | (refine call_mem (f := 43) (args := [chS c (.rs 0 _ _), chS d (.rs 1 _ _)]) (V := .bool (sameCh c d)) ?_ ?_; exact fun ρ w h => chSame_any c d _ _ w (sl_rs h (i := 0) rfl (Nat.le_refl _) h1 h2) (sl_rs h (i := 1) rfl (Nat.le_refl _) h12 h22) (by omega))
      | (refine quiet_mem (f := 43) (args := [chS c (.rs 0 _ _), chS d (.rs 1 _ _)]) (V := .bool (sameCh c d)) ?_ ?_; exact fun ρ w h => chSame_any c d _ _ w (sl_rs h (i := 0) rfl (Nat.le_refl _) h1 h2) (sl_rs h (i := 1) rfl (Nat.le_refl _) h12 h22) (by omega))
      | (refine seg_mem (f := 43) (args := [chS c (.rs 0 _ _), chS d (.rs 1 _ _)]) (V := .bool (sameCh c d)) ?_ ?_; exact fun ρ w h => chSame_any c d _ _ w (sl_rs h (i := 0) rfl (Nat.le_refl _) h1 h2) (sl_rs h (i := 1) rfl (Nat.le_refl _) h12 h22) (by omega))
      | (refine call_mem (f := 39) (args := [chS c (.rs 0 _ _), chS d (.rs 1 _ _)]) (V := .bool (sameCh c d)) ?_ ?_; exact fun ρ w h => rchSame_any c d _ _ w (sl_rs h (i := 0) rfl (Nat.le_refl _) h1 h2) (sl_rs h (i := 1) rfl (Nat.le_refl _) h12 h22) (by omega))
      | (refine quiet_mem (f := 39) (args := [chS c (.rs 0 _ _), chS d (.rs 1 _ _)]) (V := .bool (sameCh c d)) ?_ ?_; exact fun ρ w h => rchSame_any c d _ _ w (sl_rs h (i := 0) rfl (Nat.le_refl _) h1 h2) (sl_rs h (i := 1) rfl (Nat.le_refl _) h12 h22) (by omega))
      | (refine seg_mem (f := 39) (args := [chS c (.rs 0 _ _), chS d (.rs 1 _ _)]) (V := .bool (sameCh c d)) ?_ ?_; exact fun ρ w h => rchSame_any c d _ _ w (sl_rs h (i := 0) rfl (Nat.le_refl _) h1 h2) (sl_rs h (i := 1) rfl (Nat.le_refl _) h12 h22) (by omega))
      | (refine call_mem (f := 43) (args := [chS c (.rs 0 _ _), chS c (.rs 0 _ _)]) (V := .bool true) ?_ ?_; exact fun ρ w h => (by have := chSame_any c c _ _ w (sl_rs h (i := 0) rfl (Nat.le_refl _) h1 h2) (sl_rs h (i := 0) rfl (Nat.le_refl _) h1 h2) (by omega); rw [sameCh_refl'] at this; exact this))
      | (refine quiet_mem (f := 43) (args := [chS c (.rs 0 _ _), chS c (.rs 0 _ _)]) (V := .bool true) ?_ ?_; exact fun ρ w h => (by have := chSame_any c c _ _ w (sl_rs h (i := 0) rfl (Nat.le_refl _) h1 h2) (sl_rs h (i := 0) rfl (Nat.le_refl _) h1 h2) (by omega); rw [sameCh_refl'] at this; exact this))
      | (refine seg_mem (f := 43) (args := [chS c (.rs 0 _ _), chS c (.rs 0 _ _)]) (V := .bool true) ?_ ?_; exact fun ρ w h => (by have := chSame_any c c _ _ w (sl_rs h (i := 0) rfl (Nat.le_refl _) h1 h2) (sl_rs h (i := 0) rfl (Nat.le_refl _) h1 h2) (by omega); rw [sameCh_refl'] at this; exact this))
      | (refine call_mem (f := 32) (args := []) (V := .bool true) ?_ ?_; exact fun ρ w h => linked_any w)
      | (refine quiet_mem (f := 32) (args := []) (V := .bool true) ?_ ?_; exact fun ρ w h => linked_any w)
      | (refine seg_mem (f := 32) (args := []) (V := .bool true) ?_ ?_; exact fun ρ w h => linked_any w)
      | refine Need.go (by first | omega | decide | (simp <;> omega) | fail) ?_
      | refine Need.go (by first | (simp [Value.oneCell'] <;> omega) | fail) ?_
      | refine Need.go ⟨rfl, by omega, getD_one rfl rfl⟩ ?_
      | refine Need.go ⟨rfl, by omega, fun _ _ _ _ => rfl⟩ ?_
      | refine Br.both (fun h => ?_) (fun h => ?_))
  all_goals (conv => whnf)
  all_goals first
    | exact ret_pure (fun _ => rfl)
    | (refine ⟨k + 1, ⟨by omega, by omega⟩, by omega, ?_⟩
       (conv => whnf)
       refine ⟨[some 0, some 1, some 2, some 3, some 4, some 5], by decide, ?_, ?_⟩
       all_goals repeat' (first | exact trivial | exact .inl ⟨rfl, rfl⟩ | rfl | exact .inr ⟨_, rfl, rfl, rfl⟩ | exact ⟨_, rfl, trivial⟩ | exact ⟨_, rfl, rfl⟩ | exact ⟨_, rfl, ⟨rfl, rfl, rfl⟩, fun _ _ _ _ => rfl⟩ | refine ⟨_, rfl, rfl, ?_⟩ | refine ⟨_, rfl, ⟨rfl, rfl, rfl⟩, ?_⟩ | refine And.intro ?_ ?_))
theorem walk (w : World) (n0 : Int) (_ : (Lit.int .i64 n0).wf = true) (a : Option Addr) (n c : Nat) (hn : n ≤ c) (hc : c ≤ maxLen) (hr : RowsAt [intL .i64, intL .i64] w a n) (n2 : Int) (_ : (Lit.int .i64 n2).wf = true) (m0 : Int) (_ : (Lit.int .i64 m0).wf = true) (a2 : Option Addr) (k c2 : Nat) (hn2 : k ≤ c2) (hc2 : c2 ≤ maxLen) (hr2 : RowsAt [intL .i64, intL .i64] w a2 k) (m2 : Int) (_ : (Lit.int .i64 m2).wf = true) (n3 : Int) (_ : (Lit.int .i64 n3).wf = true) :
    Calls Try.prog 10 #[.agg #[.int .i64 n0, .slice a n c, .int .i64 n2], .agg #[.int .i64 m0, .slice a2 k c2, .int .i64 m2], .int .i64 n3] w fun e w' => e = .returned (.bool true) ∧ Below w.heap.size w w' := by
  obtain ⟨zs, rfl, hz⟩ := rows_mems hr
  obtain ⟨ys, rfl, hy⟩ := rows_mems hr2
  exact (core ⟨n0, zs, n2⟩ ⟨m0, ys, m2⟩ _ _ n3 w ⟨a, c, rfl, hn, hc, hz⟩ ⟨a2, c2, rfl, hn2, hc2, hy⟩).mono fun _ _ ⟨h, k⟩ => ⟨h, below_of_only k⟩
end Go.Proofs.Ytcogbepdjegheaa.lawChainsTell
