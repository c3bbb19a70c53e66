/-
  ShotsTell: the walk. No condition.
-/
import Derived.Test.YtfkbodonidkpoaaPU
import Derived.Test.YtfkbodonidkpoaaShLaw2
import Derived.Test.YtfkbodonidkpoaaShR7
import Derived.Test.YtfkbodonidkpoaaShS1
import Derived.Test.YtfkbodonidkpoaaShRows
namespace Go.Proofs.Ytfkbodonidkpoaa.lawShotsTell
open Go.RowKit
set_option maxRecDepth 100000 in
set_option maxHeartbeats 8000000 in
theorem core (s : ShM) (key : List UInt8) (client : Int) (p q : Value) (w : World) (hp : CelSl w p s) (hq : LasSl w q s) : Calls Try.prog 8 #[shV s p q, S key, .int .i64 client] w fun e w' => e = .returned (.bool true) ∧ w.grownBy w' none := by
  obtain ⟨a, cap, rfl, h1, h2, hr⟩ := hp
  obtain ⟨a2, cap2, rfl, h3, h4, hr2⟩ := hq
  refine x_calls tabOK Try.func8 rfl [shS s (.rs 0 s.cells.length cap) (.rs 1 s.lasts.length cap2), .v (S key), .v (.int .i64 client)] _ _ rfl rfl (relR2 hr hr2) ?_
  rcases hg : greatS s with _ | _
  case true =>
    repeat' ((conv => whnf); first
        | refine CutN.plain ?_
        | with_reducible refine Br.tt ?_
        | with_reducible refine Br.ff ?_
        | with_reducible refine Br.nt ?_
        | with_reducible refine Br.nf ?_
        | with_reducible refine Br.eeI ?_
        | with_reducible refine Br.nnI ?_
        | refine Br.yes (by decide) ?_
        | refine Br.no (by decide) ?_
        | refine Need.go rfl ?_
        | refine QuiD.quiet (by kernel_rfl) ?_
        | refine IdxN.lit ?_
        | refine draw_go tabOK (by kernel_rfl) ?_
        | refine Need.go ⟨rfl, rfl⟩ ?_
        | refine Need.go ⟨⟨rfl, rfl, rfl⟩, rfl⟩ ?_
        | (with_reducible refine Br.dec (fun h => ?_) (fun h => ?_); first | (rotate_left; exfalso; omega; clear h) | (exfalso; omega; clear h) | skip)
        | (with_reducible refine Br.eqI (fun h => ?_) (fun h => ?_); first | (rotate_left; exfalso; omega; clear h) | (exfalso; omega; clear h) | skip)
        | (with_reducible refine Br.neI (fun h => ?_) (fun h => ?_); first | (rotate_left; exfalso; omega; clear h) | (exfalso; omega; clear h) | skip)
        | (with_reducible refine Br.eqS (fun h => ?_) (fun h => ?_); first | (rotate_left; exfalso; omega; clear h) | (exfalso; omega; clear h) | skip)
        | (with_reducible refine Br.neS (fun h => ?_) (fun h => ?_); first | (rotate_left; exfalso; omega; clear h) | (exfalso; omega; clear h) | skip)
        | (with_reducible refine Br.nd (fun h => ?_) (fun h => ?_); first | (rotate_left; exfalso; omega; clear h) | (exfalso; omega; clear h) | skip)
        | refine Ar.i64 (by omega) (by omega) ?_
        | (refine call_mem (f := 38) (args := [shS s (.rs 0 s.cells.length cap) (.rs 1 s.lasts.length cap2)]) (V := .bool true) ?_ ?_; exact fun ρ w h => (by have := great27_any s _ _ w (sl_rs h (i := 0) rfl (Nat.le_refl _) h1 h2) (sl_rs h (i := 1) rfl (Nat.le_refl _) h3 h4); rw [hg] at this; exact this))
        | (refine quiet_mem (f := 38) (args := [shS s (.rs 0 s.cells.length cap) (.rs 1 s.lasts.length cap2)]) (V := .bool true) ?_ ?_; exact fun ρ w h => (by have := great27_any s _ _ w (sl_rs h (i := 0) rfl (Nat.le_refl _) h1 h2) (sl_rs h (i := 1) rfl (Nat.le_refl _) h3 h4); rw [hg] at this; exact this))
        | (refine seg_mem (f := 38) (args := [shS s (.rs 0 s.cells.length cap) (.rs 1 s.lasts.length cap2)]) (V := .bool true) ?_ ?_; exact fun ρ w h => (by have := great27_any s _ _ w (sl_rs h (i := 0) rfl (Nat.le_refl _) h1 h2) (sl_rs h (i := 1) rfl (Nat.le_refl _) h3 h4); rw [hg] at this; exact this))
        | (refine call_mem (f := 39) (args := []) (V := .bool true) ?_ ?_; exact fun ρ w h => shot27_any w)
        | (refine quiet_mem (f := 39) (args := []) (V := .bool true) ?_ ?_; exact fun ρ w h => shot27_any w)
        | (refine seg_mem (f := 39) (args := []) (V := .bool true) ?_ ?_; exact fun ρ w h => shot27_any w)
        | refine Need.go (by first | omega | decide | (simp <;> omega) | fail) ?_
        | refine Need.go (by first | (simp [Value.oneCell'] <;> omega) | fail) ?_
        | refine Need.go ⟨rfl, by omega, getD_one rfl rfl⟩ ?_
        | refine Need.go ⟨rfl, by omega, fun _ _ _ _ => rfl⟩ ?_
        | refine Br.both (fun h => ?_) (fun h => ?_))
    all_goals (conv => whnf)
    all_goals exact ret_pure (fun _ => rfl)
  obtain ⟨hg1, hg2⟩ := greatS_small hg
  have hsm : SmallS s := ⟨by omega, by omega⟩
  by_cases hkl : 100 < key.length
  · repeat' ((conv => whnf); first
      | refine CutN.plain ?_
      | with_reducible refine Br.tt ?_
      | with_reducible refine Br.ff ?_
      | with_reducible refine Br.nt ?_
      | with_reducible refine Br.nf ?_
      | with_reducible refine Br.eeI ?_
      | with_reducible refine Br.nnI ?_
      | refine Br.yes (by decide) ?_
      | refine Br.no (by decide) ?_
      | refine Need.go rfl ?_
      | refine QuiD.quiet (by kernel_rfl) ?_
      | refine IdxN.lit ?_
      | refine draw_go tabOK (by kernel_rfl) ?_
      | refine Need.go ⟨rfl, rfl⟩ ?_
      | refine Need.go ⟨⟨rfl, rfl, rfl⟩, rfl⟩ ?_
      | (with_reducible refine Br.dec (fun h => ?_) (fun h => ?_); first | (rotate_left; exfalso; omega; clear h) | (exfalso; omega; clear h) | skip)
      | (with_reducible refine Br.eqI (fun h => ?_) (fun h => ?_); first | (rotate_left; exfalso; omega; clear h) | (exfalso; omega; clear h) | skip)
      | (with_reducible refine Br.neI (fun h => ?_) (fun h => ?_); first | (rotate_left; exfalso; omega; clear h) | (exfalso; omega; clear h) | skip)
      | (with_reducible refine Br.eqS (fun h => ?_) (fun h => ?_); first | (rotate_left; exfalso; omega; clear h) | (exfalso; omega; clear h) | skip)
      | (with_reducible refine Br.neS (fun h => ?_) (fun h => ?_); first | (rotate_left; exfalso; omega; clear h) | (exfalso; omega; clear h) | skip)
      | (with_reducible refine Br.nd (fun h => ?_) (fun h => ?_); first | (rotate_left; exfalso; omega; clear h) | (exfalso; omega; clear h) | skip)
      | refine Ar.i64 (by omega) (by omega) ?_
      | (refine call_mem (f := 38) (args := [shS s (.rs 0 s.cells.length cap) (.rs 1 s.lasts.length cap2)]) (V := .bool false) ?_ ?_; exact fun ρ w h => (by have := great27_any s _ _ w (sl_rs h (i := 0) rfl (Nat.le_refl _) h1 h2) (sl_rs h (i := 1) rfl (Nat.le_refl _) h3 h4); rw [hg] at this; exact this))
      | (refine quiet_mem (f := 38) (args := [shS s (.rs 0 s.cells.length cap) (.rs 1 s.lasts.length cap2)]) (V := .bool false) ?_ ?_; exact fun ρ w h => (by have := great27_any s _ _ w (sl_rs h (i := 0) rfl (Nat.le_refl _) h1 h2) (sl_rs h (i := 1) rfl (Nat.le_refl _) h3 h4); rw [hg] at this; exact this))
      | (refine seg_mem (f := 38) (args := [shS s (.rs 0 s.cells.length cap) (.rs 1 s.lasts.length cap2)]) (V := .bool false) ?_ ?_; exact fun ρ w h => (by have := great27_any s _ _ w (sl_rs h (i := 0) rfl (Nat.le_refl _) h1 h2) (sl_rs h (i := 1) rfl (Nat.le_refl _) h3 h4); rw [hg] at this; exact this))
      | (refine call_mem (f := 39) (args := []) (V := .bool true) ?_ ?_; exact fun ρ w h => shot27_any w)
      | (refine quiet_mem (f := 39) (args := []) (V := .bool true) ?_ ?_; exact fun ρ w h => shot27_any w)
      | (refine seg_mem (f := 39) (args := []) (V := .bool true) ?_ ?_; exact fun ρ w h => shot27_any w)
      | refine Need.go (by first | omega | decide | (simp <;> omega) | fail) ?_
      | refine Need.go (by first | (simp [Value.oneCell'] <;> omega) | fail) ?_
      | refine Need.go ⟨rfl, by omega, getD_one rfl rfl⟩ ?_
      | refine Need.go ⟨rfl, by omega, fun _ _ _ _ => rfl⟩ ?_
      | refine Br.both (fun h => ?_) (fun h => ?_))
    all_goals (conv => whnf)
    all_goals exact ret_pure (fun _ => rfl)
  obtain ⟨⟨pb, pe⟩, hput⟩ : ∃ z, putS s = z := ⟨_, rfl⟩
  obtain ⟨ck, hck⟩ : ∃ z, erI (chkS s) = z := ⟨_, rfl⟩
  obtain ⟨r, hlk⟩ : ∃ z, lookS s key = z := ⟨_, rfl⟩
  repeat' ((conv => whnf); first
      | refine QuiD.draw (draw_go tabOK (by kernel_rfl) ?_)
      | refine Br.no (by first | (simp; done) | fail) ?_
      | refine CutN.plain ?_
      | with_reducible refine Br.tt ?_
      | with_reducible refine Br.ff ?_
      | with_reducible refine Br.nt ?_
      | with_reducible refine Br.nf ?_
      | with_reducible refine Br.eeI ?_
      | with_reducible refine Br.nnI ?_
      | refine Br.yes (by decide) ?_
      | refine Br.no (by decide) ?_
      | refine Need.go rfl ?_
      | refine QuiD.quiet (by kernel_rfl) ?_
      | refine IdxN.lit ?_
      | refine draw_go tabOK (by kernel_rfl) ?_
      | refine Need.go ⟨rfl, rfl⟩ ?_
      | refine Need.go ⟨⟨rfl, rfl, rfl⟩, rfl⟩ ?_
      | (with_reducible refine Br.dec (fun h => ?_) (fun h => ?_); first | (rotate_left; exfalso; omega; clear h) | (exfalso; omega; clear h) | skip)
      | (with_reducible refine Br.eqI (fun h => ?_) (fun h => ?_); first | (rotate_left; exfalso; omega; clear h) | (exfalso; omega; clear h) | skip)
      | (with_reducible refine Br.neI (fun h => ?_) (fun h => ?_); first | (rotate_left; exfalso; omega; clear h) | (exfalso; omega; clear h) | skip)
      | (with_reducible refine Br.eqS (fun h => ?_) (fun h => ?_); first | (rotate_left; exfalso; omega; clear h) | (exfalso; omega; clear h) | skip)
      | (with_reducible refine Br.neS (fun h => ?_) (fun h => ?_); first | (rotate_left; exfalso; omega; clear h) | (exfalso; omega; clear h) | skip)
      | (with_reducible refine Br.nd (fun h => ?_) (fun h => ?_); first | (rotate_left; exfalso; omega; clear h) | (exfalso; omega; clear h) | skip)
      | refine Ar.i64 (by omega) (by omega) ?_
      | (refine call_mem (f := 38) (args := [shS s (.rs 0 s.cells.length cap) (.rs 1 s.lasts.length cap2)]) (V := .bool false) ?_ ?_; exact fun ρ w h => (by have := great27_any s _ _ w (sl_rs h (i := 0) rfl (Nat.le_refl _) h1 h2) (sl_rs h (i := 1) rfl (Nat.le_refl _) h3 h4); rw [hg] at this; exact this))
      | (refine quiet_mem (f := 38) (args := [shS s (.rs 0 s.cells.length cap) (.rs 1 s.lasts.length cap2)]) (V := .bool false) ?_ ?_; exact fun ρ w h => (by have := great27_any s _ _ w (sl_rs h (i := 0) rfl (Nat.le_refl _) h1 h2) (sl_rs h (i := 1) rfl (Nat.le_refl _) h3 h4); rw [hg] at this; exact this))
      | (refine seg_mem (f := 38) (args := [shS s (.rs 0 s.cells.length cap) (.rs 1 s.lasts.length cap2)]) (V := .bool false) ?_ ?_; exact fun ρ w h => (by have := great27_any s _ _ w (sl_rs h (i := 0) rfl (Nat.le_refl _) h1 h2) (sl_rs h (i := 1) rfl (Nat.le_refl _) h3 h4); rw [hg] at this; exact this))
      | (refine docS_n s (.rs 0 s.cells.length cap) (.rs 1 s.lasts.length cap2) ?_ ?_ hsm ?_; exact fun ρ w h => sl_rs h (i := 0) rfl (Nat.le_refl _) h1 h2; exact fun ρ w h => sl_rs h (i := 1) rfl (Nat.le_refl _) h3 h4)
      | (refine call_mem (f := 49) (args := [shS s (.rs 0 s.cells.length cap) (.rs 1 s.lasts.length cap2)]) (V := .tuple #[S pb, .int .i64 pe]) ?_ ?_; exact fun ρ w h => (by have := shPut_any s _ _ w (sl_rs h (i := 0) rfl (Nat.le_refl _) h1 h2) (sl_rs h (i := 1) rfl (Nat.le_refl _) h3 h4) hsm; rw [hput] at this; exact this))
      | (refine quiet_mem (f := 49) (args := [shS s (.rs 0 s.cells.length cap) (.rs 1 s.lasts.length cap2)]) (V := .tuple #[S pb, .int .i64 pe]) ?_ ?_; exact fun ρ w h => (by have := shPut_any s _ _ w (sl_rs h (i := 0) rfl (Nat.le_refl _) h1 h2) (sl_rs h (i := 1) rfl (Nat.le_refl _) h3 h4) hsm; rw [hput] at this; exact this))
      | (refine seg_mem (f := 49) (args := [shS s (.rs 0 s.cells.length cap) (.rs 1 s.lasts.length cap2)]) (V := .tuple #[S pb, .int .i64 pe]) ?_ ?_; exact fun ρ w h => (by have := shPut_any s _ _ w (sl_rs h (i := 0) rfl (Nat.le_refl _) h1 h2) (sl_rs h (i := 1) rfl (Nat.le_refl _) h3 h4) hsm; rw [hput] at this; exact this))
      | (refine call_mem (f := 50) (args := [shS s (.os 3 s.cells.length) (.os 4 s.lasts.length)]) (V := .tuple #[S pb, .int .i64 pe]) ?_ ?_; exact fun ρ w h => (by have := rshPut_any s _ _ w (sl_os h (i := 3) rfl) (sl_os h (i := 4) rfl) hsm; rw [hput] at this; exact this))
      | (refine quiet_mem (f := 50) (args := [shS s (.os 3 s.cells.length) (.os 4 s.lasts.length)]) (V := .tuple #[S pb, .int .i64 pe]) ?_ ?_; exact fun ρ w h => (by have := rshPut_any s _ _ w (sl_os h (i := 3) rfl) (sl_os h (i := 4) rfl) hsm; rw [hput] at this; exact this))
      | (refine seg_mem (f := 50) (args := [shS s (.os 3 s.cells.length) (.os 4 s.lasts.length)]) (V := .tuple #[S pb, .int .i64 pe]) ?_ ?_; exact fun ρ w h => (by have := rshPut_any s _ _ w (sl_os h (i := 3) rfl) (sl_os h (i := 4) rfl) hsm; rw [hput] at this; exact this))
      | (refine call_mem (f := 51) (args := [shS s (.rs 0 s.cells.length cap) (.rs 1 s.lasts.length cap2)]) (V := .int .i64 ck) ?_ ?_; exact fun ρ w h => (by have := shCheck_any s _ _ w (sl_rs h (i := 0) rfl (Nat.le_refl _) h1 h2) (sl_rs h (i := 1) rfl (Nat.le_refl _) h3 h4) hsm; rw [hck] at this; exact this))
      | (refine quiet_mem (f := 51) (args := [shS s (.rs 0 s.cells.length cap) (.rs 1 s.lasts.length cap2)]) (V := .int .i64 ck) ?_ ?_; exact fun ρ w h => (by have := shCheck_any s _ _ w (sl_rs h (i := 0) rfl (Nat.le_refl _) h1 h2) (sl_rs h (i := 1) rfl (Nat.le_refl _) h3 h4) hsm; rw [hck] at this; exact this))
      | (refine seg_mem (f := 51) (args := [shS s (.rs 0 s.cells.length cap) (.rs 1 s.lasts.length cap2)]) (V := .int .i64 ck) ?_ ?_; exact fun ρ w h => (by have := shCheck_any s _ _ w (sl_rs h (i := 0) rfl (Nat.le_refl _) h1 h2) (sl_rs h (i := 1) rfl (Nat.le_refl _) h3 h4) hsm; rw [hck] at this; exact this))
      | (refine call_mem (f := 52) (args := [shS s (.os 3 s.cells.length) (.os 4 s.lasts.length)]) (V := .int .i64 ck) ?_ ?_; exact fun ρ w h => (by have := rshCheck_any s _ _ w (sl_os h (i := 3) rfl) (sl_os h (i := 4) rfl) hsm; rw [hck] at this; exact this))
      | (refine quiet_mem (f := 52) (args := [shS s (.os 3 s.cells.length) (.os 4 s.lasts.length)]) (V := .int .i64 ck) ?_ ?_; exact fun ρ w h => (by have := rshCheck_any s _ _ w (sl_os h (i := 3) rfl) (sl_os h (i := 4) rfl) hsm; rw [hck] at this; exact this))
      | (refine seg_mem (f := 52) (args := [shS s (.os 3 s.cells.length) (.os 4 s.lasts.length)]) (V := .int .i64 ck) ?_ ?_; exact fun ρ w h => (by have := rshCheck_any s _ _ w (sl_os h (i := 3) rfl) (sl_os h (i := 4) rfl) hsm; rw [hck] at this; exact this))
      | (refine call_sv (f := 53) (args := [shS s (.rs 0 s.cells.length cap) (.rs 1 s.lasts.length cap2), .v (S key)]) (s := .agg [.v (.int .i64 r.code), .v (S r.value), .v (.int .i64 r.version), .v (.int .i64 r.pos)]) (fun _ => rfl) ?_ ?_; exact fun ρ w h => (by have := shLook_any s key _ _ w (sl_rs h (i := 0) rfl (Nat.le_refl _) h1 h2) (sl_rs h (i := 1) rfl (Nat.le_refl _) h3 h4) hsm; rw [hlk] at this; exact this))
      | (refine seg_sv (f := 53) (args := [shS s (.rs 0 s.cells.length cap) (.rs 1 s.lasts.length cap2), .v (S key)]) (s := .agg [.v (.int .i64 r.code), .v (S r.value), .v (.int .i64 r.version), .v (.int .i64 r.pos)]) (fun _ => rfl) ?_ ?_; exact fun ρ w h => (by have := shLook_any s key _ _ w (sl_rs h (i := 0) rfl (Nat.le_refl _) h1 h2) (sl_rs h (i := 1) rfl (Nat.le_refl _) h3 h4) hsm; rw [hlk] at this; exact this))
      | (refine call_sv (f := 54) (args := [shS s (.os 3 s.cells.length) (.os 4 s.lasts.length), .v (S key)]) (s := .agg [.v (.int .i64 r.code), .v (S r.value), .v (.int .i64 r.version), .v (.int .i64 r.pos)]) (fun _ => rfl) ?_ ?_; exact fun ρ w h => (by have := rshLook_any s key _ _ w (sl_os h (i := 3) rfl) (sl_os h (i := 4) rfl) hsm; rw [hlk] at this; exact this))
      | (refine seg_sv (f := 54) (args := [shS s (.os 3 s.cells.length) (.os 4 s.lasts.length), .v (S key)]) (s := .agg [.v (.int .i64 r.code), .v (S r.value), .v (.int .i64 r.version), .v (.int .i64 r.pos)]) (fun _ => rfl) ?_ ?_; exact fun ρ w h => (by have := rshLook_any s key _ _ w (sl_os h (i := 3) rfl) (sl_os h (i := 4) rfl) hsm; rw [hlk] at this; exact this))
      | refine Need.go (by first | omega | decide | (simp <;> omega) | fail) ?_
      | refine Need.go (by first | (simp [Value.oneCell'] <;> omega) | fail) ?_
      | refine Need.go ⟨rfl, by omega, getD_one rfl rfl⟩ ?_
      | refine Need.go ⟨rfl, by omega, fun _ _ _ _ => rfl⟩ ?_
      | refine Br.both (fun h => ?_) (fun h => ?_))
  all_goals (conv => whnf)
  refine loop_up 63 (fun k : Nat => k ≤ 9) (fun k => 9 - k) (fun k => [(12, .v (.int .i64 ((k : Int) - 1))), (13, .junk), (14, .junk), (15, .junk), (16, .junk), (17, .junk)]) (fun _ => []) (fun _ => []) 0 (Nat.zero_le _) (by
    (conv => whnf)
    refine ⟨[some 0, some 1, some 2, some 3, some 4, some 5], by decide, ?_, ?_⟩
    all_goals repeat' (first | exact leT_junk rfl | refine And.intro ?_ ?_ | exact trivial | exact .inl ⟨rfl, rfl⟩ | rfl | exact .inr ⟨_, rfl, rfl, rfl⟩ | exact ⟨_, rfl, trivial⟩ | exact ⟨_, rfl, rfl⟩ | exact ⟨_, rfl, ⟨rfl, rfl, rfl⟩, fun _ _ _ _ => rfl⟩ | exact ⟨_, rfl, ⟨rfl, rfl, .inl rfl⟩, rfl⟩ | exact ⟨_, rfl, ⟨rfl, rfl, .inr rfl⟩, rfl⟩ | exact ⟨_, rfl, ⟨rfl, rfl, rfl, rfl, rfl⟩, rfl⟩ | exact ⟨_, rfl, ⟨rfl, rfl⟩, fun _ => Iff.rfl⟩ | refine ⟨_, rfl, rfl, ?_⟩ | refine ⟨_, rfl, ⟨rfl, rfl, rfl⟩, ?_⟩)) (fun k hk => ?_)
  by_cases hlt : k < 9
  · obtain ⟨c, hc⟩ : ∃ c, (if (k : Int) - 1 = 7 then client else (k : Int) - 1) = c := ⟨_, rfl⟩
    obtain ⟨x, hx⟩ : ∃ z, (findS s c).getD laZ = z := ⟨_, rfl⟩
    obtain ⟨ok, hok⟩ : ∃ z, (findS s c).isSome = z := ⟨_, rfl⟩
    by_cases h7 : (k : Int) - 1 = 7
    · rw [if_pos h7] at hc
      subst hc
      repeat' ((conv => whnf); first
          | refine QuiD.draw (draw_go tabOK (by kernel_rfl) ?_)
          | refine Br.no (by first | (simp; done) | fail) ?_
          | refine CutN.plain ?_
          | with_reducible refine Br.tt ?_
          | with_reducible refine Br.ff ?_
          | with_reducible refine Br.nt ?_
          | with_reducible refine Br.nf ?_
          | with_reducible refine Br.eeI ?_
          | with_reducible refine Br.nnI ?_
          | refine Br.yes (by decide) ?_
          | refine Br.no (by decide) ?_
          | refine Need.go rfl ?_
          | refine QuiD.quiet (by kernel_rfl) ?_
          | refine IdxN.lit ?_
          | refine draw_go tabOK (by kernel_rfl) ?_
          | refine Need.go ⟨rfl, rfl⟩ ?_
          | refine Need.go ⟨⟨rfl, rfl, rfl⟩, rfl⟩ ?_
          | (with_reducible refine Br.dec (fun h => ?_) (fun h => ?_); first | (rotate_left; exfalso; omega; clear h) | (exfalso; omega; clear h) | skip)
          | (with_reducible refine Br.eqI (fun h => ?_) (fun h => ?_); first | (rotate_left; exfalso; omega; clear h) | (exfalso; omega; clear h) | skip)
          | (with_reducible refine Br.neI (fun h => ?_) (fun h => ?_); first | (rotate_left; exfalso; omega; clear h) | (exfalso; omega; clear h) | skip)
          | (with_reducible refine Br.eqS (fun h => ?_) (fun h => ?_); first | (rotate_left; exfalso; omega; clear h) | (exfalso; omega; clear h) | skip)
          | (with_reducible refine Br.neS (fun h => ?_) (fun h => ?_); first | (rotate_left; exfalso; omega; clear h) | (exfalso; omega; clear h) | skip)
          | (with_reducible refine Br.nd (fun h => ?_) (fun h => ?_); first | (rotate_left; exfalso; omega; clear h) | (exfalso; omega; clear h) | skip)
          | refine Ar.i64 (by omega) (by omega) ?_
          | (refine call_sv (f := 55) (args := [shS s (.rs 0 s.cells.length cap) (.rs 1 s.lasts.length cap2), .v (.int .i64 (client))]) (s := .tup [.agg [.v (.int .i64 x.client), .v (.int .i64 x.seq), .v (.int .i64 x.res.code), .v (S x.res.value), .v (.int .i64 x.res.version), .v (.int .i64 x.res.pos)], .v (.bool ok)]) (fun _ => rfl) ?_ ?_; exact fun ρ w h => (by have := shFind_any s (client) _ _ w (sl_rs h (i := 0) rfl (Nat.le_refl _) h1 h2) (sl_rs h (i := 1) rfl (Nat.le_refl _) h3 h4) hsm; rw [hx, hok] at this; exact this))
          | (refine seg_sv (f := 55) (args := [shS s (.rs 0 s.cells.length cap) (.rs 1 s.lasts.length cap2), .v (.int .i64 (client))]) (s := .tup [.agg [.v (.int .i64 x.client), .v (.int .i64 x.seq), .v (.int .i64 x.res.code), .v (S x.res.value), .v (.int .i64 x.res.version), .v (.int .i64 x.res.pos)], .v (.bool ok)]) (fun _ => rfl) ?_ ?_; exact fun ρ w h => (by have := shFind_any s (client) _ _ w (sl_rs h (i := 0) rfl (Nat.le_refl _) h1 h2) (sl_rs h (i := 1) rfl (Nat.le_refl _) h3 h4) hsm; rw [hx, hok] at this; exact this))
          | (refine call_sv (f := 56) (args := [shS s (.os 3 s.cells.length) (.os 4 s.lasts.length), .v (.int .i64 (client))]) (s := .tup [.agg [.v (.int .i64 x.client), .v (.int .i64 x.seq), .v (.int .i64 x.res.code), .v (S x.res.value), .v (.int .i64 x.res.version), .v (.int .i64 x.res.pos)], .v (.bool ok)]) (fun _ => rfl) ?_ ?_; exact fun ρ w h => (by have := rshFind_any s (client) _ _ w (sl_os h (i := 3) rfl) (sl_os h (i := 4) rfl) hsm; rw [hx, hok] at this; exact this))
          | (refine seg_sv (f := 56) (args := [shS s (.os 3 s.cells.length) (.os 4 s.lasts.length), .v (.int .i64 (client))]) (s := .tup [.agg [.v (.int .i64 x.client), .v (.int .i64 x.seq), .v (.int .i64 x.res.code), .v (S x.res.value), .v (.int .i64 x.res.version), .v (.int .i64 x.res.pos)], .v (.bool ok)]) (fun _ => rfl) ?_ ?_; exact fun ρ w h => (by have := rshFind_any s (client) _ _ w (sl_os h (i := 3) rfl) (sl_os h (i := 4) rfl) hsm; rw [hx, hok] at this; exact this))
          | refine Need.go (by first | omega | decide | (simp <;> omega) | fail) ?_
          | refine Need.go (by first | (simp [Value.oneCell'] <;> omega) | fail) ?_
          | refine Need.go ⟨rfl, by omega, getD_one rfl rfl⟩ ?_
          | refine Need.go ⟨rfl, by omega, fun _ _ _ _ => rfl⟩ ?_
          | refine Br.both (fun h => ?_) (fun h => ?_))
      all_goals (conv => whnf)
      refine ⟨k + 1, by omega, by omega, ?_⟩
      (conv => whnf)
      refine ⟨[some 0, some 1, some 2, some 3, some 4, some 5], by decide, ?_, ?_⟩
      all_goals repeat' (first | first | omega | exact congrArg (Value.int .i64) (by omega) | exact congrArg (fun z => SV.v (.int .i64 z)) (by omega) | exact .inl ⟨rfl, congrArg (fun z => SV.v (.int .i64 z)) (by omega)⟩ | exact leT_junk rfl | refine And.intro ?_ ?_ | exact trivial | exact .inl ⟨rfl, rfl⟩ | rfl | exact .inr ⟨_, rfl, rfl, rfl⟩ | exact ⟨_, rfl, trivial⟩ | exact ⟨_, rfl, rfl⟩ | exact ⟨_, rfl, ⟨rfl, rfl, rfl⟩, fun _ _ _ _ => rfl⟩ | exact ⟨_, rfl, ⟨rfl, rfl, .inl rfl⟩, rfl⟩ | exact ⟨_, rfl, ⟨rfl, rfl, .inr rfl⟩, rfl⟩ | exact ⟨_, rfl, ⟨rfl, rfl, rfl, rfl, rfl⟩, rfl⟩ | exact ⟨_, rfl, ⟨rfl, rfl⟩, fun _ => Iff.rfl⟩ | refine ⟨_, rfl, rfl, ?_⟩ | refine ⟨_, rfl, ⟨rfl, rfl, rfl⟩, ?_⟩)
    · rw [if_neg h7] at hc
      subst hc
      repeat' ((conv => whnf); first
          | refine QuiD.draw (draw_go tabOK (by kernel_rfl) ?_)
          | refine Br.no (by first | (simp; done) | fail) ?_
          | refine CutN.plain ?_
          | with_reducible refine Br.tt ?_
          | with_reducible refine Br.ff ?_
          | with_reducible refine Br.nt ?_
          | with_reducible refine Br.nf ?_
          | with_reducible refine Br.eeI ?_
          | with_reducible refine Br.nnI ?_
          | refine Br.yes (by decide) ?_
          | refine Br.no (by decide) ?_
          | refine Need.go rfl ?_
          | refine QuiD.quiet (by kernel_rfl) ?_
          | refine IdxN.lit ?_
          | refine draw_go tabOK (by kernel_rfl) ?_
          | refine Need.go ⟨rfl, rfl⟩ ?_
          | refine Need.go ⟨⟨rfl, rfl, rfl⟩, rfl⟩ ?_
          | (with_reducible refine Br.dec (fun h => ?_) (fun h => ?_); first | (rotate_left; exfalso; omega; clear h) | (exfalso; omega; clear h) | skip)
          | (with_reducible refine Br.eqI (fun h => ?_) (fun h => ?_); first | (rotate_left; exfalso; omega; clear h) | (exfalso; omega; clear h) | skip)
          | (with_reducible refine Br.neI (fun h => ?_) (fun h => ?_); first | (rotate_left; exfalso; omega; clear h) | (exfalso; omega; clear h) | skip)
          | (with_reducible refine Br.eqS (fun h => ?_) (fun h => ?_); first | (rotate_left; exfalso; omega; clear h) | (exfalso; omega; clear h) | skip)
          | (with_reducible refine Br.neS (fun h => ?_) (fun h => ?_); first | (rotate_left; exfalso; omega; clear h) | (exfalso; omega; clear h) | skip)
          | (with_reducible refine Br.nd (fun h => ?_) (fun h => ?_); first | (rotate_left; exfalso; omega; clear h) | (exfalso; omega; clear h) | skip)
          | refine Ar.i64 (by omega) (by omega) ?_
          | (refine call_sv (f := 55) (args := [shS s (.rs 0 s.cells.length cap) (.rs 1 s.lasts.length cap2), .v (.int .i64 ((k : Int) - 1))]) (s := .tup [.agg [.v (.int .i64 x.client), .v (.int .i64 x.seq), .v (.int .i64 x.res.code), .v (S x.res.value), .v (.int .i64 x.res.version), .v (.int .i64 x.res.pos)], .v (.bool ok)]) (fun _ => rfl) ?_ ?_; exact fun ρ w h => (by have := shFind_any s ((k : Int) - 1) _ _ w (sl_rs h (i := 0) rfl (Nat.le_refl _) h1 h2) (sl_rs h (i := 1) rfl (Nat.le_refl _) h3 h4) hsm; rw [hx, hok] at this; exact this))
          | (refine seg_sv (f := 55) (args := [shS s (.rs 0 s.cells.length cap) (.rs 1 s.lasts.length cap2), .v (.int .i64 ((k : Int) - 1))]) (s := .tup [.agg [.v (.int .i64 x.client), .v (.int .i64 x.seq), .v (.int .i64 x.res.code), .v (S x.res.value), .v (.int .i64 x.res.version), .v (.int .i64 x.res.pos)], .v (.bool ok)]) (fun _ => rfl) ?_ ?_; exact fun ρ w h => (by have := shFind_any s ((k : Int) - 1) _ _ w (sl_rs h (i := 0) rfl (Nat.le_refl _) h1 h2) (sl_rs h (i := 1) rfl (Nat.le_refl _) h3 h4) hsm; rw [hx, hok] at this; exact this))
          | (refine call_sv (f := 56) (args := [shS s (.os 3 s.cells.length) (.os 4 s.lasts.length), .v (.int .i64 ((k : Int) - 1))]) (s := .tup [.agg [.v (.int .i64 x.client), .v (.int .i64 x.seq), .v (.int .i64 x.res.code), .v (S x.res.value), .v (.int .i64 x.res.version), .v (.int .i64 x.res.pos)], .v (.bool ok)]) (fun _ => rfl) ?_ ?_; exact fun ρ w h => (by have := rshFind_any s ((k : Int) - 1) _ _ w (sl_os h (i := 3) rfl) (sl_os h (i := 4) rfl) hsm; rw [hx, hok] at this; exact this))
          | (refine seg_sv (f := 56) (args := [shS s (.os 3 s.cells.length) (.os 4 s.lasts.length), .v (.int .i64 ((k : Int) - 1))]) (s := .tup [.agg [.v (.int .i64 x.client), .v (.int .i64 x.seq), .v (.int .i64 x.res.code), .v (S x.res.value), .v (.int .i64 x.res.version), .v (.int .i64 x.res.pos)], .v (.bool ok)]) (fun _ => rfl) ?_ ?_; exact fun ρ w h => (by have := rshFind_any s ((k : Int) - 1) _ _ w (sl_os h (i := 3) rfl) (sl_os h (i := 4) rfl) hsm; rw [hx, hok] at this; exact this))
          | refine Need.go (by first | omega | decide | (simp <;> omega) | fail) ?_
          | refine Need.go (by first | (simp [Value.oneCell'] <;> omega) | fail) ?_
          | refine Need.go ⟨rfl, by omega, getD_one rfl rfl⟩ ?_
          | refine Need.go ⟨rfl, by omega, fun _ _ _ _ => rfl⟩ ?_
          | refine Br.both (fun h => ?_) (fun h => ?_))
      all_goals (conv => whnf)
      refine ⟨k + 1, by omega, by omega, ?_⟩
      (conv => whnf)
      refine ⟨[some 0, some 1, some 2, some 3, some 4, some 5], by decide, ?_, ?_⟩
      all_goals repeat' (first | first | omega | exact congrArg (Value.int .i64) (by omega) | exact congrArg (fun z => SV.v (.int .i64 z)) (by omega) | exact .inl ⟨rfl, congrArg (fun z => SV.v (.int .i64 z)) (by omega)⟩ | exact leT_junk rfl | refine And.intro ?_ ?_ | exact trivial | exact .inl ⟨rfl, rfl⟩ | rfl | exact .inr ⟨_, rfl, rfl, rfl⟩ | exact ⟨_, rfl, trivial⟩ | exact ⟨_, rfl, rfl⟩ | exact ⟨_, rfl, ⟨rfl, rfl, rfl⟩, fun _ _ _ _ => rfl⟩ | exact ⟨_, rfl, ⟨rfl, rfl, .inl rfl⟩, rfl⟩ | exact ⟨_, rfl, ⟨rfl, rfl, .inr rfl⟩, rfl⟩ | exact ⟨_, rfl, ⟨rfl, rfl, rfl, rfl, rfl⟩, rfl⟩ | exact ⟨_, rfl, ⟨rfl, rfl⟩, fun _ => Iff.rfl⟩ | refine ⟨_, rfl, rfl, ?_⟩ | refine ⟨_, rfl, ⟨rfl, rfl, rfl⟩, ?_⟩)
  · obtain rfl : k = 9 := by omega
    repeat' ((conv => whnf); first
        | refine CutN.plain ?_
        | with_reducible refine Br.tt ?_
        | with_reducible refine Br.ff ?_
        | with_reducible refine Br.nt ?_
        | with_reducible refine Br.nf ?_
        | with_reducible refine Br.eeI ?_
        | with_reducible refine Br.nnI ?_
        | refine Br.yes (by decide) ?_
        | refine Br.no (by decide) ?_
        | refine Need.go rfl ?_
        | refine QuiD.quiet (by kernel_rfl) ?_
        | refine IdxN.lit ?_
        | refine draw_go tabOK (by kernel_rfl) ?_
        | refine Need.go ⟨rfl, rfl⟩ ?_
        | refine Need.go ⟨⟨rfl, rfl, rfl⟩, rfl⟩ ?_
        | (with_reducible refine Br.dec (fun h => ?_) (fun h => ?_); first | (rotate_left; exfalso; omega; clear h) | (exfalso; omega; clear h) | skip)
        | (with_reducible refine Br.eqI (fun h => ?_) (fun h => ?_); first | (rotate_left; exfalso; omega; clear h) | (exfalso; omega; clear h) | skip)
        | (with_reducible refine Br.neI (fun h => ?_) (fun h => ?_); first | (rotate_left; exfalso; omega; clear h) | (exfalso; omega; clear h) | skip)
        | (with_reducible refine Br.eqS (fun h => ?_) (fun h => ?_); first | (rotate_left; exfalso; omega; clear h) | (exfalso; omega; clear h) | skip)
        | (with_reducible refine Br.neS (fun h => ?_) (fun h => ?_); first | (rotate_left; exfalso; omega; clear h) | (exfalso; omega; clear h) | skip)
        | (with_reducible refine Br.nd (fun h => ?_) (fun h => ?_); first | (rotate_left; exfalso; omega; clear h) | (exfalso; omega; clear h) | skip)
        | refine Ar.i64 (by omega) (by omega) ?_
        | refine Need.go (by first | omega | decide | (simp <;> omega) | fail) ?_
        | refine Need.go (by first | (simp [Value.oneCell'] <;> omega) | fail) ?_
        | refine Need.go ⟨rfl, by omega, getD_one rfl rfl⟩ ?_
        | refine Need.go ⟨rfl, by omega, fun _ _ _ _ => rfl⟩ ?_
        | refine Br.both (fun h => ?_) (fun h => ?_))
    all_goals (conv => whnf)
    refine loop_up 91 (fun k : Nat => k ≤ s.cells.length) (fun k => s.cells.length - k) (fun k => [(18, .v (.int .i64 k))]) (fun _ => []) (fun _ => []) 0 (Nat.zero_le _) (by
      (conv => whnf)
      refine ⟨[some 0, some 1, some 2, some 3, some 4, some 5], by decide, ?_, ?_⟩
      all_goals repeat' (first | exact leT_junk rfl | refine And.intro ?_ ?_ | exact trivial | exact .inl ⟨rfl, rfl⟩ | rfl | exact .inr ⟨_, rfl, rfl, rfl⟩ | exact ⟨_, rfl, trivial⟩ | exact ⟨_, rfl, rfl⟩ | exact ⟨_, rfl, ⟨rfl, rfl, rfl⟩, fun _ _ _ _ => rfl⟩ | exact ⟨_, rfl, ⟨rfl, rfl, .inl rfl⟩, rfl⟩ | exact ⟨_, rfl, ⟨rfl, rfl, .inr rfl⟩, rfl⟩ | exact ⟨_, rfl, ⟨rfl, rfl, rfl, rfl, rfl⟩, rfl⟩ | exact ⟨_, rfl, ⟨rfl, rfl⟩, fun _ => Iff.rfl⟩ | refine ⟨_, rfl, rfl, ?_⟩ | refine ⟨_, rfl, ⟨rfl, rfl, rfl⟩, ?_⟩)) (fun k hk => ?_)
    by_cases hlt : k < s.cells.length
    · obtain ⟨r2, hlk2⟩ : ∃ z, lookS s (s.cells.getD k celZ).1 = z := ⟨_, rfl⟩
      repeat' ((conv => whnf); first
          | refine QuiD.draw (draw_go tabOK (by kernel_rfl) ?_)
          | refine Br.no (by first | (simp; done) | fail) ?_
          | refine CutN.plain ?_
          | with_reducible refine Br.tt ?_
          | with_reducible refine Br.ff ?_
          | with_reducible refine Br.nt ?_
          | with_reducible refine Br.nf ?_
          | with_reducible refine Br.eeI ?_
          | with_reducible refine Br.nnI ?_
          | refine Br.yes (by decide) ?_
          | refine Br.no (by decide) ?_
          | refine Need.go rfl ?_
          | refine QuiD.quiet (by kernel_rfl) ?_
          | refine IdxN.lit ?_
          | refine draw_go tabOK (by kernel_rfl) ?_
          | refine Need.go ⟨rfl, rfl⟩ ?_
          | refine Need.go ⟨⟨rfl, rfl, rfl⟩, rfl⟩ ?_
          | (with_reducible refine Br.dec (fun h => ?_) (fun h => ?_); first | (rotate_left; exfalso; omega; clear h) | (exfalso; omega; clear h) | skip)
          | (with_reducible refine Br.eqI (fun h => ?_) (fun h => ?_); first | (rotate_left; exfalso; omega; clear h) | (exfalso; omega; clear h) | skip)
          | (with_reducible refine Br.neI (fun h => ?_) (fun h => ?_); first | (rotate_left; exfalso; omega; clear h) | (exfalso; omega; clear h) | skip)
          | (with_reducible refine Br.eqS (fun h => ?_) (fun h => ?_); first | (rotate_left; exfalso; omega; clear h) | (exfalso; omega; clear h) | skip)
          | (with_reducible refine Br.neS (fun h => ?_) (fun h => ?_); first | (rotate_left; exfalso; omega; clear h) | (exfalso; omega; clear h) | skip)
          | (with_reducible refine Br.nd (fun h => ?_) (fun h => ?_); first | (rotate_left; exfalso; omega; clear h) | (exfalso; omega; clear h) | skip)
          | refine Ar.i64 (by omega) (by omega) ?_
          | (refine call_sv (f := 53) (args := [shS s (.rs 0 s.cells.length cap) (.rs 1 s.lasts.length cap2), .v (S (s.cells.getD k celZ).1)]) (s := .agg [.v (.int .i64 r2.code), .v (S r2.value), .v (.int .i64 r2.version), .v (.int .i64 r2.pos)]) (fun _ => rfl) ?_ ?_; exact fun ρ w h => (by have := shLook_any s ((s.cells.getD k celZ).1) _ _ w (sl_rs h (i := 0) rfl (Nat.le_refl _) h1 h2) (sl_rs h (i := 1) rfl (Nat.le_refl _) h3 h4) hsm; rw [hlk2] at this; exact this))
          | (refine seg_sv (f := 53) (args := [shS s (.rs 0 s.cells.length cap) (.rs 1 s.lasts.length cap2), .v (S (s.cells.getD k celZ).1)]) (s := .agg [.v (.int .i64 r2.code), .v (S r2.value), .v (.int .i64 r2.version), .v (.int .i64 r2.pos)]) (fun _ => rfl) ?_ ?_; exact fun ρ w h => (by have := shLook_any s ((s.cells.getD k celZ).1) _ _ w (sl_rs h (i := 0) rfl (Nat.le_refl _) h1 h2) (sl_rs h (i := 1) rfl (Nat.le_refl _) h3 h4) hsm; rw [hlk2] at this; exact this))
          | (refine call_sv (f := 54) (args := [shS s (.os 3 s.cells.length) (.os 4 s.lasts.length), .v (S (s.cells.getD k celZ).1)]) (s := .agg [.v (.int .i64 r2.code), .v (S r2.value), .v (.int .i64 r2.version), .v (.int .i64 r2.pos)]) (fun _ => rfl) ?_ ?_; exact fun ρ w h => (by have := rshLook_any s ((s.cells.getD k celZ).1) _ _ w (sl_os h (i := 3) rfl) (sl_os h (i := 4) rfl) hsm; rw [hlk2] at this; exact this))
          | (refine seg_sv (f := 54) (args := [shS s (.os 3 s.cells.length) (.os 4 s.lasts.length), .v (S (s.cells.getD k celZ).1)]) (s := .agg [.v (.int .i64 r2.code), .v (S r2.value), .v (.int .i64 r2.version), .v (.int .i64 r2.pos)]) (fun _ => rfl) ?_ ?_; exact fun ρ w h => (by have := rshLook_any s ((s.cells.getD k celZ).1) _ _ w (sl_os h (i := 3) rfl) (sl_os h (i := 4) rfl) hsm; rw [hlk2] at this; exact this))
          | refine Need.go (by first | omega | decide | (simp <;> omega) | fail) ?_
          | refine Need.go (by first | (simp [Value.oneCell'] <;> omega) | fail) ?_
          | refine Need.go ⟨rfl, by omega, getD_one rfl rfl⟩ ?_
          | refine Need.go ⟨rfl, by omega, fun _ _ _ _ => rfl⟩ ?_
          | refine Br.both (fun h => ?_) (fun h => ?_))
      all_goals (conv => whnf)
      refine ⟨k + 1, by omega, by omega, ?_⟩
      (conv => whnf)
      refine ⟨[some 0, some 1, some 2, some 3, some 4, some 5], by decide, ?_, ?_⟩
      all_goals repeat' (first | exact leT_junk rfl | refine And.intro ?_ ?_ | exact trivial | exact .inl ⟨rfl, rfl⟩ | rfl | exact .inr ⟨_, rfl, rfl, rfl⟩ | exact ⟨_, rfl, trivial⟩ | exact ⟨_, rfl, rfl⟩ | exact ⟨_, rfl, ⟨rfl, rfl, rfl⟩, fun _ _ _ _ => rfl⟩ | exact ⟨_, rfl, ⟨rfl, rfl, .inl rfl⟩, rfl⟩ | exact ⟨_, rfl, ⟨rfl, rfl, .inr rfl⟩, rfl⟩ | exact ⟨_, rfl, ⟨rfl, rfl, rfl, rfl, rfl⟩, rfl⟩ | exact ⟨_, rfl, ⟨rfl, rfl⟩, fun _ => Iff.rfl⟩ | refine ⟨_, rfl, rfl, ?_⟩ | refine ⟨_, rfl, ⟨rfl, rfl, rfl⟩, ?_⟩)
    · obtain rfl : k = s.cells.length := by omega
      repeat' ((conv => whnf); first
          | refine CutN.plain ?_
          | with_reducible refine Br.tt ?_
          | with_reducible refine Br.ff ?_
          | with_reducible refine Br.nt ?_
          | with_reducible refine Br.nf ?_
          | with_reducible refine Br.eeI ?_
          | with_reducible refine Br.nnI ?_
          | refine Br.yes (by decide) ?_
          | refine Br.no (by decide) ?_
          | refine Need.go rfl ?_
          | refine QuiD.quiet (by kernel_rfl) ?_
          | refine IdxN.lit ?_
          | refine draw_go tabOK (by kernel_rfl) ?_
          | refine Need.go ⟨rfl, rfl⟩ ?_
          | refine Need.go ⟨⟨rfl, rfl, rfl⟩, rfl⟩ ?_
          | (with_reducible refine Br.dec (fun h => ?_) (fun h => ?_); first | (rotate_left; exfalso; omega; clear h) | (exfalso; omega; clear h) | skip)
          | (with_reducible refine Br.eqI (fun h => ?_) (fun h => ?_); first | (rotate_left; exfalso; omega; clear h) | (exfalso; omega; clear h) | skip)
          | (with_reducible refine Br.neI (fun h => ?_) (fun h => ?_); first | (rotate_left; exfalso; omega; clear h) | (exfalso; omega; clear h) | skip)
          | (with_reducible refine Br.eqS (fun h => ?_) (fun h => ?_); first | (rotate_left; exfalso; omega; clear h) | (exfalso; omega; clear h) | skip)
          | (with_reducible refine Br.neS (fun h => ?_) (fun h => ?_); first | (rotate_left; exfalso; omega; clear h) | (exfalso; omega; clear h) | skip)
          | (with_reducible refine Br.nd (fun h => ?_) (fun h => ?_); first | (rotate_left; exfalso; omega; clear h) | (exfalso; omega; clear h) | skip)
          | refine Ar.i64 (by omega) (by omega) ?_
          | (refine call_mem (f := 22) (args := [shS s (.rs 0 s.cells.length cap) (.rs 1 s.lasts.length cap2), shS s (.rs 0 s.cells.length cap) (.rs 1 s.lasts.length cap2)]) (V := .bool true) ?_ ?_; exact fun ρ w h => (by have := shSame_any s s _ _ _ _ w (sl_rs h (i := 0) rfl (Nat.le_refl _) h1 h2) (sl_rs h (i := 1) rfl (Nat.le_refl _) h3 h4) (sl_rs h (i := 0) rfl (Nat.le_refl _) h1 h2) (sl_rs h (i := 1) rfl (Nat.le_refl _) h3 h4) hsm; rw [show sameShB s s = true from decide_eq_true rfl] at this; exact this))
          | (refine quiet_mem (f := 22) (args := [shS s (.rs 0 s.cells.length cap) (.rs 1 s.lasts.length cap2), shS s (.rs 0 s.cells.length cap) (.rs 1 s.lasts.length cap2)]) (V := .bool true) ?_ ?_; exact fun ρ w h => (by have := shSame_any s s _ _ _ _ w (sl_rs h (i := 0) rfl (Nat.le_refl _) h1 h2) (sl_rs h (i := 1) rfl (Nat.le_refl _) h3 h4) (sl_rs h (i := 0) rfl (Nat.le_refl _) h1 h2) (sl_rs h (i := 1) rfl (Nat.le_refl _) h3 h4) hsm; rw [show sameShB s s = true from decide_eq_true rfl] at this; exact this))
          | (refine seg_mem (f := 22) (args := [shS s (.rs 0 s.cells.length cap) (.rs 1 s.lasts.length cap2), shS s (.rs 0 s.cells.length cap) (.rs 1 s.lasts.length cap2)]) (V := .bool true) ?_ ?_; exact fun ρ w h => (by have := shSame_any s s _ _ _ _ w (sl_rs h (i := 0) rfl (Nat.le_refl _) h1 h2) (sl_rs h (i := 1) rfl (Nat.le_refl _) h3 h4) (sl_rs h (i := 0) rfl (Nat.le_refl _) h1 h2) (sl_rs h (i := 1) rfl (Nat.le_refl _) h3 h4) hsm; rw [show sameShB s s = true from decide_eq_true rfl] at this; exact this))
          | (refine call_mem (f := 39) (args := []) (V := .bool true) ?_ ?_; exact fun ρ w h => shot27_any w)
          | (refine quiet_mem (f := 39) (args := []) (V := .bool true) ?_ ?_; exact fun ρ w h => shot27_any w)
          | (refine seg_mem (f := 39) (args := []) (V := .bool true) ?_ ?_; exact fun ρ w h => shot27_any w)
          | refine Need.go (by first | omega | decide | (simp <;> omega) | fail) ?_
          | refine Need.go (by first | (simp [Value.oneCell'] <;> omega) | fail) ?_
          | refine Need.go ⟨rfl, by omega, getD_one rfl rfl⟩ ?_
          | refine Need.go ⟨rfl, by omega, fun _ _ _ _ => rfl⟩ ?_
          | refine Br.both (fun h => ?_) (fun h => ?_))
      all_goals (conv => whnf)
      all_goals exact ret_pure (fun _ => rfl)
end Go.Proofs.Ytfkbodonidkpoaa.lawShotsTell
