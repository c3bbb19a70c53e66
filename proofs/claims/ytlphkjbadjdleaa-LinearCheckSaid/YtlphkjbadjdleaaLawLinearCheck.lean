/-
  LinearCheck: the walk. No condition.
-/
import Derived.Test.YtlphkjbadjdleaaLinG
import Derived.Test.YtlphkjbadjdleaaLinR4
namespace Go.Proofs.Ytlphkjbadjdleaa.lawLinearCheck
open Go.Proofs.Ytlphkjbadjdleaa Go.RowKit
theorem rchk_at (l : List RecM) (d : List EntM) (z : Int) (v1 v2 : Value) (w : World) (hv1 : SliceV w v1 14 l.length (recF l)) (hv2 : SliceV w v2 7 d.length (entF' d)) (hl : l.length ≤ 100000) (hd : d.length ≤ 4000) (hz : chkL l d = z) :
    Calls Try.prog 26 #[v1, v2] w fun e w' => e = .returned (.int .i64 z) ∧ w.grownBy w' none := by
  subst hz
  exact rchk_is l d v1 v2 w hv1 hv2 hl hd
set_option maxRecDepth 100000 in
set_option maxHeartbeats 4000000 in
theorem core (l : List RecM) (d : List EntM) (v1 v2 : Value) (w : World) (hv1 : SliceV w v1 14 l.length (recF l)) (hv2 : SliceV w v2 7 d.length (entF' d)) :
    Calls Try.prog 4 #[v1, v2] w fun e w' => e = .returned (.bool true) ∧ w.grownBy w' none := by
  obtain ⟨a, c1, rfl, h1, h2, hr⟩ := hv1
  obtain ⟨a2, c2, rfl, h3, h4, hr2⟩ := hv2
  refine x_calls tabOK Try.func4 rfl [.rs 0 l.length c1, .rs 1 d.length c2] _ _ rfl rfl (relR2 hr hr2) ?_
  obtain ⟨b, hb⟩ : ∃ b, greatL l d 40 = b := ⟨_, rfl⟩
  cases b with
  | true =>
    repeat' ((conv => whnf); first
        | refine CutN.plain ?_
        | with_reducible refine Br.tt ?_
        | with_reducible refine Br.ff ?_
        | with_reducible refine Br.nt ?_
        | with_reducible refine Br.nf ?_
        | with_reducible refine Br.eeI ?_
        | with_reducible refine Br.nnI ?_
        | refine Br.yes (by decide) ?_
        | refine Br.no (by decide) ?_
        | refine AppN.own ?_
        | refine Need.go rfl ?_
        | refine QuiD.quiet (by kernel_rfl) ?_
        | refine IdxN.lit ?_
        | refine draw_go tabOK (by kernel_rfl) ?_
        | refine Need.go ⟨rfl, rfl⟩ ?_
        | refine Need.go ⟨⟨rfl, rfl, rfl⟩, rfl⟩ ?_
        | (with_reducible refine Br.dec (fun h => ?_) (fun h => ?_); first | (rotate_left; exfalso; omega; clear h) | (exfalso; omega; clear h) | skip)
        | (with_reducible refine Br.eqI (fun h => ?_) (fun h => ?_); first | (rotate_left; exfalso; omega; clear h) | (exfalso; omega; clear h) | skip)
        | (with_reducible refine Br.neI (fun h => ?_) (fun h => ?_); first | (rotate_left; exfalso; omega; clear h) | (exfalso; omega; clear h) | skip)
        | (with_reducible refine Br.eqS (fun h => ?_) (fun h => ?_); first | (rotate_left; exfalso; omega; clear h) | (exfalso; omega; clear h) | skip)
        | (with_reducible refine Br.neS (fun h => ?_) (fun h => ?_); first | (rotate_left; exfalso; omega; clear h) | (exfalso; omega; clear h) | skip)
        | (with_reducible refine Br.nd (fun h => ?_) (fun h => ?_); first | (rotate_left; exfalso; omega; clear h) | (exfalso; omega; clear h) | skip)
        | refine Ar.i64 (by omega) (by omega) ?_
        | (refine call_mem (f := 23) (args := [.rs 0 l.length c1, .rs 1 d.length c2, .v (.int .i64 40)]) (V := .bool true) ?_ ?_; exact fun ρ w h => great23 l d 40 true _ _ w (sl_rs h (i := 0) rfl (Nat.le_refl _) h1 h2) (sl_rs h (i := 1) rfl (Nat.le_refl _) h3 h4) hb)
        | (refine quiet_mem (f := 23) (args := [.rs 0 l.length c1, .rs 1 d.length c2, .v (.int .i64 40)]) (V := .bool true) ?_ ?_; exact fun ρ w h => great23 l d 40 true _ _ w (sl_rs h (i := 0) rfl (Nat.le_refl _) h1 h2) (sl_rs h (i := 1) rfl (Nat.le_refl _) h3 h4) hb)
        | (refine seg_mem (f := 23) (args := [.rs 0 l.length c1, .rs 1 d.length c2, .v (.int .i64 40)]) (V := .bool true) ?_ ?_; exact fun ρ w h => great23 l d 40 true _ _ w (sl_rs h (i := 0) rfl (Nat.le_refl _) h1 h2) (sl_rs h (i := 1) rfl (Nat.le_refl _) h3 h4) hb)
        | (refine call_mem (f := 24) (args := []) (V := .bool true) ?_ ?_; exact fun ρ w h => held_any w)
        | (refine quiet_mem (f := 24) (args := []) (V := .bool true) ?_ ?_; exact fun ρ w h => held_any w)
        | (refine seg_mem (f := 24) (args := []) (V := .bool true) ?_ ?_; exact fun ρ w h => held_any w)
        | refine Need.go (by first | omega | decide | (simp <;> omega) | fail) ?_
        | refine Need.go (by first | (simp [Value.oneCell'] <;> omega) | fail) ?_
        | refine Need.go ⟨rfl, by omega, getD_one rfl rfl⟩ ?_
        | refine Need.go ⟨rfl, by omega, fun _ _ _ _ => rfl⟩ ?_
        | refine Br.both (fun h => ?_) (fun h => ?_))
    all_goals (conv => whnf)
    exact ret_pure (fun _ => rfl)
  | false =>
    have hlen : l.length ≤ 40 ∧ d.length ≤ 40 := by
      simp only [greatL, Bool.or_eq_false_iff, decide_eq_false_iff_not] at hb
      omega
    obtain ⟨z, hz⟩ : ∃ z, chkL l d = z := ⟨_, rfl⟩
    repeat' ((conv => whnf); first
        | refine CutN.plain ?_
        | with_reducible refine Br.tt ?_
        | with_reducible refine Br.ff ?_
        | with_reducible refine Br.nt ?_
        | with_reducible refine Br.nf ?_
        | with_reducible refine Br.eeI ?_
        | with_reducible refine Br.nnI ?_
        | refine Br.yes (by decide) ?_
        | refine Br.no (by decide) ?_
        | refine AppN.own ?_
        | refine Need.go rfl ?_
        | refine QuiD.quiet (by kernel_rfl) ?_
        | refine IdxN.lit ?_
        | refine draw_go tabOK (by kernel_rfl) ?_
        | refine Need.go ⟨rfl, rfl⟩ ?_
        | refine Need.go ⟨⟨rfl, rfl, rfl⟩, rfl⟩ ?_
        | (with_reducible refine Br.dec (fun h => ?_) (fun h => ?_); first | (rotate_left; exfalso; omega; clear h) | (exfalso; omega; clear h) | skip)
        | (with_reducible refine Br.eqI (fun h => ?_) (fun h => ?_); first | (rotate_left; exfalso; omega; clear h) | (exfalso; omega; clear h) | skip)
        | (with_reducible refine Br.neI (fun h => ?_) (fun h => ?_); first | (rotate_left; exfalso; omega; clear h) | (exfalso; omega; clear h) | skip)
        | (with_reducible refine Br.eqS (fun h => ?_) (fun h => ?_); first | (rotate_left; exfalso; omega; clear h) | (exfalso; omega; clear h) | skip)
        | (with_reducible refine Br.neS (fun h => ?_) (fun h => ?_); first | (rotate_left; exfalso; omega; clear h) | (exfalso; omega; clear h) | skip)
        | (with_reducible refine Br.nd (fun h => ?_) (fun h => ?_); first | (rotate_left; exfalso; omega; clear h) | (exfalso; omega; clear h) | skip)
        | refine Ar.i64 (by omega) (by omega) ?_
        | (refine call_mem (f := 23) (args := [.rs 0 l.length c1, .rs 1 d.length c2, .v (.int .i64 40)]) (V := .bool false) ?_ ?_; exact fun ρ w h => great23 l d 40 false _ _ w (sl_rs h (i := 0) rfl (Nat.le_refl _) h1 h2) (sl_rs h (i := 1) rfl (Nat.le_refl _) h3 h4) hb)
        | (refine quiet_mem (f := 23) (args := [.rs 0 l.length c1, .rs 1 d.length c2, .v (.int .i64 40)]) (V := .bool false) ?_ ?_; exact fun ρ w h => great23 l d 40 false _ _ w (sl_rs h (i := 0) rfl (Nat.le_refl _) h1 h2) (sl_rs h (i := 1) rfl (Nat.le_refl _) h3 h4) hb)
        | (refine seg_mem (f := 23) (args := [.rs 0 l.length c1, .rs 1 d.length c2, .v (.int .i64 40)]) (V := .bool false) ?_ ?_; exact fun ρ w h => great23 l d 40 false _ _ w (sl_rs h (i := 0) rfl (Nat.le_refl _) h1 h2) (sl_rs h (i := 1) rfl (Nat.le_refl _) h3 h4) hb)
        | refine Need.go (by first | omega | decide | (simp <;> omega) | fail) ?_
        | refine Need.go (by first | (simp [Value.oneCell'] <;> omega) | fail) ?_
        | refine Need.go ⟨rfl, by omega, getD_one rfl rfl⟩ ?_
        | refine Need.go ⟨rfl, by omega, fun _ _ _ _ => rfl⟩ ?_
        | refine Br.both (fun h => ?_) (fun h => ?_))
    all_goals (conv => whnf)
    refine loop_up 11 (fun i : Nat => i ≤ l.length) (fun i => l.length - i) (fun i => [(5, .os 2 i), (6, .v (.int .i64 i))]) (fun _ => []) (fun i => [.own 51 14 i (recF l)]) 0 (Nat.zero_le _) (by
      (conv => whnf)
      refine ⟨[some 0, some 1, none], by decide, ?_, ?_⟩
      all_goals repeat' (first | exact .inr ⟨_, rfl, rfl, rfl⟩ | exact leT_junk rfl | refine And.intro ?_ ?_ | exact trivial | exact .inl ⟨rfl, rfl⟩ | rfl | exact .inr ⟨_, rfl, rfl, rfl⟩ | exact ⟨_, rfl, trivial⟩ | exact ⟨_, rfl, rfl⟩ | exact ⟨_, rfl, ⟨rfl, rfl, rfl⟩, fun _ _ _ _ => rfl⟩ | exact ⟨_, rfl, ⟨rfl, rfl, .inl rfl⟩, rfl⟩ | exact ⟨_, rfl, ⟨rfl, rfl, .inr rfl⟩, rfl⟩ | exact ⟨_, rfl, ⟨rfl, rfl, rfl, rfl, rfl⟩, rfl⟩ | exact ⟨_, rfl, ⟨rfl, rfl⟩, fun _ => Iff.rfl⟩ | refine ⟨_, rfl, rfl, ?_⟩ | refine ⟨_, rfl, ⟨rfl, rfl, rfl⟩, ?_⟩)) (fun i hi => ?_)
    by_cases hlt : i < l.length
    · repeat' ((conv => whnf); first
        | refine CutN.plain ?_
        | with_reducible refine Br.tt ?_
        | with_reducible refine Br.ff ?_
        | with_reducible refine Br.nt ?_
        | with_reducible refine Br.nf ?_
        | with_reducible refine Br.eeI ?_
        | with_reducible refine Br.nnI ?_
        | refine Br.yes (by decide) ?_
        | refine Br.no (by decide) ?_
        | refine AppN.own ?_
        | refine Need.go rfl ?_
        | refine QuiD.quiet (by kernel_rfl) ?_
        | refine IdxN.lit ?_
        | refine draw_go tabOK (by kernel_rfl) ?_
        | refine Need.go ⟨rfl, rfl⟩ ?_
        | refine Need.go ⟨⟨rfl, rfl, rfl⟩, rfl⟩ ?_
        | (with_reducible refine Br.dec (fun h => ?_) (fun h => ?_); first | (rotate_left; exfalso; omega; clear h) | (exfalso; omega; clear h) | skip)
        | (with_reducible refine Br.eqI (fun h => ?_) (fun h => ?_); first | (rotate_left; exfalso; omega; clear h) | (exfalso; omega; clear h) | skip)
        | (with_reducible refine Br.neI (fun h => ?_) (fun h => ?_); first | (rotate_left; exfalso; omega; clear h) | (exfalso; omega; clear h) | skip)
        | (with_reducible refine Br.eqS (fun h => ?_) (fun h => ?_); first | (rotate_left; exfalso; omega; clear h) | (exfalso; omega; clear h) | skip)
        | (with_reducible refine Br.neS (fun h => ?_) (fun h => ?_); first | (rotate_left; exfalso; omega; clear h) | (exfalso; omega; clear h) | skip)
        | (with_reducible refine Br.nd (fun h => ?_) (fun h => ?_); first | (rotate_left; exfalso; omega; clear h) | (exfalso; omega; clear h) | skip)
        | refine Ar.i64 (by omega) (by omega) ?_
        | refine Need.go ⟨rfl, rfl, rfl, by omega, Nat.le_trans (Nat.mul_le_mul_right _ (show i + 1 ≤ 41 by omega)) (by decide)⟩ ?_
        | refine Need.go (by first | omega | decide | (simp <;> omega) | fail) ?_
        | refine Need.go (by first | (simp [Value.oneCell'] <;> omega) | fail) ?_
        | refine Need.go ⟨rfl, by omega, getD_one rfl rfl⟩ ?_
        | refine Need.go ⟨rfl, by omega, fun _ _ _ _ => rfl⟩ ?_
        | refine Br.both (fun h => ?_) (fun h => ?_))
      all_goals (conv => whnf)
      refine ⟨i + 1, by omega, by omega, ?_⟩
      (conv => whnf)
      refine ⟨[some 0, some 1, some 4], by decide, ?_, ?_⟩
      all_goals repeat' (first | exact ⟨_, rfl, ⟨rfl, rfl, rfl⟩, rowsApp_one (fun _ _ _ _ => rfl) (fun c hc => by rcases c with _ | _ | _ | _ | _ | _ | _ | _ | _ | _ | _ | _ | _ | _ | c <;> first | rfl | omega)⟩ | exact leT_junk rfl | refine And.intro ?_ ?_ | exact trivial | exact .inl ⟨rfl, rfl⟩ | rfl | exact .inr ⟨_, rfl, rfl, rfl⟩ | exact ⟨_, rfl, trivial⟩ | exact ⟨_, rfl, rfl⟩ | exact ⟨_, rfl, ⟨rfl, rfl, rfl⟩, fun _ _ _ _ => rfl⟩ | exact ⟨_, rfl, ⟨rfl, rfl, .inl rfl⟩, rfl⟩ | exact ⟨_, rfl, ⟨rfl, rfl, .inr rfl⟩, rfl⟩ | exact ⟨_, rfl, ⟨rfl, rfl, rfl, rfl, rfl⟩, rfl⟩ | exact ⟨_, rfl, ⟨rfl, rfl⟩, fun _ => Iff.rfl⟩ | refine ⟨_, rfl, rfl, ?_⟩ | refine ⟨_, rfl, ⟨rfl, rfl, rfl⟩, ?_⟩)
    · obtain rfl : i = l.length := by omega
      repeat' ((conv => whnf); first
          | refine CutN.plain ?_
          | with_reducible refine Br.tt ?_
          | with_reducible refine Br.ff ?_
          | with_reducible refine Br.nt ?_
          | with_reducible refine Br.nf ?_
          | with_reducible refine Br.eeI ?_
          | with_reducible refine Br.nnI ?_
          | refine Br.yes (by decide) ?_
          | refine Br.no (by decide) ?_
          | refine AppN.own ?_
          | refine Need.go rfl ?_
          | refine QuiD.quiet (by kernel_rfl) ?_
          | refine IdxN.lit ?_
          | refine draw_go tabOK (by kernel_rfl) ?_
          | refine Need.go ⟨rfl, rfl⟩ ?_
          | refine Need.go ⟨⟨rfl, rfl, rfl⟩, rfl⟩ ?_
          | (with_reducible refine Br.dec (fun h => ?_) (fun h => ?_); first | (rotate_left; exfalso; omega; clear h) | (exfalso; omega; clear h) | skip)
          | (with_reducible refine Br.eqI (fun h => ?_) (fun h => ?_); first | (rotate_left; exfalso; omega; clear h) | (exfalso; omega; clear h) | skip)
          | (with_reducible refine Br.neI (fun h => ?_) (fun h => ?_); first | (rotate_left; exfalso; omega; clear h) | (exfalso; omega; clear h) | skip)
          | (with_reducible refine Br.eqS (fun h => ?_) (fun h => ?_); first | (rotate_left; exfalso; omega; clear h) | (exfalso; omega; clear h) | skip)
          | (with_reducible refine Br.neS (fun h => ?_) (fun h => ?_); first | (rotate_left; exfalso; omega; clear h) | (exfalso; omega; clear h) | skip)
          | (with_reducible refine Br.nd (fun h => ?_) (fun h => ?_); first | (rotate_left; exfalso; omega; clear h) | (exfalso; omega; clear h) | skip)
          | refine Ar.i64 (by omega) (by omega) ?_
          | (refine call_mem (f := 25) (args := [.rs 0 l.length c1, .rs 1 d.length c2]) (V := .int .i64 z) ?_ ?_; exact fun ρ w h => lchk_at l d z _ _ w (sl_rs h (i := 0) rfl (Nat.le_refl _) h1 h2) (sl_rs h (i := 1) rfl (Nat.le_refl _) h3 h4) (by omega) (by omega) hz)
          | (refine quiet_mem (f := 25) (args := [.rs 0 l.length c1, .rs 1 d.length c2]) (V := .int .i64 z) ?_ ?_; exact fun ρ w h => lchk_at l d z _ _ w (sl_rs h (i := 0) rfl (Nat.le_refl _) h1 h2) (sl_rs h (i := 1) rfl (Nat.le_refl _) h3 h4) (by omega) (by omega) hz)
          | (refine seg_mem (f := 25) (args := [.rs 0 l.length c1, .rs 1 d.length c2]) (V := .int .i64 z) ?_ ?_; exact fun ρ w h => lchk_at l d z _ _ w (sl_rs h (i := 0) rfl (Nat.le_refl _) h1 h2) (sl_rs h (i := 1) rfl (Nat.le_refl _) h3 h4) (by omega) (by omega) hz)
          | (refine call_mem (f := 26) (args := [.os 2 l.length, .rs 1 d.length c2]) (V := .int .i64 z) ?_ ?_; exact fun ρ w h => rchk_at l d z _ _ w (sl_os h (i := 2) rfl) (sl_rs h (i := 1) rfl (Nat.le_refl _) h3 h4) (by omega) (by omega) hz)
          | (refine quiet_mem (f := 26) (args := [.os 2 l.length, .rs 1 d.length c2]) (V := .int .i64 z) ?_ ?_; exact fun ρ w h => rchk_at l d z _ _ w (sl_os h (i := 2) rfl) (sl_rs h (i := 1) rfl (Nat.le_refl _) h3 h4) (by omega) (by omega) hz)
          | (refine seg_mem (f := 26) (args := [.os 2 l.length, .rs 1 d.length c2]) (V := .int .i64 z) ?_ ?_; exact fun ρ w h => rchk_at l d z _ _ w (sl_os h (i := 2) rfl) (sl_rs h (i := 1) rfl (Nat.le_refl _) h3 h4) (by omega) (by omega) hz)
          | (refine call_mem (f := 24) (args := []) (V := .bool true) ?_ ?_; exact fun ρ w h => held_any w)
          | (refine quiet_mem (f := 24) (args := []) (V := .bool true) ?_ ?_; exact fun ρ w h => held_any w)
          | (refine seg_mem (f := 24) (args := []) (V := .bool true) ?_ ?_; exact fun ρ w h => held_any w)
          | refine Need.go (by first | omega | decide | (simp <;> omega) | fail) ?_
          | refine Need.go (by first | (simp [Value.oneCell'] <;> omega) | fail) ?_
          | refine Need.go ⟨rfl, by omega, getD_one rfl rfl⟩ ?_
          | refine Need.go ⟨rfl, by omega, fun _ _ _ _ => rfl⟩ ?_
          | refine Br.both (fun h => ?_) (fun h => ?_))
      all_goals (conv => whnf)
      all_goals exact ret_pure (fun _ => rfl)
end Go.Proofs.Ytlphkjbadjdleaa.lawLinearCheck
