/-
  Calls held against a log, the document's: place, holds. No condition.
-/
import Derived.Test.YtlphkjbadjdleaaLinR2
import Derived.Test.YtlphkjbadjdleaaLin2
import Derived.Test.YtlphkjbadjdleaaLinO
namespace Go.Proofs.Ytlphkjbadjdleaa
abbrev recV (r : RecM) : Value := .agg ⟨recC r⟩
set_option maxRecDepth 100000 in
set_option maxHeartbeats 2000000 in
theorem rreads_at (o : OpM) (b : Bool) (w : World) (hb : readsO o = b) : Calls Try.prog 86 #[opV o] w fun e w' => e = .returned (.bool b) ∧ w.grownBy w' none := by
  refine x_calls tabOK Try.func86 rfl [opS o] [] noLoc rfl rfl (rel0 w) ?_
  obtain ⟨c, hc⟩ : ∃ c, chkO o = c := ⟨_, rfl⟩
  repeat' ((conv => whnf); first
      | refine CutN.plain ?_
      | with_reducible refine Br.tt ?_
      | with_reducible refine Br.ff ?_
      | with_reducible refine Br.nt ?_
      | with_reducible refine Br.nf ?_
      | with_reducible refine Br.eeI ?_
      | with_reducible refine Br.nnI ?_
      | refine Br.yes (by decide) ?_
      | refine Br.no (by decide) ?_
      | refine AppN.own ?_
      | refine Need.go rfl ?_
      | refine QuiD.quiet (by kernel_rfl) ?_
      | refine IdxN.lit ?_
      | refine draw_go tabOK (by kernel_rfl) ?_
      | refine Need.go ⟨rfl, rfl⟩ ?_
      | refine Need.go ⟨⟨rfl, rfl, rfl⟩, rfl⟩ ?_
      | (with_reducible refine Br.dec (fun h => ?_) (fun h => ?_); first | (rotate_left; exfalso; omega; clear h) | (exfalso; omega; clear h) | skip)
      | (with_reducible refine Br.eqI (fun h => ?_) (fun h => ?_); first | (rotate_left; exfalso; omega; clear h) | (exfalso; omega; clear h) | skip)
      | (with_reducible refine Br.neI (fun h => ?_) (fun h => ?_); first | (rotate_left; exfalso; omega; clear h) | (exfalso; omega; clear h) | skip)
      | (with_reducible refine Br.eqS (fun h => ?_) (fun h => ?_); first | (rotate_left; exfalso; omega; clear h) | (exfalso; omega; clear h) | skip)
      | (with_reducible refine Br.neS (fun h => ?_) (fun h => ?_); first | (rotate_left; exfalso; omega; clear h) | (exfalso; omega; clear h) | skip)
      | (with_reducible refine Br.nd (fun h => ?_) (fun h => ?_); first | (rotate_left; exfalso; omega; clear h) | (exfalso; omega; clear h) | skip)
      | refine Ar.i64 (by omega) (by omega) ?_
      | (refine call_mem (f := 65) (args := [opS o]) (V := .int .i64 c) ?_ ?_; exact fun ρ w h => rcheck_at o c w hc)
      | (refine quiet_mem (f := 65) (args := [opS o]) (V := .int .i64 c) ?_ ?_; exact fun ρ w h => rcheck_at o c w hc)
      | (refine seg_mem (f := 65) (args := [opS o]) (V := .int .i64 c) ?_ ?_; exact fun ρ w h => rcheck_at o c w hc)
      | refine Need.go (by first | omega | decide | (simp <;> omega) | fail) ?_
      | refine Need.go (by first | (simp [Value.oneCell'] <;> omega) | fail) ?_
      | refine Need.go ⟨rfl, by omega, getD_one rfl rfl⟩ ?_
      | refine Need.go ⟨rfl, by omega, fun _ _ _ _ => rfl⟩ ?_
      | refine Br.both (fun h => ?_) (fun h => ?_))
  all_goals (conv => whnf)
  all_goals
    refine ret_pure (fun _ => congrArg Value.bool ?_)
    rw [← hb]
    clear hb
    simp_all [readsO]
theorem rlook_z (d : List EntM) (v : Value) (key : List UInt8) (z : Int) (q : ResM) (w : World) (hv : SliceV w v 7 d.length (entF' d)) (hn : 0 ≤ z ∧ z ≤ d.length) (hd : d.length ≤ 4000) (hq : readN d key z.toNat = q) :
    Calls Try.prog 87 #[v, S key, .int .i64 z] w fun e w' => e = .returned (resV q) ∧ w.grownBy w' none := by
  obtain ⟨n, rfl⟩ := Int.eq_ofNat_of_zero_le hn.1
  exact rlook_is d v key n q w hv (by omega) hd (by simpa using hq)
theorem rdid_z (d : List EntM) (v : Value) (z : Int) (i : Nat) (q : ResM) (w : World) (hv : SliceV w v 7 d.length (entF' d)) (hz : z = i) (hi : i < d.length) (hd : d.length ≤ 4000) (hq : didN d i = q) :
    Calls Try.prog 89 #[v, .int .i64 z] w fun e w' => e = .returned (resV q) ∧ w.grownBy w' none := by
  subst hz hq
  exact rdid23 d v i w hv hi hd
set_option maxRecDepth 100000 in
set_option maxHeartbeats 2000000 in
theorem rplace_is (d : List EntM) (r : RecM) (v : Value) (p : Int) (w : World) (hv : SliceV w v 7 d.length (entF' d)) (hd : d.length ≤ 4000) (hp : placeM d r = p) :
    Calls Try.prog 85 #[recV r, v] w fun e w' => e = .returned (.int .i64 p) ∧ w.grownBy w' none := by
  subst hp
  obtain ⟨a, cap, rfl, h1, h2, hr⟩ := hv
  refine x_calls tabOK Try.func85 rfl [recS r, .rs 0 d.length cap] _ _ rfl rfl (relR1 hr) ?_
  obtain ⟨b, hb⟩ : ∃ b, readsO r.op = b := ⟨_, rfl⟩
  cases b with
  | true =>
    repeat' ((conv => whnf); first
        | refine CutN.plain ?_
        | with_reducible refine Br.tt ?_
        | with_reducible refine Br.ff ?_
        | with_reducible refine Br.nt ?_
        | with_reducible refine Br.nf ?_
        | with_reducible refine Br.eeI ?_
        | with_reducible refine Br.nnI ?_
        | refine Br.yes (by decide) ?_
        | refine Br.no (by decide) ?_
        | refine AppN.own ?_
        | refine Need.go rfl ?_
        | refine QuiD.quiet (by kernel_rfl) ?_
        | refine IdxN.lit ?_
        | refine draw_go tabOK (by kernel_rfl) ?_
        | refine Need.go ⟨rfl, rfl⟩ ?_
        | refine Need.go ⟨⟨rfl, rfl, rfl⟩, rfl⟩ ?_
        | (with_reducible refine Br.dec (fun h => ?_) (fun h => ?_); first | (rotate_left; exfalso; omega; clear h) | (exfalso; omega; clear h) | skip)
        | (with_reducible refine Br.eqI (fun h => ?_) (fun h => ?_); first | (rotate_left; exfalso; omega; clear h) | (exfalso; omega; clear h) | skip)
        | (with_reducible refine Br.neI (fun h => ?_) (fun h => ?_); first | (rotate_left; exfalso; omega; clear h) | (exfalso; omega; clear h) | skip)
        | (with_reducible refine Br.eqS (fun h => ?_) (fun h => ?_); first | (rotate_left; exfalso; omega; clear h) | (exfalso; omega; clear h) | skip)
        | (with_reducible refine Br.neS (fun h => ?_) (fun h => ?_); first | (rotate_left; exfalso; omega; clear h) | (exfalso; omega; clear h) | skip)
        | (with_reducible refine Br.nd (fun h => ?_) (fun h => ?_); first | (rotate_left; exfalso; omega; clear h) | (exfalso; omega; clear h) | skip)
        | refine Ar.i64 (by omega) (by omega) ?_
        | (refine call_mem (f := 86) (args := [opS r.op]) (V := .bool true) ?_ ?_; exact fun ρ w h => rreads_at r.op true w hb)
        | (refine quiet_mem (f := 86) (args := [opS r.op]) (V := .bool true) ?_ ?_; exact fun ρ w h => rreads_at r.op true w hb)
        | (refine seg_mem (f := 86) (args := [opS r.op]) (V := .bool true) ?_ ?_; exact fun ρ w h => rreads_at r.op true w hb)
        | refine Need.go (by first | omega | decide | (simp <;> omega) | fail) ?_
        | refine Need.go (by first | (simp [Value.oneCell'] <;> omega) | fail) ?_
        | refine Need.go ⟨rfl, by omega, getD_one rfl rfl⟩ ?_
        | refine Need.go ⟨rfl, by omega, fun _ _ _ _ => rfl⟩ ?_
        | refine Br.both (fun h => ?_) (fun h => ?_))
    all_goals (conv => whnf)
    all_goals
      refine ret_pure (fun _ => congrArg (Value.int .i64) ?_)
      simp only [placeM, isReadM, hb, if_true, Bool.true_and]
      simp_all <;> first | omega | (intros; omega)
  | false =>
    have hl := entsN_len d r.client r.seq
    have hc : countN d r.client r.seq ≤ d.length := List.length_filter_le _ _
    rcases hf : firstN d r.client r.seq with _ | i
    · have h0 := first_count.1 hf
      repeat' ((conv => whnf); first
          | refine CutN.plain ?_
          | with_reducible refine Br.tt ?_
          | with_reducible refine Br.ff ?_
          | with_reducible refine Br.nt ?_
          | with_reducible refine Br.nf ?_
          | with_reducible refine Br.eeI ?_
          | with_reducible refine Br.nnI ?_
          | refine Br.yes (by decide) ?_
          | refine Br.no (by decide) ?_
          | refine AppN.own ?_
          | refine Need.go rfl ?_
          | refine QuiD.quiet (by kernel_rfl) ?_
          | refine IdxN.lit ?_
          | refine draw_go tabOK (by kernel_rfl) ?_
          | refine Need.go ⟨rfl, rfl⟩ ?_
          | refine Need.go ⟨⟨rfl, rfl, rfl⟩, rfl⟩ ?_
          | (with_reducible refine Br.dec (fun h => ?_) (fun h => ?_); first | (rotate_left; exfalso; omega; clear h) | (exfalso; omega; clear h) | skip)
          | (with_reducible refine Br.eqI (fun h => ?_) (fun h => ?_); first | (rotate_left; exfalso; omega; clear h) | (exfalso; omega; clear h) | skip)
          | (with_reducible refine Br.neI (fun h => ?_) (fun h => ?_); first | (rotate_left; exfalso; omega; clear h) | (exfalso; omega; clear h) | skip)
          | (with_reducible refine Br.eqS (fun h => ?_) (fun h => ?_); first | (rotate_left; exfalso; omega; clear h) | (exfalso; omega; clear h) | skip)
          | (with_reducible refine Br.neS (fun h => ?_) (fun h => ?_); first | (rotate_left; exfalso; omega; clear h) | (exfalso; omega; clear h) | skip)
          | (with_reducible refine Br.nd (fun h => ?_) (fun h => ?_); first | (rotate_left; exfalso; omega; clear h) | (exfalso; omega; clear h) | skip)
          | refine Ar.i64 (by omega) (by omega) ?_
          | (refine call_mem (f := 86) (args := [opS r.op]) (V := .bool false) ?_ ?_; exact fun ρ w h => rreads_at r.op false w hb)
          | (refine quiet_mem (f := 86) (args := [opS r.op]) (V := .bool false) ?_ ?_; exact fun ρ w h => rreads_at r.op false w hb)
          | (refine seg_mem (f := 86) (args := [opS r.op]) (V := .bool false) ?_ ?_; exact fun ρ w h => rreads_at r.op false w hb)
          | (refine call_sp (f := 88) (rents23 d cap r.client r.seq hd) [0] (by decide) rfl ⟨rfl, trivial⟩ rfl ?_; rintro s H1 ⟨rfl, rfl⟩)
          | (refine seg_sp (f := 88) (rents23 d cap r.client r.seq hd) (fun _ => rfl) [0] (by decide) rfl ⟨rfl, trivial⟩ rfl ?_)
          | refine Need.go (by first | omega | decide | (simp <;> omega) | fail) ?_
          | refine Need.go (by first | (simp [Value.oneCell'] <;> omega) | fail) ?_
          | refine Need.go ⟨rfl, by omega, getD_one rfl rfl⟩ ?_
          | refine Need.go ⟨rfl, by omega, fun _ _ _ _ => rfl⟩ ?_
          | refine Br.both (fun h => ?_) (fun h => ?_))
      all_goals (conv => whnf)
      all_goals
        refine ret_pure (fun _ => congrArg (Value.int .i64) ?_)
        simp only [placeM, hb, hf, Bool.false_eq_true, if_false]
    · have h0 := count_some hf
      have h3 : (entsN d r.client r.seq d.length).getD (Int.toNat 0) 0 = (i : Int) := entsN_first d r.client r.seq hf
      have hi := firstN_lt hf
      repeat' ((conv => whnf); first
          | refine CutN.plain ?_
          | with_reducible refine Br.tt ?_
          | with_reducible refine Br.ff ?_
          | with_reducible refine Br.nt ?_
          | with_reducible refine Br.nf ?_
          | with_reducible refine Br.eeI ?_
          | with_reducible refine Br.nnI ?_
          | refine Br.yes (by decide) ?_
          | refine Br.no (by decide) ?_
          | refine AppN.own ?_
          | refine Need.go rfl ?_
          | refine QuiD.quiet (by kernel_rfl) ?_
          | refine IdxN.lit ?_
          | refine draw_go tabOK (by kernel_rfl) ?_
          | refine Need.go ⟨rfl, rfl⟩ ?_
          | refine Need.go ⟨⟨rfl, rfl, rfl⟩, rfl⟩ ?_
          | (with_reducible refine Br.dec (fun h => ?_) (fun h => ?_); first | (rotate_left; exfalso; omega; clear h) | (exfalso; omega; clear h) | skip)
          | (with_reducible refine Br.eqI (fun h => ?_) (fun h => ?_); first | (rotate_left; exfalso; omega; clear h) | (exfalso; omega; clear h) | skip)
          | (with_reducible refine Br.neI (fun h => ?_) (fun h => ?_); first | (rotate_left; exfalso; omega; clear h) | (exfalso; omega; clear h) | skip)
          | (with_reducible refine Br.eqS (fun h => ?_) (fun h => ?_); first | (rotate_left; exfalso; omega; clear h) | (exfalso; omega; clear h) | skip)
          | (with_reducible refine Br.neS (fun h => ?_) (fun h => ?_); first | (rotate_left; exfalso; omega; clear h) | (exfalso; omega; clear h) | skip)
          | (with_reducible refine Br.nd (fun h => ?_) (fun h => ?_); first | (rotate_left; exfalso; omega; clear h) | (exfalso; omega; clear h) | skip)
          | refine Ar.i64 (by omega) (by omega) ?_
          | (refine call_mem (f := 86) (args := [opS r.op]) (V := .bool false) ?_ ?_; exact fun ρ w h => rreads_at r.op false w hb)
          | (refine quiet_mem (f := 86) (args := [opS r.op]) (V := .bool false) ?_ ?_; exact fun ρ w h => rreads_at r.op false w hb)
          | (refine seg_mem (f := 86) (args := [opS r.op]) (V := .bool false) ?_ ?_; exact fun ρ w h => rreads_at r.op false w hb)
          | (refine call_sp (f := 88) (rents23 d cap r.client r.seq hd) [0] (by decide) rfl ⟨rfl, trivial⟩ rfl ?_; rintro s H1 ⟨rfl, rfl⟩)
          | (refine seg_sp (f := 88) (rents23 d cap r.client r.seq hd) (fun _ => rfl) [0] (by decide) rfl ⟨rfl, trivial⟩ rfl ?_)
          | refine Need.go (by first | omega | decide | (simp <;> omega) | fail) ?_
          | refine Need.go (by first | (simp [Value.oneCell'] <;> omega) | fail) ?_
          | refine Need.go ⟨rfl, by omega, getD_one rfl rfl⟩ ?_
          | refine Need.go ⟨rfl, by omega, fun _ _ _ _ => rfl⟩ ?_
          | refine Br.both (fun h => ?_) (fun h => ?_))
      all_goals (conv => whnf)
      all_goals
        refine ret_pure (fun _ => congrArg (Value.int .i64) ?_)
        simp only [placeM, hb, hf, Bool.false_eq_true, if_false, h3]
set_option maxRecDepth 100000 in
set_option maxHeartbeats 8000000 in
theorem rholds_is (l : List RecM) (d : List EntM) (r : RecM) (v1 v2 : Value) (w : World) (hv1 : SliceV w v1 14 l.length (recF l)) (hv2 : SliceV w v2 7 d.length (entF' d)) (hl : l.length ≤ 100000) (hd : d.length ≤ 4000) :
    Calls Try.prog 60 #[recV r, v1, v2] w fun e w' => e = .returned (.bool (holdsM l d r)) ∧ w.grownBy w' none := by
  obtain ⟨a, c1, rfl, h1, h2, hr⟩ := hv1
  obtain ⟨a2, c2, rfl, h3, h4, hr2⟩ := hv2
  refine x_calls tabOK Try.func60 rfl [recS r, .rs 0 l.length c1, .rs 1 d.length c2] _ _ rfl rfl (relR2 hr hr2) ?_
  obtain ⟨p, hp⟩ : ∃ p, placeM d r = p := ⟨_, rfl⟩
  repeat' ((conv => whnf); first
      | refine QuiD.draw (draw_go tabOK (by kernel_rfl) ?_)
      | (refine cut_up 1019 11 (fun _ : Unit => toldM d r = true) (fun _ => [(9, .junk), (10, .junk)]) (fun _ => []) (fun _ => []) ?_ ?_)
      | refine CutN.plain ?_
      | with_reducible refine Br.tt ?_
      | with_reducible refine Br.ff ?_
      | with_reducible refine Br.nt ?_
      | with_reducible refine Br.nf ?_
      | with_reducible refine Br.eeI ?_
      | with_reducible refine Br.nnI ?_
      | refine Br.yes (by decide) ?_
      | refine Br.no (by decide) ?_
      | refine AppN.own ?_
      | refine Need.go rfl ?_
      | refine QuiD.quiet (by kernel_rfl) ?_
      | refine IdxN.lit ?_
      | refine draw_go tabOK (by kernel_rfl) ?_
      | refine Need.go ⟨rfl, rfl⟩ ?_
      | refine Need.go ⟨⟨rfl, rfl, rfl⟩, rfl⟩ ?_
      | (with_reducible refine Br.dec (fun h => ?_) (fun h => ?_); first | (rotate_left; exfalso; omega; clear h) | (exfalso; omega; clear h) | skip)
      | (with_reducible refine Br.eqI (fun h => ?_) (fun h => ?_); first | (rotate_left; exfalso; omega; clear h) | (exfalso; omega; clear h) | skip)
      | (with_reducible refine Br.neI (fun h => ?_) (fun h => ?_); first | (rotate_left; exfalso; omega; clear h) | (exfalso; omega; clear h) | skip)
      | (with_reducible refine Br.eqS (fun h => ?_) (fun h => ?_); first | (rotate_left; exfalso; omega; clear h) | (exfalso; omega; clear h) | skip)
      | (with_reducible refine Br.neS (fun h => ?_) (fun h => ?_); first | (rotate_left; exfalso; omega; clear h) | (exfalso; omega; clear h) | skip)
      | (with_reducible refine Br.nd (fun h => ?_) (fun h => ?_); first | (rotate_left; exfalso; omega; clear h) | (exfalso; omega; clear h) | skip)
      | refine Ar.i64 (by omega) (by omega) ?_
      | (refine call_mem (f := 85) (args := [recS r, .rs 1 d.length c2]) (V := .int .i64 p) ?_ ?_; exact fun ρ w h => rplace_is d r _ p w (sl_rs h (i := 1) rfl (Nat.le_refl _) h3 h4) hd hp)
      | (refine quiet_mem (f := 85) (args := [recS r, .rs 1 d.length c2]) (V := .int .i64 p) ?_ ?_; exact fun ρ w h => rplace_is d r _ p w (sl_rs h (i := 1) rfl (Nat.le_refl _) h3 h4) hd hp)
      | (refine seg_mem (f := 85) (args := [recS r, .rs 1 d.length c2]) (V := .int .i64 p) ?_ ?_; exact fun ρ w h => rplace_is d r _ p w (sl_rs h (i := 1) rfl (Nat.le_refl _) h3 h4) hd hp)
      | (refine call_mem (f := 86) (args := [opS r.op]) (V := .bool (readsO r.op)) ?_ ?_; exact fun ρ w h => rreads_at r.op _ w rfl)
      | (refine quiet_mem (f := 86) (args := [opS r.op]) (V := .bool (readsO r.op)) ?_ ?_; exact fun ρ w h => rreads_at r.op _ w rfl)
      | (refine seg_mem (f := 86) (args := [opS r.op]) (V := .bool (readsO r.op)) ?_ ?_; exact fun ρ w h => rreads_at r.op _ w rfl)
      | refine Need.go (by first | omega | decide | (simp <;> omega) | fail) ?_
      | refine Need.go (by first | (simp [Value.oneCell'] <;> omega) | fail) ?_
      | refine Need.go ⟨rfl, by omega, getD_one rfl rfl⟩ ?_
      | refine Need.go ⟨rfl, by omega, fun _ _ _ _ => rfl⟩ ?_
      | refine Br.both (fun h => ?_) (fun h => ?_))
  all_goals (conv => whnf)
  · -- behind the if: the loop
    intro y ht
    (conv => whnf)
    repeat' ((conv => whnf); first
        | refine QuiD.draw (draw_go tabOK (by kernel_rfl) ?_)
        | refine CutN.plain ?_
        | with_reducible refine Br.tt ?_
        | with_reducible refine Br.ff ?_
        | with_reducible refine Br.nt ?_
        | with_reducible refine Br.nf ?_
        | with_reducible refine Br.eeI ?_
        | with_reducible refine Br.nnI ?_
        | refine Br.yes (by decide) ?_
        | refine Br.no (by decide) ?_
        | refine AppN.own ?_
        | refine Need.go rfl ?_
        | refine QuiD.quiet (by kernel_rfl) ?_
        | refine IdxN.lit ?_
        | refine draw_go tabOK (by kernel_rfl) ?_
        | refine Need.go ⟨rfl, rfl⟩ ?_
        | refine Need.go ⟨⟨rfl, rfl, rfl⟩, rfl⟩ ?_
        | (with_reducible refine Br.dec (fun h => ?_) (fun h => ?_); first | (rotate_left; exfalso; omega; clear h) | (exfalso; omega; clear h) | skip)
        | (with_reducible refine Br.eqI (fun h => ?_) (fun h => ?_); first | (rotate_left; exfalso; omega; clear h) | (exfalso; omega; clear h) | skip)
        | (with_reducible refine Br.neI (fun h => ?_) (fun h => ?_); first | (rotate_left; exfalso; omega; clear h) | (exfalso; omega; clear h) | skip)
        | (with_reducible refine Br.eqS (fun h => ?_) (fun h => ?_); first | (rotate_left; exfalso; omega; clear h) | (exfalso; omega; clear h) | skip)
        | (with_reducible refine Br.neS (fun h => ?_) (fun h => ?_); first | (rotate_left; exfalso; omega; clear h) | (exfalso; omega; clear h) | skip)
        | (with_reducible refine Br.nd (fun h => ?_) (fun h => ?_); first | (rotate_left; exfalso; omega; clear h) | (exfalso; omega; clear h) | skip)
        | refine Ar.i64 (by omega) (by omega) ?_
        | refine Need.go (by first | omega | decide | (simp <;> omega) | fail) ?_
        | refine Need.go (by first | (simp [Value.oneCell'] <;> omega) | fail) ?_
        | refine Need.go ⟨rfl, by omega, getD_one rfl rfl⟩ ?_
        | refine Need.go ⟨rfl, by omega, fun _ _ _ _ => rfl⟩ ?_
        | refine Br.both (fun h => ?_) (fun h => ?_))
    all_goals (conv => whnf)
    refine loop_up 11 (fun i : Nat => i ≤ l.length ∧ ∀ j, j < i → lateM d r (l.getD j recZ) = false) (fun i => l.length - i) (fun i => [(10, .v (.int .i64 i))]) (fun _ => []) (fun _ => []) 0 ⟨Nat.zero_le _, fun j h => absurd h (by omega)⟩ (by
      (conv => whnf)
      refine ⟨[some 0, some 1, some 2], by decide, ?_, ?_⟩
      all_goals repeat' (first | exact leT_junk rfl | refine And.intro ?_ ?_ | exact trivial | exact .inl ⟨rfl, rfl⟩ | rfl | exact .inr ⟨_, rfl, rfl, rfl⟩ | exact ⟨_, rfl, trivial⟩ | exact ⟨_, rfl, rfl⟩ | exact ⟨_, rfl, ⟨rfl, rfl, rfl⟩, fun _ _ _ _ => rfl⟩ | exact ⟨_, rfl, ⟨rfl, rfl, .inl rfl⟩, rfl⟩ | exact ⟨_, rfl, ⟨rfl, rfl, .inr rfl⟩, rfl⟩ | exact ⟨_, rfl, ⟨rfl, rfl, rfl, rfl, rfl⟩, rfl⟩ | exact ⟨_, rfl, ⟨rfl, rfl⟩, fun _ => Iff.rfl⟩ | refine ⟨_, rfl, rfl, ?_⟩ | refine ⟨_, rfl, ⟨rfl, rfl, rfl⟩, ?_⟩)) (fun i hi => ?_)
    obtain ⟨hi, hj⟩ := hi
    by_cases hp0 : p < 0
    · have hp1 : placeM d r = -1 := by
        rcases Decidable.em (placeM d r = -1) with e | e
        · exact e
        · have := place_low e
          omega
      repeat' ((conv => whnf); first
          | refine QuiD.draw (draw_go tabOK (by kernel_rfl) ?_)
          | refine CutN.plain ?_
          | with_reducible refine Br.tt ?_
          | with_reducible refine Br.ff ?_
          | with_reducible refine Br.nt ?_
          | with_reducible refine Br.nf ?_
          | with_reducible refine Br.eeI ?_
          | with_reducible refine Br.nnI ?_
          | refine Br.yes (by decide) ?_
          | refine Br.no (by decide) ?_
          | refine AppN.own ?_
          | refine Need.go rfl ?_
          | refine QuiD.quiet (by kernel_rfl) ?_
          | refine IdxN.lit ?_
          | refine draw_go tabOK (by kernel_rfl) ?_
          | refine Need.go ⟨rfl, rfl⟩ ?_
          | refine Need.go ⟨⟨rfl, rfl, rfl⟩, rfl⟩ ?_
          | (with_reducible refine Br.dec (fun h => ?_) (fun h => ?_); first | (rotate_left; exfalso; omega; clear h) | (exfalso; omega; clear h) | skip)
          | (with_reducible refine Br.eqI (fun h => ?_) (fun h => ?_); first | (rotate_left; exfalso; omega; clear h) | (exfalso; omega; clear h) | skip)
          | (with_reducible refine Br.neI (fun h => ?_) (fun h => ?_); first | (rotate_left; exfalso; omega; clear h) | (exfalso; omega; clear h) | skip)
          | (with_reducible refine Br.eqS (fun h => ?_) (fun h => ?_); first | (rotate_left; exfalso; omega; clear h) | (exfalso; omega; clear h) | skip)
          | (with_reducible refine Br.neS (fun h => ?_) (fun h => ?_); first | (rotate_left; exfalso; omega; clear h) | (exfalso; omega; clear h) | skip)
          | (with_reducible refine Br.nd (fun h => ?_) (fun h => ?_); first | (rotate_left; exfalso; omega; clear h) | (exfalso; omega; clear h) | skip)
          | refine Ar.i64 (by omega) (by omega) ?_
          | refine Need.go (by first | omega | decide | (simp <;> omega) | fail) ?_
          | refine Need.go (by first | (simp [Value.oneCell'] <;> omega) | fail) ?_
          | refine Need.go ⟨rfl, by omega, getD_one rfl rfl⟩ ?_
          | refine Need.go ⟨rfl, by omega, fun _ _ _ _ => rfl⟩ ?_
          | refine Br.both (fun h => ?_) (fun h => ?_))
      all_goals (conv => whnf)
      all_goals exact ret_pure (fun _ => congrArg Value.bool (holdsM_yes ht (.inl hp1)).symm)
    have hp1 : ¬ placeM d r = -1 := by omega
    by_cases hlt : i < l.length
    · obtain ⟨q, hq⟩ : ∃ q, placeM d (l.getD i recZ) = q := ⟨_, rfl⟩
      repeat' ((conv => whnf); first
          | refine QuiD.draw (draw_go tabOK (by kernel_rfl) ?_)
          | refine CutN.plain ?_
          | with_reducible refine Br.tt ?_
          | with_reducible refine Br.ff ?_
          | with_reducible refine Br.nt ?_
          | with_reducible refine Br.nf ?_
          | with_reducible refine Br.eeI ?_
          | with_reducible refine Br.nnI ?_
          | refine Br.yes (by decide) ?_
          | refine Br.no (by decide) ?_
          | refine AppN.own ?_
          | refine Need.go rfl ?_
          | refine QuiD.quiet (by kernel_rfl) ?_
          | refine IdxN.lit ?_
          | refine draw_go tabOK (by kernel_rfl) ?_
          | refine Need.go ⟨rfl, rfl⟩ ?_
          | refine Need.go ⟨⟨rfl, rfl, rfl⟩, rfl⟩ ?_
          | (with_reducible refine Br.dec (fun h => ?_) (fun h => ?_); first | (rotate_left; exfalso; omega; clear h) | (exfalso; omega; clear h) | skip)
          | (with_reducible refine Br.eqI (fun h => ?_) (fun h => ?_); first | (rotate_left; exfalso; omega; clear h) | (exfalso; omega; clear h) | skip)
          | (with_reducible refine Br.neI (fun h => ?_) (fun h => ?_); first | (rotate_left; exfalso; omega; clear h) | (exfalso; omega; clear h) | skip)
          | (with_reducible refine Br.eqS (fun h => ?_) (fun h => ?_); first | (rotate_left; exfalso; omega; clear h) | (exfalso; omega; clear h) | skip)
          | (with_reducible refine Br.neS (fun h => ?_) (fun h => ?_); first | (rotate_left; exfalso; omega; clear h) | (exfalso; omega; clear h) | skip)
          | (with_reducible refine Br.nd (fun h => ?_) (fun h => ?_); first | (rotate_left; exfalso; omega; clear h) | (exfalso; omega; clear h) | skip)
          | refine Ar.i64 (by omega) (by omega) ?_
          | (refine call_mem (f := 85) (args := [.agg (mapRow (recF l) (Int.toNat (i : Int)) 0 14), .rs 1 d.length c2]) (V := .int .i64 q) ?_ ?_; exact fun ρ w h => rplace_is d (l.getD i recZ) _ q w (sl_rs h (i := 1) rfl (Nat.le_refl _) h3 h4) hd hq)
          | (refine quiet_mem (f := 85) (args := [.agg (mapRow (recF l) (Int.toNat (i : Int)) 0 14), .rs 1 d.length c2]) (V := .int .i64 q) ?_ ?_; exact fun ρ w h => rplace_is d (l.getD i recZ) _ q w (sl_rs h (i := 1) rfl (Nat.le_refl _) h3 h4) hd hq)
          | (refine seg_mem (f := 85) (args := [.agg (mapRow (recF l) (Int.toNat (i : Int)) 0 14), .rs 1 d.length c2]) (V := .int .i64 q) ?_ ?_; exact fun ρ w h => rplace_is d (l.getD i recZ) _ q w (sl_rs h (i := 1) rfl (Nat.le_refl _) h3 h4) hd hq)
          | refine Need.go (by first | omega | decide | (simp <;> omega) | fail) ?_
          | refine Need.go (by first | (simp [Value.oneCell'] <;> omega) | fail) ?_
          | refine Need.go ⟨rfl, by omega, getD_one rfl rfl⟩ ?_
          | refine Need.go ⟨rfl, by omega, fun _ _ _ _ => rfl⟩ ?_
          | refine Br.both (fun h => ?_) (fun h => ?_))
      all_goals (conv => whnf)
      all_goals simp only [Int.toNat_natCast] at *
      all_goals first
        | (refine ret_pure (fun _ => congrArg Value.bool (holdsM_no hlt hp1 ?_).symm)
           (focus (simp only [lateM, hp, hq, decide_eq_true_eq]; omega)))
        | (refine ⟨i + 1, ⟨by omega, fun j hj' => ?_⟩, by omega, ?_⟩
           · (refine (Nat.lt_or_ge j i).elim (hj j) (fun e => ?_))
             obtain rfl : j = i := by omega
             (focus (simp only [lateM, hp, hq, decide_eq_false_iff_not]; omega))
           · (conv => whnf)
             refine ⟨[some 0, some 1, some 2], by decide, ?_, ?_⟩
             all_goals repeat' (first | exact leT_junk rfl | refine And.intro ?_ ?_ | exact trivial | exact .inl ⟨rfl, rfl⟩ | rfl | exact .inr ⟨_, rfl, rfl, rfl⟩ | exact ⟨_, rfl, trivial⟩ | exact ⟨_, rfl, rfl⟩ | exact ⟨_, rfl, ⟨rfl, rfl, rfl⟩, fun _ _ _ _ => rfl⟩ | exact ⟨_, rfl, ⟨rfl, rfl, .inl rfl⟩, rfl⟩ | exact ⟨_, rfl, ⟨rfl, rfl, .inr rfl⟩, rfl⟩ | exact ⟨_, rfl, ⟨rfl, rfl, rfl, rfl, rfl⟩, rfl⟩ | exact ⟨_, rfl, ⟨rfl, rfl⟩, fun _ => Iff.rfl⟩ | refine ⟨_, rfl, rfl, ?_⟩ | refine ⟨_, rfl, ⟨rfl, rfl, rfl⟩, ?_⟩))
        | fail
    · repeat' ((conv => whnf); first
        | refine QuiD.draw (draw_go tabOK (by kernel_rfl) ?_)
        | refine CutN.plain ?_
        | with_reducible refine Br.tt ?_
        | with_reducible refine Br.ff ?_
        | with_reducible refine Br.nt ?_
        | with_reducible refine Br.nf ?_
        | with_reducible refine Br.eeI ?_
        | with_reducible refine Br.nnI ?_
        | refine Br.yes (by decide) ?_
        | refine Br.no (by decide) ?_
        | refine AppN.own ?_
        | refine Need.go rfl ?_
        | refine QuiD.quiet (by kernel_rfl) ?_
        | refine IdxN.lit ?_
        | refine draw_go tabOK (by kernel_rfl) ?_
        | refine Need.go ⟨rfl, rfl⟩ ?_
        | refine Need.go ⟨⟨rfl, rfl, rfl⟩, rfl⟩ ?_
        | (with_reducible refine Br.dec (fun h => ?_) (fun h => ?_); first | (rotate_left; exfalso; omega; clear h) | (exfalso; omega; clear h) | skip)
        | (with_reducible refine Br.eqI (fun h => ?_) (fun h => ?_); first | (rotate_left; exfalso; omega; clear h) | (exfalso; omega; clear h) | skip)
        | (with_reducible refine Br.neI (fun h => ?_) (fun h => ?_); first | (rotate_left; exfalso; omega; clear h) | (exfalso; omega; clear h) | skip)
        | (with_reducible refine Br.eqS (fun h => ?_) (fun h => ?_); first | (rotate_left; exfalso; omega; clear h) | (exfalso; omega; clear h) | skip)
        | (with_reducible refine Br.neS (fun h => ?_) (fun h => ?_); first | (rotate_left; exfalso; omega; clear h) | (exfalso; omega; clear h) | skip)
        | (with_reducible refine Br.nd (fun h => ?_) (fun h => ?_); first | (rotate_left; exfalso; omega; clear h) | (exfalso; omega; clear h) | skip)
        | refine Ar.i64 (by omega) (by omega) ?_
        | refine Need.go (by first | omega | decide | (simp <;> omega) | fail) ?_
        | refine Need.go (by first | (simp [Value.oneCell'] <;> omega) | fail) ?_
        | refine Need.go ⟨rfl, by omega, getD_one rfl rfl⟩ ?_
        | refine Need.go ⟨rfl, by omega, fun _ _ _ _ => rfl⟩ ?_
        | refine Br.both (fun h => ?_) (fun h => ?_))
      all_goals (conv => whnf)
      all_goals exact ret_pure (fun _ => congrArg Value.bool (holdsM_yes ht (.inr fun j hj' => hj j (by omega))).symm)
  · -- a read that has no place
    rename_i hb ho
    have ht : toldM d r = false := by
      have hi : isReadM d r = false := by
        cases hi : isReadM d r with
        | false => rfl
        | true =>
          have := isReadM_t hi
          simp only [placeM, hb, hi, if_true] at hp
          omega
      simp [toldM, hb, ho, hi]
    exact ret_pure (fun _ => congrArg Value.bool (holdsM_told ht).symm)
  · -- a read that has one
    rename_i hb ho
    have hi : isReadM d r = true := by
      cases hi : isReadM d r with
      | true => rfl
      | false =>
        simp only [placeM, hb, hi, if_true, Bool.false_eq_true, if_false] at hp
        omega
    have hz := isReadM_t hi
    obtain ⟨q, hq⟩ : ∃ q, readN d r.op.key r.res.pos.toNat = q := ⟨_, rfl⟩
    have ht : toldM d r = decide (q = r.res) := by simp [toldM, hb, ho, hi, hq]
    repeat' ((conv => whnf); first
        | refine QuiD.draw (draw_go tabOK (by kernel_rfl) ?_)
        | refine CutN.plain ?_
        | with_reducible refine Br.tt ?_
        | with_reducible refine Br.ff ?_
        | with_reducible refine Br.nt ?_
        | with_reducible refine Br.nf ?_
        | with_reducible refine Br.eeI ?_
        | with_reducible refine Br.nnI ?_
        | refine Br.yes (by decide) ?_
        | refine Br.no (by decide) ?_
        | refine AppN.own ?_
        | refine Need.go rfl ?_
        | refine QuiD.quiet (by kernel_rfl) ?_
        | refine IdxN.lit ?_
        | refine draw_go tabOK (by kernel_rfl) ?_
        | refine Need.go ⟨rfl, rfl⟩ ?_
        | refine Need.go ⟨⟨rfl, rfl, rfl⟩, rfl⟩ ?_
        | (with_reducible refine Br.dec (fun h => ?_) (fun h => ?_); first | (rotate_left; exfalso; omega; clear h) | (exfalso; omega; clear h) | skip)
        | (with_reducible refine Br.eqI (fun h => ?_) (fun h => ?_); first | (rotate_left; exfalso; omega; clear h) | (exfalso; omega; clear h) | skip)
        | (with_reducible refine Br.neI (fun h => ?_) (fun h => ?_); first | (rotate_left; exfalso; omega; clear h) | (exfalso; omega; clear h) | skip)
        | (with_reducible refine Br.eqS (fun h => ?_) (fun h => ?_); first | (rotate_left; exfalso; omega; clear h) | (exfalso; omega; clear h) | skip)
        | (with_reducible refine Br.neS (fun h => ?_) (fun h => ?_); first | (rotate_left; exfalso; omega; clear h) | (exfalso; omega; clear h) | skip)
        | (with_reducible refine Br.nd (fun h => ?_) (fun h => ?_); first | (rotate_left; exfalso; omega; clear h) | (exfalso; omega; clear h) | skip)
        | refine Ar.i64 (by omega) (by omega) ?_
        | (refine call_sv (f := 87) (args := [.rs 1 d.length c2, .v (S r.op.key), .v (.int .i64 r.res.pos)]) (s := resS q) (fun _ => rfl) ?_ ?_; exact fun ρ w h => rlook_z d _ r.op.key r.res.pos q w (sl_rs h (i := 1) rfl (Nat.le_refl _) h3 h4) hz.2.2 hd hq)
        | (refine seg_sv (f := 87) (args := [.rs 1 d.length c2, .v (S r.op.key), .v (.int .i64 r.res.pos)]) (s := resS q) (fun _ => rfl) ?_ ?_; exact fun ρ w h => rlook_z d _ r.op.key r.res.pos q w (sl_rs h (i := 1) rfl (Nat.le_refl _) h3 h4) hz.2.2 hd hq)
        | refine Need.go (by first | omega | decide | (simp <;> omega) | fail) ?_
        | refine Need.go (by first | (simp [Value.oneCell'] <;> omega) | fail) ?_
        | refine Need.go ⟨rfl, by omega, getD_one rfl rfl⟩ ?_
        | refine Need.go ⟨rfl, by omega, fun _ _ _ _ => rfl⟩ ?_
        | refine Br.both (fun h => ?_) (fun h => ?_))
    all_goals (conv => whnf)
    all_goals try simp only [res_eq] at *
    · have ht0 : toldM d r = false := by rw [ht]; simp_all
      exact ret_pure (fun _ => congrArg Value.bool (holdsM_told ht0).symm)
    · refine ⟨(), by rw [ht]; simp_all, ?_⟩
      (conv => whnf)
      refine ⟨[some 0, some 1, some 2], by decide, ?_, ?_⟩
      all_goals repeat' (first | exact leT_junk rfl | refine And.intro ?_ ?_ | exact trivial | exact .inl ⟨rfl, rfl⟩ | rfl | exact .inr ⟨_, rfl, rfl, rfl⟩ | exact ⟨_, rfl, trivial⟩ | exact ⟨_, rfl, rfl⟩ | exact ⟨_, rfl, ⟨rfl, rfl, rfl⟩, fun _ _ _ _ => rfl⟩ | exact ⟨_, rfl, ⟨rfl, rfl, .inl rfl⟩, rfl⟩ | exact ⟨_, rfl, ⟨rfl, rfl, .inr rfl⟩, rfl⟩ | exact ⟨_, rfl, ⟨rfl, rfl, rfl, rfl, rfl⟩, rfl⟩ | exact ⟨_, rfl, ⟨rfl, rfl⟩, fun _ => Iff.rfl⟩ | refine ⟨_, rfl, rfl, ?_⟩ | refine ⟨_, rfl, ⟨rfl, rfl, rfl⟩, ?_⟩)
  · -- a read that was not answered
    rename_i hb
    refine ⟨(), by simp [toldM, hb, h], ?_⟩
    (conv => whnf)
    refine ⟨[some 0, some 1, some 2], by decide, ?_, ?_⟩
    all_goals repeat' (first | exact leT_junk rfl | refine And.intro ?_ ?_ | exact trivial | exact .inl ⟨rfl, rfl⟩ | rfl | exact .inr ⟨_, rfl, rfl, rfl⟩ | exact ⟨_, rfl, trivial⟩ | exact ⟨_, rfl, rfl⟩ | exact ⟨_, rfl, ⟨rfl, rfl, rfl⟩, fun _ _ _ _ => rfl⟩ | exact ⟨_, rfl, ⟨rfl, rfl, .inl rfl⟩, rfl⟩ | exact ⟨_, rfl, ⟨rfl, rfl, .inr rfl⟩, rfl⟩ | exact ⟨_, rfl, ⟨rfl, rfl, rfl, rfl, rfl⟩, rfl⟩ | exact ⟨_, rfl, ⟨rfl, rfl⟩, fun _ => Iff.rfl⟩ | refine ⟨_, rfl, rfl, ?_⟩ | refine ⟨_, rfl, ⟨rfl, rfl, rfl⟩, ?_⟩)
  · -- an update
    have hb := h
    clear h
    have hel := entsN_len d r.client r.seq
    have hc : countN d r.client r.seq ≤ d.length := List.length_filter_le _ _
    rcases hf : firstN d r.client r.seq with _ | i
    · have h0 := first_count.1 hf
      have ht : toldM d r = decide (r.okind ≠ 1) := by simp [toldM, hb, hf]
      repeat' ((conv => whnf); first
          | refine QuiD.draw (draw_go tabOK (by kernel_rfl) ?_)
          | refine CutN.plain ?_
          | with_reducible refine Br.tt ?_
          | with_reducible refine Br.ff ?_
          | with_reducible refine Br.nt ?_
          | with_reducible refine Br.nf ?_
          | with_reducible refine Br.eeI ?_
          | with_reducible refine Br.nnI ?_
          | refine Br.yes (by decide) ?_
          | refine Br.no (by decide) ?_
          | refine AppN.own ?_
          | refine Need.go rfl ?_
          | refine QuiD.quiet (by kernel_rfl) ?_
          | refine IdxN.lit ?_
          | refine draw_go tabOK (by kernel_rfl) ?_
          | refine Need.go ⟨rfl, rfl⟩ ?_
          | refine Need.go ⟨⟨rfl, rfl, rfl⟩, rfl⟩ ?_
          | (with_reducible refine Br.dec (fun h => ?_) (fun h => ?_); first | (rotate_left; exfalso; omega; clear h) | (exfalso; omega; clear h) | skip)
          | (with_reducible refine Br.eqI (fun h => ?_) (fun h => ?_); first | (rotate_left; exfalso; omega; clear h) | (exfalso; omega; clear h) | skip)
          | (with_reducible refine Br.neI (fun h => ?_) (fun h => ?_); first | (rotate_left; exfalso; omega; clear h) | (exfalso; omega; clear h) | skip)
          | (with_reducible refine Br.eqS (fun h => ?_) (fun h => ?_); first | (rotate_left; exfalso; omega; clear h) | (exfalso; omega; clear h) | skip)
          | (with_reducible refine Br.neS (fun h => ?_) (fun h => ?_); first | (rotate_left; exfalso; omega; clear h) | (exfalso; omega; clear h) | skip)
          | (with_reducible refine Br.nd (fun h => ?_) (fun h => ?_); first | (rotate_left; exfalso; omega; clear h) | (exfalso; omega; clear h) | skip)
          | refine Ar.i64 (by omega) (by omega) ?_
          | (refine call_sp (f := 88) (rents23 d c2 r.client r.seq hd) [1] (by decide) rfl ⟨rfl, trivial⟩ rfl ?_; rintro s H1 ⟨rfl, rfl⟩)
          | (refine seg_sp (f := 88) (rents23 d c2 r.client r.seq hd) (fun _ => rfl) [1] (by decide) rfl ⟨rfl, trivial⟩ rfl ?_)
          | refine Need.go (by first | omega | decide | (simp <;> omega) | fail) ?_
          | refine Need.go (by first | (simp [Value.oneCell'] <;> omega) | fail) ?_
          | refine Need.go ⟨rfl, by omega, getD_one rfl rfl⟩ ?_
          | refine Need.go ⟨rfl, by omega, fun _ _ _ _ => rfl⟩ ?_
          | refine Br.both (fun h => ?_) (fun h => ?_))
      all_goals (conv => whnf)
      all_goals first
        | (refine ret_pure (fun _ => congrArg Value.bool (holdsM_told ?_).symm)
           (focus (rw [ht]; simp_all; done)))
        | (refine ⟨(), ?_, ?_⟩
           · (focus (rw [ht]; simp_all; done))
           · (conv => whnf)
             refine ⟨[some 0, some 1, some 2], by decide, ?_, ?_⟩
             all_goals repeat' (first | exact leT_junk rfl | refine And.intro ?_ ?_ | exact trivial | exact .inl ⟨rfl, rfl⟩ | rfl | exact .inr ⟨_, rfl, rfl, rfl⟩ | exact ⟨_, rfl, trivial⟩ | exact ⟨_, rfl, rfl⟩ | exact ⟨_, rfl, ⟨rfl, rfl, rfl⟩, fun _ _ _ _ => rfl⟩ | exact ⟨_, rfl, ⟨rfl, rfl, .inl rfl⟩, rfl⟩ | exact ⟨_, rfl, ⟨rfl, rfl, .inr rfl⟩, rfl⟩ | exact ⟨_, rfl, ⟨rfl, rfl, rfl, rfl, rfl⟩, rfl⟩ | exact ⟨_, rfl, ⟨rfl, rfl⟩, fun _ => Iff.rfl⟩ | refine ⟨_, rfl, rfl, ?_⟩ | refine ⟨_, rfl, ⟨rfl, rfl, rfl⟩, ?_⟩))
        | fail
    · have h0 := count_some hf
      have hi := firstN_lt hf
      have he : (entsN d r.client r.seq d.length).getD (Int.toNat 0) 0 = (i : Int) := entsN_first d r.client r.seq hf
      obtain ⟨q, hq⟩ : ∃ q, didN d i = q := ⟨_, rfl⟩
      have ht : toldM d r = (decide (countN d r.client r.seq = 1) && (decide ((d.getD i entZ).op = r.op) && (decide (r.okind ≠ 2) && (decide (r.okind ≠ 1) || decide (q = r.res))))) := by simp only [toldM, hb, hf, hq, Bool.false_eq_true, if_false]
      have hn : ((entsN d r.client r.seq d.length).getD (Int.toNat 0) 0).toNat < d.length := by rw [he]; simpa using hi
      repeat' ((conv => whnf); first
          | refine QuiD.draw (draw_go tabOK (by kernel_rfl) ?_)
          | refine CutN.plain ?_
          | with_reducible refine Br.tt ?_
          | with_reducible refine Br.ff ?_
          | with_reducible refine Br.nt ?_
          | with_reducible refine Br.nf ?_
          | with_reducible refine Br.eeI ?_
          | with_reducible refine Br.nnI ?_
          | refine Br.yes (by decide) ?_
          | refine Br.no (by decide) ?_
          | refine AppN.own ?_
          | refine Need.go rfl ?_
          | refine QuiD.quiet (by kernel_rfl) ?_
          | refine IdxN.lit ?_
          | refine draw_go tabOK (by kernel_rfl) ?_
          | refine Need.go ⟨rfl, rfl⟩ ?_
          | refine Need.go ⟨⟨rfl, rfl, rfl⟩, rfl⟩ ?_
          | (with_reducible refine Br.dec (fun h => ?_) (fun h => ?_); first | (rotate_left; exfalso; omega; clear h) | (exfalso; omega; clear h) | skip)
          | (with_reducible refine Br.eqI (fun h => ?_) (fun h => ?_); first | (rotate_left; exfalso; omega; clear h) | (exfalso; omega; clear h) | skip)
          | (with_reducible refine Br.neI (fun h => ?_) (fun h => ?_); first | (rotate_left; exfalso; omega; clear h) | (exfalso; omega; clear h) | skip)
          | (with_reducible refine Br.eqS (fun h => ?_) (fun h => ?_); first | (rotate_left; exfalso; omega; clear h) | (exfalso; omega; clear h) | skip)
          | (with_reducible refine Br.neS (fun h => ?_) (fun h => ?_); first | (rotate_left; exfalso; omega; clear h) | (exfalso; omega; clear h) | skip)
          | (with_reducible refine Br.nd (fun h => ?_) (fun h => ?_); first | (rotate_left; exfalso; omega; clear h) | (exfalso; omega; clear h) | skip)
          | refine Ar.i64 (by omega) (by omega) ?_
          | refine Need.go ⟨rfl, hn, by decide⟩ ?_
          | (refine call_sv (f := 89) (args := [.rs 1 d.length c2, .v (.int .i64 ((entsN d r.client r.seq d.length).getD (Int.toNat 0) 0))]) (s := resS q) (fun _ => rfl) ?_ ?_; exact fun ρ w h => rdid_z d _ _ i q w (sl_rs h (i := 1) rfl (Nat.le_refl _) h3 h4) he hi hd hq)
          | (refine seg_sv (f := 89) (args := [.rs 1 d.length c2, .v (.int .i64 ((entsN d r.client r.seq d.length).getD (Int.toNat 0) 0))]) (s := resS q) (fun _ => rfl) ?_ ?_; exact fun ρ w h => rdid_z d _ _ i q w (sl_rs h (i := 1) rfl (Nat.le_refl _) h3 h4) he hi hd hq)
          | (refine call_sp (f := 88) (rents23 d c2 r.client r.seq hd) [1] (by decide) rfl ⟨rfl, trivial⟩ rfl ?_; rintro s H1 ⟨rfl, rfl⟩)
          | (refine seg_sp (f := 88) (rents23 d c2 r.client r.seq hd) (fun _ => rfl) [1] (by decide) rfl ⟨rfl, trivial⟩ rfl ?_)
          | refine Need.go (by first | omega | decide | (simp <;> omega) | fail) ?_
          | refine Need.go (by first | (simp [Value.oneCell'] <;> omega) | fail) ?_
          | refine Need.go ⟨rfl, by omega, getD_one rfl rfl⟩ ?_
          | refine Need.go ⟨rfl, by omega, fun _ _ _ _ => rfl⟩ ?_
          | refine Br.both (fun h => ?_) (fun h => ?_))
      all_goals (conv => whnf)
      all_goals try simp only [op_eq, res_eq] at *
      all_goals first
        | (refine ret_pure (fun _ => congrArg Value.bool (holdsM_told ?_).symm)
           (focus (rw [ht]; clear ht; simp_all <;> first | omega | (intros; omega))))
        | (refine ⟨(), ?_, ?_⟩
           · (focus (rw [ht]; clear ht; simp_all <;> first | omega | (intros; omega)))
           · (conv => whnf)
             refine ⟨[some 0, some 1, some 2], by decide, ?_, ?_⟩
             all_goals repeat' (first | exact leT_junk rfl | refine And.intro ?_ ?_ | exact trivial | exact .inl ⟨rfl, rfl⟩ | rfl | exact .inr ⟨_, rfl, rfl, rfl⟩ | exact ⟨_, rfl, trivial⟩ | exact ⟨_, rfl, rfl⟩ | exact ⟨_, rfl, ⟨rfl, rfl, rfl⟩, fun _ _ _ _ => rfl⟩ | exact ⟨_, rfl, ⟨rfl, rfl, .inl rfl⟩, rfl⟩ | exact ⟨_, rfl, ⟨rfl, rfl, .inr rfl⟩, rfl⟩ | exact ⟨_, rfl, ⟨rfl, rfl, rfl, rfl, rfl⟩, rfl⟩ | exact ⟨_, rfl, ⟨rfl, rfl⟩, fun _ => Iff.rfl⟩ | refine ⟨_, rfl, rfl, ?_⟩ | refine ⟨_, rfl, ⟨rfl, rfl, rfl⟩, ?_⟩))
        | fail
end Go.Proofs.Ytlphkjbadjdleaa
