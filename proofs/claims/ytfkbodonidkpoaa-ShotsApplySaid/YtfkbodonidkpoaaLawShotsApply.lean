/-
  ShotsApply: the walk. No condition.
-/
import Derived.Test.YtfkbodonidkpoaaPU
import Derived.Test.YtfkbodonidkpoaaShLaw2
import Derived.Test.YtfkbodonidkpoaaShR6
import Derived.Test.YtfkbodonidkpoaaShR5
import Derived.Test.YtfkbodonidkpoaaShRows
namespace Go.Proofs.Ytfkbodonidkpoaa.lawShotsApply
open Go.RowKit
theorem SliceV.as {w : World} {v : Value} {sz n n' : Nat} {f g : Nat → Nat → Value} (h : SliceV w v sz n f) (hn : n = n') (hf : ∀ r c, r < n → c < sz → f r c = g r c) : SliceV w v sz n' g := by
  subst hn
  obtain ⟨a, cap, rfl, h1, h2, h3⟩ := h
  refine ⟨a, cap, rfl, h1, h2, fun hn => ?_⟩
  obtain ⟨b, off, ha, hb, hc⟩ := h3 hn
  exact ⟨b, off, ha, hb, fun r c hr hcz => (hc r c hr hcz).trans (by rw [hf r c hr hcz])⟩
theorem row7 {F G : Nat → Nat → Value} (h0 : F 0 0 = G 0 0) (h1 : F 0 1 = G 0 1) (h2 : F 0 2 = G 0 2) (h3 : F 0 3 = G 0 3) (h4 : F 0 4 = G 0 4) (h5 : F 0 5 = G 0 5) (h6 : F 0 6 = G 0 6) : ∀ r c, r < 1 → c < 7 → F r c = G r c := fun r c hr hc => by
  obtain rfl : r = 0 := by omega
  rcases c with _ | _ | _ | _ | _ | _ | _ | c
  · exact h0
  · exact h1
  · exact h2
  · exact h3
  · exact h4
  · exact h5
  · exact h6
  · omega
theorem next_len (s : ShM) (x : EntM) (h1 : s.cells.length ≤ 20) (h2 : s.lasts.length ≤ 10) : SmallS (applyS s x).1 := by
  unfold applyS
  split
  · refine ⟨?_, ?_⟩
    · have := applyD_len s.cells x.index x.op
      show (applyD s.cells x.index x.op).1.length ≤ _
      omega
    · have : ∀ (l : List LaM) (y : LaM), (putL l y).length ≤ l.length + 1 := fun l y => by
        induction l with
        | nil => simp [putL]
        | cons a r ih => simp only [putL]; split <;> (try split) <;> simp <;> omega
      have := this s.lasts ⟨x.client, x.seq, (applyD s.cells x.index x.op).2⟩
      show (putL _ _).length ≤ _
      omega
  · exact ⟨Nat.zero_le _, Nat.zero_le _⟩
theorem rshApply_any (s : ShM) (x : EntM) (p q : Value) (w : World) (hp : CelSl w p s) (hq : LasSl w q s) (hs : SmallS s) :
    Calls Try.prog 24 #[shV s p q, entV x] w (OutR w (applyS s x).1 (applyS s x).2.1 (applyS s x).2.2) := by
  by_cases he : errS s x = 0
  · exact rshApply_ok s x p q w hp hq hs he
  · exact rshApply_err s x p q w hp hq hs he
theorem rshApply_n {w0 : World} {U : Nat → Prop} {H : List HE} {K : SV → List HE → Prop} (s : ShM) (x : EntM) (p q : SV) (hp : ∀ ρ w, HRel w0 U ρ H w → CelSl w (p.den ρ) s) (hq : ∀ ρ w, HRel w0 U ρ H w → LasSl w (q.den ρ) s) (hs : SmallS s) (t : ShM) (r : ResM) (er : Int) (ht : applyS s x = (t, r, er))
    (hK : lenK H fun N => appK H (.own 128 3 t.cells.length (celF t.cells)) fun H' => appK H' (.own 100 6 t.lasts.length (laF t.lasts)) fun H'' => K (.tup [shS t (.os N t.cells.length) (.os (N + 1) t.lasts.length), resS r, .v (.int .i64 er)]) H'') :
    CallN Try.prog w0 U 24 [shS s p q, entS x] H K :=
  call_own2 _ _ _ _ _ _ _ _ (fun N => .tup [shS t (.os N t.cells.length) (.os (N + 1) t.lasts.length), resS r, .v (.int .i64 er)]) (fun v v2 => .tuple #[shV t v v2, resV r, .int .i64 er]) (fun N ρ' v v2 h1 h2 => by subst h1 h2; rfl) (fun ρ w hr => by
    refine (rshApply_any s x (p.den ρ) (q.den ρ) w (hp ρ w hr) (hq ρ w hr) hs).mono ?_
    rintro e w' ⟨v1, v2, he, h1, h2, h3, h4⟩
    rw [ht] at he h1 h2
    exact ⟨v1, v2, he, h1, h2, h3, h4⟩) hK
set_option maxRecDepth 100000 in
set_option maxHeartbeats 8000000 in
theorem core (s : ShM) (x : EntM) (p q : Value) (w : World) (hp : CelSl w p s) (hq : LasSl w q s) : Calls Try.prog 6 #[shV s p q, entV x] w fun e w' => e = .returned (.bool true) ∧ w.grownBy w' none := by
  obtain ⟨a, cap, rfl, h1, h2, hr⟩ := hp
  obtain ⟨a2, cap2, rfl, h3, h4, hr2⟩ := hq
  refine x_calls tabOK Try.func6 rfl [shS s (.rs 0 s.cells.length cap) (.rs 1 s.lasts.length cap2), entS x] _ _ rfl rfl (relR2 hr hr2) ?_
  obtain ⟨index, client, seq, op⟩ := x
  rcases hg : greatS s with _ | _
  case true =>
    repeat' ((conv => whnf); first
        | refine CutN.plain ?_
        | with_reducible refine Br.tt ?_
        | with_reducible refine Br.ff ?_
        | with_reducible refine Br.nt ?_
        | with_reducible refine Br.nf ?_
        | with_reducible refine Br.eeI ?_
        | with_reducible refine Br.nnI ?_
        | refine Br.yes (by decide) ?_
        | refine Br.no (by decide) ?_
        | refine Need.go rfl ?_
        | refine QuiD.quiet (by kernel_rfl) ?_
        | refine IdxN.lit ?_
        | refine draw_go tabOK (by kernel_rfl) ?_
        | refine Need.go ⟨rfl, rfl⟩ ?_
        | refine Need.go ⟨⟨rfl, rfl, rfl⟩, rfl⟩ ?_
        | (with_reducible refine Br.dec (fun h => ?_) (fun h => ?_); first | (rotate_left; exfalso; omega; clear h) | (exfalso; omega; clear h) | skip)
        | (with_reducible refine Br.eqI (fun h => ?_) (fun h => ?_); first | (rotate_left; exfalso; omega; clear h) | (exfalso; omega; clear h) | skip)
        | (with_reducible refine Br.neI (fun h => ?_) (fun h => ?_); first | (rotate_left; exfalso; omega; clear h) | (exfalso; omega; clear h) | skip)
        | (with_reducible refine Br.eqS (fun h => ?_) (fun h => ?_); first | (rotate_left; exfalso; omega; clear h) | (exfalso; omega; clear h) | skip)
        | (with_reducible refine Br.neS (fun h => ?_) (fun h => ?_); first | (rotate_left; exfalso; omega; clear h) | (exfalso; omega; clear h) | skip)
        | (with_reducible refine Br.nd (fun h => ?_) (fun h => ?_); first | (rotate_left; exfalso; omega; clear h) | (exfalso; omega; clear h) | skip)
        | refine Ar.i64 (by omega) (by omega) ?_
        | (refine call_mem (f := 38) (args := [shS s (.rs 0 s.cells.length cap) (.rs 1 s.lasts.length cap2)]) (V := .bool true) ?_ ?_; exact fun ρ w h => (by have := great27_any s _ _ w (sl_rs h (i := 0) rfl (Nat.le_refl _) h1 h2) (sl_rs h (i := 1) rfl (Nat.le_refl _) h3 h4); rw [hg] at this; exact this))
        | (refine quiet_mem (f := 38) (args := [shS s (.rs 0 s.cells.length cap) (.rs 1 s.lasts.length cap2)]) (V := .bool true) ?_ ?_; exact fun ρ w h => (by have := great27_any s _ _ w (sl_rs h (i := 0) rfl (Nat.le_refl _) h1 h2) (sl_rs h (i := 1) rfl (Nat.le_refl _) h3 h4); rw [hg] at this; exact this))
        | (refine seg_mem (f := 38) (args := [shS s (.rs 0 s.cells.length cap) (.rs 1 s.lasts.length cap2)]) (V := .bool true) ?_ ?_; exact fun ρ w h => (by have := great27_any s _ _ w (sl_rs h (i := 0) rfl (Nat.le_refl _) h1 h2) (sl_rs h (i := 1) rfl (Nat.le_refl _) h3 h4); rw [hg] at this; exact this))
        | (refine call_mem (f := 39) (args := []) (V := .bool true) ?_ ?_; exact fun ρ w h => shot27_any w)
        | (refine quiet_mem (f := 39) (args := []) (V := .bool true) ?_ ?_; exact fun ρ w h => shot27_any w)
        | (refine seg_mem (f := 39) (args := []) (V := .bool true) ?_ ?_; exact fun ρ w h => shot27_any w)
        | refine Need.go (by first | omega | decide | (simp <;> omega) | fail) ?_
        | refine Need.go (by first | (simp [Value.oneCell'] <;> omega) | fail) ?_
        | refine Need.go ⟨rfl, by omega, getD_one rfl rfl⟩ ?_
        | refine Need.go ⟨rfl, by omega, fun _ _ _ _ => rfl⟩ ?_
        | refine Br.both (fun h => ?_) (fun h => ?_))
    all_goals (conv => whnf)
    all_goals exact ret_pure (fun _ => rfl)
  obtain ⟨hg1, hg2⟩ := greatS_small hg
  have hsm : SmallS s := ⟨by omega, by omega⟩
  rcases hge : greatE [⟨index, client, seq, op⟩] 1 with _ | _
  case true =>
    repeat' ((conv => whnf); first
        | refine CutN.plain ?_
        | with_reducible refine Br.tt ?_
        | with_reducible refine Br.ff ?_
        | with_reducible refine Br.nt ?_
        | with_reducible refine Br.nf ?_
        | with_reducible refine Br.eeI ?_
        | with_reducible refine Br.nnI ?_
        | refine Br.yes (by decide) ?_
        | refine Br.no (by decide) ?_
        | refine Need.go rfl ?_
        | refine QuiD.quiet (by kernel_rfl) ?_
        | refine IdxN.lit ?_
        | refine draw_go tabOK (by kernel_rfl) ?_
        | refine Need.go ⟨rfl, rfl⟩ ?_
        | refine Need.go ⟨⟨rfl, rfl, rfl⟩, rfl⟩ ?_
        | (with_reducible refine Br.dec (fun h => ?_) (fun h => ?_); first | (rotate_left; exfalso; omega; clear h) | (exfalso; omega; clear h) | skip)
        | (with_reducible refine Br.eqI (fun h => ?_) (fun h => ?_); first | (rotate_left; exfalso; omega; clear h) | (exfalso; omega; clear h) | skip)
        | (with_reducible refine Br.neI (fun h => ?_) (fun h => ?_); first | (rotate_left; exfalso; omega; clear h) | (exfalso; omega; clear h) | skip)
        | (with_reducible refine Br.eqS (fun h => ?_) (fun h => ?_); first | (rotate_left; exfalso; omega; clear h) | (exfalso; omega; clear h) | skip)
        | (with_reducible refine Br.neS (fun h => ?_) (fun h => ?_); first | (rotate_left; exfalso; omega; clear h) | (exfalso; omega; clear h) | skip)
        | (with_reducible refine Br.nd (fun h => ?_) (fun h => ?_); first | (rotate_left; exfalso; omega; clear h) | (exfalso; omega; clear h) | skip)
        | refine Ar.i64 (by omega) (by omega) ?_
        | (refine call_mem (f := 38) (args := [shS s (.rs 0 s.cells.length cap) (.rs 1 s.lasts.length cap2)]) (V := .bool false) ?_ ?_; exact fun ρ w h => (by have := great27_any s _ _ w (sl_rs h (i := 0) rfl (Nat.le_refl _) h1 h2) (sl_rs h (i := 1) rfl (Nat.le_refl _) h3 h4); rw [hg] at this; exact this))
        | (refine quiet_mem (f := 38) (args := [shS s (.rs 0 s.cells.length cap) (.rs 1 s.lasts.length cap2)]) (V := .bool false) ?_ ?_; exact fun ρ w h => (by have := great27_any s _ _ w (sl_rs h (i := 0) rfl (Nat.le_refl _) h1 h2) (sl_rs h (i := 1) rfl (Nat.le_refl _) h3 h4); rw [hg] at this; exact this))
        | (refine seg_mem (f := 38) (args := [shS s (.rs 0 s.cells.length cap) (.rs 1 s.lasts.length cap2)]) (V := .bool false) ?_ ?_; exact fun ρ w h => (by have := great27_any s _ _ w (sl_rs h (i := 0) rfl (Nat.le_refl _) h1 h2) (sl_rs h (i := 1) rfl (Nat.le_refl _) h3 h4); rw [hg] at this; exact this))
        | (refine call_mem (f := 23) (args := [.os 4 1, .v (.int .i64 1)]) (V := .bool true) ?_ ?_; exact fun ρ w h => (by have := entries27_any [⟨index, client, seq, op⟩] 1 _ w (SliceV.as (sl_os h (i := 4) rfl) rfl (row7 rfl rfl rfl rfl rfl rfl rfl)); rw [hge] at this; exact this))
        | (refine quiet_mem (f := 23) (args := [.os 4 1, .v (.int .i64 1)]) (V := .bool true) ?_ ?_; exact fun ρ w h => (by have := entries27_any [⟨index, client, seq, op⟩] 1 _ w (SliceV.as (sl_os h (i := 4) rfl) rfl (row7 rfl rfl rfl rfl rfl rfl rfl)); rw [hge] at this; exact this))
        | (refine seg_mem (f := 23) (args := [.os 4 1, .v (.int .i64 1)]) (V := .bool true) ?_ ?_; exact fun ρ w h => (by have := entries27_any [⟨index, client, seq, op⟩] 1 _ w (SliceV.as (sl_os h (i := 4) rfl) rfl (row7 rfl rfl rfl rfl rfl rfl rfl)); rw [hge] at this; exact this))
        | (refine call_mem (f := 39) (args := []) (V := .bool true) ?_ ?_; exact fun ρ w h => shot27_any w)
        | (refine quiet_mem (f := 39) (args := []) (V := .bool true) ?_ ?_; exact fun ρ w h => shot27_any w)
        | (refine seg_mem (f := 39) (args := []) (V := .bool true) ?_ ?_; exact fun ρ w h => shot27_any w)
        | refine Need.go (by first | omega | decide | (simp <;> omega) | fail) ?_
        | refine Need.go (by first | (simp [Value.oneCell'] <;> omega) | fail) ?_
        | refine Need.go ⟨rfl, by omega, getD_one rfl rfl⟩ ?_
        | refine Need.go ⟨rfl, by omega, fun _ _ _ _ => rfl⟩ ?_
        | refine Br.both (fun h => ?_) (fun h => ?_))
    all_goals (conv => whnf)
    all_goals exact ret_pure (fun _ => rfl)
  repeat' ((conv => whnf); first
      | refine CutN.plain ?_
      | with_reducible refine Br.tt ?_
      | with_reducible refine Br.ff ?_
      | with_reducible refine Br.nt ?_
      | with_reducible refine Br.nf ?_
      | with_reducible refine Br.eeI ?_
      | with_reducible refine Br.nnI ?_
      | refine Br.yes (by decide) ?_
      | refine Br.no (by decide) ?_
      | refine Need.go rfl ?_
      | refine QuiD.quiet (by kernel_rfl) ?_
      | refine IdxN.lit ?_
      | refine draw_go tabOK (by kernel_rfl) ?_
      | refine Need.go ⟨rfl, rfl⟩ ?_
      | refine Need.go ⟨⟨rfl, rfl, rfl⟩, rfl⟩ ?_
      | (with_reducible refine Br.dec (fun h => ?_) (fun h => ?_); first | (rotate_left; exfalso; omega; clear h) | (exfalso; omega; clear h) | skip)
      | (with_reducible refine Br.eqI (fun h => ?_) (fun h => ?_); first | (rotate_left; exfalso; omega; clear h) | (exfalso; omega; clear h) | skip)
      | (with_reducible refine Br.neI (fun h => ?_) (fun h => ?_); first | (rotate_left; exfalso; omega; clear h) | (exfalso; omega; clear h) | skip)
      | (with_reducible refine Br.eqS (fun h => ?_) (fun h => ?_); first | (rotate_left; exfalso; omega; clear h) | (exfalso; omega; clear h) | skip)
      | (with_reducible refine Br.neS (fun h => ?_) (fun h => ?_); first | (rotate_left; exfalso; omega; clear h) | (exfalso; omega; clear h) | skip)
      | (with_reducible refine Br.nd (fun h => ?_) (fun h => ?_); first | (rotate_left; exfalso; omega; clear h) | (exfalso; omega; clear h) | skip)
      | refine Ar.i64 (by omega) (by omega) ?_
      | (refine call_mem (f := 38) (args := [shS s (.rs 0 s.cells.length cap) (.rs 1 s.lasts.length cap2)]) (V := .bool false) ?_ ?_; exact fun ρ w h => (by have := great27_any s _ _ w (sl_rs h (i := 0) rfl (Nat.le_refl _) h1 h2) (sl_rs h (i := 1) rfl (Nat.le_refl _) h3 h4); rw [hg] at this; exact this))
      | (refine quiet_mem (f := 38) (args := [shS s (.rs 0 s.cells.length cap) (.rs 1 s.lasts.length cap2)]) (V := .bool false) ?_ ?_; exact fun ρ w h => (by have := great27_any s _ _ w (sl_rs h (i := 0) rfl (Nat.le_refl _) h1 h2) (sl_rs h (i := 1) rfl (Nat.le_refl _) h3 h4); rw [hg] at this; exact this))
      | (refine seg_mem (f := 38) (args := [shS s (.rs 0 s.cells.length cap) (.rs 1 s.lasts.length cap2)]) (V := .bool false) ?_ ?_; exact fun ρ w h => (by have := great27_any s _ _ w (sl_rs h (i := 0) rfl (Nat.le_refl _) h1 h2) (sl_rs h (i := 1) rfl (Nat.le_refl _) h3 h4); rw [hg] at this; exact this))
      | (refine call_mem (f := 23) (args := [.os 4 1, .v (.int .i64 1)]) (V := .bool false) ?_ ?_; exact fun ρ w h => (by have := entries27_any [⟨index, client, seq, op⟩] 1 _ w (SliceV.as (sl_os h (i := 4) rfl) rfl (row7 rfl rfl rfl rfl rfl rfl rfl)); rw [hge] at this; exact this))
      | (refine quiet_mem (f := 23) (args := [.os 4 1, .v (.int .i64 1)]) (V := .bool false) ?_ ?_; exact fun ρ w h => (by have := entries27_any [⟨index, client, seq, op⟩] 1 _ w (SliceV.as (sl_os h (i := 4) rfl) rfl (row7 rfl rfl rfl rfl rfl rfl rfl)); rw [hge] at this; exact this))
      | (refine seg_mem (f := 23) (args := [.os 4 1, .v (.int .i64 1)]) (V := .bool false) ?_ ?_; exact fun ρ w h => (by have := entries27_any [⟨index, client, seq, op⟩] 1 _ w (SliceV.as (sl_os h (i := 4) rfl) rfl (row7 rfl rfl rfl rfl rfl rfl rfl)); rw [hge] at this; exact this))
      | refine Need.go (by first | omega | decide | (simp <;> omega) | fail) ?_
      | refine Need.go (by first | (simp [Value.oneCell'] <;> omega) | fail) ?_
      | refine Need.go ⟨rfl, by omega, getD_one rfl rfl⟩ ?_
      | refine Need.go ⟨rfl, by omega, fun _ _ _ _ => rfl⟩ ?_
      | refine Br.both (fun h => ?_) (fun h => ?_))
  all_goals (conv => whnf)
  refine loop_up 21 (fun y : Nat × Int => y.1 ≤ 2) (fun y => 2 - y.1) (fun y => [(5, .v (.int .i64 y.1)), (6, .junk), (7, .junk), (8, .junk), (9, .junk), (10, .junk), (11, .junk), (12, .junk)]) (fun y => [(3, .ent (.blk 36 [.v (.int .i64 y.2), .v (.int .i64 client), .v (.int .i64 seq), .v (.int .i64 op.kind), .v (S op.key), .v (S op.value), .v (.int .i64 op.version)]))]) (fun _ => []) (0, index) (Nat.zero_le _) (by
    (conv => whnf)
    refine ⟨[some 0, some 1, some 2, some 3, some 4], by decide, ?_, ?_⟩
    all_goals repeat' (first | exact leT_junk rfl | refine And.intro ?_ ?_ | exact trivial | exact .inl ⟨rfl, rfl⟩ | rfl | exact .inr ⟨_, rfl, rfl, rfl⟩ | exact ⟨_, rfl, trivial⟩ | exact ⟨_, rfl, rfl⟩ | exact ⟨_, rfl, ⟨rfl, rfl, rfl⟩, fun _ _ _ _ => rfl⟩ | exact ⟨_, rfl, ⟨rfl, rfl, .inl rfl⟩, rfl⟩ | exact ⟨_, rfl, ⟨rfl, rfl, .inr rfl⟩, rfl⟩ | exact ⟨_, rfl, ⟨rfl, rfl, rfl, rfl, rfl⟩, rfl⟩ | exact ⟨_, rfl, ⟨rfl, rfl⟩, fun _ => Iff.rfl⟩ | refine ⟨_, rfl, rfl, ?_⟩ | refine ⟨_, rfl, ⟨rfl, rfl, rfl⟩, ?_⟩)) (fun y hy => ?_)
  obtain ⟨k, idx⟩ := y
  simp only at hy
  dsimp only
  by_cases hk : k < 2
  · obtain ⟨⟨t, r, er⟩, hap⟩ : ∃ z, applyS s ⟨idx, client, seq, op⟩ = z := ⟨_, rfl⟩
    have hst : SmallS t := by
      have := next_len s ⟨idx, client, seq, op⟩ hg1 hg2
      rw [hap] at this
      exact this
    repeat' ((conv => whnf); first
        | (refine QuiD.draw (ord_each tabOK (.sp 2 1 [0,2,1,3,4,5,6,7,8,9,10,11,12,13,14,15,16,17,18,19,20,21] [0,1,2,3,4,5,6,7,8,9,10,11,12,13,14,15,16,17,18,19,20,21] (.sp 18 17 [0,1,2,3,4,5,6,7,8,9,10,11,12,13,14,15,16,18,17,19,20,21] [0,1,2,3,4,5,6,7,8,9,10,11,12,13,14,15,16,17,18,19,20,21] .leaf .leaf) (.sp 18 17 [0,1,2,3,4,5,6,7,8,9,10,11,12,13,14,15,16,18,17,19,20,21] [0,1,2,3,4,5,6,7,8,9,10,11,12,13,14,15,16,17,18,19,20,21] .leaf .leaf)) (show _ = 22 from rfl) (by kernel_rfl) (by kernel_rfl) ?_))
        | refine And.intro ?_ ?_
        | refine CutN.plain ?_
        | with_reducible refine Br.tt ?_
        | with_reducible refine Br.ff ?_
        | with_reducible refine Br.nt ?_
        | with_reducible refine Br.nf ?_
        | with_reducible refine Br.eeI ?_
        | with_reducible refine Br.nnI ?_
        | refine Br.yes (by decide) ?_
        | refine Br.no (by decide) ?_
        | refine Need.go rfl ?_
        | refine QuiD.quiet (by kernel_rfl) ?_
        | refine IdxN.lit ?_
        | refine draw_go tabOK (by kernel_rfl) ?_
        | refine Need.go ⟨rfl, rfl⟩ ?_
        | refine Need.go ⟨⟨rfl, rfl, rfl⟩, rfl⟩ ?_
        | (with_reducible refine Br.dec (fun h => ?_) (fun h => ?_); first | (rotate_left; exfalso; omega; clear h) | (exfalso; omega; clear h) | skip)
        | (with_reducible refine Br.eqI (fun h => ?_) (fun h => ?_); first | (rotate_left; exfalso; omega; clear h) | (exfalso; omega; clear h) | skip)
        | (with_reducible refine Br.neI (fun h => ?_) (fun h => ?_); first | (rotate_left; exfalso; omega; clear h) | (exfalso; omega; clear h) | skip)
        | (with_reducible refine Br.eqS (fun h => ?_) (fun h => ?_); first | (rotate_left; exfalso; omega; clear h) | (exfalso; omega; clear h) | skip)
        | (with_reducible refine Br.neS (fun h => ?_) (fun h => ?_); first | (rotate_left; exfalso; omega; clear h) | (exfalso; omega; clear h) | skip)
        | (with_reducible refine Br.nd (fun h => ?_) (fun h => ?_); first | (rotate_left; exfalso; omega; clear h) | (exfalso; omega; clear h) | skip)
        | refine Ar.i64 (by omega) (by omega) ?_
        | (refine docS_n s (.rs 0 s.cells.length cap) (.rs 1 s.lasts.length cap2) ?_ ?_ hsm ?_; exact fun ρ w h => sl_rs h (i := 0) rfl (Nat.le_refl _) h1 h2; exact fun ρ w h => sl_rs h (i := 1) rfl (Nat.le_refl _) h3 h4)
        | (refine docS_n t (.os 8 t.cells.length) (.os 9 t.lasts.length) ?_ ?_ hst ?_; exact fun ρ w h => sl_os h (i := 8) rfl; exact fun ρ w h => sl_os h (i := 9) rfl)
        | (refine shApply_n s ⟨idx, client, seq, op⟩ (.rs 0 s.cells.length cap) (.rs 1 s.lasts.length cap2) ?_ ?_ hsm t r er hap ?_; exact fun ρ w h => sl_rs h (i := 0) rfl (Nat.le_refl _) h1 h2; exact fun ρ w h => sl_rs h (i := 1) rfl (Nat.le_refl _) h3 h4)
        | (refine rshApply_n s ⟨idx, client, seq, op⟩ (.os 5 s.cells.length) (.os 6 s.lasts.length) ?_ ?_ hsm t r er hap ?_; exact fun ρ w h => sl_os h (i := 5) rfl; exact fun ρ w h => sl_os h (i := 6) rfl)
        | (refine call_mem (f := 41) (args := [shS t (.os 16 t.cells.length) (.os 17 t.lasts.length), shS t (.os 12 t.cells.length) (.os 13 t.lasts.length)]) (V := .bool true) ?_ ?_; exact fun ρ w h => (by have := rshSame_any t t _ _ _ _ w (sl_os h (i := 16) rfl) (sl_os h (i := 17) rfl) (sl_os h (i := 12) rfl) (sl_os h (i := 13) rfl) hst; rw [show sameShB t t = true from decide_eq_true rfl] at this; exact this))
        | (refine quiet_mem (f := 41) (args := [shS t (.os 16 t.cells.length) (.os 17 t.lasts.length), shS t (.os 12 t.cells.length) (.os 13 t.lasts.length)]) (V := .bool true) ?_ ?_; exact fun ρ w h => (by have := rshSame_any t t _ _ _ _ w (sl_os h (i := 16) rfl) (sl_os h (i := 17) rfl) (sl_os h (i := 12) rfl) (sl_os h (i := 13) rfl) hst; rw [show sameShB t t = true from decide_eq_true rfl] at this; exact this))
        | (refine seg_mem (f := 41) (args := [shS t (.os 16 t.cells.length) (.os 17 t.lasts.length), shS t (.os 12 t.cells.length) (.os 13 t.lasts.length)]) (V := .bool true) ?_ ?_; exact fun ρ w h => (by have := rshSame_any t t _ _ _ _ w (sl_os h (i := 16) rfl) (sl_os h (i := 17) rfl) (sl_os h (i := 12) rfl) (sl_os h (i := 13) rfl) hst; rw [show sameShB t t = true from decide_eq_true rfl] at this; exact this))
        | (refine call_mem (f := 41) (args := [shS s (.os 18 s.cells.length) (.os 19 s.lasts.length), shS s (.os 5 s.cells.length) (.os 6 s.lasts.length)]) (V := .bool true) ?_ ?_; exact fun ρ w h => (by have := rshSame_any s s _ _ _ _ w (sl_os h (i := 18) rfl) (sl_os h (i := 19) rfl) (sl_os h (i := 5) rfl) (sl_os h (i := 6) rfl) hsm; rw [show sameShB s s = true from decide_eq_true rfl] at this; exact this))
        | (refine quiet_mem (f := 41) (args := [shS s (.os 18 s.cells.length) (.os 19 s.lasts.length), shS s (.os 5 s.cells.length) (.os 6 s.lasts.length)]) (V := .bool true) ?_ ?_; exact fun ρ w h => (by have := rshSame_any s s _ _ _ _ w (sl_os h (i := 18) rfl) (sl_os h (i := 19) rfl) (sl_os h (i := 5) rfl) (sl_os h (i := 6) rfl) hsm; rw [show sameShB s s = true from decide_eq_true rfl] at this; exact this))
        | (refine seg_mem (f := 41) (args := [shS s (.os 18 s.cells.length) (.os 19 s.lasts.length), shS s (.os 5 s.cells.length) (.os 6 s.lasts.length)]) (V := .bool true) ?_ ?_; exact fun ρ w h => (by have := rshSame_any s s _ _ _ _ w (sl_os h (i := 18) rfl) (sl_os h (i := 19) rfl) (sl_os h (i := 5) rfl) (sl_os h (i := 6) rfl) hsm; rw [show sameShB s s = true from decide_eq_true rfl] at this; exact this))
        | refine Need.go (by first | omega | decide | (simp <;> omega) | fail) ?_
        | refine Need.go (by first | (simp [Value.oneCell'] <;> omega) | fail) ?_
        | refine Need.go ⟨rfl, by omega, getD_one rfl rfl⟩ ?_
        | refine Need.go ⟨rfl, by omega, fun _ _ _ _ => rfl⟩ ?_
        | refine Br.both (fun h => ?_) (fun h => ?_))
    all_goals (conv => whnf)
    all_goals first
      | (exfalso; simp at h; done)
      | (refine ⟨(k + 1, max (min s.index 5000) (-1) + 1), by dsimp only; omega, by dsimp only; omega, ?_⟩
         dsimp only
         (conv => whnf)
         refine ⟨[some 0, some 1, some 2, some 3, some 4], by decide, ?_, ?_⟩
         all_goals repeat' (first | exact leT_junk rfl | refine And.intro ?_ ?_ | exact trivial | exact .inl ⟨rfl, rfl⟩ | rfl | exact .inr ⟨_, rfl, rfl, rfl⟩ | exact ⟨_, rfl, trivial⟩ | exact ⟨_, rfl, rfl⟩ | exact ⟨_, rfl, ⟨rfl, rfl, rfl⟩, fun _ _ _ _ => rfl⟩ | exact ⟨_, rfl, ⟨rfl, rfl, .inl rfl⟩, rfl⟩ | exact ⟨_, rfl, ⟨rfl, rfl, .inr rfl⟩, rfl⟩ | exact ⟨_, rfl, ⟨rfl, rfl, rfl, rfl, rfl⟩, rfl⟩ | exact ⟨_, rfl, ⟨rfl, rfl⟩, fun _ => Iff.rfl⟩ | refine ⟨_, rfl, rfl, ?_⟩ | refine ⟨_, rfl, ⟨rfl, rfl, rfl⟩, ?_⟩))
  · obtain rfl : k = 2 := by omega
    repeat' ((conv => whnf); first
        | refine CutN.plain ?_
        | with_reducible refine Br.tt ?_
        | with_reducible refine Br.ff ?_
        | with_reducible refine Br.nt ?_
        | with_reducible refine Br.nf ?_
        | with_reducible refine Br.eeI ?_
        | with_reducible refine Br.nnI ?_
        | refine Br.yes (by decide) ?_
        | refine Br.no (by decide) ?_
        | refine Need.go rfl ?_
        | refine QuiD.quiet (by kernel_rfl) ?_
        | refine IdxN.lit ?_
        | refine draw_go tabOK (by kernel_rfl) ?_
        | refine Need.go ⟨rfl, rfl⟩ ?_
        | refine Need.go ⟨⟨rfl, rfl, rfl⟩, rfl⟩ ?_
        | (with_reducible refine Br.dec (fun h => ?_) (fun h => ?_); first | (rotate_left; exfalso; omega; clear h) | (exfalso; omega; clear h) | skip)
        | (with_reducible refine Br.eqI (fun h => ?_) (fun h => ?_); first | (rotate_left; exfalso; omega; clear h) | (exfalso; omega; clear h) | skip)
        | (with_reducible refine Br.neI (fun h => ?_) (fun h => ?_); first | (rotate_left; exfalso; omega; clear h) | (exfalso; omega; clear h) | skip)
        | (with_reducible refine Br.eqS (fun h => ?_) (fun h => ?_); first | (rotate_left; exfalso; omega; clear h) | (exfalso; omega; clear h) | skip)
        | (with_reducible refine Br.neS (fun h => ?_) (fun h => ?_); first | (rotate_left; exfalso; omega; clear h) | (exfalso; omega; clear h) | skip)
        | (with_reducible refine Br.nd (fun h => ?_) (fun h => ?_); first | (rotate_left; exfalso; omega; clear h) | (exfalso; omega; clear h) | skip)
        | refine Ar.i64 (by omega) (by omega) ?_
        | (refine call_mem (f := 39) (args := []) (V := .bool true) ?_ ?_; exact fun ρ w h => shot27_any w)
        | (refine quiet_mem (f := 39) (args := []) (V := .bool true) ?_ ?_; exact fun ρ w h => shot27_any w)
        | (refine seg_mem (f := 39) (args := []) (V := .bool true) ?_ ?_; exact fun ρ w h => shot27_any w)
        | refine Need.go (by first | omega | decide | (simp <;> omega) | fail) ?_
        | refine Need.go (by first | (simp [Value.oneCell'] <;> omega) | fail) ?_
        | refine Need.go ⟨rfl, by omega, getD_one rfl rfl⟩ ?_
        | refine Need.go ⟨rfl, by omega, fun _ _ _ _ => rfl⟩ ?_
        | refine Br.both (fun h => ?_) (fun h => ?_))
    all_goals (conv => whnf)
    all_goals exact ret_pure (fun _ => rfl)
end Go.Proofs.Ytfkbodonidkpoaa.lawShotsApply
