/-
  LinksPlay: the walk. No condition. (Written by gen_lplay.py.)
-/
import Derived.Test.YtfniieigeofbdaaLr6
namespace Go.Proofs.Ytfniieigeofbdaa.lawLinksPlay
open Go.Proofs.Ytfniieigeofbdaa Go.RowKit
structure PlayS where
  k : Nat
  L : List MailM
  es : List (Value × Value)
  F : PairT → Value
  Z : Nat → Prop
  Q : World → Prop
structure PlayS.ok (m : Nat) (x : PlayS) : Prop where
  hk : x.k ≤ m
  hL : x.L.length ≤ x.k
  hg : goodL x.L
  hE : MailE x.L x.es x.F
  hP : PairS (fun p => listM x.L p.1 p.2) x.F x.Z x.Q
abbrev linkU (b : Nat) (es : List (Value × Value)) (Z : Nat → Prop) (Q : World → Prop) : List (Nat × HU) := [(b + 1, .ent (.mp true pairZ es none)), (b + 2, .ent (.res true Z Q))]
set_option maxRecDepth 100000 in
set_option maxHeartbeats 40000000 in
theorem core (cap : Int) (l : List LActM) (p : Value) (w : World) (hp : SliceV w p 5 l.length (lacF l)) (hw : ∀ x ∈ l, (0 ≤ x.kind ∧ x.kind ≤ 255) ∧ (-9223372036854775808 ≤ x.i ∧ x.i ≤ 9223372036854775807)) :
    Calls Try.prog 7 #[.int .i64 cap, p] w fun e w' => e = .returned (.bool true) ∧ w.grownBy w' none := by
  obtain ⟨a, c1, rfl, h1, h2, hr⟩ := hp
  unfold maxLen at h2
  refine x_calls tabOK Try.func7 rfl [.v (.int .i64 cap), .rs 0 l.length c1] _ _ rfl rfl (relR1 hr) ?_
  by_cases hok : okLacs l 120
  case neg =>
    repeat' ((conv => whnf); first
        | refine CutN.plain ?_
        | with_reducible refine Br.tt ?_
        | with_reducible refine Br.ff ?_
        | with_reducible refine Br.nt ?_
        | with_reducible refine Br.nf ?_
        | with_reducible refine Br.eeI ?_
        | with_reducible refine Br.nnI ?_
        | refine Br.yes (by decide) ?_
        | refine Br.no (by decide) ?_
        | refine AppN.own ?_
        | refine Need.go rfl ?_
        | refine QuiD.quiet (by kernel_rfl) ?_
        | refine IdxN.lit ?_
        | refine draw_go tabOK (by kernel_rfl) ?_
        | refine Need.go ⟨rfl, rfl⟩ ?_
        | refine Need.go ⟨⟨rfl, rfl, rfl⟩, rfl⟩ ?_
        | (with_reducible refine Br.dec (fun h => ?_) (fun h => ?_); first | (rotate_left; exfalso; omega; clear h) | (exfalso; omega; clear h) | skip)
        | (with_reducible refine Br.eqI (fun h => ?_) (fun h => ?_); first | (rotate_left; exfalso; omega; clear h) | (exfalso; omega; clear h) | skip)
        | (with_reducible refine Br.neI (fun h => ?_) (fun h => ?_); first | (rotate_left; exfalso; omega; clear h) | (exfalso; omega; clear h) | skip)
        | (with_reducible refine Br.eqS (fun h => ?_) (fun h => ?_); first | (rotate_left; exfalso; omega; clear h) | (exfalso; omega; clear h) | skip)
        | (with_reducible refine Br.neS (fun h => ?_) (fun h => ?_); first | (rotate_left; exfalso; omega; clear h) | (exfalso; omega; clear h) | skip)
        | (with_reducible refine Br.nd (fun h => ?_) (fun h => ?_); first | (rotate_left; exfalso; omega; clear h) | (exfalso; omega; clear h) | skip)
        | refine Ar.i64 (by omega) (by omega) ?_
        | (refine call_mem (f := 31) (args := [.rs 0 l.length c1, .v (.int .i64 120)]) (V := .bool true) ?_ ?_; exact fun ρ w h => lgreat_is l _ 120 w true ⟨fun h => (by cases h), fun h => absurd h hok⟩ (sl_rs h (i := 0) rfl (Nat.le_refl _) h1 h2))
        | (refine quiet_mem (f := 31) (args := [.rs 0 l.length c1, .v (.int .i64 120)]) (V := .bool true) ?_ ?_; exact fun ρ w h => lgreat_is l _ 120 w true ⟨fun h => (by cases h), fun h => absurd h hok⟩ (sl_rs h (i := 0) rfl (Nat.le_refl _) h1 h2))
        | (refine seg_mem (f := 31) (args := [.rs 0 l.length c1, .v (.int .i64 120)]) (V := .bool true) ?_ ?_; exact fun ρ w h => lgreat_is l _ 120 w true ⟨fun h => (by cases h), fun h => absurd h hok⟩ (sl_rs h (i := 0) rfl (Nat.le_refl _) h1 h2))
        | (refine call_mem (f := 22) (args := []) (V := .bool true) ?_ ?_; exact fun ρ w h => mailed_any w)
        | (refine quiet_mem (f := 22) (args := []) (V := .bool true) ?_ ?_; exact fun ρ w h => mailed_any w)
        | (refine seg_mem (f := 22) (args := []) (V := .bool true) ?_ ?_; exact fun ρ w h => mailed_any w)
        | refine Need.go (by first | omega | decide | (simp <;> omega) | fail) ?_
        | refine Need.go (by first | (simp [Value.oneCell'] <;> omega) | fail) ?_
        | refine Need.go ⟨rfl, by omega, getD_one rfl rfl⟩ ?_
        | refine Need.go ⟨rfl, by omega, fun _ _ _ _ => rfl⟩ ?_
        | refine Br.both (fun h => ?_) (fun h => ?_))
    all_goals (conv => whnf)
    all_goals exact ret_pure (fun _ => rfl)
  have hln : (l.length : Int) ≤ 120 := hok.2
  by_cases hcap : cap < 1 ∨ 64 < cap
  · repeat' ((conv => whnf); first
      | refine CutN.plain ?_
      | with_reducible refine Br.tt ?_
      | with_reducible refine Br.ff ?_
      | with_reducible refine Br.nt ?_
      | with_reducible refine Br.nf ?_
      | with_reducible refine Br.eeI ?_
      | with_reducible refine Br.nnI ?_
      | refine Br.yes (by decide) ?_
      | refine Br.no (by decide) ?_
      | refine AppN.own ?_
      | refine Need.go rfl ?_
      | refine QuiD.quiet (by kernel_rfl) ?_
      | refine IdxN.lit ?_
      | refine draw_go tabOK (by kernel_rfl) ?_
      | refine Need.go ⟨rfl, rfl⟩ ?_
      | refine Need.go ⟨⟨rfl, rfl, rfl⟩, rfl⟩ ?_
      | (with_reducible refine Br.dec (fun h => ?_) (fun h => ?_); first | (rotate_left; exfalso; omega; clear h) | (exfalso; omega; clear h) | skip)
      | (with_reducible refine Br.eqI (fun h => ?_) (fun h => ?_); first | (rotate_left; exfalso; omega; clear h) | (exfalso; omega; clear h) | skip)
      | (with_reducible refine Br.neI (fun h => ?_) (fun h => ?_); first | (rotate_left; exfalso; omega; clear h) | (exfalso; omega; clear h) | skip)
      | (with_reducible refine Br.eqS (fun h => ?_) (fun h => ?_); first | (rotate_left; exfalso; omega; clear h) | (exfalso; omega; clear h) | skip)
      | (with_reducible refine Br.neS (fun h => ?_) (fun h => ?_); first | (rotate_left; exfalso; omega; clear h) | (exfalso; omega; clear h) | skip)
      | (with_reducible refine Br.nd (fun h => ?_) (fun h => ?_); first | (rotate_left; exfalso; omega; clear h) | (exfalso; omega; clear h) | skip)
      | refine Ar.i64 (by omega) (by omega) ?_
      | (refine call_mem (f := 31) (args := [.rs 0 l.length c1, .v (.int .i64 120)]) (V := .bool false) ?_ ?_; exact fun ρ w h => lgreat_is l _ 120 w false ⟨fun _ => hok, fun _ => rfl⟩ (sl_rs h (i := 0) rfl (Nat.le_refl _) h1 h2))
      | (refine quiet_mem (f := 31) (args := [.rs 0 l.length c1, .v (.int .i64 120)]) (V := .bool false) ?_ ?_; exact fun ρ w h => lgreat_is l _ 120 w false ⟨fun _ => hok, fun _ => rfl⟩ (sl_rs h (i := 0) rfl (Nat.le_refl _) h1 h2))
      | (refine seg_mem (f := 31) (args := [.rs 0 l.length c1, .v (.int .i64 120)]) (V := .bool false) ?_ ?_; exact fun ρ w h => lgreat_is l _ 120 w false ⟨fun _ => hok, fun _ => rfl⟩ (sl_rs h (i := 0) rfl (Nat.le_refl _) h1 h2))
      | (refine call_mem (f := 23) (args := [.v (.int .i64 cap)]) (V := .tuple #[.pointer none, .int .i64 2]) ?_ ?_; exact fun ρ w h => lkNew_no hcap w)
      | (refine quiet_mem (f := 23) (args := [.v (.int .i64 cap)]) (V := .tuple #[.pointer none, .int .i64 2]) ?_ ?_; exact fun ρ w h => lkNew_no hcap w)
      | (refine seg_mem (f := 23) (args := [.v (.int .i64 cap)]) (V := .tuple #[.pointer none, .int .i64 2]) ?_ ?_; exact fun ρ w h => lkNew_no hcap w)
      | (refine call_mem (f := 32) (args := [.v (.int .i64 cap)]) (V := .tuple #[.pointer none, .int .i64 2]) ?_ ?_; exact fun ρ w h => rlNew_no hcap w)
      | (refine quiet_mem (f := 32) (args := [.v (.int .i64 cap)]) (V := .tuple #[.pointer none, .int .i64 2]) ?_ ?_; exact fun ρ w h => rlNew_no hcap w)
      | (refine seg_mem (f := 32) (args := [.v (.int .i64 cap)]) (V := .tuple #[.pointer none, .int .i64 2]) ?_ ?_; exact fun ρ w h => rlNew_no hcap w)
      | (refine call_mem (f := 22) (args := []) (V := .bool true) ?_ ?_; exact fun ρ w h => mailed_any w)
      | (refine quiet_mem (f := 22) (args := []) (V := .bool true) ?_ ?_; exact fun ρ w h => mailed_any w)
      | (refine seg_mem (f := 22) (args := []) (V := .bool true) ?_ ?_; exact fun ρ w h => mailed_any w)
      | refine Need.go (by first | omega | decide | (simp <;> omega) | fail) ?_
      | refine Need.go (by first | (simp [Value.oneCell'] <;> omega) | fail) ?_
      | refine Need.go ⟨rfl, by omega, getD_one rfl rfl⟩ ?_
      | refine Need.go ⟨rfl, by omega, fun _ _ _ _ => rfl⟩ ?_
      | refine Br.both (fun h => ?_) (fun h => ?_))
    all_goals (conv => whnf)
    all_goals exact ret_pure (fun _ => rfl)
  have hc1 : 1 ≤ cap := by omega
  have hc2 : cap ≤ 64 := by omega
  clear hcap
  repeat' ((conv => whnf); first
      | refine CutN.plain ?_
      | with_reducible refine Br.tt ?_
      | with_reducible refine Br.ff ?_
      | with_reducible refine Br.nt ?_
      | with_reducible refine Br.nf ?_
      | with_reducible refine Br.eeI ?_
      | with_reducible refine Br.nnI ?_
      | refine Br.yes (by decide) ?_
      | refine Br.no (by decide) ?_
      | refine AppN.own ?_
      | refine Need.go rfl ?_
      | refine QuiD.quiet (by kernel_rfl) ?_
      | refine IdxN.lit ?_
      | refine draw_go tabOK (by kernel_rfl) ?_
      | refine Need.go ⟨rfl, rfl⟩ ?_
      | refine Need.go ⟨⟨rfl, rfl, rfl⟩, rfl⟩ ?_
      | (with_reducible refine Br.dec (fun h => ?_) (fun h => ?_); first | (rotate_left; exfalso; omega; clear h) | (exfalso; omega; clear h) | skip)
      | (with_reducible refine Br.eqI (fun h => ?_) (fun h => ?_); first | (rotate_left; exfalso; omega; clear h) | (exfalso; omega; clear h) | skip)
      | (with_reducible refine Br.neI (fun h => ?_) (fun h => ?_); first | (rotate_left; exfalso; omega; clear h) | (exfalso; omega; clear h) | skip)
      | (with_reducible refine Br.eqS (fun h => ?_) (fun h => ?_); first | (rotate_left; exfalso; omega; clear h) | (exfalso; omega; clear h) | skip)
      | (with_reducible refine Br.neS (fun h => ?_) (fun h => ?_); first | (rotate_left; exfalso; omega; clear h) | (exfalso; omega; clear h) | skip)
      | (with_reducible refine Br.nd (fun h => ?_) (fun h => ?_); first | (rotate_left; exfalso; omega; clear h) | (exfalso; omega; clear h) | skip)
      | refine Ar.i64 (by omega) (by omega) ?_
      | (refine call_mem (f := 31) (args := [.rs 0 l.length c1, .v (.int .i64 120)]) (V := .bool false) ?_ ?_; exact fun ρ w h => lgreat_is l _ 120 w false ⟨fun _ => hok, fun _ => rfl⟩ (sl_rs h (i := 0) rfl (Nat.le_refl _) h1 h2))
      | (refine quiet_mem (f := 31) (args := [.rs 0 l.length c1, .v (.int .i64 120)]) (V := .bool false) ?_ ?_; exact fun ρ w h => lgreat_is l _ 120 w false ⟨fun _ => hok, fun _ => rfl⟩ (sl_rs h (i := 0) rfl (Nat.le_refl _) h1 h2))
      | (refine seg_mem (f := 31) (args := [.rs 0 l.length c1, .v (.int .i64 120)]) (V := .bool false) ?_ ?_; exact fun ρ w h => lgreat_is l _ 120 w false ⟨fun _ => hok, fun _ => rfl⟩ (sl_rs h (i := 0) rfl (Nat.le_refl _) h1 h2))
      | (refine call_sp (f := 23) (lkNew (cap := cap) hc1 hc2) [] (by decide) rfl trivial rfl ?_; rintro s H1 ⟨rfl, rfl⟩)
      | (refine call_sp (f := 32) (rlNew (cap := cap) hc1 hc2) [] (by decide) rfl trivial rfl ?_; rintro s H1 ⟨rfl, rfl⟩)
      | refine Need.go (by first | omega | decide | (simp <;> omega) | fail) ?_
      | refine Need.go (by first | (simp [Value.oneCell'] <;> omega) | fail) ?_
      | refine Need.go ⟨rfl, by omega, getD_one rfl rfl⟩ ?_
      | refine Need.go ⟨rfl, by omega, fun _ _ _ _ => rfl⟩ ?_
      | refine Br.both (fun h => ?_) (fun h => ?_))
  all_goals (conv => whnf)
  refine loop_up 51 (PlayS.ok l.length) (fun x => l.length - x.k) (fun x => [(4, .junk), (9, .v (.int .i64 x.k)), (10, .junk), (11, .junk), (12, .junk), (13, .junk), (14, .junk), (15, .junk), (16, .junk), (17, .junk), (18, .junk), (19, .junk), (20, .junk)]) (fun x => linkU 1 x.es x.Z x.Q ++ [(4, .ent (.blk 107 [.v (.int .i64 cap), .os 5 x.L.length])), (5, .ent (rlE x.L))]) (fun _ => []) ⟨0, [], [], fun _ => .slice none 0 0, fun _ => False, fun _ => True⟩ ⟨Nat.zero_le _, Nat.zero_le _, fun m h => by simp at h, MailE.new, PairS.new⟩ (by
    (conv => whnf)
    refine ⟨[some 0, some 1, some 2, some 3, some 4, some 5], by decide, ?_, ?_⟩
    all_goals repeat' (first | exact leT_junk rfl | refine And.intro ?_ ?_ | exact trivial | exact .inl ⟨rfl, rfl⟩ | rfl | exact .inr ⟨_, rfl, rfl, rfl⟩ | exact ⟨_, rfl, trivial⟩ | exact ⟨_, rfl, rfl⟩ | exact ⟨_, rfl, ⟨rfl, rfl, rfl⟩, fun _ _ _ _ => rfl⟩ | exact ⟨_, rfl, ⟨rfl, rfl, .inl rfl⟩, rfl⟩ | exact ⟨_, rfl, ⟨rfl, rfl, .inr rfl⟩, rfl⟩ | exact ⟨_, rfl, ⟨rfl, rfl, rfl, rfl, rfl⟩, rfl⟩ | exact ⟨_, rfl, ⟨rfl, rfl⟩, fun _ => Iff.rfl⟩ | refine ⟨_, rfl, rfl, ?_⟩ | refine ⟨_, rfl, ⟨rfl, rfl, rfl⟩, ?_⟩)) (fun x hx => ?_)
  obtain ⟨k, L, es, F, Z, Q⟩ := x
  obtain ⟨hk, hL, hg, hE, hP⟩ := hx
  dsimp only at hk hL hg hE hP ⊢
  by_cases hlt : k < l.length
  · have hx : (0 ≤ (l.getD (Int.toNat (k : Int)) lacZ).kind ∧ (l.getD (Int.toNat (k : Int)) lacZ).kind ≤ 255) ∧ (-9223372036854775808 ≤ (l.getD (Int.toNat (k : Int)) lacZ).i ∧ (l.getD (Int.toNat (k : Int)) lacZ).i ≤ 9223372036854775807) := hw _ (by rw [Int.toNat_natCast, List.getD, List.getElem?_eq_getElem hlt]; exact List.getElem_mem hlt)
    obtain ⟨⟨hx1, hx2⟩, hx3, hx4⟩ := hx
    by_cases hk4 : (l.getD (Int.toNat (k : Int)) lacZ).kind % 8 = 4
    · obtain ⟨⟨LD, mD, eD⟩, hd⟩ : ∃ q : List MailM × MailM × Int, deliverM L (l.getD (Int.toNat (k : Int)) lacZ).mail.frm (l.getD (Int.toNat (k : Int)) lacZ).mail.to (l.getD (Int.toNat (k : Int)) lacZ).i = q := ⟨_, rfl⟩
      obtain ⟨hgD, hlD⟩ := deliverM_keeps hd hg
      repeat' ((conv => whnf); first
          | (refine cut_up 2 51 (fun y : PlayS => (y.L.length ≤ k + 1 ∧ goodL y.L) ∧ MailE y.L y.es y.F ∧ PairS (fun p => listM y.L p.1 p.2) y.F y.Z y.Q) (fun y => [(13, .v (.bool true)), (14, .junk), (15, .junk), (16, .junk), (17, .junk), (18, .junk), (19, .junk), (20, .junk)]) (fun y => linkU 1 y.es y.Z y.Q ++ [(4, .ent (.blk 107 [.v (.int .i64 cap), .os 7 y.L.length])), (5, .ent .none)]) (fun y => [rlE y.L]) ?_ ?_)
          | refine CutN.plain ?_
          | with_reducible refine Br.tt ?_
          | with_reducible refine Br.ff ?_
          | with_reducible refine Br.nt ?_
          | with_reducible refine Br.nf ?_
          | with_reducible refine Br.eeI ?_
          | with_reducible refine Br.nnI ?_
          | refine Br.yes (by decide) ?_
          | refine Br.no (by decide) ?_
          | refine AppN.own ?_
          | refine Need.go rfl ?_
          | refine QuiD.quiet (by kernel_rfl) ?_
          | refine IdxN.lit ?_
          | refine draw_go tabOK (by kernel_rfl) ?_
          | refine Need.go ⟨rfl, rfl⟩ ?_
          | refine Need.go ⟨⟨rfl, rfl, rfl⟩, rfl⟩ ?_
          | (with_reducible refine Br.dec (fun h => ?_) (fun h => ?_); first | (rotate_left; exfalso; omega; clear h) | (exfalso; omega; clear h) | skip)
          | (with_reducible refine Br.eqI (fun h => ?_) (fun h => ?_); first | (rotate_left; exfalso; omega; clear h) | (exfalso; omega; clear h) | skip)
          | (with_reducible refine Br.neI (fun h => ?_) (fun h => ?_); first | (rotate_left; exfalso; omega; clear h) | (exfalso; omega; clear h) | skip)
          | (with_reducible refine Br.eqS (fun h => ?_) (fun h => ?_); first | (rotate_left; exfalso; omega; clear h) | (exfalso; omega; clear h) | skip)
          | (with_reducible refine Br.neS (fun h => ?_) (fun h => ?_); first | (rotate_left; exfalso; omega; clear h) | (exfalso; omega; clear h) | skip)
          | (with_reducible refine Br.nd (fun h => ?_) (fun h => ?_); first | (rotate_left; exfalso; omega; clear h) | (exfalso; omega; clear h) | skip)
          | refine Ar.i64 (by omega) (by omega) ?_
          | (refine call_sp (f := 28) (lkDeliver hE hP (by omega) (l.getD (Int.toNat (k : Int)) lacZ).mail.frm (l.getD (Int.toNat (k : Int)) lacZ).mail.to (l.getD (Int.toNat (k : Int)) lacZ).i hd) [1, 2, 3] (by decide) rfl ⟨rfl, rfl, rfl, trivial⟩ rfl ?_; rintro s H1 ⟨rfl, es5, F5, Z5, Q5, rfl, hE5, hP5⟩)
          | (refine call_sp (f := 33) (rlDeliver cap L (by omega) (l.getD (Int.toNat (k : Int)) lacZ).mail.frm (l.getD (Int.toNat (k : Int)) lacZ).mail.to (l.getD (Int.toNat (k : Int)) lacZ).i hx3 hx4 hd) [4, 5] (by decide) rfl ⟨rfl, rfl, trivial⟩ rfl ?_; rintro s H1 ⟨rfl, rfl⟩)
          | refine Br.yes (by simp) ?_
          | refine Need.go (by first | omega | decide | (simp <;> omega) | fail) ?_
          | refine Need.go (by first | (simp [Value.oneCell'] <;> omega) | fail) ?_
          | refine Need.go ⟨rfl, by omega, getD_one rfl rfl⟩ ?_
          | refine Need.go ⟨rfl, by omega, fun _ _ _ _ => rfl⟩ ?_
          | refine Br.both (fun h => ?_) (fun h => ?_))
      · -- behind the act
        intro y hy
        obtain ⟨k', L4, es4, F4, Z4, Q4⟩ := y
        obtain ⟨⟨hL4, hg4⟩, hE4, hP4⟩ := hy
        dsimp only at hL4 hg4 hE4 hP4 ⊢
        repeat' ((conv => whnf); first
            | refine CutN.plain ?_
            | with_reducible refine Br.tt ?_
            | with_reducible refine Br.ff ?_
            | with_reducible refine Br.nt ?_
            | with_reducible refine Br.nf ?_
            | with_reducible refine Br.eeI ?_
            | with_reducible refine Br.nnI ?_
            | refine Br.yes (by decide) ?_
            | refine Br.no (by decide) ?_
            | refine AppN.own ?_
            | refine Need.go rfl ?_
            | refine QuiD.quiet (by kernel_rfl) ?_
            | refine IdxN.lit ?_
            | refine draw_go tabOK (by kernel_rfl) ?_
            | refine Need.go ⟨rfl, rfl⟩ ?_
            | refine Need.go ⟨⟨rfl, rfl, rfl⟩, rfl⟩ ?_
            | (with_reducible refine Br.dec (fun h => ?_) (fun h => ?_); first | (rotate_left; exfalso; omega; clear h) | (exfalso; omega; clear h) | skip)
            | (with_reducible refine Br.eqI (fun h => ?_) (fun h => ?_); first | (rotate_left; exfalso; omega; clear h) | (exfalso; omega; clear h) | skip)
            | (with_reducible refine Br.neI (fun h => ?_) (fun h => ?_); first | (rotate_left; exfalso; omega; clear h) | (exfalso; omega; clear h) | skip)
            | (with_reducible refine Br.eqS (fun h => ?_) (fun h => ?_); first | (rotate_left; exfalso; omega; clear h) | (exfalso; omega; clear h) | skip)
            | (with_reducible refine Br.neS (fun h => ?_) (fun h => ?_); first | (rotate_left; exfalso; omega; clear h) | (exfalso; omega; clear h) | skip)
            | (with_reducible refine Br.nd (fun h => ?_) (fun h => ?_); first | (rotate_left; exfalso; omega; clear h) | (exfalso; omega; clear h) | skip)
            | refine Ar.i64 (by omega) (by omega) ?_
            | (refine call_sp (f := 37) (lkAlike hE4 hP4 (by omega) hg4) [1, 2, 3, 4, 7] (by decide) rfl ⟨rfl, rfl, rfl, rfl, rfl, trivial⟩ rfl ?_; rintro s H1 ⟨rfl, rfl⟩)
            | (refine seg_sp (f := 37) (lkAlike hE4 hP4 (by omega) hg4) (fun _ => rfl) [1, 2, 3, 4, 7] (by decide) rfl ⟨rfl, rfl, rfl, rfl, rfl, trivial⟩ rfl ?_)
            | refine Need.go (by first | omega | decide | (simp <;> omega) | fail) ?_
            | refine Need.go (by first | (simp [Value.oneCell'] <;> omega) | fail) ?_
            | refine Need.go ⟨rfl, by omega, getD_one rfl rfl⟩ ?_
            | refine Need.go ⟨rfl, by omega, fun _ _ _ _ => rfl⟩ ?_
            | refine Br.both (fun h => ?_) (fun h => ?_))
        all_goals (conv => whnf)
        refine ⟨⟨k + 1, L4, es4, F4, Z4, Q4⟩, ⟨by dsimp only; omega, by dsimp only; omega, hg4, hE4, hP4⟩, by dsimp only; omega, ?_⟩
        dsimp only
        (conv => whnf)
        refine ⟨[some 0, some 1, some 2, some 3, some 4, some 7], by decide, ?_, ?_⟩
        all_goals repeat' (first | exact leT_junk rfl | refine And.intro ?_ ?_ | exact trivial | exact .inl ⟨rfl, rfl⟩ | rfl | exact .inr ⟨_, rfl, rfl, rfl⟩ | exact ⟨_, rfl, trivial⟩ | exact ⟨_, rfl, rfl⟩ | exact ⟨_, rfl, ⟨rfl, rfl, rfl⟩, fun _ _ _ _ => rfl⟩ | exact ⟨_, rfl, ⟨rfl, rfl, .inl rfl⟩, rfl⟩ | exact ⟨_, rfl, ⟨rfl, rfl, .inr rfl⟩, rfl⟩ | exact ⟨_, rfl, ⟨rfl, rfl, rfl, rfl, rfl⟩, rfl⟩ | exact ⟨_, rfl, ⟨rfl, rfl⟩, fun _ => Iff.rfl⟩ | refine ⟨_, rfl, rfl, ?_⟩ | refine ⟨_, rfl, ⟨rfl, rfl, rfl⟩, ?_⟩)
      · (conv => whnf)
        refine ⟨⟨k, LD, es5, F5, Z5, Q5⟩, ⟨⟨by dsimp only; omega, hgD⟩, hE5, hP5⟩, ?_⟩
        dsimp only
        (conv => whnf)
        refine ⟨[some 0, some 1, some 2, some 3, some 4, some 5, some 6, some 8], by decide, ?_, ?_⟩
        all_goals repeat' (first | exact beq_self_eq_true _ | exact leT_junk rfl | refine And.intro ?_ ?_ | exact trivial | exact .inl ⟨rfl, rfl⟩ | rfl | exact .inr ⟨_, rfl, rfl, rfl⟩ | exact ⟨_, rfl, trivial⟩ | exact ⟨_, rfl, rfl⟩ | exact ⟨_, rfl, ⟨rfl, rfl, rfl⟩, fun _ _ _ _ => rfl⟩ | exact ⟨_, rfl, ⟨rfl, rfl, .inl rfl⟩, rfl⟩ | exact ⟨_, rfl, ⟨rfl, rfl, .inr rfl⟩, rfl⟩ | exact ⟨_, rfl, ⟨rfl, rfl, rfl, rfl, rfl⟩, rfl⟩ | exact ⟨_, rfl, ⟨rfl, rfl⟩, fun _ => Iff.rfl⟩ | refine ⟨_, rfl, rfl, ?_⟩ | refine ⟨_, rfl, ⟨rfl, rfl, rfl⟩, ?_⟩)
    by_cases hk5 : (l.getD (Int.toNat (k : Int)) lacZ).kind % 8 = 5
    · obtain ⟨⟨LD, mD, eD⟩, hd⟩ : ∃ q : List MailM × MailM × Int, deliverM L (l.getD (Int.toNat (k : Int)) lacZ).mail.frm (l.getD (Int.toNat (k : Int)) lacZ).mail.to (l.getD (Int.toNat (k : Int)) lacZ).i = q := ⟨_, rfl⟩
      obtain ⟨hgD, hlD⟩ := deliverM_keeps hd hg
      repeat' ((conv => whnf); first
          | (refine cut_up 2 51 (fun y : PlayS => (y.L.length ≤ k + 1 ∧ goodL y.L) ∧ MailE y.L y.es y.F ∧ PairS (fun p => listM y.L p.1 p.2) y.F y.Z y.Q) (fun y => [(13, .v (.bool true)), (14, .junk), (15, .junk), (16, .junk), (17, .junk), (18, .junk), (19, .junk), (20, .junk)]) (fun y => linkU 1 y.es y.Z y.Q ++ [(4, .ent (.blk 107 [.v (.int .i64 cap), .os 7 y.L.length])), (5, .ent .none)]) (fun y => [rlE y.L]) ?_ ?_)
          | refine CutN.plain ?_
          | with_reducible refine Br.tt ?_
          | with_reducible refine Br.ff ?_
          | with_reducible refine Br.nt ?_
          | with_reducible refine Br.nf ?_
          | with_reducible refine Br.eeI ?_
          | with_reducible refine Br.nnI ?_
          | refine Br.yes (by decide) ?_
          | refine Br.no (by decide) ?_
          | refine AppN.own ?_
          | refine Need.go rfl ?_
          | refine QuiD.quiet (by kernel_rfl) ?_
          | refine IdxN.lit ?_
          | refine draw_go tabOK (by kernel_rfl) ?_
          | refine Need.go ⟨rfl, rfl⟩ ?_
          | refine Need.go ⟨⟨rfl, rfl, rfl⟩, rfl⟩ ?_
          | (with_reducible refine Br.dec (fun h => ?_) (fun h => ?_); first | (rotate_left; exfalso; omega; clear h) | (exfalso; omega; clear h) | skip)
          | (with_reducible refine Br.eqI (fun h => ?_) (fun h => ?_); first | (rotate_left; exfalso; omega; clear h) | (exfalso; omega; clear h) | skip)
          | (with_reducible refine Br.neI (fun h => ?_) (fun h => ?_); first | (rotate_left; exfalso; omega; clear h) | (exfalso; omega; clear h) | skip)
          | (with_reducible refine Br.eqS (fun h => ?_) (fun h => ?_); first | (rotate_left; exfalso; omega; clear h) | (exfalso; omega; clear h) | skip)
          | (with_reducible refine Br.neS (fun h => ?_) (fun h => ?_); first | (rotate_left; exfalso; omega; clear h) | (exfalso; omega; clear h) | skip)
          | (with_reducible refine Br.nd (fun h => ?_) (fun h => ?_); first | (rotate_left; exfalso; omega; clear h) | (exfalso; omega; clear h) | skip)
          | refine Ar.i64 (by omega) (by omega) ?_
          | (refine call_sp (f := 25) (lkDrop hE hP (by omega) (l.getD (Int.toNat (k : Int)) lacZ).mail.frm (l.getD (Int.toNat (k : Int)) lacZ).mail.to (l.getD (Int.toNat (k : Int)) lacZ).i hd) [1, 2, 3] (by decide) rfl ⟨rfl, rfl, rfl, trivial⟩ rfl ?_; rintro s H1 ⟨rfl, es5, F5, Z5, Q5, rfl, hE5, hP5⟩)
          | (refine call_sp (f := 33) (rlDeliver cap L (by omega) (l.getD (Int.toNat (k : Int)) lacZ).mail.frm (l.getD (Int.toNat (k : Int)) lacZ).mail.to (l.getD (Int.toNat (k : Int)) lacZ).i hx3 hx4 hd) [4, 5] (by decide) rfl ⟨rfl, rfl, trivial⟩ rfl ?_; rintro s H1 ⟨rfl, rfl⟩)
          | refine Need.go (by first | omega | decide | (simp <;> omega) | fail) ?_
          | refine Need.go (by first | (simp [Value.oneCell'] <;> omega) | fail) ?_
          | refine Need.go ⟨rfl, by omega, getD_one rfl rfl⟩ ?_
          | refine Need.go ⟨rfl, by omega, fun _ _ _ _ => rfl⟩ ?_
          | refine Br.both (fun h => ?_) (fun h => ?_))
      · -- behind the act
        intro y hy
        obtain ⟨k', L4, es4, F4, Z4, Q4⟩ := y
        obtain ⟨⟨hL4, hg4⟩, hE4, hP4⟩ := hy
        dsimp only at hL4 hg4 hE4 hP4 ⊢
        repeat' ((conv => whnf); first
            | refine CutN.plain ?_
            | with_reducible refine Br.tt ?_
            | with_reducible refine Br.ff ?_
            | with_reducible refine Br.nt ?_
            | with_reducible refine Br.nf ?_
            | with_reducible refine Br.eeI ?_
            | with_reducible refine Br.nnI ?_
            | refine Br.yes (by decide) ?_
            | refine Br.no (by decide) ?_
            | refine AppN.own ?_
            | refine Need.go rfl ?_
            | refine QuiD.quiet (by kernel_rfl) ?_
            | refine IdxN.lit ?_
            | refine draw_go tabOK (by kernel_rfl) ?_
            | refine Need.go ⟨rfl, rfl⟩ ?_
            | refine Need.go ⟨⟨rfl, rfl, rfl⟩, rfl⟩ ?_
            | (with_reducible refine Br.dec (fun h => ?_) (fun h => ?_); first | (rotate_left; exfalso; omega; clear h) | (exfalso; omega; clear h) | skip)
            | (with_reducible refine Br.eqI (fun h => ?_) (fun h => ?_); first | (rotate_left; exfalso; omega; clear h) | (exfalso; omega; clear h) | skip)
            | (with_reducible refine Br.neI (fun h => ?_) (fun h => ?_); first | (rotate_left; exfalso; omega; clear h) | (exfalso; omega; clear h) | skip)
            | (with_reducible refine Br.eqS (fun h => ?_) (fun h => ?_); first | (rotate_left; exfalso; omega; clear h) | (exfalso; omega; clear h) | skip)
            | (with_reducible refine Br.neS (fun h => ?_) (fun h => ?_); first | (rotate_left; exfalso; omega; clear h) | (exfalso; omega; clear h) | skip)
            | (with_reducible refine Br.nd (fun h => ?_) (fun h => ?_); first | (rotate_left; exfalso; omega; clear h) | (exfalso; omega; clear h) | skip)
            | refine Ar.i64 (by omega) (by omega) ?_
            | (refine call_sp (f := 37) (lkAlike hE4 hP4 (by omega) hg4) [1, 2, 3, 4, 7] (by decide) rfl ⟨rfl, rfl, rfl, rfl, rfl, trivial⟩ rfl ?_; rintro s H1 ⟨rfl, rfl⟩)
            | (refine seg_sp (f := 37) (lkAlike hE4 hP4 (by omega) hg4) (fun _ => rfl) [1, 2, 3, 4, 7] (by decide) rfl ⟨rfl, rfl, rfl, rfl, rfl, trivial⟩ rfl ?_)
            | refine Need.go (by first | omega | decide | (simp <;> omega) | fail) ?_
            | refine Need.go (by first | (simp [Value.oneCell'] <;> omega) | fail) ?_
            | refine Need.go ⟨rfl, by omega, getD_one rfl rfl⟩ ?_
            | refine Need.go ⟨rfl, by omega, fun _ _ _ _ => rfl⟩ ?_
            | refine Br.both (fun h => ?_) (fun h => ?_))
        all_goals (conv => whnf)
        refine ⟨⟨k + 1, L4, es4, F4, Z4, Q4⟩, ⟨by dsimp only; omega, by dsimp only; omega, hg4, hE4, hP4⟩, by dsimp only; omega, ?_⟩
        dsimp only
        (conv => whnf)
        refine ⟨[some 0, some 1, some 2, some 3, some 4, some 7], by decide, ?_, ?_⟩
        all_goals repeat' (first | exact leT_junk rfl | refine And.intro ?_ ?_ | exact trivial | exact .inl ⟨rfl, rfl⟩ | rfl | exact .inr ⟨_, rfl, rfl, rfl⟩ | exact ⟨_, rfl, trivial⟩ | exact ⟨_, rfl, rfl⟩ | exact ⟨_, rfl, ⟨rfl, rfl, rfl⟩, fun _ _ _ _ => rfl⟩ | exact ⟨_, rfl, ⟨rfl, rfl, .inl rfl⟩, rfl⟩ | exact ⟨_, rfl, ⟨rfl, rfl, .inr rfl⟩, rfl⟩ | exact ⟨_, rfl, ⟨rfl, rfl, rfl, rfl, rfl⟩, rfl⟩ | exact ⟨_, rfl, ⟨rfl, rfl⟩, fun _ => Iff.rfl⟩ | refine ⟨_, rfl, rfl, ?_⟩ | refine ⟨_, rfl, ⟨rfl, rfl, rfl⟩, ?_⟩)
      · (conv => whnf)
        refine ⟨⟨k, LD, es5, F5, Z5, Q5⟩, ⟨⟨by dsimp only; omega, hgD⟩, hE5, hP5⟩, ?_⟩
        dsimp only
        (conv => whnf)
        refine ⟨[some 0, some 1, some 2, some 3, some 4, some 5, some 6, some 7], by decide, ?_, ?_⟩
        all_goals repeat' (first | exact beq_self_eq_true _ | exact leT_junk rfl | refine And.intro ?_ ?_ | exact trivial | exact .inl ⟨rfl, rfl⟩ | rfl | exact .inr ⟨_, rfl, rfl, rfl⟩ | exact ⟨_, rfl, trivial⟩ | exact ⟨_, rfl, rfl⟩ | exact ⟨_, rfl, ⟨rfl, rfl, rfl⟩, fun _ _ _ _ => rfl⟩ | exact ⟨_, rfl, ⟨rfl, rfl, .inl rfl⟩, rfl⟩ | exact ⟨_, rfl, ⟨rfl, rfl, .inr rfl⟩, rfl⟩ | exact ⟨_, rfl, ⟨rfl, rfl, rfl, rfl, rfl⟩, rfl⟩ | exact ⟨_, rfl, ⟨rfl, rfl⟩, fun _ => Iff.rfl⟩ | refine ⟨_, rfl, rfl, ?_⟩ | refine ⟨_, rfl, ⟨rfl, rfl, rfl⟩, ?_⟩)
    by_cases hk6 : (l.getD (Int.toNat (k : Int)) lacZ).kind % 8 = 6
    · obtain ⟨⟨LB, eB⟩, hd⟩ : ∃ q : List MailM × Int, doubleM cap L (l.getD (Int.toNat (k : Int)) lacZ).mail.frm (l.getD (Int.toNat (k : Int)) lacZ).mail.to (l.getD (Int.toNat (k : Int)) lacZ).i = q := ⟨_, rfl⟩
      obtain ⟨hgB, hlB, hsB⟩ := doubleM_keeps hd hg
      by_cases he : eB = 0
      · subst he
        repeat' ((conv => whnf); first
            | (refine cut_up 2 51 (fun y : PlayS => (y.L.length ≤ k + 1 ∧ goodL y.L) ∧ MailE y.L y.es y.F ∧ PairS (fun p => listM y.L p.1 p.2) y.F y.Z y.Q) (fun y => [(13, .v (.bool true)), (14, .junk), (15, .junk), (16, .junk), (17, .junk), (18, .junk), (19, .junk), (20, .junk)]) (fun y => linkU 1 y.es y.Z y.Q ++ [(4, .ent (.blk 107 [.v (.int .i64 cap), .os 7 y.L.length])), (5, .ent .none)]) (fun y => [rlE y.L]) ?_ ?_)
            | refine QuiD.draw (drawW_go tabOK (by kernel_rfl) ?_)
            | refine drawW_go tabOK (by kernel_rfl) ?_
            | refine SegW.big (id := 23) 5 [2, 3] rfl ?_
            | refine Need.go (by first | ((repeat' (first | exact trivial | refine And.intro rfl ?_)); done) | fail) ?_
            | refine SegW.big (id := 23) 11 [4, 5] rfl ?_
            | refine Need.go (by first | ((repeat' (first | exact trivial | refine And.intro rfl ?_)); done) | fail) ?_
            | refine CutN.plain ?_
            | with_reducible refine Br.tt ?_
            | with_reducible refine Br.ff ?_
            | with_reducible refine Br.nt ?_
            | with_reducible refine Br.nf ?_
            | with_reducible refine Br.eeI ?_
            | with_reducible refine Br.nnI ?_
            | refine Br.yes (by decide) ?_
            | refine Br.no (by decide) ?_
            | refine AppN.own ?_
            | refine Need.go rfl ?_
            | refine QuiD.quiet (by kernel_rfl) ?_
            | refine IdxN.lit ?_
            | refine draw_go tabOK (by kernel_rfl) ?_
            | refine Need.go ⟨rfl, rfl⟩ ?_
            | refine Need.go ⟨⟨rfl, rfl, rfl⟩, rfl⟩ ?_
            | (with_reducible refine Br.dec (fun h => ?_) (fun h => ?_); first | (rotate_left; exfalso; omega; clear h) | (exfalso; omega; clear h) | skip)
            | (with_reducible refine Br.eqI (fun h => ?_) (fun h => ?_); first | (rotate_left; exfalso; omega; clear h) | (exfalso; omega; clear h) | skip)
            | (with_reducible refine Br.neI (fun h => ?_) (fun h => ?_); first | (rotate_left; exfalso; omega; clear h) | (exfalso; omega; clear h) | skip)
            | (with_reducible refine Br.eqS (fun h => ?_) (fun h => ?_); first | (rotate_left; exfalso; omega; clear h) | (exfalso; omega; clear h) | skip)
            | (with_reducible refine Br.neS (fun h => ?_) (fun h => ?_); first | (rotate_left; exfalso; omega; clear h) | (exfalso; omega; clear h) | skip)
            | (with_reducible refine Br.nd (fun h => ?_) (fun h => ?_); first | (rotate_left; exfalso; omega; clear h) | (exfalso; omega; clear h) | skip)
            | refine Ar.i64 (by omega) (by omega) ?_
            | refine SegW.seg ?_
            | (refine call_sp (f := 26) (lkDouble hE hP (by omega) (l.getD (Int.toNat (k : Int)) lacZ).mail.frm (l.getD (Int.toNat (k : Int)) lacZ).mail.to (l.getD (Int.toNat (k : Int)) lacZ).i hd) [1, 2, 3] (by decide) rfl ⟨rfl, rfl, rfl, trivial⟩ rfl ?_; rintro s H1 ⟨rfl, es5, F5, Z5, Q5, rfl, hE5, hP5⟩)
            | (refine call_sp (f := 34) (rlDouble_yes cap L (by omega) (l.getD (Int.toNat (k : Int)) lacZ).mail.frm (l.getD (Int.toNat (k : Int)) lacZ).mail.to (l.getD (Int.toNat (k : Int)) lacZ).i hd) [4, 5] (by decide) rfl ⟨rfl, rfl, trivial⟩ rfl ?_; rintro s H1 ⟨rfl, rfl⟩)
            | refine Need.go (by first | omega | decide | (simp <;> omega) | fail) ?_
            | refine Need.go (by first | (simp [Value.oneCell'] <;> omega) | fail) ?_
            | refine Need.go ⟨rfl, by omega, getD_one rfl rfl⟩ ?_
            | refine Need.go ⟨rfl, by omega, fun _ _ _ _ => rfl⟩ ?_
            | refine Br.both (fun h => ?_) (fun h => ?_))
        · -- behind the act
          intro y hy
          obtain ⟨k', L4, es4, F4, Z4, Q4⟩ := y
          obtain ⟨⟨hL4, hg4⟩, hE4, hP4⟩ := hy
          dsimp only at hL4 hg4 hE4 hP4 ⊢
          repeat' ((conv => whnf); first
              | refine CutN.plain ?_
              | with_reducible refine Br.tt ?_
              | with_reducible refine Br.ff ?_
              | with_reducible refine Br.nt ?_
              | with_reducible refine Br.nf ?_
              | with_reducible refine Br.eeI ?_
              | with_reducible refine Br.nnI ?_
              | refine Br.yes (by decide) ?_
              | refine Br.no (by decide) ?_
              | refine AppN.own ?_
              | refine Need.go rfl ?_
              | refine QuiD.quiet (by kernel_rfl) ?_
              | refine IdxN.lit ?_
              | refine draw_go tabOK (by kernel_rfl) ?_
              | refine Need.go ⟨rfl, rfl⟩ ?_
              | refine Need.go ⟨⟨rfl, rfl, rfl⟩, rfl⟩ ?_
              | (with_reducible refine Br.dec (fun h => ?_) (fun h => ?_); first | (rotate_left; exfalso; omega; clear h) | (exfalso; omega; clear h) | skip)
              | (with_reducible refine Br.eqI (fun h => ?_) (fun h => ?_); first | (rotate_left; exfalso; omega; clear h) | (exfalso; omega; clear h) | skip)
              | (with_reducible refine Br.neI (fun h => ?_) (fun h => ?_); first | (rotate_left; exfalso; omega; clear h) | (exfalso; omega; clear h) | skip)
              | (with_reducible refine Br.eqS (fun h => ?_) (fun h => ?_); first | (rotate_left; exfalso; omega; clear h) | (exfalso; omega; clear h) | skip)
              | (with_reducible refine Br.neS (fun h => ?_) (fun h => ?_); first | (rotate_left; exfalso; omega; clear h) | (exfalso; omega; clear h) | skip)
              | (with_reducible refine Br.nd (fun h => ?_) (fun h => ?_); first | (rotate_left; exfalso; omega; clear h) | (exfalso; omega; clear h) | skip)
              | refine Ar.i64 (by omega) (by omega) ?_
              | (refine call_sp (f := 37) (lkAlike hE4 hP4 (by omega) hg4) [1, 2, 3, 4, 7] (by decide) rfl ⟨rfl, rfl, rfl, rfl, rfl, trivial⟩ rfl ?_; rintro s H1 ⟨rfl, rfl⟩)
              | (refine seg_sp (f := 37) (lkAlike hE4 hP4 (by omega) hg4) (fun _ => rfl) [1, 2, 3, 4, 7] (by decide) rfl ⟨rfl, rfl, rfl, rfl, rfl, trivial⟩ rfl ?_)
              | refine Need.go (by first | omega | decide | (simp <;> omega) | fail) ?_
              | refine Need.go (by first | (simp [Value.oneCell'] <;> omega) | fail) ?_
              | refine Need.go ⟨rfl, by omega, getD_one rfl rfl⟩ ?_
              | refine Need.go ⟨rfl, by omega, fun _ _ _ _ => rfl⟩ ?_
              | refine Br.both (fun h => ?_) (fun h => ?_))
          all_goals (conv => whnf)
          refine ⟨⟨k + 1, L4, es4, F4, Z4, Q4⟩, ⟨by dsimp only; omega, by dsimp only; omega, hg4, hE4, hP4⟩, by dsimp only; omega, ?_⟩
          dsimp only
          (conv => whnf)
          refine ⟨[some 0, some 1, some 2, some 3, some 4, some 7], by decide, ?_, ?_⟩
          all_goals repeat' (first | exact leT_junk rfl | refine And.intro ?_ ?_ | exact trivial | exact .inl ⟨rfl, rfl⟩ | rfl | exact .inr ⟨_, rfl, rfl, rfl⟩ | exact ⟨_, rfl, trivial⟩ | exact ⟨_, rfl, rfl⟩ | exact ⟨_, rfl, ⟨rfl, rfl, rfl⟩, fun _ _ _ _ => rfl⟩ | exact ⟨_, rfl, ⟨rfl, rfl, .inl rfl⟩, rfl⟩ | exact ⟨_, rfl, ⟨rfl, rfl, .inr rfl⟩, rfl⟩ | exact ⟨_, rfl, ⟨rfl, rfl, rfl, rfl, rfl⟩, rfl⟩ | exact ⟨_, rfl, ⟨rfl, rfl⟩, fun _ => Iff.rfl⟩ | refine ⟨_, rfl, rfl, ?_⟩ | refine ⟨_, rfl, ⟨rfl, rfl, rfl⟩, ?_⟩)
        · (conv => whnf)
          refine ⟨⟨k, LB, es5, F5, Z5, Q5⟩, ⟨⟨by dsimp only; omega, hgB⟩, hE5, hP5⟩, ?_⟩
          dsimp only
          (conv => whnf)
          refine ⟨[some 0, some 1, some 2, some 3, some 4, some 5, some 6, some 7], by decide, ?_, ?_⟩
          all_goals repeat' (first | exact beq_self_eq_true _ | exact leT_junk rfl | refine And.intro ?_ ?_ | exact trivial | exact .inl ⟨rfl, rfl⟩ | rfl | exact .inr ⟨_, rfl, rfl, rfl⟩ | exact ⟨_, rfl, trivial⟩ | exact ⟨_, rfl, rfl⟩ | exact ⟨_, rfl, ⟨rfl, rfl, rfl⟩, fun _ _ _ _ => rfl⟩ | exact ⟨_, rfl, ⟨rfl, rfl, .inl rfl⟩, rfl⟩ | exact ⟨_, rfl, ⟨rfl, rfl, .inr rfl⟩, rfl⟩ | exact ⟨_, rfl, ⟨rfl, rfl, rfl, rfl, rfl⟩, rfl⟩ | exact ⟨_, rfl, ⟨rfl, rfl⟩, fun _ => Iff.rfl⟩ | refine ⟨_, rfl, rfl, ?_⟩ | refine ⟨_, rfl, ⟨rfl, rfl, rfl⟩, ?_⟩)
      · have hLB := hsB he
        repeat' ((conv => whnf); first
            | (refine cut_up 2 51 (fun y : PlayS => (y.L.length ≤ k + 1 ∧ goodL y.L) ∧ MailE y.L y.es y.F ∧ PairS (fun p => listM y.L p.1 p.2) y.F y.Z y.Q) (fun y => [(13, .v (.bool true)), (14, .junk), (15, .junk), (16, .junk), (17, .junk), (18, .junk), (19, .junk), (20, .junk)]) (fun y => linkU 1 y.es y.Z y.Q ++ [(4, .ent (.blk 107 [.v (.int .i64 cap), .os 7 y.L.length])), (5, .ent .none)]) (fun y => [rlE y.L]) ?_ ?_)
            | refine QuiD.draw (drawW_go tabOK (by kernel_rfl) ?_)
            | refine drawW_go tabOK (by kernel_rfl) ?_
            | refine SegW.big (id := 23) 5 [2, 3] rfl ?_
            | refine Need.go (by first | ((repeat' (first | exact trivial | refine And.intro rfl ?_)); done) | fail) ?_
            | refine SegW.big (id := 23) 11 [4, 5] rfl ?_
            | refine Need.go (by first | ((repeat' (first | exact trivial | refine And.intro rfl ?_)); done) | fail) ?_
            | refine CutN.plain ?_
            | with_reducible refine Br.tt ?_
            | with_reducible refine Br.ff ?_
            | with_reducible refine Br.nt ?_
            | with_reducible refine Br.nf ?_
            | with_reducible refine Br.eeI ?_
            | with_reducible refine Br.nnI ?_
            | refine Br.yes (by decide) ?_
            | refine Br.no (by decide) ?_
            | refine AppN.own ?_
            | refine Need.go rfl ?_
            | refine QuiD.quiet (by kernel_rfl) ?_
            | refine IdxN.lit ?_
            | refine draw_go tabOK (by kernel_rfl) ?_
            | refine Need.go ⟨rfl, rfl⟩ ?_
            | refine Need.go ⟨⟨rfl, rfl, rfl⟩, rfl⟩ ?_
            | (with_reducible refine Br.dec (fun h => ?_) (fun h => ?_); first | (rotate_left; exfalso; omega; clear h) | (exfalso; omega; clear h) | skip)
            | (with_reducible refine Br.eqI (fun h => ?_) (fun h => ?_); first | (rotate_left; exfalso; omega; clear h) | (exfalso; omega; clear h) | skip)
            | (with_reducible refine Br.neI (fun h => ?_) (fun h => ?_); first | (rotate_left; exfalso; omega; clear h) | (exfalso; omega; clear h) | skip)
            | (with_reducible refine Br.eqS (fun h => ?_) (fun h => ?_); first | (rotate_left; exfalso; omega; clear h) | (exfalso; omega; clear h) | skip)
            | (with_reducible refine Br.neS (fun h => ?_) (fun h => ?_); first | (rotate_left; exfalso; omega; clear h) | (exfalso; omega; clear h) | skip)
            | (with_reducible refine Br.nd (fun h => ?_) (fun h => ?_); first | (rotate_left; exfalso; omega; clear h) | (exfalso; omega; clear h) | skip)
            | refine Ar.i64 (by omega) (by omega) ?_
            | refine SegW.seg ?_
            | (refine call_sp (f := 26) (lkDouble hE hP (by omega) (l.getD (Int.toNat (k : Int)) lacZ).mail.frm (l.getD (Int.toNat (k : Int)) lacZ).mail.to (l.getD (Int.toNat (k : Int)) lacZ).i hd) [1, 2, 3] (by decide) rfl ⟨rfl, rfl, rfl, trivial⟩ rfl ?_; rintro s H1 ⟨rfl, es5, F5, Z5, Q5, rfl, hE5, hP5⟩)
            | (refine call_sp (f := 34) (rlDouble_no cap L (by omega) (l.getD (Int.toNat (k : Int)) lacZ).mail.frm (l.getD (Int.toNat (k : Int)) lacZ).mail.to (l.getD (Int.toNat (k : Int)) lacZ).i hd he) [4, 5] (by decide) rfl ⟨rfl, rfl, trivial⟩ rfl ?_; rintro s H1 ⟨rfl, rfl⟩)
            | refine Need.go (by first | omega | decide | (simp <;> omega) | fail) ?_
            | refine Need.go (by first | (simp [Value.oneCell'] <;> omega) | fail) ?_
            | refine Need.go ⟨rfl, by omega, getD_one rfl rfl⟩ ?_
            | refine Need.go ⟨rfl, by omega, fun _ _ _ _ => rfl⟩ ?_
            | refine Br.both (fun h => ?_) (fun h => ?_))
        · -- behind the act
          intro y hy
          obtain ⟨k', L4, es4, F4, Z4, Q4⟩ := y
          obtain ⟨⟨hL4, hg4⟩, hE4, hP4⟩ := hy
          dsimp only at hL4 hg4 hE4 hP4 ⊢
          repeat' ((conv => whnf); first
              | refine CutN.plain ?_
              | with_reducible refine Br.tt ?_
              | with_reducible refine Br.ff ?_
              | with_reducible refine Br.nt ?_
              | with_reducible refine Br.nf ?_
              | with_reducible refine Br.eeI ?_
              | with_reducible refine Br.nnI ?_
              | refine Br.yes (by decide) ?_
              | refine Br.no (by decide) ?_
              | refine AppN.own ?_
              | refine Need.go rfl ?_
              | refine QuiD.quiet (by kernel_rfl) ?_
              | refine IdxN.lit ?_
              | refine draw_go tabOK (by kernel_rfl) ?_
              | refine Need.go ⟨rfl, rfl⟩ ?_
              | refine Need.go ⟨⟨rfl, rfl, rfl⟩, rfl⟩ ?_
              | (with_reducible refine Br.dec (fun h => ?_) (fun h => ?_); first | (rotate_left; exfalso; omega; clear h) | (exfalso; omega; clear h) | skip)
              | (with_reducible refine Br.eqI (fun h => ?_) (fun h => ?_); first | (rotate_left; exfalso; omega; clear h) | (exfalso; omega; clear h) | skip)
              | (with_reducible refine Br.neI (fun h => ?_) (fun h => ?_); first | (rotate_left; exfalso; omega; clear h) | (exfalso; omega; clear h) | skip)
              | (with_reducible refine Br.eqS (fun h => ?_) (fun h => ?_); first | (rotate_left; exfalso; omega; clear h) | (exfalso; omega; clear h) | skip)
              | (with_reducible refine Br.neS (fun h => ?_) (fun h => ?_); first | (rotate_left; exfalso; omega; clear h) | (exfalso; omega; clear h) | skip)
              | (with_reducible refine Br.nd (fun h => ?_) (fun h => ?_); first | (rotate_left; exfalso; omega; clear h) | (exfalso; omega; clear h) | skip)
              | refine Ar.i64 (by omega) (by omega) ?_
              | (refine call_sp (f := 37) (lkAlike hE4 hP4 (by omega) hg4) [1, 2, 3, 4, 7] (by decide) rfl ⟨rfl, rfl, rfl, rfl, rfl, trivial⟩ rfl ?_; rintro s H1 ⟨rfl, rfl⟩)
              | (refine seg_sp (f := 37) (lkAlike hE4 hP4 (by omega) hg4) (fun _ => rfl) [1, 2, 3, 4, 7] (by decide) rfl ⟨rfl, rfl, rfl, rfl, rfl, trivial⟩ rfl ?_)
              | refine Need.go (by first | omega | decide | (simp <;> omega) | fail) ?_
              | refine Need.go (by first | (simp [Value.oneCell'] <;> omega) | fail) ?_
              | refine Need.go ⟨rfl, by omega, getD_one rfl rfl⟩ ?_
              | refine Need.go ⟨rfl, by omega, fun _ _ _ _ => rfl⟩ ?_
              | refine Br.both (fun h => ?_) (fun h => ?_))
          all_goals (conv => whnf)
          refine ⟨⟨k + 1, L4, es4, F4, Z4, Q4⟩, ⟨by dsimp only; omega, by dsimp only; omega, hg4, hE4, hP4⟩, by dsimp only; omega, ?_⟩
          dsimp only
          (conv => whnf)
          refine ⟨[some 0, some 1, some 2, some 3, some 4, some 7], by decide, ?_, ?_⟩
          all_goals repeat' (first | exact leT_junk rfl | refine And.intro ?_ ?_ | exact trivial | exact .inl ⟨rfl, rfl⟩ | rfl | exact .inr ⟨_, rfl, rfl, rfl⟩ | exact ⟨_, rfl, trivial⟩ | exact ⟨_, rfl, rfl⟩ | exact ⟨_, rfl, ⟨rfl, rfl, rfl⟩, fun _ _ _ _ => rfl⟩ | exact ⟨_, rfl, ⟨rfl, rfl, .inl rfl⟩, rfl⟩ | exact ⟨_, rfl, ⟨rfl, rfl, .inr rfl⟩, rfl⟩ | exact ⟨_, rfl, ⟨rfl, rfl, rfl, rfl, rfl⟩, rfl⟩ | exact ⟨_, rfl, ⟨rfl, rfl⟩, fun _ => Iff.rfl⟩ | refine ⟨_, rfl, rfl, ?_⟩ | refine ⟨_, rfl, ⟨rfl, rfl, rfl⟩, ?_⟩)
        · (conv => whnf)
          refine ⟨⟨k, L, es5, F5, Z5, Q5⟩, ⟨⟨by dsimp only; omega, hg⟩, (hLB ▸ hE5), (hLB ▸ hP5)⟩, ?_⟩
          dsimp only
          (conv => whnf)
          refine ⟨[some 0, some 1, some 2, some 3, some 4, none, some 6, some 5], by decide, ?_, ?_⟩
          all_goals repeat' (first | exact beq_self_eq_true _ | exact leT_junk rfl | refine And.intro ?_ ?_ | exact trivial | exact .inl ⟨rfl, rfl⟩ | rfl | exact .inr ⟨_, rfl, rfl, rfl⟩ | exact ⟨_, rfl, trivial⟩ | exact ⟨_, rfl, rfl⟩ | exact ⟨_, rfl, ⟨rfl, rfl, rfl⟩, fun _ _ _ _ => rfl⟩ | exact ⟨_, rfl, ⟨rfl, rfl, .inl rfl⟩, rfl⟩ | exact ⟨_, rfl, ⟨rfl, rfl, .inr rfl⟩, rfl⟩ | exact ⟨_, rfl, ⟨rfl, rfl, rfl, rfl, rfl⟩, rfl⟩ | exact ⟨_, rfl, ⟨rfl, rfl⟩, fun _ => Iff.rfl⟩ | refine ⟨_, rfl, rfl, ?_⟩ | refine ⟨_, rfl, ⟨rfl, rfl, rfl⟩, ?_⟩)
    by_cases hk7 : (l.getD (Int.toNat (k : Int)) lacZ).kind % 8 = 7
    · obtain ⟨⟨LS, eS⟩, hs⟩ : ∃ q : List MailM × Int, sendM cap L ⟨(l.getD (Int.toNat (k : Int)) lacZ).mail.frm, (l.getD (Int.toNat (k : Int)) lacZ).mail.to, (l.getD (Int.toNat (k : Int)) lacZ).mail.text⟩ = q := ⟨_, rfl⟩
      obtain ⟨hgS, hlS, _⟩ := sendM_keeps hs hg
      obtain ⟨⟨L1, m1, e1⟩, hd1⟩ : ∃ q : List MailM × MailM × Int, deliverM LS (l.getD (Int.toNat (k : Int)) lacZ).mail.frm (l.getD (Int.toNat (k : Int)) lacZ).mail.to 0 = q := ⟨_, rfl⟩
      obtain ⟨hg1, hl1⟩ := deliverM_keeps hd1 hgS
      obtain ⟨⟨L2, m2, e2⟩, hd2⟩ : ∃ q : List MailM × MailM × Int, deliverM L1 (l.getD (Int.toNat (k : Int)) lacZ).mail.frm (l.getD (Int.toNat (k : Int)) lacZ).mail.to 0 = q := ⟨_, rfl⟩
      repeat' ((conv => whnf); first
          | (refine cut_up 2 51 (fun y : PlayS => (y.L.length ≤ k + 1 ∧ goodL y.L) ∧ MailE y.L y.es y.F ∧ PairS (fun p => listM y.L p.1 p.2) y.F y.Z y.Q) (fun y => [(13, .v (.bool true)), (14, .junk), (15, .junk), (16, .junk), (17, .junk), (18, .junk), (19, .junk), (20, .junk)]) (fun y => linkU 1 y.es y.Z y.Q ++ [(4, .ent (.blk 107 [.v (.int .i64 cap), .os 7 y.L.length])), (5, .ent .none)]) (fun y => [rlE y.L]) ?_ ?_)
          | refine CutN.plain ?_
          | with_reducible refine Br.tt ?_
          | with_reducible refine Br.ff ?_
          | with_reducible refine Br.nt ?_
          | with_reducible refine Br.nf ?_
          | with_reducible refine Br.eeI ?_
          | with_reducible refine Br.nnI ?_
          | refine Br.yes (by decide) ?_
          | refine Br.no (by decide) ?_
          | refine AppN.own ?_
          | refine Need.go rfl ?_
          | refine QuiD.quiet (by kernel_rfl) ?_
          | refine IdxN.lit ?_
          | refine draw_go tabOK (by kernel_rfl) ?_
          | refine Need.go ⟨rfl, rfl⟩ ?_
          | refine Need.go ⟨⟨rfl, rfl, rfl⟩, rfl⟩ ?_
          | (with_reducible refine Br.dec (fun h => ?_) (fun h => ?_); first | (rotate_left; exfalso; omega; clear h) | (exfalso; omega; clear h) | skip)
          | (with_reducible refine Br.eqI (fun h => ?_) (fun h => ?_); first | (rotate_left; exfalso; omega; clear h) | (exfalso; omega; clear h) | skip)
          | (with_reducible refine Br.neI (fun h => ?_) (fun h => ?_); first | (rotate_left; exfalso; omega; clear h) | (exfalso; omega; clear h) | skip)
          | (with_reducible refine Br.eqS (fun h => ?_) (fun h => ?_); first | (rotate_left; exfalso; omega; clear h) | (exfalso; omega; clear h) | skip)
          | (with_reducible refine Br.neS (fun h => ?_) (fun h => ?_); first | (rotate_left; exfalso; omega; clear h) | (exfalso; omega; clear h) | skip)
          | (with_reducible refine Br.nd (fun h => ?_) (fun h => ?_); first | (rotate_left; exfalso; omega; clear h) | (exfalso; omega; clear h) | skip)
          | refine Ar.i64 (by omega) (by omega) ?_
          | (refine call_sp (f := 25) (lkDrop hE8 hP8 (by omega) (l.getD (Int.toNat (k : Int)) lacZ).mail.frm (l.getD (Int.toNat (k : Int)) lacZ).mail.to 0 hd2) [7, 8, 9] (by decide) rfl ⟨rfl, rfl, rfl, trivial⟩ rfl ?_; rintro s H1 ⟨rfl, es9, F9, Z9, Q9, rfl, hE9, hP9⟩)
          | (refine call_sp (f := 25) (lkDrop hE7 hP7 (by omega) (l.getD (Int.toNat (k : Int)) lacZ).mail.frm (l.getD (Int.toNat (k : Int)) lacZ).mail.to 0 hd1) [7, 8, 9] (by decide) rfl ⟨rfl, rfl, rfl, trivial⟩ rfl ?_; rintro s H1 ⟨rfl, es8, F8, Z8, Q8, rfl, hE8, hP8⟩)
          | (refine call_sp (f := 24) (lkSend hE6 hP6 (by omega) (l.getD (Int.toNat (k : Int)) lacZ).mail.frm (l.getD (Int.toNat (k : Int)) lacZ).mail.to (l.getD (Int.toNat (k : Int)) lacZ).mail.text hs) [7, 8, 9] (by decide) rfl ⟨rfl, rfl, rfl, trivial⟩ rfl ?_; rintro s H1 ⟨rfl, es7, F7, Z7, Q7, rfl, hE7, hP7⟩)
          | (refine call_sp (f := 35) (lkCopy (cap := cap) hE hP (by omega)) [1, 2, 3] (by decide) rfl ⟨rfl, rfl, rfl, trivial⟩ rfl ?_; rintro s H1 ⟨rfl, es6, F6, Z6, Q6, rfl, hE6, hP6⟩)
          | refine Need.go (by first | omega | decide | (simp <;> omega) | fail) ?_
          | refine Need.go (by first | (simp [Value.oneCell'] <;> omega) | fail) ?_
          | refine Need.go ⟨rfl, by omega, getD_one rfl rfl⟩ ?_
          | refine Need.go ⟨rfl, by omega, fun _ _ _ _ => rfl⟩ ?_
          | refine Br.both (fun h => ?_) (fun h => ?_))
      · -- behind the act
        intro y hy
        obtain ⟨k', L4, es4, F4, Z4, Q4⟩ := y
        obtain ⟨⟨hL4, hg4⟩, hE4, hP4⟩ := hy
        dsimp only at hL4 hg4 hE4 hP4 ⊢
        repeat' ((conv => whnf); first
            | refine CutN.plain ?_
            | with_reducible refine Br.tt ?_
            | with_reducible refine Br.ff ?_
            | with_reducible refine Br.nt ?_
            | with_reducible refine Br.nf ?_
            | with_reducible refine Br.eeI ?_
            | with_reducible refine Br.nnI ?_
            | refine Br.yes (by decide) ?_
            | refine Br.no (by decide) ?_
            | refine AppN.own ?_
            | refine Need.go rfl ?_
            | refine QuiD.quiet (by kernel_rfl) ?_
            | refine IdxN.lit ?_
            | refine draw_go tabOK (by kernel_rfl) ?_
            | refine Need.go ⟨rfl, rfl⟩ ?_
            | refine Need.go ⟨⟨rfl, rfl, rfl⟩, rfl⟩ ?_
            | (with_reducible refine Br.dec (fun h => ?_) (fun h => ?_); first | (rotate_left; exfalso; omega; clear h) | (exfalso; omega; clear h) | skip)
            | (with_reducible refine Br.eqI (fun h => ?_) (fun h => ?_); first | (rotate_left; exfalso; omega; clear h) | (exfalso; omega; clear h) | skip)
            | (with_reducible refine Br.neI (fun h => ?_) (fun h => ?_); first | (rotate_left; exfalso; omega; clear h) | (exfalso; omega; clear h) | skip)
            | (with_reducible refine Br.eqS (fun h => ?_) (fun h => ?_); first | (rotate_left; exfalso; omega; clear h) | (exfalso; omega; clear h) | skip)
            | (with_reducible refine Br.neS (fun h => ?_) (fun h => ?_); first | (rotate_left; exfalso; omega; clear h) | (exfalso; omega; clear h) | skip)
            | (with_reducible refine Br.nd (fun h => ?_) (fun h => ?_); first | (rotate_left; exfalso; omega; clear h) | (exfalso; omega; clear h) | skip)
            | refine Ar.i64 (by omega) (by omega) ?_
            | (refine call_sp (f := 37) (lkAlike hE4 hP4 (by omega) hg4) [1, 2, 3, 4, 7] (by decide) rfl ⟨rfl, rfl, rfl, rfl, rfl, trivial⟩ rfl ?_; rintro s H1 ⟨rfl, rfl⟩)
            | (refine seg_sp (f := 37) (lkAlike hE4 hP4 (by omega) hg4) (fun _ => rfl) [1, 2, 3, 4, 7] (by decide) rfl ⟨rfl, rfl, rfl, rfl, rfl, trivial⟩ rfl ?_)
            | refine Need.go (by first | omega | decide | (simp <;> omega) | fail) ?_
            | refine Need.go (by first | (simp [Value.oneCell'] <;> omega) | fail) ?_
            | refine Need.go ⟨rfl, by omega, getD_one rfl rfl⟩ ?_
            | refine Need.go ⟨rfl, by omega, fun _ _ _ _ => rfl⟩ ?_
            | refine Br.both (fun h => ?_) (fun h => ?_))
        all_goals (conv => whnf)
        refine ⟨⟨k + 1, L4, es4, F4, Z4, Q4⟩, ⟨by dsimp only; omega, by dsimp only; omega, hg4, hE4, hP4⟩, by dsimp only; omega, ?_⟩
        dsimp only
        (conv => whnf)
        refine ⟨[some 0, some 1, some 2, some 3, some 4, some 7], by decide, ?_, ?_⟩
        all_goals repeat' (first | exact leT_junk rfl | refine And.intro ?_ ?_ | exact trivial | exact .inl ⟨rfl, rfl⟩ | rfl | exact .inr ⟨_, rfl, rfl, rfl⟩ | exact ⟨_, rfl, trivial⟩ | exact ⟨_, rfl, rfl⟩ | exact ⟨_, rfl, ⟨rfl, rfl, rfl⟩, fun _ _ _ _ => rfl⟩ | exact ⟨_, rfl, ⟨rfl, rfl, .inl rfl⟩, rfl⟩ | exact ⟨_, rfl, ⟨rfl, rfl, .inr rfl⟩, rfl⟩ | exact ⟨_, rfl, ⟨rfl, rfl, rfl, rfl, rfl⟩, rfl⟩ | exact ⟨_, rfl, ⟨rfl, rfl⟩, fun _ => Iff.rfl⟩ | refine ⟨_, rfl, rfl, ?_⟩ | refine ⟨_, rfl, ⟨rfl, rfl, rfl⟩, ?_⟩)
      · (conv => whnf)
        refine ⟨⟨k, L, es, F, Z, Q⟩, ⟨⟨by dsimp only; omega, hg⟩, hE, hP⟩, ?_⟩
        dsimp only
        (conv => whnf)
        refine ⟨[some 0, some 1, some 2, some 3, some 4, none, some 6, some 5], by decide, ?_, ?_⟩
        all_goals repeat' (first | exact beq_self_eq_true _ | exact leT_junk rfl | refine And.intro ?_ ?_ | exact trivial | exact .inl ⟨rfl, rfl⟩ | rfl | exact .inr ⟨_, rfl, rfl, rfl⟩ | exact ⟨_, rfl, trivial⟩ | exact ⟨_, rfl, rfl⟩ | exact ⟨_, rfl, ⟨rfl, rfl, rfl⟩, fun _ _ _ _ => rfl⟩ | exact ⟨_, rfl, ⟨rfl, rfl, .inl rfl⟩, rfl⟩ | exact ⟨_, rfl, ⟨rfl, rfl, .inr rfl⟩, rfl⟩ | exact ⟨_, rfl, ⟨rfl, rfl, rfl, rfl, rfl⟩, rfl⟩ | exact ⟨_, rfl, ⟨rfl, rfl⟩, fun _ => Iff.rfl⟩ | refine ⟨_, rfl, rfl, ?_⟩ | refine ⟨_, rfl, ⟨rfl, rfl, rfl⟩, ?_⟩)
    · obtain ⟨⟨LB, eB⟩, hd⟩ : ∃ q : List MailM × Int, sendM cap L ⟨(l.getD (Int.toNat (k : Int)) lacZ).mail.frm, (l.getD (Int.toNat (k : Int)) lacZ).mail.to, (l.getD (Int.toNat (k : Int)) lacZ).mail.text⟩ = q := ⟨_, rfl⟩
      obtain ⟨hgB, hlB, hsB⟩ := sendM_keeps hd hg
      by_cases he : eB = 0
      · subst he
        repeat' ((conv => whnf); first
            | (refine cut_up 2 51 (fun y : PlayS => (y.L.length ≤ k + 1 ∧ goodL y.L) ∧ MailE y.L y.es y.F ∧ PairS (fun p => listM y.L p.1 p.2) y.F y.Z y.Q) (fun y => [(13, .v (.bool true)), (14, .junk), (15, .junk), (16, .junk), (17, .junk), (18, .junk), (19, .junk), (20, .junk)]) (fun y => linkU 1 y.es y.Z y.Q ++ [(4, .ent (.blk 107 [.v (.int .i64 cap), .os 7 y.L.length])), (5, .ent .none)]) (fun y => [rlE y.L]) ?_ ?_)
            | refine QuiD.draw (drawW_go tabOK (by kernel_rfl) ?_)
            | refine drawW_go tabOK (by kernel_rfl) ?_
            | refine SegW.big (id := 14) 3 [2, 3] rfl ?_
            | refine Need.go (by first | ((repeat' (first | exact trivial | refine And.intro rfl ?_)); done) | fail) ?_
            | refine SegW.big (id := 14) 7 [4, 5] rfl ?_
            | refine Need.go (by first | ((repeat' (first | exact trivial | refine And.intro rfl ?_)); done) | fail) ?_
            | refine CutN.plain ?_
            | with_reducible refine Br.tt ?_
            | with_reducible refine Br.ff ?_
            | with_reducible refine Br.nt ?_
            | with_reducible refine Br.nf ?_
            | with_reducible refine Br.eeI ?_
            | with_reducible refine Br.nnI ?_
            | refine Br.yes (by decide) ?_
            | refine Br.no (by decide) ?_
            | refine AppN.own ?_
            | refine Need.go rfl ?_
            | refine QuiD.quiet (by kernel_rfl) ?_
            | refine IdxN.lit ?_
            | refine draw_go tabOK (by kernel_rfl) ?_
            | refine Need.go ⟨rfl, rfl⟩ ?_
            | refine Need.go ⟨⟨rfl, rfl, rfl⟩, rfl⟩ ?_
            | (with_reducible refine Br.dec (fun h => ?_) (fun h => ?_); first | (rotate_left; exfalso; omega; clear h) | (exfalso; omega; clear h) | skip)
            | (with_reducible refine Br.eqI (fun h => ?_) (fun h => ?_); first | (rotate_left; exfalso; omega; clear h) | (exfalso; omega; clear h) | skip)
            | (with_reducible refine Br.neI (fun h => ?_) (fun h => ?_); first | (rotate_left; exfalso; omega; clear h) | (exfalso; omega; clear h) | skip)
            | (with_reducible refine Br.eqS (fun h => ?_) (fun h => ?_); first | (rotate_left; exfalso; omega; clear h) | (exfalso; omega; clear h) | skip)
            | (with_reducible refine Br.neS (fun h => ?_) (fun h => ?_); first | (rotate_left; exfalso; omega; clear h) | (exfalso; omega; clear h) | skip)
            | (with_reducible refine Br.nd (fun h => ?_) (fun h => ?_); first | (rotate_left; exfalso; omega; clear h) | (exfalso; omega; clear h) | skip)
            | refine Ar.i64 (by omega) (by omega) ?_
            | refine SegW.seg ?_
            | (refine call_sp (f := 24) (lkSend hE hP (by omega) (l.getD (Int.toNat (k : Int)) lacZ).mail.frm (l.getD (Int.toNat (k : Int)) lacZ).mail.to (l.getD (Int.toNat (k : Int)) lacZ).mail.text hd) [1, 2, 3] (by decide) rfl ⟨rfl, rfl, rfl, trivial⟩ rfl ?_; rintro s H1 ⟨rfl, es5, F5, Z5, Q5, rfl, hE5, hP5⟩)
            | (refine call_sp (f := 36) (rlSend_yes cap L (by omega) (l.getD (Int.toNat (k : Int)) lacZ).mail.frm (l.getD (Int.toNat (k : Int)) lacZ).mail.to (l.getD (Int.toNat (k : Int)) lacZ).mail.text hd) [4, 5] (by decide) rfl ⟨rfl, rfl, trivial⟩ rfl ?_; rintro s H1 ⟨rfl, rfl⟩)
            | refine Need.go (by first | omega | decide | (simp <;> omega) | fail) ?_
            | refine Need.go (by first | (simp [Value.oneCell'] <;> omega) | fail) ?_
            | refine Need.go ⟨rfl, by omega, getD_one rfl rfl⟩ ?_
            | refine Need.go ⟨rfl, by omega, fun _ _ _ _ => rfl⟩ ?_
            | refine Br.both (fun h => ?_) (fun h => ?_))
        · -- behind the act
          intro y hy
          obtain ⟨k', L4, es4, F4, Z4, Q4⟩ := y
          obtain ⟨⟨hL4, hg4⟩, hE4, hP4⟩ := hy
          dsimp only at hL4 hg4 hE4 hP4 ⊢
          repeat' ((conv => whnf); first
              | refine CutN.plain ?_
              | with_reducible refine Br.tt ?_
              | with_reducible refine Br.ff ?_
              | with_reducible refine Br.nt ?_
              | with_reducible refine Br.nf ?_
              | with_reducible refine Br.eeI ?_
              | with_reducible refine Br.nnI ?_
              | refine Br.yes (by decide) ?_
              | refine Br.no (by decide) ?_
              | refine AppN.own ?_
              | refine Need.go rfl ?_
              | refine QuiD.quiet (by kernel_rfl) ?_
              | refine IdxN.lit ?_
              | refine draw_go tabOK (by kernel_rfl) ?_
              | refine Need.go ⟨rfl, rfl⟩ ?_
              | refine Need.go ⟨⟨rfl, rfl, rfl⟩, rfl⟩ ?_
              | (with_reducible refine Br.dec (fun h => ?_) (fun h => ?_); first | (rotate_left; exfalso; omega; clear h) | (exfalso; omega; clear h) | skip)
              | (with_reducible refine Br.eqI (fun h => ?_) (fun h => ?_); first | (rotate_left; exfalso; omega; clear h) | (exfalso; omega; clear h) | skip)
              | (with_reducible refine Br.neI (fun h => ?_) (fun h => ?_); first | (rotate_left; exfalso; omega; clear h) | (exfalso; omega; clear h) | skip)
              | (with_reducible refine Br.eqS (fun h => ?_) (fun h => ?_); first | (rotate_left; exfalso; omega; clear h) | (exfalso; omega; clear h) | skip)
              | (with_reducible refine Br.neS (fun h => ?_) (fun h => ?_); first | (rotate_left; exfalso; omega; clear h) | (exfalso; omega; clear h) | skip)
              | (with_reducible refine Br.nd (fun h => ?_) (fun h => ?_); first | (rotate_left; exfalso; omega; clear h) | (exfalso; omega; clear h) | skip)
              | refine Ar.i64 (by omega) (by omega) ?_
              | (refine call_sp (f := 37) (lkAlike hE4 hP4 (by omega) hg4) [1, 2, 3, 4, 7] (by decide) rfl ⟨rfl, rfl, rfl, rfl, rfl, trivial⟩ rfl ?_; rintro s H1 ⟨rfl, rfl⟩)
              | (refine seg_sp (f := 37) (lkAlike hE4 hP4 (by omega) hg4) (fun _ => rfl) [1, 2, 3, 4, 7] (by decide) rfl ⟨rfl, rfl, rfl, rfl, rfl, trivial⟩ rfl ?_)
              | refine Need.go (by first | omega | decide | (simp <;> omega) | fail) ?_
              | refine Need.go (by first | (simp [Value.oneCell'] <;> omega) | fail) ?_
              | refine Need.go ⟨rfl, by omega, getD_one rfl rfl⟩ ?_
              | refine Need.go ⟨rfl, by omega, fun _ _ _ _ => rfl⟩ ?_
              | refine Br.both (fun h => ?_) (fun h => ?_))
          all_goals (conv => whnf)
          refine ⟨⟨k + 1, L4, es4, F4, Z4, Q4⟩, ⟨by dsimp only; omega, by dsimp only; omega, hg4, hE4, hP4⟩, by dsimp only; omega, ?_⟩
          dsimp only
          (conv => whnf)
          refine ⟨[some 0, some 1, some 2, some 3, some 4, some 7], by decide, ?_, ?_⟩
          all_goals repeat' (first | exact leT_junk rfl | refine And.intro ?_ ?_ | exact trivial | exact .inl ⟨rfl, rfl⟩ | rfl | exact .inr ⟨_, rfl, rfl, rfl⟩ | exact ⟨_, rfl, trivial⟩ | exact ⟨_, rfl, rfl⟩ | exact ⟨_, rfl, ⟨rfl, rfl, rfl⟩, fun _ _ _ _ => rfl⟩ | exact ⟨_, rfl, ⟨rfl, rfl, .inl rfl⟩, rfl⟩ | exact ⟨_, rfl, ⟨rfl, rfl, .inr rfl⟩, rfl⟩ | exact ⟨_, rfl, ⟨rfl, rfl, rfl, rfl, rfl⟩, rfl⟩ | exact ⟨_, rfl, ⟨rfl, rfl⟩, fun _ => Iff.rfl⟩ | refine ⟨_, rfl, rfl, ?_⟩ | refine ⟨_, rfl, ⟨rfl, rfl, rfl⟩, ?_⟩)
        · (conv => whnf)
          refine ⟨⟨k, LB, es5, F5, Z5, Q5⟩, ⟨⟨by dsimp only; omega, hgB⟩, hE5, hP5⟩, ?_⟩
          dsimp only
          (conv => whnf)
          refine ⟨[some 0, some 1, some 2, some 3, some 4, some 5, some 6, some 7], by decide, ?_, ?_⟩
          all_goals repeat' (first | exact beq_self_eq_true _ | exact leT_junk rfl | refine And.intro ?_ ?_ | exact trivial | exact .inl ⟨rfl, rfl⟩ | rfl | exact .inr ⟨_, rfl, rfl, rfl⟩ | exact ⟨_, rfl, trivial⟩ | exact ⟨_, rfl, rfl⟩ | exact ⟨_, rfl, ⟨rfl, rfl, rfl⟩, fun _ _ _ _ => rfl⟩ | exact ⟨_, rfl, ⟨rfl, rfl, .inl rfl⟩, rfl⟩ | exact ⟨_, rfl, ⟨rfl, rfl, .inr rfl⟩, rfl⟩ | exact ⟨_, rfl, ⟨rfl, rfl, rfl, rfl, rfl⟩, rfl⟩ | exact ⟨_, rfl, ⟨rfl, rfl⟩, fun _ => Iff.rfl⟩ | refine ⟨_, rfl, rfl, ?_⟩ | refine ⟨_, rfl, ⟨rfl, rfl, rfl⟩, ?_⟩)
      · have hLB := hsB he
        repeat' ((conv => whnf); first
            | (refine cut_up 2 51 (fun y : PlayS => (y.L.length ≤ k + 1 ∧ goodL y.L) ∧ MailE y.L y.es y.F ∧ PairS (fun p => listM y.L p.1 p.2) y.F y.Z y.Q) (fun y => [(13, .v (.bool true)), (14, .junk), (15, .junk), (16, .junk), (17, .junk), (18, .junk), (19, .junk), (20, .junk)]) (fun y => linkU 1 y.es y.Z y.Q ++ [(4, .ent (.blk 107 [.v (.int .i64 cap), .os 7 y.L.length])), (5, .ent .none)]) (fun y => [rlE y.L]) ?_ ?_)
            | refine QuiD.draw (drawW_go tabOK (by kernel_rfl) ?_)
            | refine drawW_go tabOK (by kernel_rfl) ?_
            | refine SegW.big (id := 14) 3 [2, 3] rfl ?_
            | refine Need.go (by first | ((repeat' (first | exact trivial | refine And.intro rfl ?_)); done) | fail) ?_
            | refine SegW.big (id := 14) 7 [4, 5] rfl ?_
            | refine Need.go (by first | ((repeat' (first | exact trivial | refine And.intro rfl ?_)); done) | fail) ?_
            | refine CutN.plain ?_
            | with_reducible refine Br.tt ?_
            | with_reducible refine Br.ff ?_
            | with_reducible refine Br.nt ?_
            | with_reducible refine Br.nf ?_
            | with_reducible refine Br.eeI ?_
            | with_reducible refine Br.nnI ?_
            | refine Br.yes (by decide) ?_
            | refine Br.no (by decide) ?_
            | refine AppN.own ?_
            | refine Need.go rfl ?_
            | refine QuiD.quiet (by kernel_rfl) ?_
            | refine IdxN.lit ?_
            | refine draw_go tabOK (by kernel_rfl) ?_
            | refine Need.go ⟨rfl, rfl⟩ ?_
            | refine Need.go ⟨⟨rfl, rfl, rfl⟩, rfl⟩ ?_
            | (with_reducible refine Br.dec (fun h => ?_) (fun h => ?_); first | (rotate_left; exfalso; omega; clear h) | (exfalso; omega; clear h) | skip)
            | (with_reducible refine Br.eqI (fun h => ?_) (fun h => ?_); first | (rotate_left; exfalso; omega; clear h) | (exfalso; omega; clear h) | skip)
            | (with_reducible refine Br.neI (fun h => ?_) (fun h => ?_); first | (rotate_left; exfalso; omega; clear h) | (exfalso; omega; clear h) | skip)
            | (with_reducible refine Br.eqS (fun h => ?_) (fun h => ?_); first | (rotate_left; exfalso; omega; clear h) | (exfalso; omega; clear h) | skip)
            | (with_reducible refine Br.neS (fun h => ?_) (fun h => ?_); first | (rotate_left; exfalso; omega; clear h) | (exfalso; omega; clear h) | skip)
            | (with_reducible refine Br.nd (fun h => ?_) (fun h => ?_); first | (rotate_left; exfalso; omega; clear h) | (exfalso; omega; clear h) | skip)
            | refine Ar.i64 (by omega) (by omega) ?_
            | refine SegW.seg ?_
            | (refine call_sp (f := 24) (lkSend hE hP (by omega) (l.getD (Int.toNat (k : Int)) lacZ).mail.frm (l.getD (Int.toNat (k : Int)) lacZ).mail.to (l.getD (Int.toNat (k : Int)) lacZ).mail.text hd) [1, 2, 3] (by decide) rfl ⟨rfl, rfl, rfl, trivial⟩ rfl ?_; rintro s H1 ⟨rfl, es5, F5, Z5, Q5, rfl, hE5, hP5⟩)
            | (refine call_sp (f := 36) (rlSend_no cap L (by omega) (l.getD (Int.toNat (k : Int)) lacZ).mail.frm (l.getD (Int.toNat (k : Int)) lacZ).mail.to (l.getD (Int.toNat (k : Int)) lacZ).mail.text hd he) [4, 5] (by decide) rfl ⟨rfl, rfl, trivial⟩ rfl ?_; rintro s H1 ⟨rfl, rfl⟩)
            | refine Need.go (by first | omega | decide | (simp <;> omega) | fail) ?_
            | refine Need.go (by first | (simp [Value.oneCell'] <;> omega) | fail) ?_
            | refine Need.go ⟨rfl, by omega, getD_one rfl rfl⟩ ?_
            | refine Need.go ⟨rfl, by omega, fun _ _ _ _ => rfl⟩ ?_
            | refine Br.both (fun h => ?_) (fun h => ?_))
        · -- behind the act
          intro y hy
          obtain ⟨k', L4, es4, F4, Z4, Q4⟩ := y
          obtain ⟨⟨hL4, hg4⟩, hE4, hP4⟩ := hy
          dsimp only at hL4 hg4 hE4 hP4 ⊢
          repeat' ((conv => whnf); first
              | refine CutN.plain ?_
              | with_reducible refine Br.tt ?_
              | with_reducible refine Br.ff ?_
              | with_reducible refine Br.nt ?_
              | with_reducible refine Br.nf ?_
              | with_reducible refine Br.eeI ?_
              | with_reducible refine Br.nnI ?_
              | refine Br.yes (by decide) ?_
              | refine Br.no (by decide) ?_
              | refine AppN.own ?_
              | refine Need.go rfl ?_
              | refine QuiD.quiet (by kernel_rfl) ?_
              | refine IdxN.lit ?_
              | refine draw_go tabOK (by kernel_rfl) ?_
              | refine Need.go ⟨rfl, rfl⟩ ?_
              | refine Need.go ⟨⟨rfl, rfl, rfl⟩, rfl⟩ ?_
              | (with_reducible refine Br.dec (fun h => ?_) (fun h => ?_); first | (rotate_left; exfalso; omega; clear h) | (exfalso; omega; clear h) | skip)
              | (with_reducible refine Br.eqI (fun h => ?_) (fun h => ?_); first | (rotate_left; exfalso; omega; clear h) | (exfalso; omega; clear h) | skip)
              | (with_reducible refine Br.neI (fun h => ?_) (fun h => ?_); first | (rotate_left; exfalso; omega; clear h) | (exfalso; omega; clear h) | skip)
              | (with_reducible refine Br.eqS (fun h => ?_) (fun h => ?_); first | (rotate_left; exfalso; omega; clear h) | (exfalso; omega; clear h) | skip)
              | (with_reducible refine Br.neS (fun h => ?_) (fun h => ?_); first | (rotate_left; exfalso; omega; clear h) | (exfalso; omega; clear h) | skip)
              | (with_reducible refine Br.nd (fun h => ?_) (fun h => ?_); first | (rotate_left; exfalso; omega; clear h) | (exfalso; omega; clear h) | skip)
              | refine Ar.i64 (by omega) (by omega) ?_
              | (refine call_sp (f := 37) (lkAlike hE4 hP4 (by omega) hg4) [1, 2, 3, 4, 7] (by decide) rfl ⟨rfl, rfl, rfl, rfl, rfl, trivial⟩ rfl ?_; rintro s H1 ⟨rfl, rfl⟩)
              | (refine seg_sp (f := 37) (lkAlike hE4 hP4 (by omega) hg4) (fun _ => rfl) [1, 2, 3, 4, 7] (by decide) rfl ⟨rfl, rfl, rfl, rfl, rfl, trivial⟩ rfl ?_)
              | refine Need.go (by first | omega | decide | (simp <;> omega) | fail) ?_
              | refine Need.go (by first | (simp [Value.oneCell'] <;> omega) | fail) ?_
              | refine Need.go ⟨rfl, by omega, getD_one rfl rfl⟩ ?_
              | refine Need.go ⟨rfl, by omega, fun _ _ _ _ => rfl⟩ ?_
              | refine Br.both (fun h => ?_) (fun h => ?_))
          all_goals (conv => whnf)
          refine ⟨⟨k + 1, L4, es4, F4, Z4, Q4⟩, ⟨by dsimp only; omega, by dsimp only; omega, hg4, hE4, hP4⟩, by dsimp only; omega, ?_⟩
          dsimp only
          (conv => whnf)
          refine ⟨[some 0, some 1, some 2, some 3, some 4, some 7], by decide, ?_, ?_⟩
          all_goals repeat' (first | exact leT_junk rfl | refine And.intro ?_ ?_ | exact trivial | exact .inl ⟨rfl, rfl⟩ | rfl | exact .inr ⟨_, rfl, rfl, rfl⟩ | exact ⟨_, rfl, trivial⟩ | exact ⟨_, rfl, rfl⟩ | exact ⟨_, rfl, ⟨rfl, rfl, rfl⟩, fun _ _ _ _ => rfl⟩ | exact ⟨_, rfl, ⟨rfl, rfl, .inl rfl⟩, rfl⟩ | exact ⟨_, rfl, ⟨rfl, rfl, .inr rfl⟩, rfl⟩ | exact ⟨_, rfl, ⟨rfl, rfl, rfl, rfl, rfl⟩, rfl⟩ | exact ⟨_, rfl, ⟨rfl, rfl⟩, fun _ => Iff.rfl⟩ | refine ⟨_, rfl, rfl, ?_⟩ | refine ⟨_, rfl, ⟨rfl, rfl, rfl⟩, ?_⟩)
        · (conv => whnf)
          refine ⟨⟨k, L, es5, F5, Z5, Q5⟩, ⟨⟨by dsimp only; omega, hg⟩, (hLB ▸ hE5), (hLB ▸ hP5)⟩, ?_⟩
          dsimp only
          (conv => whnf)
          refine ⟨[some 0, some 1, some 2, some 3, some 4, none, some 6, some 5], by decide, ?_, ?_⟩
          all_goals repeat' (first | exact beq_self_eq_true _ | exact leT_junk rfl | refine And.intro ?_ ?_ | exact trivial | exact .inl ⟨rfl, rfl⟩ | rfl | exact .inr ⟨_, rfl, rfl, rfl⟩ | exact ⟨_, rfl, trivial⟩ | exact ⟨_, rfl, rfl⟩ | exact ⟨_, rfl, ⟨rfl, rfl, rfl⟩, fun _ _ _ _ => rfl⟩ | exact ⟨_, rfl, ⟨rfl, rfl, .inl rfl⟩, rfl⟩ | exact ⟨_, rfl, ⟨rfl, rfl, .inr rfl⟩, rfl⟩ | exact ⟨_, rfl, ⟨rfl, rfl, rfl, rfl, rfl⟩, rfl⟩ | exact ⟨_, rfl, ⟨rfl, rfl⟩, fun _ => Iff.rfl⟩ | refine ⟨_, rfl, rfl, ?_⟩ | refine ⟨_, rfl, ⟨rfl, rfl, rfl⟩, ?_⟩)
  · obtain rfl : k = l.length := by omega
    repeat' ((conv => whnf); first
        | refine CutN.plain ?_
        | with_reducible refine Br.tt ?_
        | with_reducible refine Br.ff ?_
        | with_reducible refine Br.nt ?_
        | with_reducible refine Br.nf ?_
        | with_reducible refine Br.eeI ?_
        | with_reducible refine Br.nnI ?_
        | refine Br.yes (by decide) ?_
        | refine Br.no (by decide) ?_
        | refine AppN.own ?_
        | refine Need.go rfl ?_
        | refine QuiD.quiet (by kernel_rfl) ?_
        | refine IdxN.lit ?_
        | refine draw_go tabOK (by kernel_rfl) ?_
        | refine Need.go ⟨rfl, rfl⟩ ?_
        | refine Need.go ⟨⟨rfl, rfl, rfl⟩, rfl⟩ ?_
        | (with_reducible refine Br.dec (fun h => ?_) (fun h => ?_); first | (rotate_left; exfalso; omega; clear h) | (exfalso; omega; clear h) | skip)
        | (with_reducible refine Br.eqI (fun h => ?_) (fun h => ?_); first | (rotate_left; exfalso; omega; clear h) | (exfalso; omega; clear h) | skip)
        | (with_reducible refine Br.neI (fun h => ?_) (fun h => ?_); first | (rotate_left; exfalso; omega; clear h) | (exfalso; omega; clear h) | skip)
        | (with_reducible refine Br.eqS (fun h => ?_) (fun h => ?_); first | (rotate_left; exfalso; omega; clear h) | (exfalso; omega; clear h) | skip)
        | (with_reducible refine Br.neS (fun h => ?_) (fun h => ?_); first | (rotate_left; exfalso; omega; clear h) | (exfalso; omega; clear h) | skip)
        | (with_reducible refine Br.nd (fun h => ?_) (fun h => ?_); first | (rotate_left; exfalso; omega; clear h) | (exfalso; omega; clear h) | skip)
        | refine Ar.i64 (by omega) (by omega) ?_
        | (refine call_sp (f := 35) (lkCopy (cap := cap) hE hP (by omega)) [1, 2, 3] (by decide) rfl ⟨rfl, rfl, rfl, trivial⟩ rfl ?_; rintro s H1 ⟨rfl, es6, F6, Z6, Q6, rfl, hE6, hP6⟩)
        | (refine call_sp (f := 37) (lkAlike hE6 hP6 (by omega) hg) [6, 7, 8, 4, 5] (by decide) rfl ⟨rfl, rfl, rfl, rfl, rfl, trivial⟩ rfl ?_; rintro s H1 ⟨rfl, rfl⟩)
        | (refine seg_sp (f := 37) (lkAlike hE6 hP6 (by omega) hg) (fun _ => rfl) [6, 7, 8, 4, 5] (by decide) rfl ⟨rfl, rfl, rfl, rfl, rfl, trivial⟩ rfl ?_)
        | (refine call_mem (f := 22) (args := []) (V := .bool true) ?_ ?_; exact fun ρ w h => mailed_any w)
        | (refine quiet_mem (f := 22) (args := []) (V := .bool true) ?_ ?_; exact fun ρ w h => mailed_any w)
        | (refine seg_mem (f := 22) (args := []) (V := .bool true) ?_ ?_; exact fun ρ w h => mailed_any w)
        | refine Need.go (by first | omega | decide | (simp <;> omega) | fail) ?_
        | refine Need.go (by first | (simp [Value.oneCell'] <;> omega) | fail) ?_
        | refine Need.go ⟨rfl, by omega, getD_one rfl rfl⟩ ?_
        | refine Need.go ⟨rfl, by omega, fun _ _ _ _ => rfl⟩ ?_
        | refine Br.both (fun h => ?_) (fun h => ?_))
    all_goals (conv => whnf)
    all_goals exact ret_pure (fun _ => rfl)
end Go.Proofs.Ytfniieigeofbdaa.lawLinksPlay
