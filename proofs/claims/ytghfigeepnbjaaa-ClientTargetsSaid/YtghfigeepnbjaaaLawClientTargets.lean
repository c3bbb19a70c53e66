/-
  ClientTargets: the walk. No condition.
-/
import Derived.Test.YtghfigeepnbjaaaCliT
import Derived.Test.YtghfigeepnbjaaaPI
import Derived.Test.YtghfigeepnbjaaaPE
namespace Go.Proofs.Ytghfigeepnbjaaa.lawClientTargets
open Go.Proofs.Ytghfigeepnbjaaa Go.RowKit
set_option maxRecDepth 100000 in
set_option maxHeartbeats 40000000 in
theorem core (c : CfgM) (idn : Int) (l : List ActC) (p q : Value) (w : World) (hp : SliceV w p 1 c.quanta.length (intsF c.quanta)) (hq : SliceV w q 39 l.length (actCF l)) (hid : 0 ≤ idn ∧ idn ≤ 255) (hk : ∀ x ∈ l, x.wf w) :
    Calls Try.prog 11 #[cfgV c p, .int .u8 idn, q] w fun e w' => e = .returned (.bool true) ∧ w.grownBy w' none := by
  obtain ⟨a, cap, rfl, h1, h2, hr⟩ := hp
  obtain ⟨a2, cap2, rfl, h3, h4, hr2⟩ := hq
  refine x_calls tabOK Try.func11 rfl [cfgS c (.rs 0 c.quanta.length cap), .v (.int .u8 idn), .rs 1 l.length cap2] _ _ rfl rfl (relR2 hr hr2) ?_
  by_cases hok : okActsC l 60
  case neg =>
    repeat' ((conv => whnf); first
        | refine CutN.plain ?_
        | with_reducible refine Br.tt ?_
        | with_reducible refine Br.ff ?_
        | with_reducible refine Br.nt ?_
        | with_reducible refine Br.nf ?_
        | with_reducible refine Br.eeI ?_
        | with_reducible refine Br.nnI ?_
        | refine Br.yes (by decide) ?_
        | refine Br.no (by decide) ?_
        | refine Need.go rfl ?_
        | refine QuiD.quiet (by kernel_rfl) ?_
        | refine IdxN.lit ?_
        | refine draw_go tabOK (by kernel_rfl) ?_
        | refine Need.go ⟨rfl, rfl⟩ ?_
        | refine Need.go ⟨⟨rfl, rfl, rfl⟩, rfl⟩ ?_
        | (with_reducible refine Br.dec (fun h => ?_) (fun h => ?_); first | (rotate_left; exfalso; omega; clear h) | (exfalso; omega; clear h) | skip)
        | (with_reducible refine Br.eqI (fun h => ?_) (fun h => ?_); first | (rotate_left; exfalso; omega; clear h) | (exfalso; omega; clear h) | skip)
        | (with_reducible refine Br.neI (fun h => ?_) (fun h => ?_); first | (rotate_left; exfalso; omega; clear h) | (exfalso; omega; clear h) | skip)
        | (with_reducible refine Br.eqS (fun h => ?_) (fun h => ?_); first | (rotate_left; exfalso; omega; clear h) | (exfalso; omega; clear h) | skip)
        | (with_reducible refine Br.neS (fun h => ?_) (fun h => ?_); first | (rotate_left; exfalso; omega; clear h) | (exfalso; omega; clear h) | skip)
        | (with_reducible refine Br.nd (fun h => ?_) (fun h => ?_); first | (rotate_left; exfalso; omega; clear h) | (exfalso; omega; clear h) | skip)
        | refine Ar.i64 (by omega) (by omega) ?_
        | (refine call_mem (f := 39) (args := [.rs 1 l.length cap2, .v (.int .i64 60)]) (V := .bool true) ?_ ?_; exact fun ρ w h => greatC_is l _ 60 w true (iff_of_false (fun h => by cases h) hok) (sl_rs h (i := 1) rfl (Nat.le_refl _) h3 h4))
        | (refine quiet_mem (f := 39) (args := [.rs 1 l.length cap2, .v (.int .i64 60)]) (V := .bool true) ?_ ?_; exact fun ρ w h => greatC_is l _ 60 w true (iff_of_false (fun h => by cases h) hok) (sl_rs h (i := 1) rfl (Nat.le_refl _) h3 h4))
        | (refine seg_mem (f := 39) (args := [.rs 1 l.length cap2, .v (.int .i64 60)]) (V := .bool true) ?_ ?_; exact fun ρ w h => greatC_is l _ 60 w true (iff_of_false (fun h => by cases h) hok) (sl_rs h (i := 1) rfl (Nat.le_refl _) h3 h4))
        | (refine call_mem (f := 40) (args := []) (V := .bool true) ?_ ?_; exact fun ρ w h => called_any w)
        | (refine quiet_mem (f := 40) (args := []) (V := .bool true) ?_ ?_; exact fun ρ w h => called_any w)
        | (refine seg_mem (f := 40) (args := []) (V := .bool true) ?_ ?_; exact fun ρ w h => called_any w)
        | refine Need.go (by first | omega | decide | (simp <;> omega) | fail) ?_
        | refine Need.go (by first | (simp [Value.oneCell'] <;> omega) | fail) ?_
        | refine Need.go ⟨rfl, by omega, getD_one rfl rfl⟩ ?_
        | refine Need.go ⟨rfl, by omega, fun _ _ _ _ => rfl⟩ ?_
        | refine Br.both (fun h => ?_) (fun h => ?_))
    all_goals (conv => whnf)
    all_goals exact ret_pure (fun _ => rfl)
  obtain ⟨d, hd⟩ : ∃ d, fitM c = d := ⟨_, rfl⟩
  have hdo : okM d = true := by rw [← hd]; exact fit_ok c
  obtain ⟨q1, q2, q3, q4, q5⟩ := okM_cli hdo
  have hl60 := hok.2
  by_cases hq20 : 20 < (c.quanta.length : Int)
  · repeat' ((conv => whnf); first
      | refine CutN.plain ?_
      | with_reducible refine Br.tt ?_
      | with_reducible refine Br.ff ?_
      | with_reducible refine Br.nt ?_
      | with_reducible refine Br.nf ?_
      | with_reducible refine Br.eeI ?_
      | with_reducible refine Br.nnI ?_
      | refine Br.yes (by decide) ?_
      | refine Br.no (by decide) ?_
      | refine Need.go rfl ?_
      | refine QuiD.quiet (by kernel_rfl) ?_
      | refine IdxN.lit ?_
      | refine draw_go tabOK (by kernel_rfl) ?_
      | refine Need.go ⟨rfl, rfl⟩ ?_
      | refine Need.go ⟨⟨rfl, rfl, rfl⟩, rfl⟩ ?_
      | (with_reducible refine Br.dec (fun h => ?_) (fun h => ?_); first | (rotate_left; exfalso; omega; clear h) | (exfalso; omega; clear h) | skip)
      | (with_reducible refine Br.eqI (fun h => ?_) (fun h => ?_); first | (rotate_left; exfalso; omega; clear h) | (exfalso; omega; clear h) | skip)
      | (with_reducible refine Br.neI (fun h => ?_) (fun h => ?_); first | (rotate_left; exfalso; omega; clear h) | (exfalso; omega; clear h) | skip)
      | (with_reducible refine Br.eqS (fun h => ?_) (fun h => ?_); first | (rotate_left; exfalso; omega; clear h) | (exfalso; omega; clear h) | skip)
      | (with_reducible refine Br.neS (fun h => ?_) (fun h => ?_); first | (rotate_left; exfalso; omega; clear h) | (exfalso; omega; clear h) | skip)
      | (with_reducible refine Br.nd (fun h => ?_) (fun h => ?_); first | (rotate_left; exfalso; omega; clear h) | (exfalso; omega; clear h) | skip)
      | refine Ar.i64 (by omega) (by omega) ?_
      | (refine call_mem (f := 40) (args := []) (V := .bool true) ?_ ?_; exact fun ρ w h => called_any w)
      | (refine quiet_mem (f := 40) (args := []) (V := .bool true) ?_ ?_; exact fun ρ w h => called_any w)
      | (refine seg_mem (f := 40) (args := []) (V := .bool true) ?_ ?_; exact fun ρ w h => called_any w)
      | refine Need.go (by first | omega | decide | (simp <;> omega) | fail) ?_
      | refine Need.go (by first | (simp [Value.oneCell'] <;> omega) | fail) ?_
      | refine Need.go ⟨rfl, by omega, getD_one rfl rfl⟩ ?_
      | refine Need.go ⟨rfl, by omega, fun _ _ _ _ => rfl⟩ ?_
      | refine Br.both (fun h => ?_) (fun h => ?_))
    all_goals (conv => whnf)
    exact ret_pure (fun _ => rfl)
  obtain ⟨n, hn⟩ : ∃ n, idn % d.clients = n := ⟨_, rfl⟩
  have hn0 : 0 ≤ n ∧ n < d.clients := by rw [← hn]; exact ⟨Int.emod_nonneg _ (by omega), Int.emod_lt_of_pos _ (by omega)⟩
  repeat' ((conv => whnf); first
      | rw [hn]
      | refine CutN.plain ?_
      | with_reducible refine Br.tt ?_
      | with_reducible refine Br.ff ?_
      | with_reducible refine Br.nt ?_
      | with_reducible refine Br.nf ?_
      | with_reducible refine Br.eeI ?_
      | with_reducible refine Br.nnI ?_
      | refine Br.yes (by decide) ?_
      | refine Br.no (by decide) ?_
      | refine Need.go rfl ?_
      | refine QuiD.quiet (by kernel_rfl) ?_
      | refine IdxN.lit ?_
      | refine draw_go tabOK (by kernel_rfl) ?_
      | refine Need.go ⟨rfl, rfl⟩ ?_
      | refine Need.go ⟨⟨rfl, rfl, rfl⟩, rfl⟩ ?_
      | (with_reducible refine Br.dec (fun h => ?_) (fun h => ?_); first | (rotate_left; exfalso; omega; clear h) | (exfalso; omega; clear h) | skip)
      | (with_reducible refine Br.eqI (fun h => ?_) (fun h => ?_); first | (rotate_left; exfalso; omega; clear h) | (exfalso; omega; clear h) | skip)
      | (with_reducible refine Br.neI (fun h => ?_) (fun h => ?_); first | (rotate_left; exfalso; omega; clear h) | (exfalso; omega; clear h) | skip)
      | (with_reducible refine Br.eqS (fun h => ?_) (fun h => ?_); first | (rotate_left; exfalso; omega; clear h) | (exfalso; omega; clear h) | skip)
      | (with_reducible refine Br.neS (fun h => ?_) (fun h => ?_); first | (rotate_left; exfalso; omega; clear h) | (exfalso; omega; clear h) | skip)
      | (with_reducible refine Br.nd (fun h => ?_) (fun h => ?_); first | (rotate_left; exfalso; omega; clear h) | (exfalso; omega; clear h) | skip)
      | refine Ar.i64 (by omega) (by omega) ?_
      | (refine call_mem (f := 39) (args := [.rs 1 l.length cap2, .v (.int .i64 60)]) (V := .bool false) ?_ ?_; exact fun ρ w h => greatC_is l _ 60 w false (iff_of_true rfl hok) (sl_rs h (i := 1) rfl (Nat.le_refl _) h3 h4))
      | (refine quiet_mem (f := 39) (args := [.rs 1 l.length cap2, .v (.int .i64 60)]) (V := .bool false) ?_ ?_; exact fun ρ w h => greatC_is l _ 60 w false (iff_of_true rfl hok) (sl_rs h (i := 1) rfl (Nat.le_refl _) h3 h4))
      | (refine seg_mem (f := 39) (args := [.rs 1 l.length cap2, .v (.int .i64 60)]) (V := .bool false) ?_ ?_; exact fun ρ w h => greatC_is l _ 60 w false (iff_of_true rfl hok) (sl_rs h (i := 1) rfl (Nat.le_refl _) h3 h4))
      | (refine call_mem (f := 40) (args := []) (V := .bool true) ?_ ?_; exact fun ρ w h => called_any w)
      | (refine quiet_mem (f := 40) (args := []) (V := .bool true) ?_ ?_; exact fun ρ w h => called_any w)
      | (refine seg_mem (f := 40) (args := []) (V := .bool true) ?_ ?_; exact fun ρ w h => called_any w)
      | (refine rfit_n c d hd (.rs 0 c.quanta.length cap) ?_ ?_; exact fun ρ w h => sl_rs h (i := 0) rfl (Nat.le_refl _) h1 h2)
      | (refine cli_new d n (.os 3 d.quanta.length) (fun ρ w h => sl_os h (i := 3) rfl) hdo hn0 ?_; intro b Z0)
      | refine Need.go (by first | omega | decide | (simp <;> omega) | fail) ?_
      | refine Need.go (by first | (simp [Value.oneCell'] <;> omega) | fail) ?_
      | refine Need.go ⟨rfl, by omega, getD_one rfl rfl⟩ ?_
      | refine Need.go ⟨rfl, by omega, fun _ _ _ _ => rfl⟩ ?_
      | refine Br.both (fun h => ?_) (fun h => ?_))
  all_goals (conv => whnf)
  all_goals try exact ret_pure (fun _ => rfl)
  refine loop_up 48 (fun x : Nat × Int × CliM × OpM × (Nat → Prop) => x.1 ≤ l.length ∧ (0 ≤ x.2.1 ∧ x.2.1 ≤ 8 * x.1) ∧ TargSt d n x.1 x.2.2.1 x.2.2.2.1) (fun x => l.length - x.1) (fun x => [(10, .v (.int .i64 x.2.1)), (13, .v (.int .i64 x.1)), (14, .junk), (15, .junk), (16, .junk), (17, .junk), (18, .junk), (19, .junk), (20, .junk), (21, .junk), (22, .junk), (23, .junk)])
    (fun x => [(4, .ent (.res true x.2.2.2.2 (CliQ b x.2.2.1 x.2.2.2.2))), (5, .ent (.blk 43 [.v (.int .i64 x.2.2.1.ch.epoch), .os 7 x.2.2.1.ch.mem.length, .v (.int .i64 x.2.2.1.ch.drain)])), (6, .ent (.blk 36 [.v (.int .i64 x.2.2.2.1.kind), .v (S x.2.2.2.1.key), .v (S x.2.2.2.1.value), .v (.int .i64 x.2.2.2.1.version)]))]) (fun x => [memC x.2.2.1.ch]) (0, 0, newCli d n, opZ, Z0) ⟨Nat.zero_le _, by simp only; omega, ⟨new_cst hdo n, .inl rfl, fun h => absurd rfl h⟩⟩ (by
    (conv => whnf)
    refine ⟨[some 0, some 1, some 2, some 3, some 4, some 5, some 6, none], by decide, ?_, ?_⟩
    all_goals repeat' (first | exact leT_junk rfl | refine And.intro ?_ ?_ | exact trivial | exact .inl ⟨rfl, rfl⟩ | rfl | exact .inr ⟨_, rfl, rfl, rfl⟩ | exact ⟨_, rfl, trivial⟩ | exact ⟨_, rfl, rfl⟩ | exact ⟨_, rfl, ⟨rfl, rfl, rfl⟩, fun _ _ _ _ => rfl⟩ | exact ⟨_, rfl, ⟨rfl, rfl, .inl rfl⟩, rfl⟩ | exact ⟨_, rfl, ⟨rfl, rfl, .inr rfl⟩, rfl⟩ | exact ⟨_, rfl, ⟨rfl, rfl, rfl, rfl, rfl⟩, rfl⟩ | exact ⟨_, rfl, ⟨rfl, rfl⟩, fun _ => Iff.rfl⟩ | refine ⟨_, rfl, rfl, ?_⟩ | refine ⟨_, rfl, ⟨rfl, rfl, rfl⟩, ?_⟩)) (fun x hx => ?_)
  obtain ⟨k, now, c1, op, Z⟩ := x
  obtain ⟨hkl, hnow, hst⟩ := hx
  simp only at hkl hst hnow
  dsimp only
  by_cases hlt : k < l.length
  case neg =>
    repeat' ((conv => whnf); first
        | refine CutN.plain ?_
        | with_reducible refine Br.tt ?_
        | with_reducible refine Br.ff ?_
        | with_reducible refine Br.nt ?_
        | with_reducible refine Br.nf ?_
        | with_reducible refine Br.eeI ?_
        | with_reducible refine Br.nnI ?_
        | refine Br.yes (by decide) ?_
        | refine Br.no (by decide) ?_
        | refine Need.go rfl ?_
        | refine QuiD.quiet (by kernel_rfl) ?_
        | refine IdxN.lit ?_
        | refine draw_go tabOK (by kernel_rfl) ?_
        | refine Need.go ⟨rfl, rfl⟩ ?_
        | refine Need.go ⟨⟨rfl, rfl, rfl⟩, rfl⟩ ?_
        | (with_reducible refine Br.dec (fun h => ?_) (fun h => ?_); first | (rotate_left; exfalso; omega; clear h) | (exfalso; omega; clear h) | skip)
        | (with_reducible refine Br.eqI (fun h => ?_) (fun h => ?_); first | (rotate_left; exfalso; omega; clear h) | (exfalso; omega; clear h) | skip)
        | (with_reducible refine Br.neI (fun h => ?_) (fun h => ?_); first | (rotate_left; exfalso; omega; clear h) | (exfalso; omega; clear h) | skip)
        | (with_reducible refine Br.eqS (fun h => ?_) (fun h => ?_); first | (rotate_left; exfalso; omega; clear h) | (exfalso; omega; clear h) | skip)
        | (with_reducible refine Br.neS (fun h => ?_) (fun h => ?_); first | (rotate_left; exfalso; omega; clear h) | (exfalso; omega; clear h) | skip)
        | (with_reducible refine Br.nd (fun h => ?_) (fun h => ?_); first | (rotate_left; exfalso; omega; clear h) | (exfalso; omega; clear h) | skip)
        | refine Ar.i64 (by omega) (by omega) ?_
        | (refine call_mem (f := 40) (args := []) (V := .bool true) ?_ ?_; exact fun ρ w h => called_any w)
        | (refine quiet_mem (f := 40) (args := []) (V := .bool true) ?_ ?_; exact fun ρ w h => called_any w)
        | (refine seg_mem (f := 40) (args := []) (V := .bool true) ?_ ?_; exact fun ρ w h => called_any w)
        | refine Need.go (by first | omega | decide | (simp <;> omega) | fail) ?_
        | refine Need.go (by first | (simp [Value.oneCell'] <;> omega) | fail) ?_
        | refine Need.go ⟨rfl, by omega, getD_one rfl rfl⟩ ?_
        | refine Need.go ⟨rfl, by omega, fun _ _ _ _ => rfl⟩ ?_
        | refine Br.both (fun h => ?_) (fun h => ?_))
    all_goals (conv => whnf)
    exact ret_pure (fun _ => rfl)
  obtain ⟨y, hy⟩ : ∃ y, l.getD (Int.toNat (k : Int)) actCZ = y := ⟨_, rfl⟩
  have hyw : y.wf w := hy ▸ ActC.wf_at hk hlt
  have hrow : actCF l (Int.toNat (k : Int)) = fun c => (actCC y).getD c undef := by rw [← hy]; rfl
  have hya := hyw.a
  have hyb := hyw.b
  have hyk := hyw.kind
  have hco := hst.st.ok
  have hcl := ch_len hco
  have hk6 : k ≤ 1000000 := by omega
  have hkn : ∀ t, 0 ≤ nearC t ∧ nearC t ≤ 1099511627776 := nearC_rng
  obtain ⟨r1, e1⟩ : ∃ r, callC c1 y.op 0 (now + y.b) now = r := ⟨_, rfl⟩
  have t1 := targ_call hst hk6 y.op (now + y.b) now e1
  obtain ⟨r2, e2⟩ : ∃ r, tickC c1 (nearC (now + y.a % 9)) = r := ⟨_, rfl⟩
  have t2 := targ_tick hst (hkn (now + y.a % 9))
  rw [e2] at t2
  have hch : okCh (ch2 (1 + y.b % 6) (y.a % 6) ((y.a + 1 + y.b % 5) % 6)) = true := ch2_ok (by omega) (by omega) (by omega) (by omega)
  obtain ⟨r3, e3⟩ : ∃ r, takeC c1 (frCfg (ch2 (1 + y.b % 6) (y.a % 6) ((y.a + 1 + y.b % 5) % 6))) (nearC now) = r := ⟨_, rfl⟩
  have t3 := targ_cfg hst hk6 ⟨hch, rfl⟩ (hkn now)
  rw [e3] at t3
  obtain ⟨r4, e4⟩ : ∃ r, takeC c1 (frRef n c1.seq c1.tries (1 + y.b % 10)) (nearC now) = r := ⟨_, rfl⟩
  have t4 := targ_ref hst hk6 n c1.seq c1.tries (1 + y.b % 10) (hkn now)
  rw [e4] at t4
  repeat' ((conv => whnf); first
      | rw [hrow]
      | rw [hy]
      | (refine cut_up 2 48 (fun x : CliM × (Nat → Prop) × Int × OpM × List SndM × ChM => TargSt d n (k + 1) x.1 x.2.2.2.1 ∧ (now ≤ x.2.2.1 ∧ x.2.2.1 ≤ now + 8) ∧ SentF n x.1 x.2.2.2.1 x.2.2.2.2.1 ∧ x.2.2.2.2.2 = x.1.ch) (fun x => [(10, .v (.int .i64 x.2.2.1)), (17, .os 9 x.2.2.2.2.1.length), (18, .junk), (19, .junk), (20, .junk)]) (fun x => [(4, .ent (.res true x.2.1 (CliQ b x.1 x.2.1))), (5, .ent (.blk 43 [.v (.int .i64 x.2.2.2.2.2.epoch), .os 7 x.2.2.2.2.2.mem.length, .v (.int .i64 x.2.2.2.2.2.drain)])), (6, .ent (.blk 36 [.v (.int .i64 x.2.2.2.1.kind), .v (S x.2.2.2.1.key), .v (S x.2.2.2.1.value), .v (.int .i64 x.2.2.2.1.version)])), (7, .ent (memC x.2.2.2.2.2))]) (fun x => [sndC1 x.2.2.2.2.1]) ?_ ?_)
      | refine CutN.plain ?_
      | with_reducible refine Br.tt ?_
      | with_reducible refine Br.ff ?_
      | with_reducible refine Br.nt ?_
      | with_reducible refine Br.nf ?_
      | with_reducible refine Br.eeI ?_
      | with_reducible refine Br.nnI ?_
      | refine Br.yes (by decide) ?_
      | refine Br.no (by decide) ?_
      | refine Need.go rfl ?_
      | refine QuiD.quiet (by kernel_rfl) ?_
      | refine IdxN.lit ?_
      | refine draw_go tabOK (by kernel_rfl) ?_
      | refine Need.go ⟨rfl, rfl⟩ ?_
      | refine Need.go ⟨⟨rfl, rfl, rfl⟩, rfl⟩ ?_
      | (with_reducible refine Br.dec (fun h => ?_) (fun h => ?_); first | (rotate_left; exfalso; omega; clear h) | (exfalso; omega; clear h) | skip)
      | (with_reducible refine Br.eqI (fun h => ?_) (fun h => ?_); first | (rotate_left; exfalso; omega; clear h) | (exfalso; omega; clear h) | skip)
      | (with_reducible refine Br.neI (fun h => ?_) (fun h => ?_); first | (rotate_left; exfalso; omega; clear h) | (exfalso; omega; clear h) | skip)
      | (with_reducible refine Br.eqS (fun h => ?_) (fun h => ?_); first | (rotate_left; exfalso; omega; clear h) | (exfalso; omega; clear h) | skip)
      | (with_reducible refine Br.neS (fun h => ?_) (fun h => ?_); first | (rotate_left; exfalso; omega; clear h) | (exfalso; omega; clear h) | skip)
      | (with_reducible refine Br.nd (fun h => ?_) (fun h => ?_); first | (rotate_left; exfalso; omega; clear h) | (exfalso; omega; clear h) | skip)
      | refine Ar.i64 (by omega) (by omega) ?_
      | (refine cli_call c1 hco 4 (by omega) y.op 0 (now + y.b) now e1 rfl ?_; intro ZC)
      | (refine cli_tick c1 hco 4 (now + y.a % 9) e2 rfl ?_; intro ZK)
      | (refine cli_take c1 hco 4 (frCfg (ch2 (1 + y.b % 6) (y.a % 6) ((y.a + 1 + y.b % 5) % 6))) (show 2 ≤ 1000000 by decide) (.os 9 2) now e3 rfl (os_besideC (j := 4) (i := 9) rfl rfl (fun r c hr hc => mem2F _ _ _ _ r c hr hc)) ?_; intro ZF)
      | (refine cli_take c1 hco 4 (frRef n c1.seq c1.tries (1 + y.b % 10)) (Nat.zero_le _) (.v (.slice none 0 0)) now e4 rfl nil_beside ?_; intro ZR)
      | refine cli_seq c1 hco 4 rfl ?_
      | refine cli_tries c1 hco 4 rfl ?_
      | refine Need.go (by first | omega | decide | (simp <;> omega) | fail) ?_
      | refine Need.go (by first | (simp [Value.oneCell'] <;> omega) | fail) ?_
      | refine Need.go ⟨rfl, by omega, getD_one rfl rfl⟩ ?_
      | refine Need.go ⟨rfl, by omega, fun _ _ _ _ => rfl⟩ ?_
      | refine Br.both (fun h => ?_) (fun h => ?_))
  rotate_left
  all_goals (conv => whnf)
  any_goals first
    | (refine ⟨(r1.1.1, ZC, now, y.op, r1.1.2, c1.ch), t1.elim (fun h' => ⟨h'.2.1, by dsimp only; omega, h'.2.2.2, h'.2.2.1.symm⟩) (fun h' => absurd (by assumption) h'.1), ?_⟩
       dsimp only
       (conv => whnf)
       refine ⟨[some 0, some 1, some 2, some 3, some 4, some 5, some 6, some 7, some 8, some 9], by decide, ?_, ?_⟩
       all_goals repeat' (first | exact leT_junk rfl | refine And.intro ?_ ?_ | exact trivial | exact .inl ⟨rfl, rfl⟩ | rfl | exact .inr ⟨_, rfl, rfl, rfl⟩ | exact ⟨_, rfl, trivial⟩ | exact ⟨_, rfl, rfl⟩ | exact ⟨_, rfl, ⟨rfl, rfl, rfl⟩, fun _ _ _ _ => rfl⟩ | exact ⟨_, rfl, ⟨rfl, rfl, .inl rfl⟩, rfl⟩ | exact ⟨_, rfl, ⟨rfl, rfl, .inr rfl⟩, rfl⟩ | exact ⟨_, rfl, ⟨rfl, rfl, rfl, rfl, rfl⟩, rfl⟩ | exact ⟨_, rfl, ⟨rfl, rfl⟩, fun _ => Iff.rfl⟩ | exact ⟨_, rfl, ⟨rfl, rfl, rfl⟩, fun r c hr hc => mem2F _ _ _ _ r c hr hc⟩ | refine ⟨_, rfl, rfl, ?_⟩ | refine ⟨_, rfl, ⟨rfl, rfl, rfl⟩, ?_⟩)
       done)
    | (refine ⟨(r1.1.1, ZC, now, op, [], c1.ch), t1.elim (fun h' => absurd h'.1 (by assumption)) (fun h' => ⟨by rw [h'.2.1]; exact ⟨hst.st.mono (Nat.le_succ k), hst.ch, hst.busy⟩, by dsimp only; omega, .inl rfl, by rw [h'.2.1]⟩), ?_⟩
       dsimp only
       (conv => whnf)
       refine ⟨[some 0, some 1, some 2, some 3, some 4, some 5, some 6, some 7, some 8, none], by decide, ?_, ?_⟩
       all_goals repeat' (first | exact leT_junk rfl | refine And.intro ?_ ?_ | exact trivial | exact .inl ⟨rfl, rfl⟩ | rfl | exact .inr ⟨_, rfl, rfl, rfl⟩ | exact ⟨_, rfl, trivial⟩ | exact ⟨_, rfl, rfl⟩ | exact ⟨_, rfl, ⟨rfl, rfl, rfl⟩, fun _ _ _ _ => rfl⟩ | exact ⟨_, rfl, ⟨rfl, rfl, .inl rfl⟩, rfl⟩ | exact ⟨_, rfl, ⟨rfl, rfl, .inr rfl⟩, rfl⟩ | exact ⟨_, rfl, ⟨rfl, rfl, rfl, rfl, rfl⟩, rfl⟩ | exact ⟨_, rfl, ⟨rfl, rfl⟩, fun _ => Iff.rfl⟩ | exact ⟨_, rfl, ⟨rfl, rfl, rfl⟩, fun r c hr hc => mem2F _ _ _ _ r c hr hc⟩ | refine ⟨_, rfl, rfl, ?_⟩ | refine ⟨_, rfl, ⟨rfl, rfl, rfl⟩, ?_⟩)
       done)
    | (refine ⟨(r2.1, ZK, now + y.a % 9, op, r2.2, c1.ch), ⟨t2.1, by dsimp only; omega, t2.2.2, t2.2.1.symm⟩, ?_⟩
       dsimp only
       (conv => whnf)
       refine ⟨[some 0, some 1, some 2, some 3, some 4, some 5, some 6, some 7, some 8, some 9], by decide, ?_, ?_⟩
       all_goals repeat' (first | exact leT_junk rfl | refine And.intro ?_ ?_ | exact trivial | exact .inl ⟨rfl, rfl⟩ | rfl | exact .inr ⟨_, rfl, rfl, rfl⟩ | exact ⟨_, rfl, trivial⟩ | exact ⟨_, rfl, rfl⟩ | exact ⟨_, rfl, ⟨rfl, rfl, rfl⟩, fun _ _ _ _ => rfl⟩ | exact ⟨_, rfl, ⟨rfl, rfl, .inl rfl⟩, rfl⟩ | exact ⟨_, rfl, ⟨rfl, rfl, .inr rfl⟩, rfl⟩ | exact ⟨_, rfl, ⟨rfl, rfl, rfl, rfl, rfl⟩, rfl⟩ | exact ⟨_, rfl, ⟨rfl, rfl⟩, fun _ => Iff.rfl⟩ | exact ⟨_, rfl, ⟨rfl, rfl, rfl⟩, fun r c hr hc => mem2F _ _ _ _ r c hr hc⟩ | refine ⟨_, rfl, rfl, ?_⟩ | refine ⟨_, rfl, ⟨rfl, rfl, rfl⟩, ?_⟩)
       done)
    | (refine ⟨(r3.1, ZF, now, op, r3.2, ch2 (1 + y.b % 6) (y.a % 6) ((y.a + 1 + y.b % 5) % 6)), ⟨t3.1, by dsimp only; omega, t3.2.2, by rw [t3.2.1, if_pos (by first | assumption | (simp only; omega))]⟩, ?_⟩
       dsimp only
       (conv => whnf)
       refine ⟨[some 0, some 1, some 2, some 3, some 4, some 5, some 6, some 9, some 8, some 11], by decide, ?_, ?_⟩
       all_goals repeat' (first | exact leT_junk rfl | refine And.intro ?_ ?_ | exact trivial | exact .inl ⟨rfl, rfl⟩ | rfl | exact .inr ⟨_, rfl, rfl, rfl⟩ | exact ⟨_, rfl, trivial⟩ | exact ⟨_, rfl, rfl⟩ | exact ⟨_, rfl, ⟨rfl, rfl, rfl⟩, fun _ _ _ _ => rfl⟩ | exact ⟨_, rfl, ⟨rfl, rfl, .inl rfl⟩, rfl⟩ | exact ⟨_, rfl, ⟨rfl, rfl, .inr rfl⟩, rfl⟩ | exact ⟨_, rfl, ⟨rfl, rfl, rfl, rfl, rfl⟩, rfl⟩ | exact ⟨_, rfl, ⟨rfl, rfl⟩, fun _ => Iff.rfl⟩ | exact ⟨_, rfl, ⟨rfl, rfl, rfl⟩, fun r c hr hc => mem2F _ _ _ _ r c hr hc⟩ | refine ⟨_, rfl, rfl, ?_⟩ | refine ⟨_, rfl, ⟨rfl, rfl, rfl⟩, ?_⟩)
       done)
    | (refine ⟨(r3.1, ZF, now, op, r3.2, c1.ch), ⟨t3.1, by dsimp only; omega, t3.2.2, by rw [t3.2.1, if_neg (by first | assumption | (simp only; omega))]⟩, ?_⟩
       dsimp only
       (conv => whnf)
       refine ⟨[some 0, some 1, some 2, some 3, some 4, some 5, some 6, some 7, some 8, some 11], by decide, ?_, ?_⟩
       all_goals repeat' (first | exact leT_junk rfl | refine And.intro ?_ ?_ | exact trivial | exact .inl ⟨rfl, rfl⟩ | rfl | exact .inr ⟨_, rfl, rfl, rfl⟩ | exact ⟨_, rfl, trivial⟩ | exact ⟨_, rfl, rfl⟩ | exact ⟨_, rfl, ⟨rfl, rfl, rfl⟩, fun _ _ _ _ => rfl⟩ | exact ⟨_, rfl, ⟨rfl, rfl, .inl rfl⟩, rfl⟩ | exact ⟨_, rfl, ⟨rfl, rfl, .inr rfl⟩, rfl⟩ | exact ⟨_, rfl, ⟨rfl, rfl, rfl, rfl, rfl⟩, rfl⟩ | exact ⟨_, rfl, ⟨rfl, rfl⟩, fun _ => Iff.rfl⟩ | exact ⟨_, rfl, ⟨rfl, rfl, rfl⟩, fun r c hr hc => mem2F _ _ _ _ r c hr hc⟩ | refine ⟨_, rfl, rfl, ?_⟩ | refine ⟨_, rfl, ⟨rfl, rfl, rfl⟩, ?_⟩)
       done)
    | (refine ⟨(r4.1, ZR, now, op, r4.2, c1.ch), ⟨t4.1, by dsimp only; omega, t4.2.2, t4.2.1.symm⟩, ?_⟩
       dsimp only
       (conv => whnf)
       refine ⟨[some 0, some 1, some 2, some 3, some 4, some 5, some 6, some 7, some 8, some 9], by decide, ?_, ?_⟩
       all_goals repeat' (first | exact leT_junk rfl | refine And.intro ?_ ?_ | exact trivial | exact .inl ⟨rfl, rfl⟩ | rfl | exact .inr ⟨_, rfl, rfl, rfl⟩ | exact ⟨_, rfl, trivial⟩ | exact ⟨_, rfl, rfl⟩ | exact ⟨_, rfl, ⟨rfl, rfl, rfl⟩, fun _ _ _ _ => rfl⟩ | exact ⟨_, rfl, ⟨rfl, rfl, .inl rfl⟩, rfl⟩ | exact ⟨_, rfl, ⟨rfl, rfl, .inr rfl⟩, rfl⟩ | exact ⟨_, rfl, ⟨rfl, rfl, rfl, rfl, rfl⟩, rfl⟩ | exact ⟨_, rfl, ⟨rfl, rfl⟩, fun _ => Iff.rfl⟩ | exact ⟨_, rfl, ⟨rfl, rfl, rfl⟩, fun r c hr hc => mem2F _ _ _ _ r c hr hc⟩ | refine ⟨_, rfl, rfl, ?_⟩ | refine ⟨_, rfl, ⟨rfl, rfl, rfl⟩, ?_⟩)
       done)
    | fail
  clear t1 t2 t3 t4 e1 e2 e3 e4 hch hst hco hcl hrow hy hyw hya hyb hyk
  intro x hx
  obtain ⟨c2, Z2, now2, op2, l2, kn⟩ := x
  obtain ⟨hst, hnow2, hs, hkn2⟩ := hx
  simp only at hst hnow2 hs hkn2
  subst hkn2
  dsimp only
  have hco := hst.st.ok
  rcases hs with rfl | rfl | ⟨x, rfl, hx⟩
  · repeat' ((conv => whnf); first
      | refine CutN.plain ?_
      | with_reducible refine Br.tt ?_
      | with_reducible refine Br.ff ?_
      | with_reducible refine Br.nt ?_
      | with_reducible refine Br.nf ?_
      | with_reducible refine Br.eeI ?_
      | with_reducible refine Br.nnI ?_
      | refine Br.yes (by decide) ?_
      | refine Br.no (by decide) ?_
      | refine Need.go rfl ?_
      | refine QuiD.quiet (by kernel_rfl) ?_
      | refine IdxN.lit ?_
      | refine draw_go tabOK (by kernel_rfl) ?_
      | refine Need.go ⟨rfl, rfl⟩ ?_
      | refine Need.go ⟨⟨rfl, rfl, rfl⟩, rfl⟩ ?_
      | (with_reducible refine Br.dec (fun h => ?_) (fun h => ?_); first | (rotate_left; exfalso; omega; clear h) | (exfalso; omega; clear h) | skip)
      | (with_reducible refine Br.eqI (fun h => ?_) (fun h => ?_); first | (rotate_left; exfalso; omega; clear h) | (exfalso; omega; clear h) | skip)
      | (with_reducible refine Br.neI (fun h => ?_) (fun h => ?_); first | (rotate_left; exfalso; omega; clear h) | (exfalso; omega; clear h) | skip)
      | (with_reducible refine Br.eqS (fun h => ?_) (fun h => ?_); first | (rotate_left; exfalso; omega; clear h) | (exfalso; omega; clear h) | skip)
      | (with_reducible refine Br.neS (fun h => ?_) (fun h => ?_); first | (rotate_left; exfalso; omega; clear h) | (exfalso; omega; clear h) | skip)
      | (with_reducible refine Br.nd (fun h => ?_) (fun h => ?_); first | (rotate_left; exfalso; omega; clear h) | (exfalso; omega; clear h) | skip)
      | refine Ar.i64 (by omega) (by omega) ?_
      | refine Need.go (by first | omega | decide | (simp <;> omega) | fail) ?_
      | refine Need.go (by first | (simp [Value.oneCell'] <;> omega) | fail) ?_
      | refine Need.go ⟨rfl, by omega, getD_one rfl rfl⟩ ?_
      | refine Need.go ⟨rfl, by omega, fun _ _ _ _ => rfl⟩ ?_
      | refine Br.both (fun h => ?_) (fun h => ?_))
    all_goals (conv => whnf)
    refine loop_up 138 (fun j : Nat => j ≤ 0) (fun j => 0 - j) (fun j => [(21, .v (.int .i64 j)), (22, .junk), (23, .junk)]) (fun _ => []) (fun _ => []) 0 (Nat.zero_le _) (by
      (conv => whnf)
      refine ⟨[some 0, some 1, some 2, some 3, some 4, some 5, some 6, some 7, some 8, some 9], by decide, ?_, ?_⟩
      all_goals repeat' (first | exact leT_junk rfl | refine And.intro ?_ ?_ | exact trivial | exact .inl ⟨rfl, rfl⟩ | rfl | exact .inr ⟨_, rfl, rfl, rfl⟩ | exact ⟨_, rfl, trivial⟩ | exact ⟨_, rfl, rfl⟩ | exact ⟨_, rfl, ⟨rfl, rfl, rfl⟩, fun _ _ _ _ => rfl⟩ | exact ⟨_, rfl, ⟨rfl, rfl, .inl rfl⟩, rfl⟩ | exact ⟨_, rfl, ⟨rfl, rfl, .inr rfl⟩, rfl⟩ | exact ⟨_, rfl, ⟨rfl, rfl, rfl, rfl, rfl⟩, rfl⟩ | exact ⟨_, rfl, ⟨rfl, rfl⟩, fun _ => Iff.rfl⟩ | refine ⟨_, rfl, rfl, ?_⟩ | refine ⟨_, rfl, ⟨rfl, rfl, rfl⟩, ?_⟩)) (fun j hj => ?_)
    obtain rfl : j = 0 := by omega
    repeat' ((conv => whnf); first
        | refine CutN.plain ?_
        | with_reducible refine Br.tt ?_
        | with_reducible refine Br.ff ?_
        | with_reducible refine Br.nt ?_
        | with_reducible refine Br.nf ?_
        | with_reducible refine Br.eeI ?_
        | with_reducible refine Br.nnI ?_
        | refine Br.yes (by decide) ?_
        | refine Br.no (by decide) ?_
        | refine Need.go rfl ?_
        | refine QuiD.quiet (by kernel_rfl) ?_
        | refine IdxN.lit ?_
        | refine draw_go tabOK (by kernel_rfl) ?_
        | refine Need.go ⟨rfl, rfl⟩ ?_
        | refine Need.go ⟨⟨rfl, rfl, rfl⟩, rfl⟩ ?_
        | (with_reducible refine Br.dec (fun h => ?_) (fun h => ?_); first | (rotate_left; exfalso; omega; clear h) | (exfalso; omega; clear h) | skip)
        | (with_reducible refine Br.eqI (fun h => ?_) (fun h => ?_); first | (rotate_left; exfalso; omega; clear h) | (exfalso; omega; clear h) | skip)
        | (with_reducible refine Br.neI (fun h => ?_) (fun h => ?_); first | (rotate_left; exfalso; omega; clear h) | (exfalso; omega; clear h) | skip)
        | (with_reducible refine Br.eqS (fun h => ?_) (fun h => ?_); first | (rotate_left; exfalso; omega; clear h) | (exfalso; omega; clear h) | skip)
        | (with_reducible refine Br.neS (fun h => ?_) (fun h => ?_); first | (rotate_left; exfalso; omega; clear h) | (exfalso; omega; clear h) | skip)
        | (with_reducible refine Br.nd (fun h => ?_) (fun h => ?_); first | (rotate_left; exfalso; omega; clear h) | (exfalso; omega; clear h) | skip)
        | refine Ar.i64 (by omega) (by omega) ?_
        | refine Need.go (by first | omega | decide | (simp <;> omega) | fail) ?_
        | refine Need.go (by first | (simp [Value.oneCell'] <;> omega) | fail) ?_
        | refine Need.go ⟨rfl, by omega, getD_one rfl rfl⟩ ?_
        | refine Need.go ⟨rfl, by omega, fun _ _ _ _ => rfl⟩ ?_
        | refine Br.both (fun h => ?_) (fun h => ?_))
    all_goals (conv => whnf)
    refine ⟨(k + 1, now2, c2, op2, Z2), ⟨by simp only; omega, by simp only; omega, hst⟩, by simp only; omega, ?_⟩
    dsimp only
    (conv => whnf)
    refine ⟨[some 0, some 1, some 2, some 3, some 4, some 5, some 6, some 7], by decide, ?_, ?_⟩
    all_goals repeat' (first | exact leT_junk rfl | refine And.intro ?_ ?_ | exact trivial | exact .inl ⟨rfl, rfl⟩ | rfl | exact .inr ⟨_, rfl, rfl, rfl⟩ | exact ⟨_, rfl, trivial⟩ | exact ⟨_, rfl, rfl⟩ | exact ⟨_, rfl, ⟨rfl, rfl, rfl⟩, fun _ _ _ _ => rfl⟩ | exact ⟨_, rfl, ⟨rfl, rfl, .inl rfl⟩, rfl⟩ | exact ⟨_, rfl, ⟨rfl, rfl, .inr rfl⟩, rfl⟩ | exact ⟨_, rfl, ⟨rfl, rfl, rfl, rfl, rfl⟩, rfl⟩ | exact ⟨_, rfl, ⟨rfl, rfl⟩, fun _ => Iff.rfl⟩ | refine ⟨_, rfl, rfl, ?_⟩ | refine ⟨_, rfl, ⟨rfl, rfl, rfl⟩, ?_⟩)
  · repeat' ((conv => whnf); first
      | refine CutN.plain ?_
      | with_reducible refine Br.tt ?_
      | with_reducible refine Br.ff ?_
      | with_reducible refine Br.nt ?_
      | with_reducible refine Br.nf ?_
      | with_reducible refine Br.eeI ?_
      | with_reducible refine Br.nnI ?_
      | refine Br.yes (by decide) ?_
      | refine Br.no (by decide) ?_
      | refine Need.go rfl ?_
      | refine QuiD.quiet (by kernel_rfl) ?_
      | refine IdxN.lit ?_
      | refine draw_go tabOK (by kernel_rfl) ?_
      | refine Need.go ⟨rfl, rfl⟩ ?_
      | refine Need.go ⟨⟨rfl, rfl, rfl⟩, rfl⟩ ?_
      | (with_reducible refine Br.dec (fun h => ?_) (fun h => ?_); first | (rotate_left; exfalso; omega; clear h) | (exfalso; omega; clear h) | skip)
      | (with_reducible refine Br.eqI (fun h => ?_) (fun h => ?_); first | (rotate_left; exfalso; omega; clear h) | (exfalso; omega; clear h) | skip)
      | (with_reducible refine Br.neI (fun h => ?_) (fun h => ?_); first | (rotate_left; exfalso; omega; clear h) | (exfalso; omega; clear h) | skip)
      | (with_reducible refine Br.eqS (fun h => ?_) (fun h => ?_); first | (rotate_left; exfalso; omega; clear h) | (exfalso; omega; clear h) | skip)
      | (with_reducible refine Br.neS (fun h => ?_) (fun h => ?_); first | (rotate_left; exfalso; omega; clear h) | (exfalso; omega; clear h) | skip)
      | (with_reducible refine Br.nd (fun h => ?_) (fun h => ?_); first | (rotate_left; exfalso; omega; clear h) | (exfalso; omega; clear h) | skip)
      | refine Ar.i64 (by omega) (by omega) ?_
      | refine Need.go (by first | omega | decide | (simp <;> omega) | fail) ?_
      | refine Need.go (by first | (simp [Value.oneCell'] <;> omega) | fail) ?_
      | refine Need.go ⟨rfl, by omega, getD_one rfl rfl⟩ ?_
      | refine Need.go ⟨rfl, by omega, fun _ _ _ _ => rfl⟩ ?_
      | refine Br.both (fun h => ?_) (fun h => ?_))
    all_goals (conv => whnf)
    refine loop_up 138 (fun j : Nat => j ≤ 1) (fun j => 1 - j) (fun j => [(21, .v (.int .i64 j)), (22, .junk), (23, .junk)]) (fun _ => []) (fun _ => []) 0 (Nat.zero_le _) (by
      (conv => whnf)
      refine ⟨[some 0, some 1, some 2, some 3, some 4, some 5, some 6, some 7, some 8, some 9], by decide, ?_, ?_⟩
      all_goals repeat' (first | exact leT_junk rfl | refine And.intro ?_ ?_ | exact trivial | exact .inl ⟨rfl, rfl⟩ | rfl | exact .inr ⟨_, rfl, rfl, rfl⟩ | exact ⟨_, rfl, trivial⟩ | exact ⟨_, rfl, rfl⟩ | exact ⟨_, rfl, ⟨rfl, rfl, rfl⟩, fun _ _ _ _ => rfl⟩ | exact ⟨_, rfl, ⟨rfl, rfl, .inl rfl⟩, rfl⟩ | exact ⟨_, rfl, ⟨rfl, rfl, .inr rfl⟩, rfl⟩ | exact ⟨_, rfl, ⟨rfl, rfl, rfl, rfl, rfl⟩, rfl⟩ | exact ⟨_, rfl, ⟨rfl, rfl⟩, fun _ => Iff.rfl⟩ | refine ⟨_, rfl, rfl, ?_⟩ | refine ⟨_, rfl, ⟨rfl, rfl, rfl⟩, ?_⟩)) (fun j hj => ?_)
    by_cases hj0 : j = 0
    · subst hj0
      have hl1 : [askS].length = 1 := rfl
      have g0 : [askS].getD (Int.toNat ((0 : Nat) : Int)) sndZ = askS := rfl
      repeat' ((conv => whnf); first
          | rw [g0]
          | refine CutN.plain ?_
          | with_reducible refine Br.tt ?_
          | with_reducible refine Br.ff ?_
          | with_reducible refine Br.nt ?_
          | with_reducible refine Br.nf ?_
          | with_reducible refine Br.eeI ?_
          | with_reducible refine Br.nnI ?_
          | refine Br.yes (by decide) ?_
          | refine Br.no (by decide) ?_
          | refine Need.go rfl ?_
          | refine QuiD.quiet (by kernel_rfl) ?_
          | refine IdxN.lit ?_
          | refine draw_go tabOK (by kernel_rfl) ?_
          | refine Need.go ⟨rfl, rfl⟩ ?_
          | refine Need.go ⟨⟨rfl, rfl, rfl⟩, rfl⟩ ?_
          | (with_reducible refine Br.dec (fun h => ?_) (fun h => ?_); first | (rotate_left; exfalso; omega; clear h) | (exfalso; omega; clear h) | skip)
          | (with_reducible refine Br.eqI (fun h => ?_) (fun h => ?_); first | (rotate_left; exfalso; omega; clear h) | (exfalso; omega; clear h) | skip)
          | (with_reducible refine Br.neI (fun h => ?_) (fun h => ?_); first | (rotate_left; exfalso; omega; clear h) | (exfalso; omega; clear h) | skip)
          | (with_reducible refine Br.eqS (fun h => ?_) (fun h => ?_); first | (rotate_left; exfalso; omega; clear h) | (exfalso; omega; clear h) | skip)
          | (with_reducible refine Br.neS (fun h => ?_) (fun h => ?_); first | (rotate_left; exfalso; omega; clear h) | (exfalso; omega; clear h) | skip)
          | (with_reducible refine Br.nd (fun h => ?_) (fun h => ?_); first | (rotate_left; exfalso; omega; clear h) | (exfalso; omega; clear h) | skip)
          | refine Ar.i64 (by omega) (by omega) ?_
          | refine Need.go (by first | omega | decide | (simp <;> omega) | fail) ?_
          | refine Need.go (by first | (simp [Value.oneCell'] <;> omega) | fail) ?_
          | refine Need.go ⟨rfl, by omega, getD_one rfl rfl⟩ ?_
          | refine Need.go ⟨rfl, by omega, fun _ _ _ _ => rfl⟩ ?_
          | refine Br.both (fun h => ?_) (fun h => ?_))
      all_goals (conv => whnf)
      refine ⟨1, by omega, by omega, ?_⟩
      (conv => whnf)
      refine ⟨[some 0, some 1, some 2, some 3, some 4, some 5, some 6, some 7, some 8, some 9], by decide, ?_, ?_⟩
      all_goals repeat' (first | exact leT_junk rfl | refine And.intro ?_ ?_ | exact trivial | exact .inl ⟨rfl, rfl⟩ | rfl | exact .inr ⟨_, rfl, rfl, rfl⟩ | exact ⟨_, rfl, trivial⟩ | exact ⟨_, rfl, rfl⟩ | exact ⟨_, rfl, ⟨rfl, rfl, rfl⟩, fun _ _ _ _ => rfl⟩ | exact ⟨_, rfl, ⟨rfl, rfl, .inl rfl⟩, rfl⟩ | exact ⟨_, rfl, ⟨rfl, rfl, .inr rfl⟩, rfl⟩ | exact ⟨_, rfl, ⟨rfl, rfl, rfl, rfl, rfl⟩, rfl⟩ | exact ⟨_, rfl, ⟨rfl, rfl⟩, fun _ => Iff.rfl⟩ | refine ⟨_, rfl, rfl, ?_⟩ | refine ⟨_, rfl, ⟨rfl, rfl, rfl⟩, ?_⟩)
    · obtain rfl : j = 1 := by omega
      repeat' ((conv => whnf); first
          | refine CutN.plain ?_
          | with_reducible refine Br.tt ?_
          | with_reducible refine Br.ff ?_
          | with_reducible refine Br.nt ?_
          | with_reducible refine Br.nf ?_
          | with_reducible refine Br.eeI ?_
          | with_reducible refine Br.nnI ?_
          | refine Br.yes (by decide) ?_
          | refine Br.no (by decide) ?_
          | refine Need.go rfl ?_
          | refine QuiD.quiet (by kernel_rfl) ?_
          | refine IdxN.lit ?_
          | refine draw_go tabOK (by kernel_rfl) ?_
          | refine Need.go ⟨rfl, rfl⟩ ?_
          | refine Need.go ⟨⟨rfl, rfl, rfl⟩, rfl⟩ ?_
          | (with_reducible refine Br.dec (fun h => ?_) (fun h => ?_); first | (rotate_left; exfalso; omega; clear h) | (exfalso; omega; clear h) | skip)
          | (with_reducible refine Br.eqI (fun h => ?_) (fun h => ?_); first | (rotate_left; exfalso; omega; clear h) | (exfalso; omega; clear h) | skip)
          | (with_reducible refine Br.neI (fun h => ?_) (fun h => ?_); first | (rotate_left; exfalso; omega; clear h) | (exfalso; omega; clear h) | skip)
          | (with_reducible refine Br.eqS (fun h => ?_) (fun h => ?_); first | (rotate_left; exfalso; omega; clear h) | (exfalso; omega; clear h) | skip)
          | (with_reducible refine Br.neS (fun h => ?_) (fun h => ?_); first | (rotate_left; exfalso; omega; clear h) | (exfalso; omega; clear h) | skip)
          | (with_reducible refine Br.nd (fun h => ?_) (fun h => ?_); first | (rotate_left; exfalso; omega; clear h) | (exfalso; omega; clear h) | skip)
          | refine Ar.i64 (by omega) (by omega) ?_
          | refine Need.go (by first | omega | decide | (simp <;> omega) | fail) ?_
          | refine Need.go (by first | (simp [Value.oneCell'] <;> omega) | fail) ?_
          | refine Need.go ⟨rfl, by omega, getD_one rfl rfl⟩ ?_
          | refine Need.go ⟨rfl, by omega, fun _ _ _ _ => rfl⟩ ?_
          | refine Br.both (fun h => ?_) (fun h => ?_))
      all_goals (conv => whnf)
      refine ⟨(k + 1, now2, c2, op2, Z2), ⟨by simp only; omega, by simp only; omega, hst⟩, by simp only; omega, ?_⟩
      dsimp only
      (conv => whnf)
      refine ⟨[some 0, some 1, some 2, some 3, some 4, some 5, some 6, some 7], by decide, ?_, ?_⟩
      all_goals repeat' (first | exact leT_junk rfl | refine And.intro ?_ ?_ | exact trivial | exact .inl ⟨rfl, rfl⟩ | rfl | exact .inr ⟨_, rfl, rfl, rfl⟩ | exact ⟨_, rfl, trivial⟩ | exact ⟨_, rfl, rfl⟩ | exact ⟨_, rfl, ⟨rfl, rfl, rfl⟩, fun _ _ _ _ => rfl⟩ | exact ⟨_, rfl, ⟨rfl, rfl, .inl rfl⟩, rfl⟩ | exact ⟨_, rfl, ⟨rfl, rfl, .inr rfl⟩, rfl⟩ | exact ⟨_, rfl, ⟨rfl, rfl, rfl, rfl, rfl⟩, rfl⟩ | exact ⟨_, rfl, ⟨rfl, rfl⟩, fun _ => Iff.rfl⟩ | refine ⟨_, rfl, rfl, ?_⟩ | refine ⟨_, rfl, ⟨rfl, rfl, rfl⟩, ?_⟩)
  · have hlen := hx.len
    have hl1 : [x].length = 1 := rfl
    have hid := hst.st.id
    have g1 := hx.kind
    have g2 := hx.to
    have g3 := hx.epoch
    have g4 := hx.op
    have g5 := hx.client
    have g6 := hx.seq
    have g7 := hx.try'
    repeat' ((conv => whnf); first
        | refine CutN.plain ?_
        | with_reducible refine Br.tt ?_
        | with_reducible refine Br.ff ?_
        | with_reducible refine Br.nt ?_
        | with_reducible refine Br.nf ?_
        | with_reducible refine Br.eeI ?_
        | with_reducible refine Br.nnI ?_
        | refine Br.yes (by decide) ?_
        | refine Br.no (by decide) ?_
        | refine Need.go rfl ?_
        | refine QuiD.quiet (by kernel_rfl) ?_
        | refine IdxN.lit ?_
        | refine draw_go tabOK (by kernel_rfl) ?_
        | refine Need.go ⟨rfl, rfl⟩ ?_
        | refine Need.go ⟨⟨rfl, rfl, rfl⟩, rfl⟩ ?_
        | (with_reducible refine Br.dec (fun h => ?_) (fun h => ?_); first | (rotate_left; exfalso; omega; clear h) | (exfalso; omega; clear h) | skip)
        | (with_reducible refine Br.eqI (fun h => ?_) (fun h => ?_); first | (rotate_left; exfalso; omega; clear h) | (exfalso; omega; clear h) | skip)
        | (with_reducible refine Br.neI (fun h => ?_) (fun h => ?_); first | (rotate_left; exfalso; omega; clear h) | (exfalso; omega; clear h) | skip)
        | (with_reducible refine Br.eqS (fun h => ?_) (fun h => ?_); first | (rotate_left; exfalso; omega; clear h) | (exfalso; omega; clear h) | skip)
        | (with_reducible refine Br.neS (fun h => ?_) (fun h => ?_); first | (rotate_left; exfalso; omega; clear h) | (exfalso; omega; clear h) | skip)
        | (with_reducible refine Br.nd (fun h => ?_) (fun h => ?_); first | (rotate_left; exfalso; omega; clear h) | (exfalso; omega; clear h) | skip)
        | refine Ar.i64 (by omega) (by omega) ?_
        | refine Need.go (by first | omega | decide | (simp <;> omega) | fail) ?_
        | refine Need.go (by first | (simp [Value.oneCell'] <;> omega) | fail) ?_
        | refine Need.go ⟨rfl, by omega, getD_one rfl rfl⟩ ?_
        | refine Need.go ⟨rfl, by omega, fun _ _ _ _ => rfl⟩ ?_
        | refine Br.both (fun h => ?_) (fun h => ?_))
    all_goals (conv => whnf)
    refine loop_up 138 (fun j : Nat => j ≤ 1) (fun j => 1 - j) (fun j => [(21, .v (.int .i64 j)), (22, .junk), (23, .junk)]) (fun _ => []) (fun _ => []) 0 (Nat.zero_le _) (by
      (conv => whnf)
      refine ⟨[some 0, some 1, some 2, some 3, some 4, some 5, some 6, some 7, some 8, some 9], by decide, ?_, ?_⟩
      all_goals repeat' (first | exact leT_junk rfl | refine And.intro ?_ ?_ | exact trivial | exact .inl ⟨rfl, rfl⟩ | rfl | exact .inr ⟨_, rfl, rfl, rfl⟩ | exact ⟨_, rfl, trivial⟩ | exact ⟨_, rfl, rfl⟩ | exact ⟨_, rfl, ⟨rfl, rfl, rfl⟩, fun _ _ _ _ => rfl⟩ | exact ⟨_, rfl, ⟨rfl, rfl, .inl rfl⟩, rfl⟩ | exact ⟨_, rfl, ⟨rfl, rfl, .inr rfl⟩, rfl⟩ | exact ⟨_, rfl, ⟨rfl, rfl, rfl, rfl, rfl⟩, rfl⟩ | exact ⟨_, rfl, ⟨rfl, rfl⟩, fun _ => Iff.rfl⟩ | refine ⟨_, rfl, rfl, ?_⟩ | refine ⟨_, rfl, ⟨rfl, rfl, rfl⟩, ?_⟩)) (fun j hj => ?_)
    by_cases hj0 : j = 0
    · subst hj0
      have g0 : [x].getD (Int.toNat ((0 : Nat) : Int)) sndZ = x := rfl
      by_cases ho : op2.kind = 1
      · rw [if_pos ho] at g2
        have g2 : x.to = (c2.ch.mem.getD (Int.toNat 1) (0, 0)).1 := g2
        repeat' ((conv => whnf); first
            | rw [g0]
            | rw [g1]
            | rw [g2]
            | rw [g3]
            | rw [g4]
            | rw [g5]
            | rw [g6]
            | rw [g7]
            | refine CutN.plain ?_
            | with_reducible refine Br.tt ?_
            | with_reducible refine Br.ff ?_
            | with_reducible refine Br.nt ?_
            | with_reducible refine Br.nf ?_
            | with_reducible refine Br.eeI ?_
            | with_reducible refine Br.nnI ?_
            | refine Br.yes (by decide) ?_
            | refine Br.no (by decide) ?_
            | refine Need.go rfl ?_
            | refine QuiD.quiet (by kernel_rfl) ?_
            | refine IdxN.lit ?_
            | refine draw_go tabOK (by kernel_rfl) ?_
            | refine Need.go ⟨rfl, rfl⟩ ?_
            | refine Need.go ⟨⟨rfl, rfl, rfl⟩, rfl⟩ ?_
            | (with_reducible refine Br.dec (fun h => ?_) (fun h => ?_); first | (rotate_left; exfalso; omega; clear h) | (exfalso; omega; clear h) | skip)
            | (with_reducible refine Br.eqI (fun h => ?_) (fun h => ?_); first | (rotate_left; exfalso; omega; clear h) | (exfalso; omega; clear h) | skip)
            | (with_reducible refine Br.neI (fun h => ?_) (fun h => ?_); first | (rotate_left; exfalso; omega; clear h) | (exfalso; omega; clear h) | skip)
            | (with_reducible refine Br.eqS (fun h => ?_) (fun h => ?_); first | (rotate_left; exfalso; omega; clear h) | (exfalso; omega; clear h) | skip)
            | (with_reducible refine Br.neS (fun h => ?_) (fun h => ?_); first | (rotate_left; exfalso; omega; clear h) | (exfalso; omega; clear h) | skip)
            | (with_reducible refine Br.nd (fun h => ?_) (fun h => ?_); first | (rotate_left; exfalso; omega; clear h) | (exfalso; omega; clear h) | skip)
            | refine Ar.i64 (by omega) (by omega) ?_
            | refine Br.no (by first | (simp; done) | fail) ?_
            | refine cli_seq_l c2 hco 4 rfl ?_
            | refine cli_tries_l c2 hco 4 rfl ?_
            | refine Need.go (by first | omega | decide | (simp <;> omega) | fail) ?_
            | refine Need.go (by first | (simp [Value.oneCell'] <;> omega) | fail) ?_
            | refine Need.go ⟨rfl, by omega, getD_one rfl rfl⟩ ?_
            | refine Need.go ⟨rfl, by omega, fun _ _ _ _ => rfl⟩ ?_
            | refine Br.both (fun h => ?_) (fun h => ?_))
        all_goals (conv => whnf)
        refine ⟨1, by omega, by omega, ?_⟩
        (conv => whnf)
        refine ⟨[some 0, some 1, some 2, some 3, some 4, some 5, some 6, some 7, some 8, some 9], by decide, ?_, ?_⟩
        all_goals repeat' (first | exact leT_junk rfl | refine And.intro ?_ ?_ | exact trivial | exact .inl ⟨rfl, rfl⟩ | rfl | exact .inr ⟨_, rfl, rfl, rfl⟩ | exact ⟨_, rfl, trivial⟩ | exact ⟨_, rfl, rfl⟩ | exact ⟨_, rfl, ⟨rfl, rfl, rfl⟩, fun _ _ _ _ => rfl⟩ | exact ⟨_, rfl, ⟨rfl, rfl, .inl rfl⟩, rfl⟩ | exact ⟨_, rfl, ⟨rfl, rfl, .inr rfl⟩, rfl⟩ | exact ⟨_, rfl, ⟨rfl, rfl, rfl, rfl, rfl⟩, rfl⟩ | exact ⟨_, rfl, ⟨rfl, rfl⟩, fun _ => Iff.rfl⟩ | refine ⟨_, rfl, rfl, ?_⟩ | refine ⟨_, rfl, ⟨rfl, rfl, rfl⟩, ?_⟩)
      · rw [if_neg ho] at g2
        have g2 : x.to = (c2.ch.mem.getD (Int.toNat 0) (0, 0)).1 := g2
        repeat' ((conv => whnf); first
            | rw [g0]
            | rw [g1]
            | rw [g2]
            | rw [g3]
            | rw [g4]
            | rw [g5]
            | rw [g6]
            | rw [g7]
            | refine CutN.plain ?_
            | with_reducible refine Br.tt ?_
            | with_reducible refine Br.ff ?_
            | with_reducible refine Br.nt ?_
            | with_reducible refine Br.nf ?_
            | with_reducible refine Br.eeI ?_
            | with_reducible refine Br.nnI ?_
            | refine Br.yes (by decide) ?_
            | refine Br.no (by decide) ?_
            | refine Need.go rfl ?_
            | refine QuiD.quiet (by kernel_rfl) ?_
            | refine IdxN.lit ?_
            | refine draw_go tabOK (by kernel_rfl) ?_
            | refine Need.go ⟨rfl, rfl⟩ ?_
            | refine Need.go ⟨⟨rfl, rfl, rfl⟩, rfl⟩ ?_
            | (with_reducible refine Br.dec (fun h => ?_) (fun h => ?_); first | (rotate_left; exfalso; omega; clear h) | (exfalso; omega; clear h) | skip)
            | (with_reducible refine Br.eqI (fun h => ?_) (fun h => ?_); first | (rotate_left; exfalso; omega; clear h) | (exfalso; omega; clear h) | skip)
            | (with_reducible refine Br.neI (fun h => ?_) (fun h => ?_); first | (rotate_left; exfalso; omega; clear h) | (exfalso; omega; clear h) | skip)
            | (with_reducible refine Br.eqS (fun h => ?_) (fun h => ?_); first | (rotate_left; exfalso; omega; clear h) | (exfalso; omega; clear h) | skip)
            | (with_reducible refine Br.neS (fun h => ?_) (fun h => ?_); first | (rotate_left; exfalso; omega; clear h) | (exfalso; omega; clear h) | skip)
            | (with_reducible refine Br.nd (fun h => ?_) (fun h => ?_); first | (rotate_left; exfalso; omega; clear h) | (exfalso; omega; clear h) | skip)
            | refine Ar.i64 (by omega) (by omega) ?_
            | refine Br.no (by first | (simp; done) | fail) ?_
            | refine cli_seq_l c2 hco 4 rfl ?_
            | refine cli_tries_l c2 hco 4 rfl ?_
            | refine Need.go (by first | omega | decide | (simp <;> omega) | fail) ?_
            | refine Need.go (by first | (simp [Value.oneCell'] <;> omega) | fail) ?_
            | refine Need.go ⟨rfl, by omega, getD_one rfl rfl⟩ ?_
            | refine Need.go ⟨rfl, by omega, fun _ _ _ _ => rfl⟩ ?_
            | refine Br.both (fun h => ?_) (fun h => ?_))
        all_goals (conv => whnf)
        refine ⟨1, by omega, by omega, ?_⟩
        (conv => whnf)
        refine ⟨[some 0, some 1, some 2, some 3, some 4, some 5, some 6, some 7, some 8, some 9], by decide, ?_, ?_⟩
        all_goals repeat' (first | exact leT_junk rfl | refine And.intro ?_ ?_ | exact trivial | exact .inl ⟨rfl, rfl⟩ | rfl | exact .inr ⟨_, rfl, rfl, rfl⟩ | exact ⟨_, rfl, trivial⟩ | exact ⟨_, rfl, rfl⟩ | exact ⟨_, rfl, ⟨rfl, rfl, rfl⟩, fun _ _ _ _ => rfl⟩ | exact ⟨_, rfl, ⟨rfl, rfl, .inl rfl⟩, rfl⟩ | exact ⟨_, rfl, ⟨rfl, rfl, .inr rfl⟩, rfl⟩ | exact ⟨_, rfl, ⟨rfl, rfl, rfl, rfl, rfl⟩, rfl⟩ | exact ⟨_, rfl, ⟨rfl, rfl⟩, fun _ => Iff.rfl⟩ | refine ⟨_, rfl, rfl, ?_⟩ | refine ⟨_, rfl, ⟨rfl, rfl, rfl⟩, ?_⟩)
    · obtain rfl : j = 1 := by omega
      repeat' ((conv => whnf); first
          | refine CutN.plain ?_
          | with_reducible refine Br.tt ?_
          | with_reducible refine Br.ff ?_
          | with_reducible refine Br.nt ?_
          | with_reducible refine Br.nf ?_
          | with_reducible refine Br.eeI ?_
          | with_reducible refine Br.nnI ?_
          | refine Br.yes (by decide) ?_
          | refine Br.no (by decide) ?_
          | refine Need.go rfl ?_
          | refine QuiD.quiet (by kernel_rfl) ?_
          | refine IdxN.lit ?_
          | refine draw_go tabOK (by kernel_rfl) ?_
          | refine Need.go ⟨rfl, rfl⟩ ?_
          | refine Need.go ⟨⟨rfl, rfl, rfl⟩, rfl⟩ ?_
          | (with_reducible refine Br.dec (fun h => ?_) (fun h => ?_); first | (rotate_left; exfalso; omega; clear h) | (exfalso; omega; clear h) | skip)
          | (with_reducible refine Br.eqI (fun h => ?_) (fun h => ?_); first | (rotate_left; exfalso; omega; clear h) | (exfalso; omega; clear h) | skip)
          | (with_reducible refine Br.neI (fun h => ?_) (fun h => ?_); first | (rotate_left; exfalso; omega; clear h) | (exfalso; omega; clear h) | skip)
          | (with_reducible refine Br.eqS (fun h => ?_) (fun h => ?_); first | (rotate_left; exfalso; omega; clear h) | (exfalso; omega; clear h) | skip)
          | (with_reducible refine Br.neS (fun h => ?_) (fun h => ?_); first | (rotate_left; exfalso; omega; clear h) | (exfalso; omega; clear h) | skip)
          | (with_reducible refine Br.nd (fun h => ?_) (fun h => ?_); first | (rotate_left; exfalso; omega; clear h) | (exfalso; omega; clear h) | skip)
          | refine Ar.i64 (by omega) (by omega) ?_
          | refine Need.go (by first | omega | decide | (simp <;> omega) | fail) ?_
          | refine Need.go (by first | (simp [Value.oneCell'] <;> omega) | fail) ?_
          | refine Need.go ⟨rfl, by omega, getD_one rfl rfl⟩ ?_
          | refine Need.go ⟨rfl, by omega, fun _ _ _ _ => rfl⟩ ?_
          | refine Br.both (fun h => ?_) (fun h => ?_))
      all_goals (conv => whnf)
      refine ⟨(k + 1, now2, c2, op2, Z2), ⟨by simp only; omega, by simp only; omega, hst⟩, by simp only; omega, ?_⟩
      dsimp only
      (conv => whnf)
      refine ⟨[some 0, some 1, some 2, some 3, some 4, some 5, some 6, some 7], by decide, ?_, ?_⟩
      all_goals repeat' (first | exact leT_junk rfl | refine And.intro ?_ ?_ | exact trivial | exact .inl ⟨rfl, rfl⟩ | rfl | exact .inr ⟨_, rfl, rfl, rfl⟩ | exact ⟨_, rfl, trivial⟩ | exact ⟨_, rfl, rfl⟩ | exact ⟨_, rfl, ⟨rfl, rfl, rfl⟩, fun _ _ _ _ => rfl⟩ | exact ⟨_, rfl, ⟨rfl, rfl, .inl rfl⟩, rfl⟩ | exact ⟨_, rfl, ⟨rfl, rfl, .inr rfl⟩, rfl⟩ | exact ⟨_, rfl, ⟨rfl, rfl, rfl, rfl, rfl⟩, rfl⟩ | exact ⟨_, rfl, ⟨rfl, rfl⟩, fun _ => Iff.rfl⟩ | refine ⟨_, rfl, rfl, ?_⟩ | refine ⟨_, rfl, ⟨rfl, rfl, rfl⟩, ?_⟩)
end Go.Proofs.Ytghfigeepnbjaaa.lawClientTargets
