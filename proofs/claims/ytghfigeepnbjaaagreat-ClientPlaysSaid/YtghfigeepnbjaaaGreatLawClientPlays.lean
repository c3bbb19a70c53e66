/-
  ClientPlays: the walk. No condition.
-/
import Derived.Test.YtghfigeepnbjaaaGreatRCD
import Derived.Test.YtghfigeepnbjaaaGreatSnd
import Derived.Test.YtghfigeepnbjaaaGreatPI
namespace Go.Proofs.YtghfigeepnbjaaaGreat.lawClientPlays
open Go.Proofs.YtghfigeepnbjaaaGreat Go.RowKit
set_option maxRecDepth 100000 in
set_option maxHeartbeats 40000000 in
theorem core (c : CfgM) (idn : Int) (l : List ActC) (p q : Value) (w : World) (hp : SliceV w p 1 c.quanta.length (intsF c.quanta)) (hq : SliceV w q 39 l.length (actCF l)) (hid : 0 ≤ idn ∧ idn ≤ 255) (hk : ∀ x ∈ l, x.wf w) :
    Calls Tryz.prog 3 #[cfgV c p, .int .u8 idn, q] w fun e w' => e = .returned (.bool true) ∧ w.grownBy w' none := by
  obtain ⟨a, cap, rfl, h1, h2, hr⟩ := hp
  obtain ⟨a2, cap2, rfl, h3, h4, hr2⟩ := hq
  refine x_calls tabOK Tryz.func3 rfl [cfgS c (.rs 0 c.quanta.length cap), .v (.int .u8 idn), .rs 1 l.length cap2] _ _ rfl rfl (relR2 hr hr2) ?_
  by_cases hok : okActsC l 100
  case neg =>
    repeat' ((conv => whnf); first
        | refine CutN.plain ?_
        | with_reducible refine Br.tt ?_
        | with_reducible refine Br.ff ?_
        | with_reducible refine Br.nt ?_
        | with_reducible refine Br.nf ?_
        | with_reducible refine Br.eeI ?_
        | with_reducible refine Br.nnI ?_
        | refine Br.yes (by decide) ?_
        | refine Br.no (by decide) ?_
        | refine AppN.own ?_
        | refine Need.go rfl ?_
        | refine QuiD.quiet (by kernel_rfl) ?_
        | refine IdxN.lit ?_
        | refine draw_go tabOK (by kernel_rfl) ?_
        | refine Need.go ⟨rfl, rfl⟩ ?_
        | refine Need.go ⟨⟨rfl, rfl, rfl⟩, rfl⟩ ?_
        | (with_reducible refine Br.dec (fun h => ?_) (fun h => ?_); first | (rotate_left; exfalso; omega; clear h) | (exfalso; omega; clear h) | skip)
        | (with_reducible refine Br.eqI (fun h => ?_) (fun h => ?_); first | (rotate_left; exfalso; omega; clear h) | (exfalso; omega; clear h) | skip)
        | (with_reducible refine Br.neI (fun h => ?_) (fun h => ?_); first | (rotate_left; exfalso; omega; clear h) | (exfalso; omega; clear h) | skip)
        | (with_reducible refine Br.eqS (fun h => ?_) (fun h => ?_); first | (rotate_left; exfalso; omega; clear h) | (exfalso; omega; clear h) | skip)
        | (with_reducible refine Br.neS (fun h => ?_) (fun h => ?_); first | (rotate_left; exfalso; omega; clear h) | (exfalso; omega; clear h) | skip)
        | (with_reducible refine Br.nd (fun h => ?_) (fun h => ?_); first | (rotate_left; exfalso; omega; clear h) | (exfalso; omega; clear h) | skip)
        | refine Ar.i64 (by omega) (by omega) ?_
        | (refine call_mem (f := 4) (args := [.rs 1 l.length cap2, .v (.int .i64 100)]) (V := .bool true) ?_ ?_; exact fun ρ w h => greatC_is l _ 100 w true (iff_of_false (fun h => by cases h) hok) (sl_rs h (i := 1) rfl (Nat.le_refl _) h3 h4))
        | (refine quiet_mem (f := 4) (args := [.rs 1 l.length cap2, .v (.int .i64 100)]) (V := .bool true) ?_ ?_; exact fun ρ w h => greatC_is l _ 100 w true (iff_of_false (fun h => by cases h) hok) (sl_rs h (i := 1) rfl (Nat.le_refl _) h3 h4))
        | (refine seg_mem (f := 4) (args := [.rs 1 l.length cap2, .v (.int .i64 100)]) (V := .bool true) ?_ ?_; exact fun ρ w h => greatC_is l _ 100 w true (iff_of_false (fun h => by cases h) hok) (sl_rs h (i := 1) rfl (Nat.le_refl _) h3 h4))
        | (refine call_mem (f := 5) (args := []) (V := .bool true) ?_ ?_; exact fun ρ w h => called_any w)
        | (refine quiet_mem (f := 5) (args := []) (V := .bool true) ?_ ?_; exact fun ρ w h => called_any w)
        | (refine seg_mem (f := 5) (args := []) (V := .bool true) ?_ ?_; exact fun ρ w h => called_any w)
        | refine Need.go (by first | omega | decide | (simp <;> omega) | fail) ?_
        | refine Need.go (by first | (simp [Value.oneCell'] <;> omega) | fail) ?_
        | refine Need.go ⟨rfl, by omega, getD_one rfl rfl⟩ ?_
        | refine Need.go ⟨rfl, by omega, fun _ _ _ _ => rfl⟩ ?_
        | refine Br.both (fun h => ?_) (fun h => ?_))
    all_goals (conv => whnf)
    all_goals exact ret_pure (fun _ => rfl)
  obtain ⟨d, hd⟩ : ∃ d, fitM c = d := ⟨_, rfl⟩
  have hdo : okM d = true := by rw [← hd]; exact fit_ok c
  obtain ⟨q1, q2, q3, q4, q5⟩ := okM_cli hdo
  have hl60 := hok.2
  by_cases hq20 : 20 < (c.quanta.length : Int)
  · repeat' ((conv => whnf); first
      | refine CutN.plain ?_
      | with_reducible refine Br.tt ?_
      | with_reducible refine Br.ff ?_
      | with_reducible refine Br.nt ?_
      | with_reducible refine Br.nf ?_
      | with_reducible refine Br.eeI ?_
      | with_reducible refine Br.nnI ?_
      | refine Br.yes (by decide) ?_
      | refine Br.no (by decide) ?_
      | refine AppN.own ?_
      | refine Need.go rfl ?_
      | refine QuiD.quiet (by kernel_rfl) ?_
      | refine IdxN.lit ?_
      | refine draw_go tabOK (by kernel_rfl) ?_
      | refine Need.go ⟨rfl, rfl⟩ ?_
      | refine Need.go ⟨⟨rfl, rfl, rfl⟩, rfl⟩ ?_
      | (with_reducible refine Br.dec (fun h => ?_) (fun h => ?_); first | (rotate_left; exfalso; omega; clear h) | (exfalso; omega; clear h) | skip)
      | (with_reducible refine Br.eqI (fun h => ?_) (fun h => ?_); first | (rotate_left; exfalso; omega; clear h) | (exfalso; omega; clear h) | skip)
      | (with_reducible refine Br.neI (fun h => ?_) (fun h => ?_); first | (rotate_left; exfalso; omega; clear h) | (exfalso; omega; clear h) | skip)
      | (with_reducible refine Br.eqS (fun h => ?_) (fun h => ?_); first | (rotate_left; exfalso; omega; clear h) | (exfalso; omega; clear h) | skip)
      | (with_reducible refine Br.neS (fun h => ?_) (fun h => ?_); first | (rotate_left; exfalso; omega; clear h) | (exfalso; omega; clear h) | skip)
      | (with_reducible refine Br.nd (fun h => ?_) (fun h => ?_); first | (rotate_left; exfalso; omega; clear h) | (exfalso; omega; clear h) | skip)
      | refine Ar.i64 (by omega) (by omega) ?_
      | (refine call_mem (f := 5) (args := []) (V := .bool true) ?_ ?_; exact fun ρ w h => called_any w)
      | (refine quiet_mem (f := 5) (args := []) (V := .bool true) ?_ ?_; exact fun ρ w h => called_any w)
      | (refine seg_mem (f := 5) (args := []) (V := .bool true) ?_ ?_; exact fun ρ w h => called_any w)
      | refine Need.go (by first | omega | decide | (simp <;> omega) | fail) ?_
      | refine Need.go (by first | (simp [Value.oneCell'] <;> omega) | fail) ?_
      | refine Need.go ⟨rfl, by omega, getD_one rfl rfl⟩ ?_
      | refine Need.go ⟨rfl, by omega, fun _ _ _ _ => rfl⟩ ?_
      | refine Br.both (fun h => ?_) (fun h => ?_))
    all_goals (conv => whnf)
    exact ret_pure (fun _ => rfl)
  obtain ⟨n, hn⟩ : ∃ n, idn % d.clients = n := ⟨_, rfl⟩
  have hn0 : 0 ≤ n ∧ n < d.clients := by rw [← hn]; exact ⟨Int.emod_nonneg _ (by omega), Int.emod_lt_of_pos _ (by omega)⟩
  repeat' ((conv => whnf); first
      | refine QuiD.draw (ord_each tabOK .leaf (show _ = 12 from rfl) (by kernel_rfl) (by kernel_rfl) ?_)
      | refine ord_each tabOK .leaf (show _ = 12 from rfl) (by kernel_rfl) (by kernel_rfl) ?_
      | rw [hn]
      | refine CutN.plain ?_
      | with_reducible refine Br.tt ?_
      | with_reducible refine Br.ff ?_
      | with_reducible refine Br.nt ?_
      | with_reducible refine Br.nf ?_
      | with_reducible refine Br.eeI ?_
      | with_reducible refine Br.nnI ?_
      | refine Br.yes (by decide) ?_
      | refine Br.no (by decide) ?_
      | refine AppN.own ?_
      | refine Need.go rfl ?_
      | refine QuiD.quiet (by kernel_rfl) ?_
      | refine IdxN.lit ?_
      | refine draw_go tabOK (by kernel_rfl) ?_
      | refine Need.go ⟨rfl, rfl⟩ ?_
      | refine Need.go ⟨⟨rfl, rfl, rfl⟩, rfl⟩ ?_
      | (with_reducible refine Br.dec (fun h => ?_) (fun h => ?_); first | (rotate_left; exfalso; omega; clear h) | (exfalso; omega; clear h) | skip)
      | (with_reducible refine Br.eqI (fun h => ?_) (fun h => ?_); first | (rotate_left; exfalso; omega; clear h) | (exfalso; omega; clear h) | skip)
      | (with_reducible refine Br.neI (fun h => ?_) (fun h => ?_); first | (rotate_left; exfalso; omega; clear h) | (exfalso; omega; clear h) | skip)
      | (with_reducible refine Br.eqS (fun h => ?_) (fun h => ?_); first | (rotate_left; exfalso; omega; clear h) | (exfalso; omega; clear h) | skip)
      | (with_reducible refine Br.neS (fun h => ?_) (fun h => ?_); first | (rotate_left; exfalso; omega; clear h) | (exfalso; omega; clear h) | skip)
      | (with_reducible refine Br.nd (fun h => ?_) (fun h => ?_); first | (rotate_left; exfalso; omega; clear h) | (exfalso; omega; clear h) | skip)
      | refine Ar.i64 (by omega) (by omega) ?_
      | (refine call_mem (f := 4) (args := [.rs 1 l.length cap2, .v (.int .i64 100)]) (V := .bool false) ?_ ?_; exact fun ρ w h => greatC_is l _ 100 w false (iff_of_true rfl hok) (sl_rs h (i := 1) rfl (Nat.le_refl _) h3 h4))
      | (refine quiet_mem (f := 4) (args := [.rs 1 l.length cap2, .v (.int .i64 100)]) (V := .bool false) ?_ ?_; exact fun ρ w h => greatC_is l _ 100 w false (iff_of_true rfl hok) (sl_rs h (i := 1) rfl (Nat.le_refl _) h3 h4))
      | (refine seg_mem (f := 4) (args := [.rs 1 l.length cap2, .v (.int .i64 100)]) (V := .bool false) ?_ ?_; exact fun ρ w h => greatC_is l _ 100 w false (iff_of_true rfl hok) (sl_rs h (i := 1) rfl (Nat.le_refl _) h3 h4))
      | (refine call_mem (f := 5) (args := []) (V := .bool true) ?_ ?_; exact fun ρ w h => called_any w)
      | (refine quiet_mem (f := 5) (args := []) (V := .bool true) ?_ ?_; exact fun ρ w h => called_any w)
      | (refine seg_mem (f := 5) (args := []) (V := .bool true) ?_ ?_; exact fun ρ w h => called_any w)
      | (refine call_factA (f := 6) (ty := 3) (sz := 1) (n := d.quanta.length) (g := intsF d.quanta) (sv := cfgS d (.os 3 d.quanta.length)) (fun q => cfgS d (.v q)) (rfit_n c d hd (.rs 0 c.quanta.length cap) (fun ρ w h => sl_rs h (i := 0) rfl (Nat.le_refl _) h1 h2) (by (conv => whnf); exact ⟨rfl, rfl⟩)) (by omega) (fun ρ ρ' => rfl) (fun bq oq cq => ?_))
      | (refine cli_new d n (.v (.slice (some ⟨bq, oq, none⟩) d.quanta.length cq)) (fun ρ w h => (h.at.ent 3 _ rfl).1) hdo hn0 ?_; intro b Z0)
      | refine call_inlineL (f := 8) Tryz.func8 rfl ?_
      | (refine call_mem (f := 25) (args := [cfgS d (.v (.slice (some ⟨bq, oq, none⟩) d.quanta.length cq))]) (V := .int .i64 0) ?_ ?_; exact fun ρ w h => (by have := srcheck_any d _ w (h.at.ent 3 _ rfl).1 (by omega); rw [hdo] at this; exact this))
      | (refine quiet_mem (f := 25) (args := [cfgS d (.v (.slice (some ⟨bq, oq, none⟩) d.quanta.length cq))]) (V := .int .i64 0) ?_ ?_; exact fun ρ w h => (by have := srcheck_any d _ w (h.at.ent 3 _ rfl).1 (by omega); rw [hdo] at this; exact this))
      | (refine seg_mem (f := 25) (args := [cfgS d (.v (.slice (some ⟨bq, oq, none⟩) d.quanta.length cq))]) (V := .int .i64 0) ?_ ?_; exact fun ρ w h => (by have := srcheck_any d _ w (h.at.ent 3 _ rfl).1 (by omega); rw [hdo] at this; exact this))
      | refine call_inlineL (f := 26) Tryz.func26 rfl ?_
      | refine Need.go (by first | omega | decide | (simp <;> omega) | fail) ?_
      | refine Need.go (by first | (simp [Value.oneCell'] <;> omega) | fail) ?_
      | refine Need.go ⟨rfl, by omega, getD_one rfl rfl⟩ ?_
      | refine Need.go ⟨rfl, by omega, fun _ _ _ _ => rfl⟩ ?_
      | refine Br.both (fun h => ?_) (fun h => ?_))
  all_goals (conv => whnf)
  all_goals try exact ret_pure (fun _ => rfl)
  refine loop_up 62 (fun x : Nat × Int × CliM × (Nat → Prop) × RCy × (Nat → Prop) × (World → Prop) => x.1 ≤ l.length ∧ (0 ≤ x.2.1 ∧ x.2.1 ≤ 8 * x.1) ∧ TwoC d n x.1 x.2.2.1 x.2.2.2.2.1 x.2.2.2.2.2.2) (fun x => l.length - x.1)
    (fun x => [(11, .v (.int .i64 x.2.1)), (12, .v (.int .i64 x.1)), (13, .junk), (14, .junk), (15, .junk), (16, .junk), (17, .junk), (18, .junk), (19, .junk), (20, .junk), (21, .junk), (22, .junk), (23, .junk)])
    (fun x => [(2, .ent .none), (3, .ent (.res false x.2.2.2.2.2.1 x.2.2.2.2.2.2)), (4, .ent (.res true x.2.2.2.1 (CliQ b x.2.2.1 x.2.2.2.1))), (5, .ent .none), (6, .ent (rbkE x.2.2.1.bk)), (7, .ent (.blk 85 (rcLi 6 x.2.2.2.2.1 x.2.2.1 (outcC x.2.2.1).1 (outcC x.2.2.1).2)))]) (fun _ => []) (0, 0, newCli d n, Z0, ⟨d, some ⟨bq, oq, none⟩, d.quanta.length, cq, none, 0, 0, 0, 0, 0, 0⟩, _, _) ⟨Nat.zero_le _, by simp only; omega, two_new hdo n hn0.1 _ _ _⟩ (by
    (conv => whnf)
    refine ⟨[some 0, some 1, some 2, some 3, some 4, some 5, some 6, some 7], by decide, ?_, ?_⟩
    all_goals repeat' (first | exact leT_junk rfl | refine And.intro ?_ ?_ | exact trivial | exact .inl ⟨rfl, rfl⟩ | rfl | exact .inr ⟨_, rfl, rfl, rfl⟩ | exact ⟨_, rfl, trivial⟩ | exact ⟨_, rfl, rfl⟩ | exact ⟨_, rfl, ⟨rfl, rfl, rfl⟩, fun _ _ _ _ => rfl⟩ | exact ⟨_, rfl, ⟨rfl, rfl, .inl rfl⟩, rfl⟩ | exact ⟨_, rfl, ⟨rfl, rfl, .inr rfl⟩, rfl⟩ | exact ⟨_, rfl, ⟨rfl, rfl, rfl, rfl, rfl⟩, rfl⟩ | exact ⟨_, rfl, ⟨rfl, rfl⟩, fun _ => Iff.rfl⟩ | refine ⟨_, rfl, rfl, ?_⟩ | refine ⟨_, rfl, ⟨rfl, rfl, rfl⟩, ?_⟩)) (fun x hx => ?_)
  obtain ⟨k, now, c1, Z, z, Zq, Q⟩ := x
  obtain ⟨hkl, hnow, h2c⟩ := hx
  simp only at hkl h2c hnow
  dsimp only
  by_cases hlt : k < l.length
  case neg =>
    repeat' ((conv => whnf); first
        | refine CutN.plain ?_
        | with_reducible refine Br.tt ?_
        | with_reducible refine Br.ff ?_
        | with_reducible refine Br.nt ?_
        | with_reducible refine Br.nf ?_
        | with_reducible refine Br.eeI ?_
        | with_reducible refine Br.nnI ?_
        | refine Br.yes (by decide) ?_
        | refine Br.no (by decide) ?_
        | refine AppN.own ?_
        | refine Need.go rfl ?_
        | refine QuiD.quiet (by kernel_rfl) ?_
        | refine IdxN.lit ?_
        | refine draw_go tabOK (by kernel_rfl) ?_
        | refine Need.go ⟨rfl, rfl⟩ ?_
        | refine Need.go ⟨⟨rfl, rfl, rfl⟩, rfl⟩ ?_
        | (with_reducible refine Br.dec (fun h => ?_) (fun h => ?_); first | (rotate_left; exfalso; omega; clear h) | (exfalso; omega; clear h) | skip)
        | (with_reducible refine Br.eqI (fun h => ?_) (fun h => ?_); first | (rotate_left; exfalso; omega; clear h) | (exfalso; omega; clear h) | skip)
        | (with_reducible refine Br.neI (fun h => ?_) (fun h => ?_); first | (rotate_left; exfalso; omega; clear h) | (exfalso; omega; clear h) | skip)
        | (with_reducible refine Br.eqS (fun h => ?_) (fun h => ?_); first | (rotate_left; exfalso; omega; clear h) | (exfalso; omega; clear h) | skip)
        | (with_reducible refine Br.neS (fun h => ?_) (fun h => ?_); first | (rotate_left; exfalso; omega; clear h) | (exfalso; omega; clear h) | skip)
        | (with_reducible refine Br.nd (fun h => ?_) (fun h => ?_); first | (rotate_left; exfalso; omega; clear h) | (exfalso; omega; clear h) | skip)
        | refine Ar.i64 (by omega) (by omega) ?_
        | (refine call_mem (f := 5) (args := []) (V := .bool true) ?_ ?_; exact fun ρ w h => called_any w)
        | (refine quiet_mem (f := 5) (args := []) (V := .bool true) ?_ ?_; exact fun ρ w h => called_any w)
        | (refine seg_mem (f := 5) (args := []) (V := .bool true) ?_ ?_; exact fun ρ w h => called_any w)
        | refine Need.go (by first | omega | decide | (simp <;> omega) | fail) ?_
        | refine Need.go (by first | (simp [Value.oneCell'] <;> omega) | fail) ?_
        | refine Need.go ⟨rfl, by omega, getD_one rfl rfl⟩ ?_
        | refine Need.go ⟨rfl, by omega, fun _ _ _ _ => rfl⟩ ?_
        | refine Br.both (fun h => ?_) (fun h => ?_))
    all_goals (conv => whnf)
    exact ret_pure (fun _ => rfl)
  obtain ⟨y, hy⟩ : ∃ y, l.getD (Int.toNat (k : Int)) actCZ = y := ⟨_, rfl⟩
  have hyw : y.wf w := hy ▸ ActC.wf_at hk hlt
  have hym : y.f.ch.mem.length ≤ 10 := by
    have := hok.1 k hlt
    rw [show l.getD k actCZ = y from hy] at this
    simp only [bigC, not_or] at this
    omega
  have hrow : actCF l (Int.toNat (k : Int)) = fun c => (actCC y).getD c undef := by rw [← hy]; rfl
  have hya := hyw.a
  have hyb := hyw.b
  have hyk := hyw.kind
  have hco := h2c.st.ok
  have hcl := ch_len hco
  have hk6 : k ≤ 1000000 := by omega
  obtain ⟨r1, e1⟩ : ∃ r, callC c1 y.op (y.a % 5) (now + y.b) now = r := ⟨_, rfl⟩
  obtain ⟨z1, ez1⟩ : ∃ zz, beY z c1 r1 = zz := ⟨_, rfl⟩
  have t1 := two_call h2c hk6 y.op (y.a % 5) (now + y.b) now
  have u1 := rcBegin z c1 h2c.ok.qn hco h2c.fact y.op (y.a % 5) (now + y.b) now (Z := Zq)
  have p1 := plain_call c1 y.op (y.a % 5) (now + y.b) now
  rw [e1] at t1 u1 p1
  rw [ez1] at t1 u1
  obtain ⟨r2, e2⟩ : ∃ r, callC c1 y.op y.n0 y.n1 y.n2 = r := ⟨_, rfl⟩
  obtain ⟨z2, ez2⟩ : ∃ zz, beY z c1 r2 = zz := ⟨_, rfl⟩
  have t2 := two_call h2c hk6 y.op y.n0 y.n1 y.n2
  have u2 := rcBegin z c1 h2c.ok.qn hco h2c.fact y.op y.n0 y.n1 y.n2 (Z := Zq)
  have p2 := plain_call c1 y.op y.n0 y.n1 y.n2
  rw [e2] at t2 u2 p2
  rw [ez2] at t2 u2
  obtain ⟨r3, e3⟩ : ∃ r, tickC c1 (nearC (now + y.a % 9)) = r := ⟨_, rfl⟩
  obtain ⟨z3, ez3⟩ : ∃ zz, flY z r3.1 = zz := ⟨_, rfl⟩
  have t3 := two_tick h2c (nearC_rng (now + y.a % 9))
  have u3 := rcTick z c1 h2c.ok hco (now + y.a % 9)
  have p3 := plain_tick c1 (nearC (now + y.a % 9))
  rw [e3] at t3 u3 p3
  rw [ez3] at t3 u3
  repeat' ((conv => whnf); first
      | refine QuiD.draw (ord_each tabOK (.ho 4 [3] [4,0,1,2,3,5,6,7,8,9] (.ho 6 [4] [6,0,1,2,3,4,5,7,8,9] (.sp 6 5 [0,1,2,3,4,6,5,7,8,9] [0,1,2,3,4,5,6,7,8,9] .leaf .leaf))) (show _ = 10 from rfl) (by kernel_rfl) (by kernel_rfl) ?_)
      | refine ord_each tabOK (.ho 4 [3] [4,0,1,2,3,5,6,7,8,9] (.ho 6 [4] [6,0,1,2,3,4,5,7,8,9] (.sp 6 5 [0,1,2,3,4,6,5,7,8,9] [0,1,2,3,4,5,6,7,8,9] .leaf .leaf))) (show _ = 10 from rfl) (by kernel_rfl) (by kernel_rfl) ?_
      | refine And.intro ?_ ?_
      | refine QuiD.draw (draw_go tabOK (by kernel_rfl) ?_)
      | rw [hrow]
      | rw [hy]
      | (refine cut_up 2 62 (fun x : Bool × Int × CliM × (Nat → Prop) × RCy × (Nat → Prop) × (World → Prop) => x.1 = true ∧ (now ≤ x.2.1 ∧ x.2.1 ≤ now + 8) ∧ TwoC d n (k + 1) x.2.2.1 x.2.2.2.2.1 x.2.2.2.2.2.2) (fun x => [(11, .v (.int .i64 x.2.1)), (14, .v (.bool x.1)), (15, .junk), (16, .junk), (17, .junk), (18, .junk), (19, .junk), (20, .junk), (21, .junk), (22, .junk), (23, .junk)]) (fun x => [(3, .ent (.res false x.2.2.2.2.2.1 x.2.2.2.2.2.2)), (4, .ent (.res true x.2.2.2.1 (CliQ b x.2.2.1 x.2.2.2.1))), (6, .ent (rbkE x.2.2.1.bk)), (7, .ent (.blk 85 (rcLi 6 x.2.2.2.2.1 x.2.2.1 (outcC x.2.2.1).1 (outcC x.2.2.1).2))), (8, .ent .none)]) (fun _ => []) ?_ ?_)
      | refine CutN.plain ?_
      | with_reducible refine Br.tt ?_
      | with_reducible refine Br.ff ?_
      | with_reducible refine Br.nt ?_
      | with_reducible refine Br.nf ?_
      | with_reducible refine Br.eeI ?_
      | with_reducible refine Br.nnI ?_
      | refine Br.yes (by decide) ?_
      | refine Br.no (by decide) ?_
      | refine AppN.own ?_
      | refine Need.go rfl ?_
      | refine QuiD.quiet (by kernel_rfl) ?_
      | refine IdxN.lit ?_
      | refine draw_go tabOK (by kernel_rfl) ?_
      | refine Need.go ⟨rfl, rfl⟩ ?_
      | refine Need.go ⟨⟨rfl, rfl, rfl⟩, rfl⟩ ?_
      | (with_reducible refine Br.dec (fun h => ?_) (fun h => ?_); first | (rotate_left; exfalso; omega; clear h) | (exfalso; omega; clear h) | skip)
      | (with_reducible refine Br.eqI (fun h => ?_) (fun h => ?_); first | (rotate_left; exfalso; omega; clear h) | (exfalso; omega; clear h) | skip)
      | (with_reducible refine Br.neI (fun h => ?_) (fun h => ?_); first | (rotate_left; exfalso; omega; clear h) | (exfalso; omega; clear h) | skip)
      | (with_reducible refine Br.eqS (fun h => ?_) (fun h => ?_); first | (rotate_left; exfalso; omega; clear h) | (exfalso; omega; clear h) | skip)
      | (with_reducible refine Br.neS (fun h => ?_) (fun h => ?_); first | (rotate_left; exfalso; omega; clear h) | (exfalso; omega; clear h) | skip)
      | (with_reducible refine Br.nd (fun h => ?_) (fun h => ?_); first | (rotate_left; exfalso; omega; clear h) | (exfalso; omega; clear h) | skip)
      | refine Ar.i64 (by omega) (by omega) ?_
      | (refine cli_call c1 hco 4 (by omega) y.op (y.a % 5) (now + y.b) now e1 rfl ?_; intro ZC)
      | (refine call_sp (f := 10) u1 [7, 6, 3] (by decide) rfl ⟨rfl, rfl, rfl, trivial⟩ rfl ?_; rintro s H1 (⟨hl0, rfl, rfl⟩ | ⟨rfl, rfl⟩))
      | (refine cli_call c1 hco 4 (by omega) y.op y.n0 y.n1 y.n2 e2 rfl ?_; intro ZN)
      | (refine call_sp (f := 10) u2 [7, 6, 3] (by decide) rfl ⟨rfl, rfl, rfl, trivial⟩ rfl ?_; rintro s H1 (⟨hl0, rfl, rfl⟩ | ⟨rfl, rfl⟩))
      | (refine cli_tick c1 hco 4 (now + y.a % 9) e3 rfl ?_; intro ZK)
      | (refine call_sp (f := 13) u3 [7, 6] (by decide) rfl ⟨rfl, rfl, trivial⟩ rfl ?_; rintro s H1 ⟨rfl, rfl⟩)
      | (refine frame_any y hyw hym z c1 hco _ _ _ _ _ _ _ _ _ _ ?_; intro fr fa fc Zf Qf hF; have tT := two_take h2c hk6 fr fa fc hF.q hF.addr (nearC_rng now); have uT := rcTake z c1 h2c.ok hco fr fa fc now (Z := Zq) (Q := Q) (Zf := Zf) (Qf := Qf) hF.small hF.q hF.addr; have pT := plain_take c1 fr (nearC now); obtain ⟨rT, eT⟩ : ∃ r, takeC c1 fr (nearC now) = r := ⟨_, rfl⟩; obtain ⟨zT, ezT⟩ : ∃ zz, tkY z c1 fr fa fc (nearC now) = zz := ⟨_, rfl⟩; rw [eT] at tT uT pT; rw [ezT] at tT uT; by_cases hac : accC c1 fr)
      | (refine cli_take c1 hco 4 fr hF.small (.v (.slice fa fr.ch.mem.length fc)) now eT rfl (fact_beside (j := 4) (i := 9) rfl rfl hF.q hF.z) ?_; intro ZT)
      | (refine call_sp (f := 16) uT [7, 6, 3, 9] (by decide) rfl ⟨rfl, rfl, rfl, rfl, trivial⟩ rfl ?_; rintro s H1 ⟨rfl, rfl⟩)
      | (refine call_mem (f := 11) (args := [.os 9 r1.1.2.length, .v (.slice none 0 0)]) (V := .bool true) ?_ ?_; exact fun ρ w h => sends_any r1.1.2 (fun _ => .slice none 0 0) (fun _ => .slice none 0 0) _ _ w (sl_os h (i := 9) rfl) (nil_sends hl0 w _) (plain_q p1 w).1 (plain_q p1 w).1 (plain_q p1 w).2)
      | (refine quiet_mem (f := 11) (args := [.os 9 r1.1.2.length, .v (.slice none 0 0)]) (V := .bool true) ?_ ?_; exact fun ρ w h => sends_any r1.1.2 (fun _ => .slice none 0 0) (fun _ => .slice none 0 0) _ _ w (sl_os h (i := 9) rfl) (nil_sends hl0 w _) (plain_q p1 w).1 (plain_q p1 w).1 (plain_q p1 w).2)
      | (refine seg_mem (f := 11) (args := [.os 9 r1.1.2.length, .v (.slice none 0 0)]) (V := .bool true) ?_ ?_; exact fun ρ w h => sends_any r1.1.2 (fun _ => .slice none 0 0) (fun _ => .slice none 0 0) _ _ w (sl_os h (i := 9) rfl) (nil_sends hl0 w _) (plain_q p1 w).1 (plain_q p1 w).1 (plain_q p1 w).2)
      | (refine call_mem (f := 11) (args := [.os 9 r1.1.2.length, .os 10 r1.1.2.length]) (V := .bool true) ?_ ?_; exact fun ρ w h => sends_any r1.1.2 (fun _ => .slice none 0 0) (fun _ => .slice none 0 0) _ _ w (sl_os h (i := 9) rfl) (sl_os h (i := 10) rfl) (plain_q p1 w).1 (plain_q p1 w).1 (plain_q p1 w).2)
      | (refine quiet_mem (f := 11) (args := [.os 9 r1.1.2.length, .os 10 r1.1.2.length]) (V := .bool true) ?_ ?_; exact fun ρ w h => sends_any r1.1.2 (fun _ => .slice none 0 0) (fun _ => .slice none 0 0) _ _ w (sl_os h (i := 9) rfl) (sl_os h (i := 10) rfl) (plain_q p1 w).1 (plain_q p1 w).1 (plain_q p1 w).2)
      | (refine seg_mem (f := 11) (args := [.os 9 r1.1.2.length, .os 10 r1.1.2.length]) (V := .bool true) ?_ ?_; exact fun ρ w h => sends_any r1.1.2 (fun _ => .slice none 0 0) (fun _ => .slice none 0 0) _ _ w (sl_os h (i := 9) rfl) (sl_os h (i := 10) rfl) (plain_q p1 w).1 (plain_q p1 w).1 (plain_q p1 w).2)
      | (refine call_mem (f := 11) (args := [.os 9 r2.1.2.length, .v (.slice none 0 0)]) (V := .bool true) ?_ ?_; exact fun ρ w h => sends_any r2.1.2 (fun _ => .slice none 0 0) (fun _ => .slice none 0 0) _ _ w (sl_os h (i := 9) rfl) (nil_sends hl0 w _) (plain_q p2 w).1 (plain_q p2 w).1 (plain_q p2 w).2)
      | (refine quiet_mem (f := 11) (args := [.os 9 r2.1.2.length, .v (.slice none 0 0)]) (V := .bool true) ?_ ?_; exact fun ρ w h => sends_any r2.1.2 (fun _ => .slice none 0 0) (fun _ => .slice none 0 0) _ _ w (sl_os h (i := 9) rfl) (nil_sends hl0 w _) (plain_q p2 w).1 (plain_q p2 w).1 (plain_q p2 w).2)
      | (refine seg_mem (f := 11) (args := [.os 9 r2.1.2.length, .v (.slice none 0 0)]) (V := .bool true) ?_ ?_; exact fun ρ w h => sends_any r2.1.2 (fun _ => .slice none 0 0) (fun _ => .slice none 0 0) _ _ w (sl_os h (i := 9) rfl) (nil_sends hl0 w _) (plain_q p2 w).1 (plain_q p2 w).1 (plain_q p2 w).2)
      | (refine call_mem (f := 11) (args := [.os 9 r2.1.2.length, .os 10 r2.1.2.length]) (V := .bool true) ?_ ?_; exact fun ρ w h => sends_any r2.1.2 (fun _ => .slice none 0 0) (fun _ => .slice none 0 0) _ _ w (sl_os h (i := 9) rfl) (sl_os h (i := 10) rfl) (plain_q p2 w).1 (plain_q p2 w).1 (plain_q p2 w).2)
      | (refine quiet_mem (f := 11) (args := [.os 9 r2.1.2.length, .os 10 r2.1.2.length]) (V := .bool true) ?_ ?_; exact fun ρ w h => sends_any r2.1.2 (fun _ => .slice none 0 0) (fun _ => .slice none 0 0) _ _ w (sl_os h (i := 9) rfl) (sl_os h (i := 10) rfl) (plain_q p2 w).1 (plain_q p2 w).1 (plain_q p2 w).2)
      | (refine seg_mem (f := 11) (args := [.os 9 r2.1.2.length, .os 10 r2.1.2.length]) (V := .bool true) ?_ ?_; exact fun ρ w h => sends_any r2.1.2 (fun _ => .slice none 0 0) (fun _ => .slice none 0 0) _ _ w (sl_os h (i := 9) rfl) (sl_os h (i := 10) rfl) (plain_q p2 w).1 (plain_q p2 w).1 (plain_q p2 w).2)
      | (refine call_mem (f := 11) (args := [.os 9 r3.2.length, .os 10 r3.2.length]) (V := .bool true) ?_ ?_; exact fun ρ w h => sends_any r3.2 (fun _ => .slice none 0 0) (fun _ => .slice none 0 0) _ _ w (sl_os h (i := 9) rfl) (sl_os h (i := 10) rfl) (plain_q p3 w).1 (plain_q p3 w).1 (plain_q p3 w).2)
      | (refine quiet_mem (f := 11) (args := [.os 9 r3.2.length, .os 10 r3.2.length]) (V := .bool true) ?_ ?_; exact fun ρ w h => sends_any r3.2 (fun _ => .slice none 0 0) (fun _ => .slice none 0 0) _ _ w (sl_os h (i := 9) rfl) (sl_os h (i := 10) rfl) (plain_q p3 w).1 (plain_q p3 w).1 (plain_q p3 w).2)
      | (refine seg_mem (f := 11) (args := [.os 9 r3.2.length, .os 10 r3.2.length]) (V := .bool true) ?_ ?_; exact fun ρ w h => sends_any r3.2 (fun _ => .slice none 0 0) (fun _ => .slice none 0 0) _ _ w (sl_os h (i := 9) rfl) (sl_os h (i := 10) rfl) (plain_q p3 w).1 (plain_q p3 w).1 (plain_q p3 w).2)
      | (refine call_mem (f := 11) (args := [.os 11 rT.2.length, .os 12 rT.2.length]) (V := .bool true) ?_ ?_; exact fun ρ w h => sends_any rT.2 (fun _ => .slice none 0 0) (fun _ => .slice none 0 0) _ _ w (sl_os h (i := 11) rfl) (sl_os h (i := 12) rfl) (plain_q pT w).1 (plain_q pT w).1 (plain_q pT w).2)
      | (refine quiet_mem (f := 11) (args := [.os 11 rT.2.length, .os 12 rT.2.length]) (V := .bool true) ?_ ?_; exact fun ρ w h => sends_any rT.2 (fun _ => .slice none 0 0) (fun _ => .slice none 0 0) _ _ w (sl_os h (i := 11) rfl) (sl_os h (i := 12) rfl) (plain_q pT w).1 (plain_q pT w).1 (plain_q pT w).2)
      | (refine seg_mem (f := 11) (args := [.os 11 rT.2.length, .os 12 rT.2.length]) (V := .bool true) ?_ ?_; exact fun ρ w h => sends_any rT.2 (fun _ => .slice none 0 0) (fun _ => .slice none 0 0) _ _ w (sl_os h (i := 11) rfl) (sl_os h (i := 12) rfl) (plain_q pT w).1 (plain_q pT w).1 (plain_q pT w).2)
      | refine Need.go (by first | omega | decide | (simp <;> omega) | fail) ?_
      | refine Need.go (by first | (simp [Value.oneCell'] <;> omega) | fail) ?_
      | refine Need.go ⟨rfl, by omega, getD_one rfl rfl⟩ ?_
      | refine Need.go ⟨rfl, by omega, fun _ _ _ _ => rfl⟩ ?_
      | refine Br.both (fun h => ?_) (fun h => ?_))
  rotate_left
  all_goals (conv => whnf)
  any_goals first
    | (refine ⟨(r1.2 == r1.2, now, r1.1.1, ZC, z1, Zq, Q), ⟨by simp, by dsimp only; omega, t1⟩, ?_⟩
       dsimp only
       (conv => whnf)
       refine ⟨[some 0, some 1, some 2, some 3, some 4, some 5, some 6, some 7, some 8], by decide, ?_, ?_⟩
       all_goals repeat' (first | exact leT_junk rfl | refine And.intro ?_ ?_ | exact trivial | exact .inl ⟨rfl, rfl⟩ | rfl | exact .inr ⟨_, rfl, rfl, rfl⟩ | exact ⟨_, rfl, trivial⟩ | exact ⟨_, rfl, rfl⟩ | exact ⟨_, rfl, ⟨rfl, rfl, rfl⟩, fun _ _ _ _ => rfl⟩ | exact ⟨_, rfl, ⟨rfl, rfl, .inl rfl⟩, rfl⟩ | exact ⟨_, rfl, ⟨rfl, rfl, .inr rfl⟩, rfl⟩ | exact ⟨_, rfl, ⟨rfl, rfl, rfl, rfl, rfl⟩, rfl⟩ | exact ⟨_, rfl, ⟨rfl, rfl⟩, fun _ => Iff.rfl⟩ | refine ⟨_, rfl, rfl, ?_⟩ | refine ⟨_, rfl, ⟨rfl, rfl, rfl⟩, ?_⟩)
       done)
    | (refine ⟨(r2.2 == r2.2, now, r2.1.1, ZN, z2, Zq, Q), ⟨by simp, by dsimp only; omega, t2⟩, ?_⟩
       dsimp only
       (conv => whnf)
       refine ⟨[some 0, some 1, some 2, some 3, some 4, some 5, some 6, some 7, some 8], by decide, ?_, ?_⟩
       all_goals repeat' (first | exact leT_junk rfl | refine And.intro ?_ ?_ | exact trivial | exact .inl ⟨rfl, rfl⟩ | rfl | exact .inr ⟨_, rfl, rfl, rfl⟩ | exact ⟨_, rfl, trivial⟩ | exact ⟨_, rfl, rfl⟩ | exact ⟨_, rfl, ⟨rfl, rfl, rfl⟩, fun _ _ _ _ => rfl⟩ | exact ⟨_, rfl, ⟨rfl, rfl, .inl rfl⟩, rfl⟩ | exact ⟨_, rfl, ⟨rfl, rfl, .inr rfl⟩, rfl⟩ | exact ⟨_, rfl, ⟨rfl, rfl, rfl, rfl, rfl⟩, rfl⟩ | exact ⟨_, rfl, ⟨rfl, rfl⟩, fun _ => Iff.rfl⟩ | refine ⟨_, rfl, rfl, ?_⟩ | refine ⟨_, rfl, ⟨rfl, rfl, rfl⟩, ?_⟩)
       done)
    | (refine ⟨(true, now + y.a % 9, r3.1, ZK, z3, Zq, Q), ⟨rfl, by dsimp only; omega, t3⟩, ?_⟩
       dsimp only
       (conv => whnf)
       refine ⟨[some 0, some 1, some 2, some 3, some 4, some 5, some 6, some 7, some 8], by decide, ?_, ?_⟩
       all_goals repeat' (first | exact leT_junk rfl | refine And.intro ?_ ?_ | exact trivial | exact .inl ⟨rfl, rfl⟩ | rfl | exact .inr ⟨_, rfl, rfl, rfl⟩ | exact ⟨_, rfl, trivial⟩ | exact ⟨_, rfl, rfl⟩ | exact ⟨_, rfl, ⟨rfl, rfl, rfl⟩, fun _ _ _ _ => rfl⟩ | exact ⟨_, rfl, ⟨rfl, rfl, .inl rfl⟩, rfl⟩ | exact ⟨_, rfl, ⟨rfl, rfl, .inr rfl⟩, rfl⟩ | exact ⟨_, rfl, ⟨rfl, rfl, rfl, rfl, rfl⟩, rfl⟩ | exact ⟨_, rfl, ⟨rfl, rfl⟩, fun _ => Iff.rfl⟩ | refine ⟨_, rfl, rfl, ?_⟩ | refine ⟨_, rfl, ⟨rfl, rfl, rfl⟩, ?_⟩)
       done)
    | (refine ⟨(true, now, rT.1, ZT, zT, Zf, Qf), ⟨rfl, by dsimp only; omega, (by simp only [if_pos hac] at tT; exact tT)⟩, ?_⟩
       dsimp only
       (conv => whnf)
       refine ⟨[some 0, some 1, some 2, some 9, some 4, some 5, some 6, some 7, some 8], by decide, ?_, ?_⟩
       all_goals repeat' (first | exact leT_junk rfl | refine And.intro ?_ ?_ | exact trivial | exact .inl ⟨rfl, rfl⟩ | rfl | exact .inr ⟨_, rfl, rfl, rfl⟩ | exact ⟨_, rfl, trivial⟩ | exact ⟨_, rfl, rfl⟩ | exact ⟨_, rfl, ⟨rfl, rfl, rfl⟩, fun _ _ _ _ => rfl⟩ | exact ⟨_, rfl, ⟨rfl, rfl, .inl rfl⟩, rfl⟩ | exact ⟨_, rfl, ⟨rfl, rfl, .inr rfl⟩, rfl⟩ | exact ⟨_, rfl, ⟨rfl, rfl, rfl, rfl, rfl⟩, rfl⟩ | exact ⟨_, rfl, ⟨rfl, rfl⟩, fun _ => Iff.rfl⟩ | refine ⟨_, rfl, rfl, ?_⟩ | refine ⟨_, rfl, ⟨rfl, rfl, rfl⟩, ?_⟩)
       done)
    | (refine ⟨(true, now, rT.1, ZT, zT, Zq, Q), ⟨rfl, by dsimp only; omega, (by simp only [if_neg hac] at tT; exact tT)⟩, ?_⟩
       dsimp only
       (conv => whnf)
       refine ⟨[some 0, some 1, some 2, some 3, some 4, some 5, some 6, some 7, some 8], by decide, ?_, ?_⟩
       all_goals repeat' (first | exact leT_junk rfl | refine And.intro ?_ ?_ | exact trivial | exact .inl ⟨rfl, rfl⟩ | rfl | exact .inr ⟨_, rfl, rfl, rfl⟩ | exact ⟨_, rfl, trivial⟩ | exact ⟨_, rfl, rfl⟩ | exact ⟨_, rfl, ⟨rfl, rfl, rfl⟩, fun _ _ _ _ => rfl⟩ | exact ⟨_, rfl, ⟨rfl, rfl, .inl rfl⟩, rfl⟩ | exact ⟨_, rfl, ⟨rfl, rfl, .inr rfl⟩, rfl⟩ | exact ⟨_, rfl, ⟨rfl, rfl, rfl, rfl, rfl⟩, rfl⟩ | exact ⟨_, rfl, ⟨rfl, rfl⟩, fun _ => Iff.rfl⟩ | refine ⟨_, rfl, rfl, ?_⟩ | refine ⟨_, rfl, ⟨rfl, rfl, rfl⟩, ?_⟩)
       done)
    | fail
  clear t1 u1 p1 t2 u2 p2 t3 u3 p3 e1 e2 e3 ez1 ez2 ez3 hrow hy hyw hya hyb hyk hcl hym
  rintro ⟨g, now2, c2, Z2, y2, Zq2, Q2⟩ ⟨hg, hnow2, h2n⟩
  dsimp only at hg hnow2 h2n ⊢
  subst hg
  repeat' ((conv => whnf); first
      | refine CutN.plain ?_
      | with_reducible refine Br.tt ?_
      | with_reducible refine Br.ff ?_
      | with_reducible refine Br.nt ?_
      | with_reducible refine Br.nf ?_
      | with_reducible refine Br.eeI ?_
      | with_reducible refine Br.nnI ?_
      | refine Br.yes (by decide) ?_
      | refine Br.no (by decide) ?_
      | refine AppN.own ?_
      | refine Need.go rfl ?_
      | refine QuiD.quiet (by kernel_rfl) ?_
      | refine IdxN.lit ?_
      | refine draw_go tabOK (by kernel_rfl) ?_
      | refine Need.go ⟨rfl, rfl⟩ ?_
      | refine Need.go ⟨⟨rfl, rfl, rfl⟩, rfl⟩ ?_
      | (with_reducible refine Br.dec (fun h => ?_) (fun h => ?_); first | (rotate_left; exfalso; omega; clear h) | (exfalso; omega; clear h) | skip)
      | (with_reducible refine Br.eqI (fun h => ?_) (fun h => ?_); first | (rotate_left; exfalso; omega; clear h) | (exfalso; omega; clear h) | skip)
      | (with_reducible refine Br.neI (fun h => ?_) (fun h => ?_); first | (rotate_left; exfalso; omega; clear h) | (exfalso; omega; clear h) | skip)
      | (with_reducible refine Br.eqS (fun h => ?_) (fun h => ?_); first | (rotate_left; exfalso; omega; clear h) | (exfalso; omega; clear h) | skip)
      | (with_reducible refine Br.neS (fun h => ?_) (fun h => ?_); first | (rotate_left; exfalso; omega; clear h) | (exfalso; omega; clear h) | skip)
      | (with_reducible refine Br.nd (fun h => ?_) (fun h => ?_); first | (rotate_left; exfalso; omega; clear h) | (exfalso; omega; clear h) | skip)
      | refine Ar.i64 (by omega) (by omega) ?_
      | (refine call_sp (f := 17) (alike_specC c2 h2n.st.ok y2 b Z2) [4, 7, 6] (by decide) rfl ⟨rfl, rfl, rfl, trivial⟩ rfl ?_; rintro s H1 ⟨rfl, rfl⟩)
      | refine Need.go (by first | omega | decide | (simp <;> omega) | fail) ?_
      | refine Need.go (by first | (simp [Value.oneCell'] <;> omega) | fail) ?_
      | refine Need.go ⟨rfl, by omega, getD_one rfl rfl⟩ ?_
      | refine Need.go ⟨rfl, by omega, fun _ _ _ _ => rfl⟩ ?_
      | refine Br.both (fun h => ?_) (fun h => ?_))
  all_goals (conv => whnf)
  all_goals
    refine ⟨(k + 1, now2, c2, Z2, y2, Zq2, Q2), ⟨by dsimp only; omega, by dsimp only; omega, h2n⟩, by dsimp only; omega, ?_⟩
    dsimp only
    (conv => whnf)
    refine ⟨[some 0, some 1, some 2, some 3, some 4, some 5, some 6, some 7], by decide, ?_, ?_⟩
    all_goals repeat' (first | exact leT_junk rfl | refine And.intro ?_ ?_ | exact trivial | exact .inl ⟨rfl, rfl⟩ | rfl | exact .inr ⟨_, rfl, rfl, rfl⟩ | exact ⟨_, rfl, trivial⟩ | exact ⟨_, rfl, rfl⟩ | exact ⟨_, rfl, ⟨rfl, rfl, rfl⟩, fun _ _ _ _ => rfl⟩ | exact ⟨_, rfl, ⟨rfl, rfl, .inl rfl⟩, rfl⟩ | exact ⟨_, rfl, ⟨rfl, rfl, .inr rfl⟩, rfl⟩ | exact ⟨_, rfl, ⟨rfl, rfl, rfl, rfl, rfl⟩, rfl⟩ | exact ⟨_, rfl, ⟨rfl, rfl⟩, fun _ => Iff.rfl⟩ | refine ⟨_, rfl, rfl, ?_⟩ | refine ⟨_, rfl, ⟨rfl, rfl, rfl⟩, ?_⟩)
end Go.Proofs.YtghfigeepnbjaaaGreat.lawClientPlays
