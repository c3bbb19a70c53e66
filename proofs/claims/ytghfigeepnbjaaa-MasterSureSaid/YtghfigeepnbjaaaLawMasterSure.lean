/-
  MasterSure: the walk. No condition.
-/
import Derived.Test.YtghfigeepnbjaaaMasF
namespace Go.Proofs.Ytghfigeepnbjaaa.lawMasterSure
open Go.Proofs.Ytghfigeepnbjaaa Go.RowKit
set_option maxRecDepth 100000 in
set_option maxHeartbeats 40000000 in
theorem core (c : CfgM) (l : List ActMM) (p q : Value) (w : World) (hp : SliceV w p 1 c.quanta.length (intsF c.quanta)) (hq : SliceV w q 33 l.length (actMF l)) (hk : ∀ x ∈ l, x.wf w) :
    Calls Try.prog 7 #[cfgV c p, q] w fun e w' => e = .returned (.bool true) ∧ w.grownBy w' none := by
  obtain ⟨a, cap, rfl, h1, h2, hr⟩ := hp
  obtain ⟨a2, cap2, rfl, h3, h4, hr2⟩ := hq
  refine x_calls tabOK Try.func7 rfl [cfgS c (.rs 0 c.quanta.length cap), .rs 1 l.length cap2] _ _ rfl rfl (relR2 hr hr2) ?_
  by_cases hok : okActsM l 40
  case neg =>
    repeat' ((conv => whnf); first
        | refine CutN.plain ?_
        | with_reducible refine Br.tt ?_
        | with_reducible refine Br.ff ?_
        | with_reducible refine Br.nt ?_
        | with_reducible refine Br.nf ?_
        | with_reducible refine Br.eeI ?_
        | with_reducible refine Br.nnI ?_
        | refine Br.yes (by decide) ?_
        | refine Br.no (by decide) ?_
        | refine Need.go rfl ?_
        | refine QuiD.quiet (by kernel_rfl) ?_
        | refine IdxN.lit ?_
        | refine draw_go tabOK (by kernel_rfl) ?_
        | refine Need.go ⟨rfl, rfl⟩ ?_
        | refine Need.go ⟨⟨rfl, rfl, rfl⟩, rfl⟩ ?_
        | (with_reducible refine Br.dec (fun h => ?_) (fun h => ?_) <;> first | (exfalso; omega) | skip)
        | (with_reducible refine Br.eqI (fun h => ?_) (fun h => ?_) <;> first | (exfalso; omega) | skip)
        | (with_reducible refine Br.neI (fun h => ?_) (fun h => ?_) <;> first | (exfalso; omega) | skip)
        | (with_reducible refine Br.eqS (fun h => ?_) (fun h => ?_) <;> first | (exfalso; omega) | skip)
        | (with_reducible refine Br.neS (fun h => ?_) (fun h => ?_) <;> first | (exfalso; omega) | skip)
        | (with_reducible refine Br.nd (fun h => ?_) (fun h => ?_) <;> first | (exfalso; omega) | skip)
        | refine Ar.i64 (by omega) (by omega) ?_
        | (refine call_mem (f := 14) (args := [.rs 1 l.length cap2, .v (.int .i64 40)]) (V := .bool true) ?_ ?_; exact fun ρ w h => greatM_no l _ 40 w (sl_rs h (i := 1) rfl (Nat.le_refl _) h3 h4) hok)
        | (refine quiet_mem (f := 14) (args := [.rs 1 l.length cap2, .v (.int .i64 40)]) (V := .bool true) ?_ ?_; exact fun ρ w h => greatM_no l _ 40 w (sl_rs h (i := 1) rfl (Nat.le_refl _) h3 h4) hok)
        | (refine seg_mem (f := 14) (args := [.rs 1 l.length cap2, .v (.int .i64 40)]) (V := .bool true) ?_ ?_; exact fun ρ w h => greatM_no l _ 40 w (sl_rs h (i := 1) rfl (Nat.le_refl _) h3 h4) hok)
        | (refine call_mem (f := 15) (args := []) (V := .bool true) ?_ ?_; exact fun ρ w h => chained_any w)
        | (refine quiet_mem (f := 15) (args := []) (V := .bool true) ?_ ?_; exact fun ρ w h => chained_any w)
        | (refine seg_mem (f := 15) (args := []) (V := .bool true) ?_ ?_; exact fun ρ w h => chained_any w)
        | refine Need.go (by first | omega | decide | (simp <;> omega) | fail) ?_
        | refine Need.go (by first | (simp [Value.oneCell'] <;> omega) | fail) ?_
        | refine Need.go ⟨rfl, by omega, getD_one rfl rfl⟩ ?_
        | refine Need.go ⟨rfl, by omega, fun _ _ _ _ => rfl⟩ ?_
        | (refine Br.both (fun h => ?_) (fun h => ?_) <;> first | (exfalso; omega) | skip))
    all_goals (conv => whnf)
    all_goals exact ret_pure (fun _ => rfl)
  obtain ⟨d, hd⟩ : ∃ d, fitM c = d := ⟨_, rfl⟩
  have hdo : okM d = true := by rw [← hd]; exact fit_ok c
  have hdn := okM_nodes hdo
  have hdq : d.quanta.length ≤ 4 := by
    unfold okM preB at hdo
    simp only [Bool.and_eq_true, winB, decide_eq_true_eq] at hdo
    omega
  have hl40 := hok.2
  repeat' ((conv => whnf); first
      | refine CutN.plain ?_
      | with_reducible refine Br.tt ?_
      | with_reducible refine Br.ff ?_
      | with_reducible refine Br.nt ?_
      | with_reducible refine Br.nf ?_
      | with_reducible refine Br.eeI ?_
      | with_reducible refine Br.nnI ?_
      | refine Br.yes (by decide) ?_
      | refine Br.no (by decide) ?_
      | refine Need.go rfl ?_
      | refine QuiD.quiet (by kernel_rfl) ?_
      | refine IdxN.lit ?_
      | refine draw_go tabOK (by kernel_rfl) ?_
      | refine Need.go ⟨rfl, rfl⟩ ?_
      | refine Need.go ⟨⟨rfl, rfl, rfl⟩, rfl⟩ ?_
      | (with_reducible refine Br.dec (fun h => ?_) (fun h => ?_) <;> first | (exfalso; omega) | skip)
      | (with_reducible refine Br.eqI (fun h => ?_) (fun h => ?_) <;> first | (exfalso; omega) | skip)
      | (with_reducible refine Br.neI (fun h => ?_) (fun h => ?_) <;> first | (exfalso; omega) | skip)
      | (with_reducible refine Br.eqS (fun h => ?_) (fun h => ?_) <;> first | (exfalso; omega) | skip)
      | (with_reducible refine Br.neS (fun h => ?_) (fun h => ?_) <;> first | (exfalso; omega) | skip)
      | (with_reducible refine Br.nd (fun h => ?_) (fun h => ?_) <;> first | (exfalso; omega) | skip)
      | refine Ar.i64 (by omega) (by omega) ?_
      | (refine call_mem (f := 14) (args := [.rs 1 l.length cap2, .v (.int .i64 40)]) (V := .bool false) ?_ ?_; exact fun ρ w h => greatM_yes l _ 40 w (sl_rs h (i := 1) rfl (Nat.le_refl _) h3 h4) hok)
      | (refine quiet_mem (f := 14) (args := [.rs 1 l.length cap2, .v (.int .i64 40)]) (V := .bool false) ?_ ?_; exact fun ρ w h => greatM_yes l _ 40 w (sl_rs h (i := 1) rfl (Nat.le_refl _) h3 h4) hok)
      | (refine seg_mem (f := 14) (args := [.rs 1 l.length cap2, .v (.int .i64 40)]) (V := .bool false) ?_ ?_; exact fun ρ w h => greatM_yes l _ 40 w (sl_rs h (i := 1) rfl (Nat.le_refl _) h3 h4) hok)
      | (refine call_mem (f := 15) (args := []) (V := .bool true) ?_ ?_; exact fun ρ w h => chained_any w)
      | (refine quiet_mem (f := 15) (args := []) (V := .bool true) ?_ ?_; exact fun ρ w h => chained_any w)
      | (refine seg_mem (f := 15) (args := []) (V := .bool true) ?_ ?_; exact fun ρ w h => chained_any w)
      | (refine rfit_n c d hd (.rs 0 c.quanta.length cap) ?_ ?_; exact fun ρ w h => sl_rs h (i := 0) rfl (Nat.le_refl _) h1 h2)
      | (refine mas_new d (.os 3 d.quanta.length) (fun ρ w h => sl_os h (i := 3) rfl) hdo (by omega) ?_; intro b Z0)
      | refine Need.go (by first | omega | decide | (simp <;> omega) | fail) ?_
      | refine Need.go (by first | (simp [Value.oneCell'] <;> omega) | fail) ?_
      | refine Need.go ⟨rfl, by omega, getD_one rfl rfl⟩ ?_
      | refine Need.go ⟨rfl, by omega, fun _ _ _ _ => rfl⟩ ?_
      | (refine Br.both (fun h => ?_) (fun h => ?_) <;> first | (exfalso; omega) | skip))
  all_goals (conv => whnf)
  all_goals try exact ret_pure (fun _ => rfl)
  refine loop_up 33 (fun x : Nat × MasM × (Nat → Prop) => x.1 ≤ l.length ∧ MasSt d (1 + 12 * x.1) x.2.1) (fun x => l.length - x.1) (fun x => [(7, .v (.int .i64 x.1)), (8, .junk), (9, .junk), (10, .junk), (11, .junk), (12, .junk), (13, .junk), (14, .junk)])
    (fun x => [(4, .ent (.res true x.2.2 (MasQ b x.2.1 x.2.2)))]) (fun _ => []) (0, newMas d, Z0) ⟨Nat.zero_le _, newMas_st hdo⟩ (by
    (conv => whnf)
    refine ⟨[some 0, some 1, some 2, some 3, some 4], by decide, ?_, ?_⟩
    all_goals repeat' (first | exact trivial | exact .inl ⟨rfl, rfl⟩ | rfl | exact .inr ⟨_, rfl, rfl, rfl⟩ | exact ⟨_, rfl, trivial⟩ | exact ⟨_, rfl, rfl⟩ | exact ⟨_, rfl, ⟨rfl, rfl, rfl⟩, fun _ _ _ _ => rfl⟩ | exact ⟨_, rfl, ⟨rfl, rfl, .inl rfl⟩, rfl⟩ | exact ⟨_, rfl, ⟨rfl, rfl, .inr rfl⟩, rfl⟩ | exact ⟨_, rfl, ⟨rfl, rfl, rfl, rfl, rfl⟩, rfl⟩ | exact ⟨_, rfl, ⟨rfl, rfl⟩, fun _ => Iff.rfl⟩ | refine ⟨_, rfl, rfl, ?_⟩ | refine ⟨_, rfl, ⟨rfl, rfl, rfl⟩, ?_⟩ | refine And.intro ?_ ?_)) (fun x hx => ?_)
  obtain ⟨k, m, Z⟩ := x
  obtain ⟨hkl, hst⟩ := hx
  simp only at hkl hst
  dsimp only
  by_cases hlt : k < l.length
  case neg =>
    repeat' ((conv => whnf); first
        | refine CutN.plain ?_
        | with_reducible refine Br.tt ?_
        | with_reducible refine Br.ff ?_
        | with_reducible refine Br.nt ?_
        | with_reducible refine Br.nf ?_
        | with_reducible refine Br.eeI ?_
        | with_reducible refine Br.nnI ?_
        | refine Br.yes (by decide) ?_
        | refine Br.no (by decide) ?_
        | refine Need.go rfl ?_
        | refine QuiD.quiet (by kernel_rfl) ?_
        | refine IdxN.lit ?_
        | refine draw_go tabOK (by kernel_rfl) ?_
        | refine Need.go ⟨rfl, rfl⟩ ?_
        | refine Need.go ⟨⟨rfl, rfl, rfl⟩, rfl⟩ ?_
        | (with_reducible refine Br.dec (fun h => ?_) (fun h => ?_) <;> first | (exfalso; omega) | skip)
        | (with_reducible refine Br.eqI (fun h => ?_) (fun h => ?_) <;> first | (exfalso; omega) | skip)
        | (with_reducible refine Br.neI (fun h => ?_) (fun h => ?_) <;> first | (exfalso; omega) | skip)
        | (with_reducible refine Br.eqS (fun h => ?_) (fun h => ?_) <;> first | (exfalso; omega) | skip)
        | (with_reducible refine Br.neS (fun h => ?_) (fun h => ?_) <;> first | (exfalso; omega) | skip)
        | (with_reducible refine Br.nd (fun h => ?_) (fun h => ?_) <;> first | (exfalso; omega) | skip)
        | refine Ar.i64 (by omega) (by omega) ?_
        | (refine call_mem (f := 15) (args := []) (V := .bool true) ?_ ?_; exact fun ρ w h => chained_any w)
        | (refine quiet_mem (f := 15) (args := []) (V := .bool true) ?_ ?_; exact fun ρ w h => chained_any w)
        | (refine seg_mem (f := 15) (args := []) (V := .bool true) ?_ ?_; exact fun ρ w h => chained_any w)
        | refine Need.go (by first | omega | decide | (simp <;> omega) | fail) ?_
        | refine Need.go (by first | (simp [Value.oneCell'] <;> omega) | fail) ?_
        | refine Need.go ⟨rfl, by omega, getD_one rfl rfl⟩ ?_
        | refine Need.go ⟨rfl, by omega, fun _ _ _ _ => rfl⟩ ?_
        | (refine Br.both (fun h => ?_) (fun h => ?_) <;> first | (exfalso; omega) | skip))
    all_goals (conv => whnf)
    exact ret_pure (fun _ => rfl)
  obtain ⟨y, hy⟩ : ∃ y, l.getD (Int.toNat (k : Int)) actMZ = y := ⟨_, rfl⟩
  have hyw : y.wf w := hy ▸ ActMM.wf_at hk hlt
  have hya := hyw.a
  have hyk := hyw.kind
  have hmo := hst.ok
  have hme := hst.ep
  have hml := okCh_len hmo.ch
  have hn0 : 0 ≤ y.a % d.nodes ∧ y.a % d.nodes < d.nodes := ⟨Int.emod_nonneg _ (by omega), Int.emod_lt_of_pos _ (by omega)⟩
  have t0 := masJoin m hmo (y.a % d.nodes) 0
  have t1 := masSuspect m hmo (y.a % d.nodes)
  have t2 := masDrain m hmo (y.a % d.nodes)
  have t3 := masTake m hmo (y.a % d.nodes) 0 (frA 11 m.ch.epoch 1) none 0 0
  repeat' ((conv => whnf); first
      | rw [hy]
      | (refine cut_up 2 33 (fun x : MasM × (Nat → Prop) => MasSt d (1 + 12 * k + 1) x.1) (fun _ => []) (fun x => [(4, .ent (.res true x.2 (MasQ b x.1 x.2)))]) (fun _ => []) ?_ ?_)
      | refine CutN.plain ?_
      | with_reducible refine Br.tt ?_
      | with_reducible refine Br.ff ?_
      | with_reducible refine Br.nt ?_
      | with_reducible refine Br.nf ?_
      | with_reducible refine Br.eeI ?_
      | with_reducible refine Br.nnI ?_
      | refine Br.yes (by decide) ?_
      | refine Br.no (by decide) ?_
      | refine Need.go rfl ?_
      | refine QuiD.quiet (by kernel_rfl) ?_
      | refine IdxN.lit ?_
      | refine draw_go tabOK (by kernel_rfl) ?_
      | refine Need.go ⟨rfl, rfl⟩ ?_
      | refine Need.go ⟨⟨rfl, rfl, rfl⟩, rfl⟩ ?_
      | (with_reducible refine Br.dec (fun h => ?_) (fun h => ?_) <;> first | (exfalso; omega) | skip)
      | (with_reducible refine Br.eqI (fun h => ?_) (fun h => ?_) <;> first | (exfalso; omega) | skip)
      | (with_reducible refine Br.neI (fun h => ?_) (fun h => ?_) <;> first | (exfalso; omega) | skip)
      | (with_reducible refine Br.eqS (fun h => ?_) (fun h => ?_) <;> first | (exfalso; omega) | skip)
      | (with_reducible refine Br.neS (fun h => ?_) (fun h => ?_) <;> first | (exfalso; omega) | skip)
      | (with_reducible refine Br.nd (fun h => ?_) (fun h => ?_) <;> first | (exfalso; omega) | skip)
      | refine Ar.i64 (by omega) (by omega) ?_
      | (refine mas_op t0 (mk_pair _) (fun _ _ => rfl) 4 rfl ?_; intro p1 Y1 ZJ)
      | (refine mas_op t1 (mk_pair _) (fun _ _ => rfl) 4 rfl ?_; intro p1 Y1 ZS)
      | (refine mas_op t2 (mk_pair _) (fun _ _ => rfl) 4 rfl ?_; intro p1 Y1 ZD)
      | (refine mas_op t3 mk_id (fun _ _ => rfl) 4 rfl ?_; intro p1 Y1 ZT)
      | refine mas_chain m hmo 4 rfl ?_
      | refine Need.go (by first | omega | decide | (simp <;> omega) | fail) ?_
      | refine Need.go (by first | (simp [Value.oneCell'] <;> omega) | fail) ?_
      | refine Need.go ⟨rfl, by omega, getD_one rfl rfl⟩ ?_
      | refine Need.go ⟨rfl, by omega, fun _ _ _ _ => rfl⟩ ?_
      | (refine Br.both (fun h => ?_) (fun h => ?_) <;> first | (exfalso; omega) | skip))
  rotate_left
  all_goals (conv => whnf)
  any_goals first
    | (refine ⟨((joinMM m (y.a % d.nodes) 0).m, ZJ), join_st hst _ _, ?_⟩
       dsimp only
       (conv => whnf)
       refine ⟨[some 0, some 1, some 2, some 3, some 4], by decide, ?_, ?_⟩
       all_goals repeat' (first | exact trivial | exact .inl ⟨rfl, rfl⟩ | rfl | exact .inr ⟨_, rfl, rfl, rfl⟩ | exact ⟨_, rfl, trivial⟩ | exact ⟨_, rfl, rfl⟩ | exact ⟨_, rfl, ⟨rfl, rfl, rfl⟩, fun _ _ _ _ => rfl⟩ | exact ⟨_, rfl, ⟨rfl, rfl, .inl rfl⟩, rfl⟩ | exact ⟨_, rfl, ⟨rfl, rfl, .inr rfl⟩, rfl⟩ | exact ⟨_, rfl, ⟨rfl, rfl, rfl, rfl, rfl⟩, rfl⟩ | exact ⟨_, rfl, ⟨rfl, rfl⟩, fun _ => Iff.rfl⟩ | refine ⟨_, rfl, rfl, ?_⟩ | refine ⟨_, rfl, ⟨rfl, rfl, rfl⟩, ?_⟩ | refine And.intro ?_ ?_)
       done)
    | (refine ⟨((suspectM m (y.a % d.nodes)).m, ZS), suspect_st hst _, ?_⟩
       dsimp only
       (conv => whnf)
       refine ⟨[some 0, some 1, some 2, some 3, some 4], by decide, ?_, ?_⟩
       all_goals repeat' (first | exact trivial | exact .inl ⟨rfl, rfl⟩ | rfl | exact .inr ⟨_, rfl, rfl, rfl⟩ | exact ⟨_, rfl, trivial⟩ | exact ⟨_, rfl, rfl⟩ | exact ⟨_, rfl, ⟨rfl, rfl, rfl⟩, fun _ _ _ _ => rfl⟩ | exact ⟨_, rfl, ⟨rfl, rfl, .inl rfl⟩, rfl⟩ | exact ⟨_, rfl, ⟨rfl, rfl, .inr rfl⟩, rfl⟩ | exact ⟨_, rfl, ⟨rfl, rfl, rfl, rfl, rfl⟩, rfl⟩ | exact ⟨_, rfl, ⟨rfl, rfl⟩, fun _ => Iff.rfl⟩ | refine ⟨_, rfl, rfl, ?_⟩ | refine ⟨_, rfl, ⟨rfl, rfl, rfl⟩, ?_⟩ | refine And.intro ?_ ?_)
       done)
    | (refine ⟨((drainMM m (y.a % d.nodes)).m, ZD), drain_st hst _, ?_⟩
       dsimp only
       (conv => whnf)
       refine ⟨[some 0, some 1, some 2, some 3, some 4], by decide, ?_, ?_⟩
       all_goals repeat' (first | exact trivial | exact .inl ⟨rfl, rfl⟩ | rfl | exact .inr ⟨_, rfl, rfl, rfl⟩ | exact ⟨_, rfl, trivial⟩ | exact ⟨_, rfl, rfl⟩ | exact ⟨_, rfl, ⟨rfl, rfl, rfl⟩, fun _ _ _ _ => rfl⟩ | exact ⟨_, rfl, ⟨rfl, rfl, .inl rfl⟩, rfl⟩ | exact ⟨_, rfl, ⟨rfl, rfl, .inr rfl⟩, rfl⟩ | exact ⟨_, rfl, ⟨rfl, rfl, rfl, rfl, rfl⟩, rfl⟩ | exact ⟨_, rfl, ⟨rfl, rfl⟩, fun _ => Iff.rfl⟩ | refine ⟨_, rfl, rfl, ?_⟩ | refine ⟨_, rfl, ⟨rfl, rfl, rfl⟩, ?_⟩ | refine And.intro ?_ ?_)
       done)
    | (refine ⟨((takeM m (y.a % d.nodes) 11 m.ch.epoch 1 0).m, ZT), take_st hst _ _ _ _ _, ?_⟩
       dsimp only
       (conv => whnf)
       refine ⟨[some 0, some 1, some 2, some 3, some 4], by decide, ?_, ?_⟩
       all_goals repeat' (first | exact trivial | exact .inl ⟨rfl, rfl⟩ | rfl | exact .inr ⟨_, rfl, rfl, rfl⟩ | exact ⟨_, rfl, trivial⟩ | exact ⟨_, rfl, rfl⟩ | exact ⟨_, rfl, ⟨rfl, rfl, rfl⟩, fun _ _ _ _ => rfl⟩ | exact ⟨_, rfl, ⟨rfl, rfl, .inl rfl⟩, rfl⟩ | exact ⟨_, rfl, ⟨rfl, rfl, .inr rfl⟩, rfl⟩ | exact ⟨_, rfl, ⟨rfl, rfl, rfl, rfl, rfl⟩, rfl⟩ | exact ⟨_, rfl, ⟨rfl, rfl⟩, fun _ => Iff.rfl⟩ | refine ⟨_, rfl, rfl, ?_⟩ | refine ⟨_, rfl, ⟨rfl, rfl, rfl⟩, ?_⟩ | refine And.intro ?_ ?_)
       done)
    | fail
  clear t0 t1 t2 t3 hst hmo hme hml
  intro x hst
  obtain ⟨m', Z'⟩ := x
  simp only at hst
  dsimp only
  have hmo := hst.ok
  have hme := hst.ep
  have hml := okCh_len hmo.ch
  have hmn := hst.nodes
  repeat' ((conv => whnf); first
      | refine CutN.plain ?_
      | with_reducible refine Br.tt ?_
      | with_reducible refine Br.ff ?_
      | with_reducible refine Br.nt ?_
      | with_reducible refine Br.nf ?_
      | with_reducible refine Br.eeI ?_
      | with_reducible refine Br.nnI ?_
      | refine Br.yes (by decide) ?_
      | refine Br.no (by decide) ?_
      | refine Need.go rfl ?_
      | refine QuiD.quiet (by kernel_rfl) ?_
      | refine IdxN.lit ?_
      | refine draw_go tabOK (by kernel_rfl) ?_
      | refine Need.go ⟨rfl, rfl⟩ ?_
      | refine Need.go ⟨⟨rfl, rfl, rfl⟩, rfl⟩ ?_
      | (with_reducible refine Br.dec (fun h => ?_) (fun h => ?_) <;> first | (exfalso; omega) | skip)
      | (with_reducible refine Br.eqI (fun h => ?_) (fun h => ?_) <;> first | (exfalso; omega) | skip)
      | (with_reducible refine Br.neI (fun h => ?_) (fun h => ?_) <;> first | (exfalso; omega) | skip)
      | (with_reducible refine Br.eqS (fun h => ?_) (fun h => ?_) <;> first | (exfalso; omega) | skip)
      | (with_reducible refine Br.neS (fun h => ?_) (fun h => ?_) <;> first | (exfalso; omega) | skip)
      | (with_reducible refine Br.nd (fun h => ?_) (fun h => ?_) <;> first | (exfalso; omega) | skip)
      | refine Ar.i64 (by omega) (by omega) ?_
      | refine mas_chain m' hmo 4 rfl ?_
      | refine Need.go (by first | omega | decide | (simp <;> omega) | fail) ?_
      | refine Need.go (by first | (simp [Value.oneCell'] <;> omega) | fail) ?_
      | refine Need.go ⟨rfl, by omega, getD_one rfl rfl⟩ ?_
      | refine Need.go ⟨rfl, by omega, fun _ _ _ _ => rfl⟩ ?_
      | (refine Br.both (fun h => ?_) (fun h => ?_) <;> first | (exfalso; omega) | skip))
  all_goals (conv => whnf)
  refine loop_up 78 (fun x : Nat × (Nat → Prop) => (x.1 : Int) ≤ d.nodes) (fun x => d.nodes.toNat - x.1) (fun x => [(10, .v (.int .i64 x.1)), (11, .junk), (12, .junk), (13, .junk)]) (fun x => [(4, .ent (.res true x.2 (MasQ b m' x.2)))]) (fun _ => []) (0, Z') (by simp only; omega) (by
    (conv => whnf)
    refine ⟨[some 0, some 1, some 2, some 3, some 4, some 5, some 6], by decide, ?_, ?_⟩
    all_goals repeat' (first | exact trivial | exact .inl ⟨rfl, rfl⟩ | rfl | exact .inr ⟨_, rfl, rfl, rfl⟩ | exact ⟨_, rfl, trivial⟩ | exact ⟨_, rfl, rfl⟩ | exact ⟨_, rfl, ⟨rfl, rfl, rfl⟩, fun _ _ _ _ => rfl⟩ | exact ⟨_, rfl, ⟨rfl, rfl, .inl rfl⟩, rfl⟩ | exact ⟨_, rfl, ⟨rfl, rfl, .inr rfl⟩, rfl⟩ | exact ⟨_, rfl, ⟨rfl, rfl, rfl, rfl, rfl⟩, rfl⟩ | exact ⟨_, rfl, ⟨rfl, rfl⟩, fun _ => Iff.rfl⟩ | refine ⟨_, rfl, rfl, ?_⟩ | refine ⟨_, rfl, ⟨rfl, rfl, rfl⟩, ?_⟩ | refine And.intro ?_ ?_)) (fun x hx => ?_)
  obtain ⟨kk, Z2⟩ := x
  simp only at hx
  dsimp only
  by_cases hkk : (kk : Int) < d.nodes
  · repeat' ((conv => whnf); first
      | refine CutN.plain ?_
      | with_reducible refine Br.tt ?_
      | with_reducible refine Br.ff ?_
      | with_reducible refine Br.nt ?_
      | with_reducible refine Br.nf ?_
      | with_reducible refine Br.eeI ?_
      | with_reducible refine Br.nnI ?_
      | refine Br.yes (by decide) ?_
      | refine Br.no (by decide) ?_
      | refine Need.go rfl ?_
      | refine QuiD.quiet (by kernel_rfl) ?_
      | refine IdxN.lit ?_
      | refine draw_go tabOK (by kernel_rfl) ?_
      | refine Need.go ⟨rfl, rfl⟩ ?_
      | refine Need.go ⟨⟨rfl, rfl, rfl⟩, rfl⟩ ?_
      | (with_reducible refine Br.dec (fun h => ?_) (fun h => ?_) <;> first | (exfalso; omega) | skip)
      | (with_reducible refine Br.eqI (fun h => ?_) (fun h => ?_) <;> first | (exfalso; omega) | skip)
      | (with_reducible refine Br.neI (fun h => ?_) (fun h => ?_) <;> first | (exfalso; omega) | skip)
      | (with_reducible refine Br.eqS (fun h => ?_) (fun h => ?_) <;> first | (exfalso; omega) | skip)
      | (with_reducible refine Br.neS (fun h => ?_) (fun h => ?_) <;> first | (exfalso; omega) | skip)
      | (with_reducible refine Br.nd (fun h => ?_) (fun h => ?_) <;> first | (exfalso; omega) | skip)
      | refine Ar.i64 (by omega) (by omega) ?_
      | refine Need.go (by first | omega | decide | (simp <;> omega) | fail) ?_
      | refine Need.go (by first | (simp [Value.oneCell'] <;> omega) | fail) ?_
      | refine Need.go ⟨rfl, by omega, getD_one rfl rfl⟩ ?_
      | refine Need.go ⟨rfl, by omega, fun _ _ _ _ => rfl⟩ ?_
      | (refine Br.both (fun h => ?_) (fun h => ?_) <;> first | (exfalso; omega) | skip))
    all_goals (conv => whnf)
    refine loop_up 84 (fun x : Nat × (Nat → Prop) => x.1 ≤ 3) (fun x => 3 - x.1) (fun x => [(11, .v (.int .i64 (x.1 - 1))), (12, .junk), (13, .junk)]) (fun x => [(4, .ent (.res true x.2 (MasQ b m' x.2)))]) (fun _ => []) (0, Z2) (by simp only; omega) (by
      (conv => whnf)
      refine ⟨[some 0, some 1, some 2, some 3, some 4, some 5, some 6], by decide, ?_, ?_⟩
      all_goals repeat' (first | exact trivial | exact .inl ⟨rfl, rfl⟩ | rfl | exact .inr ⟨_, rfl, rfl, rfl⟩ | exact ⟨_, rfl, trivial⟩ | exact ⟨_, rfl, rfl⟩ | exact ⟨_, rfl, ⟨rfl, rfl, rfl⟩, fun _ _ _ _ => rfl⟩ | exact ⟨_, rfl, ⟨rfl, rfl, .inl rfl⟩, rfl⟩ | exact ⟨_, rfl, ⟨rfl, rfl, .inr rfl⟩, rfl⟩ | exact ⟨_, rfl, ⟨rfl, rfl, rfl, rfl, rfl⟩, rfl⟩ | exact ⟨_, rfl, ⟨rfl, rfl⟩, fun _ => Iff.rfl⟩ | refine ⟨_, rfl, rfl, ?_⟩ | refine ⟨_, rfl, ⟨rfl, rfl, rfl⟩, ?_⟩ | refine And.intro ?_ ?_)) (fun x hx2 => ?_)
    obtain ⟨bb, Z3⟩ := x
    simp only at hx2
    dsimp only
    by_cases hbb : bb < 3
    · by_cases hb0 : (bb : Int) - 1 = 0
      · have t4 : Spec Try.prog 18 [.p 0 0, .v (.int .i64 kk), frS (frA 9 m'.ch.epoch (k + 1)) (.v (.slice none 0 0)), .v (.int .i64 0)] (masH m') (outR (takeM m' kk 9 m'.ch.epoch (k + 1) 0) fun q => q) := masTake m' hmo kk 0 (frA 9 m'.ch.epoch (k + 1)) none 0 0
        have e9 : takeM m' kk 9 m'.ch.epoch (k + 1) 0 = if tailM m'.ch = kk then ⟨m', [sureM kk m'.ch.epoch (k + 1)], 0⟩ else ⟨m', [], 0⟩ := by
          unfold takeM
          rw [if_neg (by omega), if_neg (by omega), if_neg (by omega), if_pos rfl, if_neg (fun h => h rfl)]
        rw [e9] at t4
        by_cases htl : tailM m'.ch = kk
        · rw [if_pos htl] at t4
          repeat' ((conv => whnf); first
              | rw [hb0]
              | rw [Int.add_zero]
              | refine Br.no rfl ?_
              | refine Br.yes rfl ?_
              | refine Br.eeI ?_
              | refine CutN.plain ?_
              | with_reducible refine Br.tt ?_
              | with_reducible refine Br.ff ?_
              | with_reducible refine Br.nt ?_
              | with_reducible refine Br.nf ?_
              | with_reducible refine Br.eeI ?_
              | with_reducible refine Br.nnI ?_
              | refine Br.yes (by decide) ?_
              | refine Br.no (by decide) ?_
              | refine Need.go rfl ?_
              | refine QuiD.quiet (by kernel_rfl) ?_
              | refine IdxN.lit ?_
              | refine draw_go tabOK (by kernel_rfl) ?_
              | refine Need.go ⟨rfl, rfl⟩ ?_
              | refine Need.go ⟨⟨rfl, rfl, rfl⟩, rfl⟩ ?_
              | (with_reducible refine Br.dec (fun h => ?_) (fun h => ?_) <;> first | (exfalso; omega) | skip)
              | (with_reducible refine Br.eqI (fun h => ?_) (fun h => ?_) <;> first | (exfalso; omega) | skip)
              | (with_reducible refine Br.neI (fun h => ?_) (fun h => ?_) <;> first | (exfalso; omega) | skip)
              | (with_reducible refine Br.eqS (fun h => ?_) (fun h => ?_) <;> first | (exfalso; omega) | skip)
              | (with_reducible refine Br.neS (fun h => ?_) (fun h => ?_) <;> first | (exfalso; omega) | skip)
              | (with_reducible refine Br.nd (fun h => ?_) (fun h => ?_) <;> first | (exfalso; omega) | skip)
              | refine Ar.i64 (by omega) (by omega) ?_
              | (refine mas_op t4 mk_id (fun _ _ => rfl) 4 rfl ?_; intro p4 Y4 Z4)
              | (refine call_mem (f := 36) (args := [chS m'.ch (.os 5 m'.ch.mem.length)]) (V := .int .i64 (tailM m'.ch)) ?_ ?_; exact fun ρ w h => tail_any m'.ch _ w (sl_os h (i := 5) rfl) (by omega))
              | (refine quiet_mem (f := 36) (args := [chS m'.ch (.os 5 m'.ch.mem.length)]) (V := .int .i64 (tailM m'.ch)) ?_ ?_; exact fun ρ w h => tail_any m'.ch _ w (sl_os h (i := 5) rfl) (by omega))
              | (refine seg_mem (f := 36) (args := [chS m'.ch (.os 5 m'.ch.mem.length)]) (V := .int .i64 (tailM m'.ch)) ?_ ?_; exact fun ρ w h => tail_any m'.ch _ w (sl_os h (i := 5) rfl) (by omega))
              | refine Need.go (by first | omega | decide | (simp <;> omega) | fail) ?_
              | refine Need.go (by first | (simp [Value.oneCell'] <;> omega) | fail) ?_
              | refine Need.go ⟨rfl, by omega, getD_one rfl rfl⟩ ?_
              | refine Need.go ⟨rfl, by omega, fun _ _ _ _ => rfl⟩ ?_
              | (refine Br.both (fun h => ?_) (fun h => ?_) <;> first | (exfalso; omega) | skip))
          all_goals (conv => whnf)
          all_goals first
            | (exfalso; omega)
            | (exfalso; simp [htl, sureM] at h; done)
            | (exfalso; simp at h; done)
            | (refine ⟨(bb + 1, Z4), by simp only; omega, by simp only; omega, ?_⟩
               dsimp only
               (conv => whnf)
               refine ⟨[some 0, some 1, some 2, some 3, some 4, some 5, some 6], by decide, ?_, ?_⟩
               all_goals repeat' (first | exact congrArg (fun n : Int => SV.v (.int .i64 n)) (by omega) | exact trivial | exact .inl ⟨rfl, rfl⟩ | rfl | exact .inr ⟨_, rfl, rfl, rfl⟩ | exact ⟨_, rfl, trivial⟩ | exact ⟨_, rfl, rfl⟩ | exact ⟨_, rfl, ⟨rfl, rfl, rfl⟩, fun _ _ _ _ => rfl⟩ | exact ⟨_, rfl, ⟨rfl, rfl, .inl rfl⟩, rfl⟩ | exact ⟨_, rfl, ⟨rfl, rfl, .inr rfl⟩, rfl⟩ | exact ⟨_, rfl, ⟨rfl, rfl, rfl, rfl, rfl⟩, rfl⟩ | exact ⟨_, rfl, ⟨rfl, rfl⟩, fun _ => Iff.rfl⟩ | refine ⟨_, rfl, rfl, ?_⟩ | refine ⟨_, rfl, ⟨rfl, rfl, rfl⟩, ?_⟩ | refine And.intro ?_ ?_)
               done)
            | fail
        · rw [if_neg htl] at t4
          repeat' ((conv => whnf); first
              | rw [hb0]
              | rw [Int.add_zero]
              | refine Br.no rfl ?_
              | refine Br.yes rfl ?_
              | refine Br.eeI ?_
              | refine CutN.plain ?_
              | with_reducible refine Br.tt ?_
              | with_reducible refine Br.ff ?_
              | with_reducible refine Br.nt ?_
              | with_reducible refine Br.nf ?_
              | with_reducible refine Br.eeI ?_
              | with_reducible refine Br.nnI ?_
              | refine Br.yes (by decide) ?_
              | refine Br.no (by decide) ?_
              | refine Need.go rfl ?_
              | refine QuiD.quiet (by kernel_rfl) ?_
              | refine IdxN.lit ?_
              | refine draw_go tabOK (by kernel_rfl) ?_
              | refine Need.go ⟨rfl, rfl⟩ ?_
              | refine Need.go ⟨⟨rfl, rfl, rfl⟩, rfl⟩ ?_
              | (with_reducible refine Br.dec (fun h => ?_) (fun h => ?_) <;> first | (exfalso; omega) | skip)
              | (with_reducible refine Br.eqI (fun h => ?_) (fun h => ?_) <;> first | (exfalso; omega) | skip)
              | (with_reducible refine Br.neI (fun h => ?_) (fun h => ?_) <;> first | (exfalso; omega) | skip)
              | (with_reducible refine Br.eqS (fun h => ?_) (fun h => ?_) <;> first | (exfalso; omega) | skip)
              | (with_reducible refine Br.neS (fun h => ?_) (fun h => ?_) <;> first | (exfalso; omega) | skip)
              | (with_reducible refine Br.nd (fun h => ?_) (fun h => ?_) <;> first | (exfalso; omega) | skip)
              | refine Ar.i64 (by omega) (by omega) ?_
              | (refine mas_op t4 mk_id (fun _ _ => rfl) 4 rfl ?_; intro p4 Y4 Z4)
              | (refine call_mem (f := 36) (args := [chS m'.ch (.os 5 m'.ch.mem.length)]) (V := .int .i64 (tailM m'.ch)) ?_ ?_; exact fun ρ w h => tail_any m'.ch _ w (sl_os h (i := 5) rfl) (by omega))
              | (refine quiet_mem (f := 36) (args := [chS m'.ch (.os 5 m'.ch.mem.length)]) (V := .int .i64 (tailM m'.ch)) ?_ ?_; exact fun ρ w h => tail_any m'.ch _ w (sl_os h (i := 5) rfl) (by omega))
              | (refine seg_mem (f := 36) (args := [chS m'.ch (.os 5 m'.ch.mem.length)]) (V := .int .i64 (tailM m'.ch)) ?_ ?_; exact fun ρ w h => tail_any m'.ch _ w (sl_os h (i := 5) rfl) (by omega))
              | refine Need.go (by first | omega | decide | (simp <;> omega) | fail) ?_
              | refine Need.go (by first | (simp [Value.oneCell'] <;> omega) | fail) ?_
              | refine Need.go ⟨rfl, by omega, getD_one rfl rfl⟩ ?_
              | refine Need.go ⟨rfl, by omega, fun _ _ _ _ => rfl⟩ ?_
              | (refine Br.both (fun h => ?_) (fun h => ?_) <;> first | (exfalso; omega) | skip))
          all_goals (conv => whnf)
          all_goals first
            | (exfalso; omega)
            | (exfalso; simp [htl, sureM] at h; done)
            | (exfalso; simp at h; done)
            | (refine ⟨(bb + 1, Z4), by simp only; omega, by simp only; omega, ?_⟩
               dsimp only
               (conv => whnf)
               refine ⟨[some 0, some 1, some 2, some 3, some 4, some 5, some 6], by decide, ?_, ?_⟩
               all_goals repeat' (first | exact congrArg (fun n : Int => SV.v (.int .i64 n)) (by omega) | exact trivial | exact .inl ⟨rfl, rfl⟩ | rfl | exact .inr ⟨_, rfl, rfl, rfl⟩ | exact ⟨_, rfl, trivial⟩ | exact ⟨_, rfl, rfl⟩ | exact ⟨_, rfl, ⟨rfl, rfl, rfl⟩, fun _ _ _ _ => rfl⟩ | exact ⟨_, rfl, ⟨rfl, rfl, .inl rfl⟩, rfl⟩ | exact ⟨_, rfl, ⟨rfl, rfl, .inr rfl⟩, rfl⟩ | exact ⟨_, rfl, ⟨rfl, rfl, rfl, rfl, rfl⟩, rfl⟩ | exact ⟨_, rfl, ⟨rfl, rfl⟩, fun _ => Iff.rfl⟩ | refine ⟨_, rfl, rfl, ?_⟩ | refine ⟨_, rfl, ⟨rfl, rfl, rfl⟩, ?_⟩ | refine And.intro ?_ ?_)
               done)
            | fail
      · have t4 : Spec Try.prog 18 [.p 0 0, .v (.int .i64 kk), frS (frA 9 (m'.ch.epoch + (bb - 1)) (k + 1)) (.v (.slice none 0 0)), .v (.int .i64 0)] (masH m') (outR (takeM m' kk 9 (m'.ch.epoch + (bb - 1)) (k + 1) 0) fun q => q) := masTake m' hmo kk 0 (frA 9 (m'.ch.epoch + (bb - 1)) (k + 1)) none 0 0
        have e9 : takeM m' kk 9 (m'.ch.epoch + (bb - 1)) (k + 1) 0 = ⟨m', [cfgM m'.ch kk], 0⟩ := by
          unfold takeM
          rw [if_neg (by omega), if_neg (by omega), if_neg (by omega), if_pos rfl, if_pos (by omega)]
        rw [e9] at t4
        repeat' ((conv => whnf); first
            | refine Br.no rfl ?_
            | refine Br.yes rfl ?_
            | refine Br.eeI ?_
            | refine CutN.plain ?_
            | with_reducible refine Br.tt ?_
            | with_reducible refine Br.ff ?_
            | with_reducible refine Br.nt ?_
            | with_reducible refine Br.nf ?_
            | with_reducible refine Br.eeI ?_
            | with_reducible refine Br.nnI ?_
            | refine Br.yes (by decide) ?_
            | refine Br.no (by decide) ?_
            | refine Need.go rfl ?_
            | refine QuiD.quiet (by kernel_rfl) ?_
            | refine IdxN.lit ?_
            | refine draw_go tabOK (by kernel_rfl) ?_
            | refine Need.go ⟨rfl, rfl⟩ ?_
            | refine Need.go ⟨⟨rfl, rfl, rfl⟩, rfl⟩ ?_
            | (with_reducible refine Br.dec (fun h => ?_) (fun h => ?_) <;> first | (exfalso; omega) | skip)
            | (with_reducible refine Br.eqI (fun h => ?_) (fun h => ?_) <;> first | (exfalso; omega) | skip)
            | (with_reducible refine Br.neI (fun h => ?_) (fun h => ?_) <;> first | (exfalso; omega) | skip)
            | (with_reducible refine Br.eqS (fun h => ?_) (fun h => ?_) <;> first | (exfalso; omega) | skip)
            | (with_reducible refine Br.neS (fun h => ?_) (fun h => ?_) <;> first | (exfalso; omega) | skip)
            | (with_reducible refine Br.nd (fun h => ?_) (fun h => ?_) <;> first | (exfalso; omega) | skip)
            | refine Ar.i64 (by omega) (by omega) ?_
            | (refine mas_op t4 mk_id (fun _ _ => rfl) 4 rfl ?_; intro p4 Y4 Z4)
            | (refine call_mem (f := 36) (args := [chS m'.ch (.os 5 m'.ch.mem.length)]) (V := .int .i64 (tailM m'.ch)) ?_ ?_; exact fun ρ w h => tail_any m'.ch _ w (sl_os h (i := 5) rfl) (by omega))
            | (refine quiet_mem (f := 36) (args := [chS m'.ch (.os 5 m'.ch.mem.length)]) (V := .int .i64 (tailM m'.ch)) ?_ ?_; exact fun ρ w h => tail_any m'.ch _ w (sl_os h (i := 5) rfl) (by omega))
            | (refine seg_mem (f := 36) (args := [chS m'.ch (.os 5 m'.ch.mem.length)]) (V := .int .i64 (tailM m'.ch)) ?_ ?_; exact fun ρ w h => tail_any m'.ch _ w (sl_os h (i := 5) rfl) (by omega))
            | refine Need.go (by first | omega | decide | (simp <;> omega) | fail) ?_
            | refine Need.go (by first | (simp [Value.oneCell'] <;> omega) | fail) ?_
            | refine Need.go ⟨rfl, by omega, getD_one rfl rfl⟩ ?_
            | refine Need.go ⟨rfl, by omega, fun _ _ _ _ => rfl⟩ ?_
            | (refine Br.both (fun h => ?_) (fun h => ?_) <;> first | (exfalso; omega) | skip))
        all_goals (conv => whnf)
        all_goals first
          | (exfalso; omega)
          | (exfalso; simp [htl, sureM] at h; done)
          | (exfalso; simp at h; done)
          | (refine ⟨(bb + 1, Z4), by simp only; omega, by simp only; omega, ?_⟩
             dsimp only
             (conv => whnf)
             refine ⟨[some 0, some 1, some 2, some 3, some 4, some 5, some 6], by decide, ?_, ?_⟩
             all_goals repeat' (first | exact congrArg (fun n : Int => SV.v (.int .i64 n)) (by omega) | exact trivial | exact .inl ⟨rfl, rfl⟩ | rfl | exact .inr ⟨_, rfl, rfl, rfl⟩ | exact ⟨_, rfl, trivial⟩ | exact ⟨_, rfl, rfl⟩ | exact ⟨_, rfl, ⟨rfl, rfl, rfl⟩, fun _ _ _ _ => rfl⟩ | exact ⟨_, rfl, ⟨rfl, rfl, .inl rfl⟩, rfl⟩ | exact ⟨_, rfl, ⟨rfl, rfl, .inr rfl⟩, rfl⟩ | exact ⟨_, rfl, ⟨rfl, rfl, rfl, rfl, rfl⟩, rfl⟩ | exact ⟨_, rfl, ⟨rfl, rfl⟩, fun _ => Iff.rfl⟩ | refine ⟨_, rfl, rfl, ?_⟩ | refine ⟨_, rfl, ⟨rfl, rfl, rfl⟩, ?_⟩ | refine And.intro ?_ ?_)
             done)
          | fail
    · repeat' ((conv => whnf); first
        | refine CutN.plain ?_
        | with_reducible refine Br.tt ?_
        | with_reducible refine Br.ff ?_
        | with_reducible refine Br.nt ?_
        | with_reducible refine Br.nf ?_
        | with_reducible refine Br.eeI ?_
        | with_reducible refine Br.nnI ?_
        | refine Br.yes (by decide) ?_
        | refine Br.no (by decide) ?_
        | refine Need.go rfl ?_
        | refine QuiD.quiet (by kernel_rfl) ?_
        | refine IdxN.lit ?_
        | refine draw_go tabOK (by kernel_rfl) ?_
        | refine Need.go ⟨rfl, rfl⟩ ?_
        | refine Need.go ⟨⟨rfl, rfl, rfl⟩, rfl⟩ ?_
        | (with_reducible refine Br.dec (fun h => ?_) (fun h => ?_) <;> first | (exfalso; omega) | skip)
        | (with_reducible refine Br.eqI (fun h => ?_) (fun h => ?_) <;> first | (exfalso; omega) | skip)
        | (with_reducible refine Br.neI (fun h => ?_) (fun h => ?_) <;> first | (exfalso; omega) | skip)
        | (with_reducible refine Br.eqS (fun h => ?_) (fun h => ?_) <;> first | (exfalso; omega) | skip)
        | (with_reducible refine Br.neS (fun h => ?_) (fun h => ?_) <;> first | (exfalso; omega) | skip)
        | (with_reducible refine Br.nd (fun h => ?_) (fun h => ?_) <;> first | (exfalso; omega) | skip)
        | refine Ar.i64 (by omega) (by omega) ?_
        | refine Need.go (by first | omega | decide | (simp <;> omega) | fail) ?_
        | refine Need.go (by first | (simp [Value.oneCell'] <;> omega) | fail) ?_
        | refine Need.go ⟨rfl, by omega, getD_one rfl rfl⟩ ?_
        | refine Need.go ⟨rfl, by omega, fun _ _ _ _ => rfl⟩ ?_
        | (refine Br.both (fun h => ?_) (fun h => ?_) <;> first | (exfalso; omega) | skip))
      all_goals (conv => whnf)
      refine ⟨(kk + 1, Z3), by simp only; omega, by simp only; omega, ?_⟩
      dsimp only
      (conv => whnf)
      refine ⟨[some 0, some 1, some 2, some 3, some 4, some 5, some 6], by decide, ?_, ?_⟩
      all_goals repeat' (first | exact trivial | exact .inl ⟨rfl, rfl⟩ | rfl | exact .inr ⟨_, rfl, rfl, rfl⟩ | exact ⟨_, rfl, trivial⟩ | exact ⟨_, rfl, rfl⟩ | exact ⟨_, rfl, ⟨rfl, rfl, rfl⟩, fun _ _ _ _ => rfl⟩ | exact ⟨_, rfl, ⟨rfl, rfl, .inl rfl⟩, rfl⟩ | exact ⟨_, rfl, ⟨rfl, rfl, .inr rfl⟩, rfl⟩ | exact ⟨_, rfl, ⟨rfl, rfl, rfl, rfl, rfl⟩, rfl⟩ | exact ⟨_, rfl, ⟨rfl, rfl⟩, fun _ => Iff.rfl⟩ | refine ⟨_, rfl, rfl, ?_⟩ | refine ⟨_, rfl, ⟨rfl, rfl, rfl⟩, ?_⟩ | refine And.intro ?_ ?_)
  · have t5 : Spec Try.prog 18 [.p 0 0, .v (.int .i64 40), frS (frA 7 0 0) (.v (.slice none 0 0)), .v (.int .i64 0)] (masH m') (outR ⟨m', [cfgM m'.ch 40], 0⟩ fun q => q) := masTake m' hmo 40 0 (frA 7 0 0) none 0 0
    repeat' ((conv => whnf); first
        | refine Br.no rfl ?_
        | refine Br.yes rfl ?_
        | refine QuiD.draw (draw_go tabOK (by kernel_rfl) ?_)
        | refine CutN.plain ?_
        | with_reducible refine Br.tt ?_
        | with_reducible refine Br.ff ?_
        | with_reducible refine Br.nt ?_
        | with_reducible refine Br.nf ?_
        | with_reducible refine Br.eeI ?_
        | with_reducible refine Br.nnI ?_
        | refine Br.yes (by decide) ?_
        | refine Br.no (by decide) ?_
        | refine Need.go rfl ?_
        | refine QuiD.quiet (by kernel_rfl) ?_
        | refine IdxN.lit ?_
        | refine draw_go tabOK (by kernel_rfl) ?_
        | refine Need.go ⟨rfl, rfl⟩ ?_
        | refine Need.go ⟨⟨rfl, rfl, rfl⟩, rfl⟩ ?_
        | (with_reducible refine Br.dec (fun h => ?_) (fun h => ?_) <;> first | (exfalso; omega) | skip)
        | (with_reducible refine Br.eqI (fun h => ?_) (fun h => ?_) <;> first | (exfalso; omega) | skip)
        | (with_reducible refine Br.neI (fun h => ?_) (fun h => ?_) <;> first | (exfalso; omega) | skip)
        | (with_reducible refine Br.eqS (fun h => ?_) (fun h => ?_) <;> first | (exfalso; omega) | skip)
        | (with_reducible refine Br.neS (fun h => ?_) (fun h => ?_) <;> first | (exfalso; omega) | skip)
        | (with_reducible refine Br.nd (fun h => ?_) (fun h => ?_) <;> first | (exfalso; omega) | skip)
        | refine Ar.i64 (by omega) (by omega) ?_
        | (refine mas_op t5 mk_id (fun _ _ => rfl) 4 rfl ?_; intro p4 Y4 Z4)
        | refine mas_chain_s m' hmo 4 rfl ?_
        | (refine call_mem (f := 37) (args := [chS m'.ch (.v (p4 0)), chS m'.ch (.os 5 m'.ch.mem.length)]) (V := .bool true) ?_ ?_; exact fun ρ w h => (by have := sameCh19_any m'.ch m'.ch _ _ w (res_at h (i := 8) rfl 0 (by simp)) (sl_os h (i := 5) rfl) (by omega); rwa [sameCh_self] at this))
        | (refine quiet_mem (f := 37) (args := [chS m'.ch (.v (p4 0)), chS m'.ch (.os 5 m'.ch.mem.length)]) (V := .bool true) ?_ ?_; exact fun ρ w h => (by have := sameCh19_any m'.ch m'.ch _ _ w (res_at h (i := 8) rfl 0 (by simp)) (sl_os h (i := 5) rfl) (by omega); rwa [sameCh_self] at this))
        | (refine seg_mem (f := 37) (args := [chS m'.ch (.v (p4 0)), chS m'.ch (.os 5 m'.ch.mem.length)]) (V := .bool true) ?_ ?_; exact fun ρ w h => (by have := sameCh19_any m'.ch m'.ch _ _ w (res_at h (i := 8) rfl 0 (by simp)) (sl_os h (i := 5) rfl) (by omega); rwa [sameCh_self] at this))
        | (refine call_mem (f := 37) (args := [chS m'.ch (.os 9 m'.ch.mem.length), chS m'.ch (.os 5 m'.ch.mem.length)]) (V := .bool true) ?_ ?_; exact fun ρ w h => (by have := sameCh19_any m'.ch m'.ch _ _ w (sl_os h (i := 9) rfl) (sl_os h (i := 5) rfl) (by omega); rwa [sameCh_self] at this))
        | (refine quiet_mem (f := 37) (args := [chS m'.ch (.os 9 m'.ch.mem.length), chS m'.ch (.os 5 m'.ch.mem.length)]) (V := .bool true) ?_ ?_; exact fun ρ w h => (by have := sameCh19_any m'.ch m'.ch _ _ w (sl_os h (i := 9) rfl) (sl_os h (i := 5) rfl) (by omega); rwa [sameCh_self] at this))
        | (refine seg_mem (f := 37) (args := [chS m'.ch (.os 9 m'.ch.mem.length), chS m'.ch (.os 5 m'.ch.mem.length)]) (V := .bool true) ?_ ?_; exact fun ρ w h => (by have := sameCh19_any m'.ch m'.ch _ _ w (sl_os h (i := 9) rfl) (sl_os h (i := 5) rfl) (by omega); rwa [sameCh_self] at this))
        | refine Need.go (by first | omega | decide | (simp <;> omega) | fail) ?_
        | refine Need.go (by first | (simp [Value.oneCell'] <;> omega) | fail) ?_
        | refine Need.go ⟨rfl, by omega, getD_one rfl rfl⟩ ?_
        | refine Need.go ⟨rfl, by omega, fun _ _ _ _ => rfl⟩ ?_
        | (refine Br.both (fun h => ?_) (fun h => ?_) <;> first | (exfalso; omega) | skip))
    all_goals (conv => whnf)
    refine ⟨(k + 1, m', Z4), ⟨by simp only; omega, hst.mono (by omega)⟩, by simp only; omega, ?_⟩
    dsimp only
    (conv => whnf)
    refine ⟨[some 0, some 1, some 2, some 3, some 4], by decide, ?_, ?_⟩
    all_goals repeat' (first | exact trivial | exact .inl ⟨rfl, rfl⟩ | rfl | exact .inr ⟨_, rfl, rfl, rfl⟩ | exact ⟨_, rfl, trivial⟩ | exact ⟨_, rfl, rfl⟩ | exact ⟨_, rfl, ⟨rfl, rfl, rfl⟩, fun _ _ _ _ => rfl⟩ | exact ⟨_, rfl, ⟨rfl, rfl, .inl rfl⟩, rfl⟩ | exact ⟨_, rfl, ⟨rfl, rfl, .inr rfl⟩, rfl⟩ | exact ⟨_, rfl, ⟨rfl, rfl, rfl, rfl, rfl⟩, rfl⟩ | exact ⟨_, rfl, ⟨rfl, rfl⟩, fun _ => Iff.rfl⟩ | refine ⟨_, rfl, rfl, ?_⟩ | refine ⟨_, rfl, ⟨rfl, rfl, rfl⟩, ?_⟩ | refine And.intro ?_ ?_)
end Go.Proofs.Ytghfigeepnbjaaa.lawMasterSure
