/-
  MasterDrains: the walk. No condition.
-/
import Derived.Test.YtghfigeepnbjaaaMasF
namespace Go.Proofs.Ytghfigeepnbjaaa.lawMasterDrains
open Go.Proofs.Ytghfigeepnbjaaa Go.RowKit
set_option maxRecDepth 100000 in
set_option maxHeartbeats 40000000 in
theorem core (c : CfgM) (l : List ActMM) (p q : Value) (w : World) (hp : SliceV w p 1 c.quanta.length (intsF c.quanta)) (hq : SliceV w q 33 l.length (actMF l)) (hk : ∀ x ∈ l, x.wf w) :
    Calls Try.prog 8 #[cfgV c p, q] w fun e w' => e = .returned (.bool true) ∧ w.grownBy w' none := by
  obtain ⟨a, cap, rfl, h1, h2, hr⟩ := hp
  obtain ⟨a2, cap2, rfl, h3, h4, hr2⟩ := hq
  refine x_calls tabOK Try.func8 rfl [cfgS c (.rs 0 c.quanta.length cap), .rs 1 l.length cap2] _ _ rfl rfl (relR2 hr hr2) ?_
  by_cases hok : okActsM l 40
  case neg =>
    repeat' ((conv => whnf); first
        | refine CutN.plain ?_
        | with_reducible refine Br.tt ?_
        | with_reducible refine Br.ff ?_
        | with_reducible refine Br.nt ?_
        | with_reducible refine Br.nf ?_
        | with_reducible refine Br.eeI ?_
        | with_reducible refine Br.nnI ?_
        | refine Br.yes (by decide) ?_
        | refine Br.no (by decide) ?_
        | refine Need.go rfl ?_
        | refine QuiD.quiet (by kernel_rfl) ?_
        | refine IdxN.lit ?_
        | refine draw_go tabOK (by kernel_rfl) ?_
        | refine Need.go ⟨rfl, rfl⟩ ?_
        | refine Need.go ⟨⟨rfl, rfl, rfl⟩, rfl⟩ ?_
        | (with_reducible refine Br.dec (fun h => ?_) (fun h => ?_) <;> first | (exfalso; omega) | skip)
        | (with_reducible refine Br.eqI (fun h => ?_) (fun h => ?_) <;> first | (exfalso; omega) | skip)
        | (with_reducible refine Br.neI (fun h => ?_) (fun h => ?_) <;> first | (exfalso; omega) | skip)
        | (with_reducible refine Br.eqS (fun h => ?_) (fun h => ?_) <;> first | (exfalso; omega) | skip)
        | (with_reducible refine Br.neS (fun h => ?_) (fun h => ?_) <;> first | (exfalso; omega) | skip)
        | (with_reducible refine Br.nd (fun h => ?_) (fun h => ?_) <;> first | (exfalso; omega) | skip)
        | refine Ar.i64 (by omega) (by omega) ?_
        | (refine call_mem (f := 14) (args := [.rs 1 l.length cap2, .v (.int .i64 40)]) (V := .bool true) ?_ ?_; exact fun ρ w h => greatM_no l _ 40 w (sl_rs h (i := 1) rfl (Nat.le_refl _) h3 h4) hok)
        | (refine quiet_mem (f := 14) (args := [.rs 1 l.length cap2, .v (.int .i64 40)]) (V := .bool true) ?_ ?_; exact fun ρ w h => greatM_no l _ 40 w (sl_rs h (i := 1) rfl (Nat.le_refl _) h3 h4) hok)
        | (refine seg_mem (f := 14) (args := [.rs 1 l.length cap2, .v (.int .i64 40)]) (V := .bool true) ?_ ?_; exact fun ρ w h => greatM_no l _ 40 w (sl_rs h (i := 1) rfl (Nat.le_refl _) h3 h4) hok)
        | (refine call_mem (f := 15) (args := []) (V := .bool true) ?_ ?_; exact fun ρ w h => chained_any w)
        | (refine quiet_mem (f := 15) (args := []) (V := .bool true) ?_ ?_; exact fun ρ w h => chained_any w)
        | (refine seg_mem (f := 15) (args := []) (V := .bool true) ?_ ?_; exact fun ρ w h => chained_any w)
        | refine Need.go (by first | omega | decide | (simp <;> omega) | fail) ?_
        | refine Need.go (by first | (simp [Value.oneCell'] <;> omega) | fail) ?_
        | refine Need.go ⟨rfl, by omega, getD_one rfl rfl⟩ ?_
        | refine Need.go ⟨rfl, by omega, fun _ _ _ _ => rfl⟩ ?_
        | (refine Br.both (fun h => ?_) (fun h => ?_) <;> first | (exfalso; omega) | skip))
    all_goals (conv => whnf)
    all_goals exact ret_pure (fun _ => rfl)
  obtain ⟨d, hd⟩ : ∃ d, fitM c = d := ⟨_, rfl⟩
  have hdo : okM d = true := by rw [← hd]; exact fit_ok c
  have hdn := okM_nodes hdo
  have hdq : d.quanta.length ≤ 4 := by
    unfold okM preB at hdo
    simp only [Bool.and_eq_true, winB, decide_eq_true_eq] at hdo
    omega
  have hl40 := hok.2
  repeat' ((conv => whnf); first
      | refine CutN.plain ?_
      | with_reducible refine Br.tt ?_
      | with_reducible refine Br.ff ?_
      | with_reducible refine Br.nt ?_
      | with_reducible refine Br.nf ?_
      | with_reducible refine Br.eeI ?_
      | with_reducible refine Br.nnI ?_
      | refine Br.yes (by decide) ?_
      | refine Br.no (by decide) ?_
      | refine Need.go rfl ?_
      | refine QuiD.quiet (by kernel_rfl) ?_
      | refine IdxN.lit ?_
      | refine draw_go tabOK (by kernel_rfl) ?_
      | refine Need.go ⟨rfl, rfl⟩ ?_
      | refine Need.go ⟨⟨rfl, rfl, rfl⟩, rfl⟩ ?_
      | (with_reducible refine Br.dec (fun h => ?_) (fun h => ?_) <;> first | (exfalso; omega) | skip)
      | (with_reducible refine Br.eqI (fun h => ?_) (fun h => ?_) <;> first | (exfalso; omega) | skip)
      | (with_reducible refine Br.neI (fun h => ?_) (fun h => ?_) <;> first | (exfalso; omega) | skip)
      | (with_reducible refine Br.eqS (fun h => ?_) (fun h => ?_) <;> first | (exfalso; omega) | skip)
      | (with_reducible refine Br.neS (fun h => ?_) (fun h => ?_) <;> first | (exfalso; omega) | skip)
      | (with_reducible refine Br.nd (fun h => ?_) (fun h => ?_) <;> first | (exfalso; omega) | skip)
      | refine Ar.i64 (by omega) (by omega) ?_
      | (refine call_mem (f := 14) (args := [.rs 1 l.length cap2, .v (.int .i64 40)]) (V := .bool false) ?_ ?_; exact fun ρ w h => greatM_yes l _ 40 w (sl_rs h (i := 1) rfl (Nat.le_refl _) h3 h4) hok)
      | (refine quiet_mem (f := 14) (args := [.rs 1 l.length cap2, .v (.int .i64 40)]) (V := .bool false) ?_ ?_; exact fun ρ w h => greatM_yes l _ 40 w (sl_rs h (i := 1) rfl (Nat.le_refl _) h3 h4) hok)
      | (refine seg_mem (f := 14) (args := [.rs 1 l.length cap2, .v (.int .i64 40)]) (V := .bool false) ?_ ?_; exact fun ρ w h => greatM_yes l _ 40 w (sl_rs h (i := 1) rfl (Nat.le_refl _) h3 h4) hok)
      | (refine call_mem (f := 15) (args := []) (V := .bool true) ?_ ?_; exact fun ρ w h => chained_any w)
      | (refine quiet_mem (f := 15) (args := []) (V := .bool true) ?_ ?_; exact fun ρ w h => chained_any w)
      | (refine seg_mem (f := 15) (args := []) (V := .bool true) ?_ ?_; exact fun ρ w h => chained_any w)
      | (refine rfit_n c d hd (.rs 0 c.quanta.length cap) ?_ ?_; exact fun ρ w h => sl_rs h (i := 0) rfl (Nat.le_refl _) h1 h2)
      | (refine mas_new d (.os 3 d.quanta.length) (fun ρ w h => sl_os h (i := 3) rfl) hdo (by omega) ?_; intro b Z0)
      | refine Need.go (by first | omega | decide | (simp <;> omega) | fail) ?_
      | refine Need.go (by first | (simp [Value.oneCell'] <;> omega) | fail) ?_
      | refine Need.go ⟨rfl, by omega, getD_one rfl rfl⟩ ?_
      | refine Need.go ⟨rfl, by omega, fun _ _ _ _ => rfl⟩ ?_
      | (refine Br.both (fun h => ?_) (fun h => ?_) <;> first | (exfalso; omega) | skip))
  all_goals (conv => whnf)
  all_goals try exact ret_pure (fun _ => rfl)
  refine loop_up 35 (fun x : Nat × MasM × (Nat → Prop) => x.1 ≤ l.length ∧ MasSt d (1 + 12 * x.1) x.2.1) (fun x => l.length - x.1) (fun x => [(7, .v (.int .i64 x.1)), (8, .junk), (9, .junk), (10, .junk), (11, .junk), (12, .junk), (13, .junk), (14, .junk), (15, .junk), (16, .junk)])
    (fun x => [(4, .ent (.res true x.2.2 (MasQ b x.2.1 x.2.2)))]) (fun _ => []) (0, newMas d, Z0) ⟨Nat.zero_le _, newMas_st hdo⟩ (by
    (conv => whnf)
    refine ⟨[some 0, some 1, some 2, some 3, some 4], by decide, ?_, ?_⟩
    all_goals repeat' (first | exact trivial | exact .inl ⟨rfl, rfl⟩ | rfl | exact .inr ⟨_, rfl, rfl, rfl⟩ | exact ⟨_, rfl, trivial⟩ | exact ⟨_, rfl, rfl⟩ | exact ⟨_, rfl, ⟨rfl, rfl, rfl⟩, fun _ _ _ _ => rfl⟩ | exact ⟨_, rfl, ⟨rfl, rfl, .inl rfl⟩, rfl⟩ | exact ⟨_, rfl, ⟨rfl, rfl, .inr rfl⟩, rfl⟩ | exact ⟨_, rfl, ⟨rfl, rfl, rfl, rfl, rfl⟩, rfl⟩ | exact ⟨_, rfl, ⟨rfl, rfl⟩, fun _ => Iff.rfl⟩ | refine ⟨_, rfl, rfl, ?_⟩ | refine ⟨_, rfl, ⟨rfl, rfl, rfl⟩, ?_⟩ | refine And.intro ?_ ?_)) (fun x hx => ?_)
  obtain ⟨k, m, Z⟩ := x
  obtain ⟨hkl, hst⟩ := hx
  simp only at hkl hst
  dsimp only
  by_cases hlt : k < l.length
  case neg =>
    repeat' ((conv => whnf); first
        | refine CutN.plain ?_
        | with_reducible refine Br.tt ?_
        | with_reducible refine Br.ff ?_
        | with_reducible refine Br.nt ?_
        | with_reducible refine Br.nf ?_
        | with_reducible refine Br.eeI ?_
        | with_reducible refine Br.nnI ?_
        | refine Br.yes (by decide) ?_
        | refine Br.no (by decide) ?_
        | refine Need.go rfl ?_
        | refine QuiD.quiet (by kernel_rfl) ?_
        | refine IdxN.lit ?_
        | refine draw_go tabOK (by kernel_rfl) ?_
        | refine Need.go ⟨rfl, rfl⟩ ?_
        | refine Need.go ⟨⟨rfl, rfl, rfl⟩, rfl⟩ ?_
        | (with_reducible refine Br.dec (fun h => ?_) (fun h => ?_) <;> first | (exfalso; omega) | skip)
        | (with_reducible refine Br.eqI (fun h => ?_) (fun h => ?_) <;> first | (exfalso; omega) | skip)
        | (with_reducible refine Br.neI (fun h => ?_) (fun h => ?_) <;> first | (exfalso; omega) | skip)
        | (with_reducible refine Br.eqS (fun h => ?_) (fun h => ?_) <;> first | (exfalso; omega) | skip)
        | (with_reducible refine Br.neS (fun h => ?_) (fun h => ?_) <;> first | (exfalso; omega) | skip)
        | (with_reducible refine Br.nd (fun h => ?_) (fun h => ?_) <;> first | (exfalso; omega) | skip)
        | refine Ar.i64 (by omega) (by omega) ?_
        | (refine call_mem (f := 15) (args := []) (V := .bool true) ?_ ?_; exact fun ρ w h => chained_any w)
        | (refine quiet_mem (f := 15) (args := []) (V := .bool true) ?_ ?_; exact fun ρ w h => chained_any w)
        | (refine seg_mem (f := 15) (args := []) (V := .bool true) ?_ ?_; exact fun ρ w h => chained_any w)
        | refine Need.go (by first | omega | decide | (simp <;> omega) | fail) ?_
        | refine Need.go (by first | (simp [Value.oneCell'] <;> omega) | fail) ?_
        | refine Need.go ⟨rfl, by omega, getD_one rfl rfl⟩ ?_
        | refine Need.go ⟨rfl, by omega, fun _ _ _ _ => rfl⟩ ?_
        | (refine Br.both (fun h => ?_) (fun h => ?_) <;> first | (exfalso; omega) | skip))
    all_goals (conv => whnf)
    exact ret_pure (fun _ => rfl)
  obtain ⟨y, hy⟩ : ∃ y, l.getD (Int.toNat (k : Int)) actMZ = y := ⟨_, rfl⟩
  have hyw : y.wf w := hy ▸ ActMM.wf_at hk hlt
  have hya := hyw.a
  have hyb := hyw.b
  have hyk := hyw.kind
  have hmo := hst.ok
  have hn0 : 0 ≤ y.a % d.nodes ∧ y.a % d.nodes < d.nodes := ⟨Int.emod_nonneg _ (by omega), Int.emod_lt_of_pos _ (by omega)⟩
  have t0 := masJoin m hmo (y.a % d.nodes) 0
  have t1 := masDrain m hmo (y.a % d.nodes)
  have t2 := masTake m hmo (y.a % d.nodes) 0 (frA 11 m.ch.epoch 1) none 0 0
  repeat' ((conv => whnf); first
      | rw [hy]
      | (refine cut_up 2 35 (fun x : MasM × (Nat → Prop) => MasSt d (1 + 12 * k + 1) x.1) (fun _ => []) (fun x => [(4, .ent (.res true x.2 (MasQ b x.1 x.2)))]) (fun _ => []) ?_ ?_)
      | refine CutN.plain ?_
      | with_reducible refine Br.tt ?_
      | with_reducible refine Br.ff ?_
      | with_reducible refine Br.nt ?_
      | with_reducible refine Br.nf ?_
      | with_reducible refine Br.eeI ?_
      | with_reducible refine Br.nnI ?_
      | refine Br.yes (by decide) ?_
      | refine Br.no (by decide) ?_
      | refine Need.go rfl ?_
      | refine QuiD.quiet (by kernel_rfl) ?_
      | refine IdxN.lit ?_
      | refine draw_go tabOK (by kernel_rfl) ?_
      | refine Need.go ⟨rfl, rfl⟩ ?_
      | refine Need.go ⟨⟨rfl, rfl, rfl⟩, rfl⟩ ?_
      | (with_reducible refine Br.dec (fun h => ?_) (fun h => ?_) <;> first | (exfalso; omega) | skip)
      | (with_reducible refine Br.eqI (fun h => ?_) (fun h => ?_) <;> first | (exfalso; omega) | skip)
      | (with_reducible refine Br.neI (fun h => ?_) (fun h => ?_) <;> first | (exfalso; omega) | skip)
      | (with_reducible refine Br.eqS (fun h => ?_) (fun h => ?_) <;> first | (exfalso; omega) | skip)
      | (with_reducible refine Br.neS (fun h => ?_) (fun h => ?_) <;> first | (exfalso; omega) | skip)
      | (with_reducible refine Br.nd (fun h => ?_) (fun h => ?_) <;> first | (exfalso; omega) | skip)
      | refine Ar.i64 (by omega) (by omega) ?_
      | (refine mas_op t0 (mk_pair _) (fun _ _ => rfl) 4 rfl ?_; intro p1 Y1 ZJ)
      | (refine mas_op t1 (mk_pair _) (fun _ _ => rfl) 4 rfl ?_; intro p1 Y1 ZD)
      | (refine mas_op t2 mk_id (fun _ _ => rfl) 4 rfl ?_; intro p1 Y1 ZT)
      | refine mas_chain m hmo 4 rfl ?_
      | refine Need.go (by first | omega | decide | (simp <;> omega) | fail) ?_
      | refine Need.go (by first | (simp [Value.oneCell'] <;> omega) | fail) ?_
      | refine Need.go ⟨rfl, by omega, getD_one rfl rfl⟩ ?_
      | refine Need.go ⟨rfl, by omega, fun _ _ _ _ => rfl⟩ ?_
      | (refine Br.both (fun h => ?_) (fun h => ?_) <;> first | (exfalso; omega) | skip))
  rotate_left
  all_goals (conv => whnf)
  any_goals first
    | (refine ⟨((joinMM m (y.a % d.nodes) 0).m, ZJ), join_st hst _ _, ?_⟩
       dsimp only
       (conv => whnf)
       refine ⟨[some 0, some 1, some 2, some 3, some 4], by decide, ?_, ?_⟩
       all_goals repeat' (first | exact trivial | exact .inl ⟨rfl, rfl⟩ | rfl | exact .inr ⟨_, rfl, rfl, rfl⟩ | exact ⟨_, rfl, trivial⟩ | exact ⟨_, rfl, rfl⟩ | exact ⟨_, rfl, ⟨rfl, rfl, rfl⟩, fun _ _ _ _ => rfl⟩ | exact ⟨_, rfl, ⟨rfl, rfl, .inl rfl⟩, rfl⟩ | exact ⟨_, rfl, ⟨rfl, rfl, .inr rfl⟩, rfl⟩ | exact ⟨_, rfl, ⟨rfl, rfl, rfl, rfl, rfl⟩, rfl⟩ | exact ⟨_, rfl, ⟨rfl, rfl⟩, fun _ => Iff.rfl⟩ | refine ⟨_, rfl, rfl, ?_⟩ | refine ⟨_, rfl, ⟨rfl, rfl, rfl⟩, ?_⟩ | refine And.intro ?_ ?_)
       done)
    | (refine ⟨((drainMM m (y.a % d.nodes)).m, ZD), drain_st hst _, ?_⟩
       dsimp only
       (conv => whnf)
       refine ⟨[some 0, some 1, some 2, some 3, some 4], by decide, ?_, ?_⟩
       all_goals repeat' (first | exact trivial | exact .inl ⟨rfl, rfl⟩ | rfl | exact .inr ⟨_, rfl, rfl, rfl⟩ | exact ⟨_, rfl, trivial⟩ | exact ⟨_, rfl, rfl⟩ | exact ⟨_, rfl, ⟨rfl, rfl, rfl⟩, fun _ _ _ _ => rfl⟩ | exact ⟨_, rfl, ⟨rfl, rfl, .inl rfl⟩, rfl⟩ | exact ⟨_, rfl, ⟨rfl, rfl, .inr rfl⟩, rfl⟩ | exact ⟨_, rfl, ⟨rfl, rfl, rfl, rfl, rfl⟩, rfl⟩ | exact ⟨_, rfl, ⟨rfl, rfl⟩, fun _ => Iff.rfl⟩ | refine ⟨_, rfl, rfl, ?_⟩ | refine ⟨_, rfl, ⟨rfl, rfl, rfl⟩, ?_⟩ | refine And.intro ?_ ?_)
       done)
    | (refine ⟨((takeM m (y.a % d.nodes) 11 m.ch.epoch 1 0).m, ZT), take_st hst _ _ _ _ _, ?_⟩
       dsimp only
       (conv => whnf)
       refine ⟨[some 0, some 1, some 2, some 3, some 4], by decide, ?_, ?_⟩
       all_goals repeat' (first | exact trivial | exact .inl ⟨rfl, rfl⟩ | rfl | exact .inr ⟨_, rfl, rfl, rfl⟩ | exact ⟨_, rfl, trivial⟩ | exact ⟨_, rfl, rfl⟩ | exact ⟨_, rfl, ⟨rfl, rfl, rfl⟩, fun _ _ _ _ => rfl⟩ | exact ⟨_, rfl, ⟨rfl, rfl, .inl rfl⟩, rfl⟩ | exact ⟨_, rfl, ⟨rfl, rfl, .inr rfl⟩, rfl⟩ | exact ⟨_, rfl, ⟨rfl, rfl, rfl, rfl, rfl⟩, rfl⟩ | exact ⟨_, rfl, ⟨rfl, rfl⟩, fun _ => Iff.rfl⟩ | refine ⟨_, rfl, rfl, ?_⟩ | refine ⟨_, rfl, ⟨rfl, rfl, rfl⟩, ?_⟩ | refine And.intro ?_ ?_)
       done)
    | (refine ⟨(m, Z), hst.mono (by omega), ?_⟩
       dsimp only
       (conv => whnf)
       refine ⟨[some 0, some 1, some 2, some 3, some 4], by decide, ?_, ?_⟩
       all_goals repeat' (first | exact trivial | exact .inl ⟨rfl, rfl⟩ | rfl | exact .inr ⟨_, rfl, rfl, rfl⟩ | exact ⟨_, rfl, trivial⟩ | exact ⟨_, rfl, rfl⟩ | exact ⟨_, rfl, ⟨rfl, rfl, rfl⟩, fun _ _ _ _ => rfl⟩ | exact ⟨_, rfl, ⟨rfl, rfl, .inl rfl⟩, rfl⟩ | exact ⟨_, rfl, ⟨rfl, rfl, .inr rfl⟩, rfl⟩ | exact ⟨_, rfl, ⟨rfl, rfl, rfl, rfl, rfl⟩, rfl⟩ | exact ⟨_, rfl, ⟨rfl, rfl⟩, fun _ => Iff.rfl⟩ | refine ⟨_, rfl, rfl, ?_⟩ | refine ⟨_, rfl, ⟨rfl, rfl, rfl⟩, ?_⟩ | refine And.intro ?_ ?_)
       done)
    | fail
  clear t0 t1 t2 hst hmo
  intro x hst
  obtain ⟨m', Z'⟩ := x
  simp only at hst
  dsimp only
  have hmo := hst.ok
  have hme := hst.ep
  have hml := okCh_len hmo.ch
  have hmn := hst.nodes
  obtain ⟨n, hn⟩ : ∃ n, y.a % d.nodes = n := ⟨_, rfl⟩
  obtain ⟨v, hv⟩ : ∃ v, y.b % 3 - 1 = v := ⟨_, rfl⟩
  have hv1 : -1 ≤ v ∧ v ≤ 1 := by omega
  rw [hn] at hn0
  have t4 := masTake m' hmo n 0 (frA 12 (m'.ch.epoch + v) 0) none 0 0
  have t4 : Spec Try.prog 18 [.p 0 0, .v (.int .i64 n), frS (frA 12 (m'.ch.epoch + v) 0) (.v (.slice none 0 0)), .v (.int .i64 0)] (masH m') (outR (takeM m' n 12 (m'.ch.epoch + v) 0 0) fun q => q) := t4
  repeat' ((conv => whnf); first
      | rw [hn, hv]
      | refine CutN.plain ?_
      | with_reducible refine Br.tt ?_
      | with_reducible refine Br.ff ?_
      | with_reducible refine Br.nt ?_
      | with_reducible refine Br.nf ?_
      | with_reducible refine Br.eeI ?_
      | with_reducible refine Br.nnI ?_
      | refine Br.yes (by decide) ?_
      | refine Br.no (by decide) ?_
      | refine Need.go rfl ?_
      | refine QuiD.quiet (by kernel_rfl) ?_
      | refine IdxN.lit ?_
      | refine draw_go tabOK (by kernel_rfl) ?_
      | refine Need.go ⟨rfl, rfl⟩ ?_
      | refine Need.go ⟨⟨rfl, rfl, rfl⟩, rfl⟩ ?_
      | (with_reducible refine Br.dec (fun h => ?_) (fun h => ?_) <;> first | (exfalso; omega) | skip)
      | (with_reducible refine Br.eqI (fun h => ?_) (fun h => ?_) <;> first | (exfalso; omega) | skip)
      | (with_reducible refine Br.neI (fun h => ?_) (fun h => ?_) <;> first | (exfalso; omega) | skip)
      | (with_reducible refine Br.eqS (fun h => ?_) (fun h => ?_) <;> first | (exfalso; omega) | skip)
      | (with_reducible refine Br.neS (fun h => ?_) (fun h => ?_) <;> first | (exfalso; omega) | skip)
      | (with_reducible refine Br.nd (fun h => ?_) (fun h => ?_) <;> first | (exfalso; omega) | skip)
      | refine Ar.i64 (by omega) (by omega) ?_
      | refine mas_chain m' hmo 4 rfl ?_
      | refine Need.go (by first | omega | decide | (simp <;> omega) | fail) ?_
      | refine Need.go (by first | (simp [Value.oneCell'] <;> omega) | fail) ?_
      | refine Need.go ⟨rfl, by omega, getD_one rfl rfl⟩ ?_
      | refine Need.go ⟨rfl, by omega, fun _ _ _ _ => rfl⟩ ?_
      | (refine Br.both (fun h => ?_) (fun h => ?_) <;> first | (exfalso; omega) | skip))
  all_goals (conv => whnf)
  refine loop_up 85 (fun x : Nat × Bool => x.1 ≤ m'.ch.mem.length ∧ x.2 = othersM m' m'.ch.mem n x.1) (fun x => m'.ch.mem.length - x.1) (fun x => [(11, .v (.bool x.2)), (12, .v (.int .i64 x.1))]) (fun _ => []) (fun _ => []) (0, false) ⟨Nat.zero_le _, rfl⟩ (by
    (conv => whnf)
    refine ⟨[some 0, some 1, some 2, some 3, some 4, some 5, some 6], by decide, ?_, ?_⟩
    all_goals repeat' (first | exact trivial | exact .inl ⟨rfl, rfl⟩ | rfl | exact .inr ⟨_, rfl, rfl, rfl⟩ | exact ⟨_, rfl, trivial⟩ | exact ⟨_, rfl, rfl⟩ | exact ⟨_, rfl, ⟨rfl, rfl, rfl⟩, fun _ _ _ _ => rfl⟩ | exact ⟨_, rfl, ⟨rfl, rfl, .inl rfl⟩, rfl⟩ | exact ⟨_, rfl, ⟨rfl, rfl, .inr rfl⟩, rfl⟩ | exact ⟨_, rfl, ⟨rfl, rfl, rfl, rfl, rfl⟩, rfl⟩ | exact ⟨_, rfl, ⟨rfl, rfl⟩, fun _ => Iff.rfl⟩ | refine ⟨_, rfl, rfl, ?_⟩ | refine ⟨_, rfl, ⟨rfl, rfl, rfl⟩, ?_⟩ | refine And.intro ?_ ?_)) (fun x hx => ?_)
  obtain ⟨j, B⟩ := x
  obtain ⟨hj, hB⟩ := hx
  simp only at hj hB
  dsimp only
  by_cases hjl : j < m'.ch.mem.length
  · have hos := oth_step m' m'.ch.mem n hjl
    have hos : othersM m' m'.ch.mem n (j + 1) = (B || (!((m'.ch.mem.getD (Int.toNat (j : Int)) (0, 0)).1 == n) && wholeM m' (m'.ch.mem.getD (Int.toNat (j : Int)) (0, 0)).1)) := hB ▸ hos
    obtain ⟨wz, hwz⟩ : ∃ wz, wholeM m' (m'.ch.mem.getD (Int.toNat (j : Int)) (0, 0)).1 = wz := ⟨_, rfl⟩
    rw [hwz] at hos
    clear hB
    cases B with
    | true =>
      have hos : othersM m' m'.ch.mem n (j + 1) = true := hos.trans (Bool.true_or _)
      repeat' ((conv => whnf); first
          | refine CutN.plain ?_
          | with_reducible refine Br.tt ?_
          | with_reducible refine Br.ff ?_
          | with_reducible refine Br.nt ?_
          | with_reducible refine Br.nf ?_
          | with_reducible refine Br.eeI ?_
          | with_reducible refine Br.nnI ?_
          | refine Br.yes (by decide) ?_
          | refine Br.no (by decide) ?_
          | refine Need.go rfl ?_
          | refine QuiD.quiet (by kernel_rfl) ?_
          | refine IdxN.lit ?_
          | refine draw_go tabOK (by kernel_rfl) ?_
          | refine Need.go ⟨rfl, rfl⟩ ?_
          | refine Need.go ⟨⟨rfl, rfl, rfl⟩, rfl⟩ ?_
          | (with_reducible refine Br.dec (fun h => ?_) (fun h => ?_) <;> first | (exfalso; omega) | skip)
          | (with_reducible refine Br.eqI (fun h => ?_) (fun h => ?_) <;> first | (exfalso; omega) | skip)
          | (with_reducible refine Br.neI (fun h => ?_) (fun h => ?_) <;> first | (exfalso; omega) | skip)
          | (with_reducible refine Br.eqS (fun h => ?_) (fun h => ?_) <;> first | (exfalso; omega) | skip)
          | (with_reducible refine Br.neS (fun h => ?_) (fun h => ?_) <;> first | (exfalso; omega) | skip)
          | (with_reducible refine Br.nd (fun h => ?_) (fun h => ?_) <;> first | (exfalso; omega) | skip)
          | refine Ar.i64 (by omega) (by omega) ?_
          | (refine mas_whole m' hmo (m'.ch.mem.getD (Int.toNat (j : Int)) (0, 0)).1 4 rfl ?_; rw [hwz])
          | refine Need.go (by first | omega | decide | (simp <;> omega) | fail) ?_
          | refine Need.go (by first | (simp [Value.oneCell'] <;> omega) | fail) ?_
          | refine Need.go ⟨rfl, by omega, getD_one rfl rfl⟩ ?_
          | refine Need.go ⟨rfl, by omega, fun _ _ _ _ => rfl⟩ ?_
          | (refine Br.both (fun h => ?_) (fun h => ?_) <;> first | (exfalso; omega) | skip))
      all_goals (conv => whnf)
      refine ⟨(j + 1, true), ⟨by simp only; omega, hos.symm⟩, by simp only; omega, ?_⟩
      dsimp only
      (conv => whnf)
      refine ⟨[some 0, some 1, some 2, some 3, some 4, some 5, some 6], by decide, ?_, ?_⟩
      all_goals repeat' (first | exact trivial | exact .inl ⟨rfl, rfl⟩ | rfl | exact .inr ⟨_, rfl, rfl, rfl⟩ | exact ⟨_, rfl, trivial⟩ | exact ⟨_, rfl, rfl⟩ | exact ⟨_, rfl, ⟨rfl, rfl, rfl⟩, fun _ _ _ _ => rfl⟩ | exact ⟨_, rfl, ⟨rfl, rfl, .inl rfl⟩, rfl⟩ | exact ⟨_, rfl, ⟨rfl, rfl, .inr rfl⟩, rfl⟩ | exact ⟨_, rfl, ⟨rfl, rfl, rfl, rfl, rfl⟩, rfl⟩ | exact ⟨_, rfl, ⟨rfl, rfl⟩, fun _ => Iff.rfl⟩ | refine ⟨_, rfl, rfl, ?_⟩ | refine ⟨_, rfl, ⟨rfl, rfl, rfl⟩, ?_⟩ | refine And.intro ?_ ?_)
    | false =>
      by_cases hzn : (m'.ch.mem.getD (Int.toNat (j : Int)) (0, 0)).1 = n
      · have hos : othersM m' m'.ch.mem n (j + 1) = false := by rw [hos, beq_iff_eq.2 hzn]; rfl
        repeat' ((conv => whnf); first
            | refine CutN.plain ?_
            | with_reducible refine Br.tt ?_
            | with_reducible refine Br.ff ?_
            | with_reducible refine Br.nt ?_
            | with_reducible refine Br.nf ?_
            | with_reducible refine Br.eeI ?_
            | with_reducible refine Br.nnI ?_
            | refine Br.yes (by decide) ?_
            | refine Br.no (by decide) ?_
            | refine Need.go rfl ?_
            | refine QuiD.quiet (by kernel_rfl) ?_
            | refine IdxN.lit ?_
            | refine draw_go tabOK (by kernel_rfl) ?_
            | refine Need.go ⟨rfl, rfl⟩ ?_
            | refine Need.go ⟨⟨rfl, rfl, rfl⟩, rfl⟩ ?_
            | (with_reducible refine Br.dec (fun h => ?_) (fun h => ?_) <;> first | (exfalso; omega) | skip)
            | (with_reducible refine Br.eqI (fun h => ?_) (fun h => ?_) <;> first | (exfalso; omega) | skip)
            | (with_reducible refine Br.neI (fun h => ?_) (fun h => ?_) <;> first | (exfalso; omega) | skip)
            | (with_reducible refine Br.eqS (fun h => ?_) (fun h => ?_) <;> first | (exfalso; omega) | skip)
            | (with_reducible refine Br.neS (fun h => ?_) (fun h => ?_) <;> first | (exfalso; omega) | skip)
            | (with_reducible refine Br.nd (fun h => ?_) (fun h => ?_) <;> first | (exfalso; omega) | skip)
            | refine Ar.i64 (by omega) (by omega) ?_
            | (refine mas_whole m' hmo (m'.ch.mem.getD (Int.toNat (j : Int)) (0, 0)).1 4 rfl ?_; rw [hwz])
            | refine Need.go (by first | omega | decide | (simp <;> omega) | fail) ?_
            | refine Need.go (by first | (simp [Value.oneCell'] <;> omega) | fail) ?_
            | refine Need.go ⟨rfl, by omega, getD_one rfl rfl⟩ ?_
            | refine Need.go ⟨rfl, by omega, fun _ _ _ _ => rfl⟩ ?_
            | (refine Br.both (fun h => ?_) (fun h => ?_) <;> first | (exfalso; omega) | skip))
        all_goals (conv => whnf)
        refine ⟨(j + 1, false), ⟨by simp only; omega, hos.symm⟩, by simp only; omega, ?_⟩
        dsimp only
        (conv => whnf)
        refine ⟨[some 0, some 1, some 2, some 3, some 4, some 5, some 6], by decide, ?_, ?_⟩
        all_goals repeat' (first | exact trivial | exact .inl ⟨rfl, rfl⟩ | rfl | exact .inr ⟨_, rfl, rfl, rfl⟩ | exact ⟨_, rfl, trivial⟩ | exact ⟨_, rfl, rfl⟩ | exact ⟨_, rfl, ⟨rfl, rfl, rfl⟩, fun _ _ _ _ => rfl⟩ | exact ⟨_, rfl, ⟨rfl, rfl, .inl rfl⟩, rfl⟩ | exact ⟨_, rfl, ⟨rfl, rfl, .inr rfl⟩, rfl⟩ | exact ⟨_, rfl, ⟨rfl, rfl, rfl, rfl, rfl⟩, rfl⟩ | exact ⟨_, rfl, ⟨rfl, rfl⟩, fun _ => Iff.rfl⟩ | refine ⟨_, rfl, rfl, ?_⟩ | refine ⟨_, rfl, ⟨rfl, rfl, rfl⟩, ?_⟩ | refine And.intro ?_ ?_)
      · have hos : othersM m' m'.ch.mem n (j + 1) = wz := by rw [hos, beq_eq_false_iff_ne.2 hzn]; cases wz <;> rfl
        repeat' ((conv => whnf); first
            | refine CutN.plain ?_
            | with_reducible refine Br.tt ?_
            | with_reducible refine Br.ff ?_
            | with_reducible refine Br.nt ?_
            | with_reducible refine Br.nf ?_
            | with_reducible refine Br.eeI ?_
            | with_reducible refine Br.nnI ?_
            | refine Br.yes (by decide) ?_
            | refine Br.no (by decide) ?_
            | refine Need.go rfl ?_
            | refine QuiD.quiet (by kernel_rfl) ?_
            | refine IdxN.lit ?_
            | refine draw_go tabOK (by kernel_rfl) ?_
            | refine Need.go ⟨rfl, rfl⟩ ?_
            | refine Need.go ⟨⟨rfl, rfl, rfl⟩, rfl⟩ ?_
            | (with_reducible refine Br.dec (fun h => ?_) (fun h => ?_) <;> first | (exfalso; omega) | skip)
            | (with_reducible refine Br.eqI (fun h => ?_) (fun h => ?_) <;> first | (exfalso; omega) | skip)
            | (with_reducible refine Br.neI (fun h => ?_) (fun h => ?_) <;> first | (exfalso; omega) | skip)
            | (with_reducible refine Br.eqS (fun h => ?_) (fun h => ?_) <;> first | (exfalso; omega) | skip)
            | (with_reducible refine Br.neS (fun h => ?_) (fun h => ?_) <;> first | (exfalso; omega) | skip)
            | (with_reducible refine Br.nd (fun h => ?_) (fun h => ?_) <;> first | (exfalso; omega) | skip)
            | refine Ar.i64 (by omega) (by omega) ?_
            | (refine mas_whole m' hmo (m'.ch.mem.getD (Int.toNat (j : Int)) (0, 0)).1 4 rfl ?_; rw [hwz])
            | refine Need.go (by first | omega | decide | (simp <;> omega) | fail) ?_
            | refine Need.go (by first | (simp [Value.oneCell'] <;> omega) | fail) ?_
            | refine Need.go ⟨rfl, by omega, getD_one rfl rfl⟩ ?_
            | refine Need.go ⟨rfl, by omega, fun _ _ _ _ => rfl⟩ ?_
            | (refine Br.both (fun h => ?_) (fun h => ?_) <;> first | (exfalso; omega) | skip))
        all_goals (conv => whnf)
        refine ⟨(j + 1, wz), ⟨by simp only; omega, hos.symm⟩, by simp only; omega, ?_⟩
        dsimp only
        (conv => whnf)
        refine ⟨[some 0, some 1, some 2, some 3, some 4, some 5, some 6], by decide, ?_, ?_⟩
        all_goals repeat' (first | exact trivial | exact .inl ⟨rfl, rfl⟩ | rfl | exact .inr ⟨_, rfl, rfl, rfl⟩ | exact ⟨_, rfl, trivial⟩ | exact ⟨_, rfl, rfl⟩ | exact ⟨_, rfl, ⟨rfl, rfl, rfl⟩, fun _ _ _ _ => rfl⟩ | exact ⟨_, rfl, ⟨rfl, rfl, .inl rfl⟩, rfl⟩ | exact ⟨_, rfl, ⟨rfl, rfl, .inr rfl⟩, rfl⟩ | exact ⟨_, rfl, ⟨rfl, rfl, rfl, rfl, rfl⟩, rfl⟩ | exact ⟨_, rfl, ⟨rfl, rfl⟩, fun _ => Iff.rfl⟩ | refine ⟨_, rfl, rfl, ?_⟩ | refine ⟨_, rfl, ⟨rfl, rfl, rfl⟩, ?_⟩ | refine And.intro ?_ ?_)
  · obtain rfl : j = m'.ch.mem.length := by omega
    rw [oth_all hmo n] at hB
    have hn' : 0 ≤ n ∧ n < m'.nodes := by omega
    by_cases hg : v = 0 ∧ m'.ch.drain = n ∧ mayGoM m' n = true
    · obtain rfl : B = true := hB.trans hg.2.2
      obtain ⟨g1, g2, g3, g4⟩ := take_goes hmo hn' (by omega) hg
      have g5 := since_gone hmo g3
      have g6 := without_keeps hmo g3
      have g7 := (without_ok hmo.ch (pair_eta _ g3)).2.2.1
      have g8 : MasSt d (1 + 12 * ((k + 1 : Nat) : Int)) (goneM m' n) := (gone_st hst g3).mono (by omega)
      rw [g1] at t4
      have g9 : (goneM m' n).ch.mem.length = m'.ch.mem.length - 1 := g7
      obtain ⟨mg, hmg⟩ : ∃ mg, goneM m' n = mg := ⟨_, rfl⟩
      rw [hmg] at t4 g2 g5 g6 g8 g9
      have e1 : mg.ch.epoch = m'.ch.epoch + 1 := by rw [g2]
      have e2 : mg.ch.drain = -1 := by rw [g2]
      have hgl := okCh_len g6.ch
      obtain ⟨hg1, hg2, hg3⟩ := hg
      clear g1 g2 g3 g4 g7 hmg
      repeat' ((conv => whnf); first
          | refine CutN.plain ?_
          | with_reducible refine Br.tt ?_
          | with_reducible refine Br.ff ?_
          | with_reducible refine Br.nt ?_
          | with_reducible refine Br.nf ?_
          | with_reducible refine Br.eeI ?_
          | with_reducible refine Br.nnI ?_
          | refine Br.yes (by decide) ?_
          | refine Br.no (by decide) ?_
          | refine Need.go rfl ?_
          | refine QuiD.quiet (by kernel_rfl) ?_
          | refine IdxN.lit ?_
          | refine draw_go tabOK (by kernel_rfl) ?_
          | refine Need.go ⟨rfl, rfl⟩ ?_
          | refine Need.go ⟨⟨rfl, rfl, rfl⟩, rfl⟩ ?_
          | (with_reducible refine Br.dec (fun h => ?_) (fun h => ?_) <;> first | (exfalso; omega) | skip)
          | (with_reducible refine Br.eqI (fun h => ?_) (fun h => ?_) <;> first | (exfalso; omega) | skip)
          | (with_reducible refine Br.neI (fun h => ?_) (fun h => ?_) <;> first | (exfalso; omega) | skip)
          | (with_reducible refine Br.eqS (fun h => ?_) (fun h => ?_) <;> first | (exfalso; omega) | skip)
          | (with_reducible refine Br.neS (fun h => ?_) (fun h => ?_) <;> first | (exfalso; omega) | skip)
          | (with_reducible refine Br.nd (fun h => ?_) (fun h => ?_) <;> first | (exfalso; omega) | skip)
          | refine Ar.i64 (by omega) (by omega) ?_
          | (refine mas_op t4 mk_id (fun _ _ => rfl) 4 rfl ?_; intro p4 Y4 Z4)
          | refine mas_chain mg g6 4 rfl ?_
          | (refine call_mem (f := 23) (args := [chS mg.ch (.os 9 mg.ch.mem.length), .v (.int .i64 n)]) (V := .tuple #[.int .i64 0, .bool false]) ?_ ?_; exact fun ρ w h => (by have := since_any mg.ch _ n w (sl_os h (i := 9) rfl) (by omega); rw [g5] at this; exact this))
          | (refine quiet_mem (f := 23) (args := [chS mg.ch (.os 9 mg.ch.mem.length), .v (.int .i64 n)]) (V := .tuple #[.int .i64 0, .bool false]) ?_ ?_; exact fun ρ w h => (by have := since_any mg.ch _ n w (sl_os h (i := 9) rfl) (by omega); rw [g5] at this; exact this))
          | (refine seg_mem (f := 23) (args := [chS mg.ch (.os 9 mg.ch.mem.length), .v (.int .i64 n)]) (V := .tuple #[.int .i64 0, .bool false]) ?_ ?_; exact fun ρ w h => (by have := since_any mg.ch _ n w (sl_os h (i := 9) rfl) (by omega); rw [g5] at this; exact this))
          | refine Need.go (by first | omega | decide | (simp <;> omega) | fail) ?_
          | refine Need.go (by first | (simp [Value.oneCell'] <;> omega) | fail) ?_
          | refine Need.go ⟨rfl, by omega, getD_one rfl rfl⟩ ?_
          | refine Need.go ⟨rfl, by omega, fun _ _ _ _ => rfl⟩ ?_
          | (refine Br.both (fun h => ?_) (fun h => ?_) <;> first | (exfalso; omega) | skip))
      all_goals (conv => whnf)
      all_goals first
        | (exfalso; omega)
        | (exfalso; simp [e1] at h; done)
        | (refine ⟨(k + 1, mg, Z4), ⟨by simp only; omega, g8⟩, by simp only; omega, ?_⟩
           dsimp only
           (conv => whnf)
           refine ⟨[some 0, some 1, some 2, some 3, some 4], by decide, ?_, ?_⟩
           all_goals repeat' (first | exact trivial | exact .inl ⟨rfl, rfl⟩ | rfl | exact .inr ⟨_, rfl, rfl, rfl⟩ | exact ⟨_, rfl, trivial⟩ | exact ⟨_, rfl, rfl⟩ | exact ⟨_, rfl, ⟨rfl, rfl, rfl⟩, fun _ _ _ _ => rfl⟩ | exact ⟨_, rfl, ⟨rfl, rfl, .inl rfl⟩, rfl⟩ | exact ⟨_, rfl, ⟨rfl, rfl, .inr rfl⟩, rfl⟩ | exact ⟨_, rfl, ⟨rfl, rfl, rfl, rfl, rfl⟩, rfl⟩ | exact ⟨_, rfl, ⟨rfl, rfl⟩, fun _ => Iff.rfl⟩ | refine ⟨_, rfl, rfl, ?_⟩ | refine ⟨_, rfl, ⟨rfl, rfl, rfl⟩, ?_⟩ | refine And.intro ?_ ?_)
           done)
        | fail
    · rw [take_stays hn' hg] at t4
      have g8 : MasSt d (1 + 12 * ((k + 1 : Nat) : Int)) m' := hst.mono (by omega)
      cases B with
      | true =>
        have hg' : ¬ (v = 0 ∧ m'.ch.drain = n) := fun h => hg ⟨h.1, h.2, hB.symm⟩
        repeat' ((conv => whnf); first
            | refine CutN.plain ?_
            | with_reducible refine Br.tt ?_
            | with_reducible refine Br.ff ?_
            | with_reducible refine Br.nt ?_
            | with_reducible refine Br.nf ?_
            | with_reducible refine Br.eeI ?_
            | with_reducible refine Br.nnI ?_
            | refine Br.yes (by decide) ?_
            | refine Br.no (by decide) ?_
            | refine Need.go rfl ?_
            | refine QuiD.quiet (by kernel_rfl) ?_
            | refine IdxN.lit ?_
            | refine draw_go tabOK (by kernel_rfl) ?_
            | refine Need.go ⟨rfl, rfl⟩ ?_
            | refine Need.go ⟨⟨rfl, rfl, rfl⟩, rfl⟩ ?_
            | (with_reducible refine Br.dec (fun h => ?_) (fun h => ?_) <;> first | (exfalso; omega) | skip)
            | (with_reducible refine Br.eqI (fun h => ?_) (fun h => ?_) <;> first | (exfalso; omega) | skip)
            | (with_reducible refine Br.neI (fun h => ?_) (fun h => ?_) <;> first | (exfalso; omega) | skip)
            | (with_reducible refine Br.eqS (fun h => ?_) (fun h => ?_) <;> first | (exfalso; omega) | skip)
            | (with_reducible refine Br.neS (fun h => ?_) (fun h => ?_) <;> first | (exfalso; omega) | skip)
            | (with_reducible refine Br.nd (fun h => ?_) (fun h => ?_) <;> first | (exfalso; omega) | skip)
            | refine Ar.i64 (by omega) (by omega) ?_
            | (refine mas_op t4 mk_id (fun _ _ => rfl) 4 rfl ?_; intro p4 Y4 Z4)
            | refine mas_chain m' hmo 4 rfl ?_
            | (refine call_mem (f := 23) (args := [chS m'.ch (.os 9 m'.ch.mem.length), .v (.int .i64 n)]) (V := .tuple #[.int .i64 (sinceM m'.ch n).1, .bool (sinceM m'.ch n).2]) ?_ ?_; exact fun ρ w h => since_any m'.ch _ n w (sl_os h (i := 9) rfl) (by omega))
            | (refine quiet_mem (f := 23) (args := [chS m'.ch (.os 9 m'.ch.mem.length), .v (.int .i64 n)]) (V := .tuple #[.int .i64 (sinceM m'.ch n).1, .bool (sinceM m'.ch n).2]) ?_ ?_; exact fun ρ w h => since_any m'.ch _ n w (sl_os h (i := 9) rfl) (by omega))
            | (refine seg_mem (f := 23) (args := [chS m'.ch (.os 9 m'.ch.mem.length), .v (.int .i64 n)]) (V := .tuple #[.int .i64 (sinceM m'.ch n).1, .bool (sinceM m'.ch n).2]) ?_ ?_; exact fun ρ w h => since_any m'.ch _ n w (sl_os h (i := 9) rfl) (by omega))
            | refine Need.go (by first | omega | decide | (simp <;> omega) | fail) ?_
            | refine Need.go (by first | (simp [Value.oneCell'] <;> omega) | fail) ?_
            | refine Need.go ⟨rfl, by omega, getD_one rfl rfl⟩ ?_
            | refine Need.go ⟨rfl, by omega, fun _ _ _ _ => rfl⟩ ?_
            | (refine Br.both (fun h => ?_) (fun h => ?_) <;> first | (exfalso; omega) | skip))
        all_goals (conv => whnf)
        all_goals first
          | (exfalso; omega)
          | (exfalso; simp at h; omega)
          | (exfalso; simp at h; done)
          | (refine ⟨(k + 1, m', Z4), ⟨by simp only; omega, g8⟩, by simp only; omega, ?_⟩
             dsimp only
             (conv => whnf)
             refine ⟨[some 0, some 1, some 2, some 3, some 4], by decide, ?_, ?_⟩
             all_goals repeat' (first | exact trivial | exact .inl ⟨rfl, rfl⟩ | rfl | exact .inr ⟨_, rfl, rfl, rfl⟩ | exact ⟨_, rfl, trivial⟩ | exact ⟨_, rfl, rfl⟩ | exact ⟨_, rfl, ⟨rfl, rfl, rfl⟩, fun _ _ _ _ => rfl⟩ | exact ⟨_, rfl, ⟨rfl, rfl, .inl rfl⟩, rfl⟩ | exact ⟨_, rfl, ⟨rfl, rfl, .inr rfl⟩, rfl⟩ | exact ⟨_, rfl, ⟨rfl, rfl, rfl, rfl, rfl⟩, rfl⟩ | exact ⟨_, rfl, ⟨rfl, rfl⟩, fun _ => Iff.rfl⟩ | refine ⟨_, rfl, rfl, ?_⟩ | refine ⟨_, rfl, ⟨rfl, rfl, rfl⟩, ?_⟩ | refine And.intro ?_ ?_)
             done)
          | fail
      | false =>
        repeat' ((conv => whnf); first
            | refine CutN.plain ?_
            | with_reducible refine Br.tt ?_
            | with_reducible refine Br.ff ?_
            | with_reducible refine Br.nt ?_
            | with_reducible refine Br.nf ?_
            | with_reducible refine Br.eeI ?_
            | with_reducible refine Br.nnI ?_
            | refine Br.yes (by decide) ?_
            | refine Br.no (by decide) ?_
            | refine Need.go rfl ?_
            | refine QuiD.quiet (by kernel_rfl) ?_
            | refine IdxN.lit ?_
            | refine draw_go tabOK (by kernel_rfl) ?_
            | refine Need.go ⟨rfl, rfl⟩ ?_
            | refine Need.go ⟨⟨rfl, rfl, rfl⟩, rfl⟩ ?_
            | (with_reducible refine Br.dec (fun h => ?_) (fun h => ?_) <;> first | (exfalso; omega) | skip)
            | (with_reducible refine Br.eqI (fun h => ?_) (fun h => ?_) <;> first | (exfalso; omega) | skip)
            | (with_reducible refine Br.neI (fun h => ?_) (fun h => ?_) <;> first | (exfalso; omega) | skip)
            | (with_reducible refine Br.eqS (fun h => ?_) (fun h => ?_) <;> first | (exfalso; omega) | skip)
            | (with_reducible refine Br.neS (fun h => ?_) (fun h => ?_) <;> first | (exfalso; omega) | skip)
            | (with_reducible refine Br.nd (fun h => ?_) (fun h => ?_) <;> first | (exfalso; omega) | skip)
            | refine Ar.i64 (by omega) (by omega) ?_
            | (refine mas_op t4 mk_id (fun _ _ => rfl) 4 rfl ?_; intro p4 Y4 Z4)
            | refine mas_chain m' hmo 4 rfl ?_
            | (refine call_mem (f := 23) (args := [chS m'.ch (.os 9 m'.ch.mem.length), .v (.int .i64 n)]) (V := .tuple #[.int .i64 (sinceM m'.ch n).1, .bool (sinceM m'.ch n).2]) ?_ ?_; exact fun ρ w h => since_any m'.ch _ n w (sl_os h (i := 9) rfl) (by omega))
            | (refine quiet_mem (f := 23) (args := [chS m'.ch (.os 9 m'.ch.mem.length), .v (.int .i64 n)]) (V := .tuple #[.int .i64 (sinceM m'.ch n).1, .bool (sinceM m'.ch n).2]) ?_ ?_; exact fun ρ w h => since_any m'.ch _ n w (sl_os h (i := 9) rfl) (by omega))
            | (refine seg_mem (f := 23) (args := [chS m'.ch (.os 9 m'.ch.mem.length), .v (.int .i64 n)]) (V := .tuple #[.int .i64 (sinceM m'.ch n).1, .bool (sinceM m'.ch n).2]) ?_ ?_; exact fun ρ w h => since_any m'.ch _ n w (sl_os h (i := 9) rfl) (by omega))
            | refine Need.go (by first | omega | decide | (simp <;> omega) | fail) ?_
            | refine Need.go (by first | (simp [Value.oneCell'] <;> omega) | fail) ?_
            | refine Need.go ⟨rfl, by omega, getD_one rfl rfl⟩ ?_
            | refine Need.go ⟨rfl, by omega, fun _ _ _ _ => rfl⟩ ?_
            | (refine Br.both (fun h => ?_) (fun h => ?_) <;> first | (exfalso; omega) | skip))
        all_goals (conv => whnf)
        all_goals first
          | (exfalso; omega)
          | (exfalso; simp at h; omega)
          | (exfalso; simp at h; done)
          | (refine ⟨(k + 1, m', Z4), ⟨by simp only; omega, g8⟩, by simp only; omega, ?_⟩
             dsimp only
             (conv => whnf)
             refine ⟨[some 0, some 1, some 2, some 3, some 4], by decide, ?_, ?_⟩
             all_goals repeat' (first | exact trivial | exact .inl ⟨rfl, rfl⟩ | rfl | exact .inr ⟨_, rfl, rfl, rfl⟩ | exact ⟨_, rfl, trivial⟩ | exact ⟨_, rfl, rfl⟩ | exact ⟨_, rfl, ⟨rfl, rfl, rfl⟩, fun _ _ _ _ => rfl⟩ | exact ⟨_, rfl, ⟨rfl, rfl, .inl rfl⟩, rfl⟩ | exact ⟨_, rfl, ⟨rfl, rfl, .inr rfl⟩, rfl⟩ | exact ⟨_, rfl, ⟨rfl, rfl, rfl, rfl, rfl⟩, rfl⟩ | exact ⟨_, rfl, ⟨rfl, rfl⟩, fun _ => Iff.rfl⟩ | refine ⟨_, rfl, rfl, ?_⟩ | refine ⟨_, rfl, ⟨rfl, rfl, rfl⟩, ?_⟩ | refine And.intro ?_ ?_)
             done)
          | fail
end Go.Proofs.Ytghfigeepnbjaaa.lawMasterDrains
