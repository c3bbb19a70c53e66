/-
  MasterKeeps: the walk. No condition.
-/
import Derived.Test.YtghfigeepnbjaaaMasA
import Derived.Test.YtghfigeepnbjaaaMasW
namespace Go.Proofs.Ytghfigeepnbjaaa.lawMasterKeeps
open Go.Proofs.Ytghfigeepnbjaaa Go.RowKit
set_option maxRecDepth 100000 in
set_option maxHeartbeats 40000000 in
theorem core (c : CfgM) (l : List ActMM) (ts : List Int) (p q r : Value) (w : World) (hp : SliceV w p 1 c.quanta.length (intsF c.quanta)) (hq : SliceV w q 33 l.length (actMF l)) (ht : SliceV w r 1 ts.length (byteF ts)) (hk : ∀ x ∈ l, x.wf w) (htb : ∀ x ∈ ts, 0 ≤ x ∧ x ≤ 255) :
    Calls Try.prog 3 #[cfgV c p, q, r] w fun e w' => e = .returned (.bool true) ∧ w.grownBy w' none := by
  obtain ⟨a, cap, rfl, h1, h2, hr⟩ := hp
  obtain ⟨a2, cap2, rfl, h3, h4, hr2⟩ := hq
  obtain ⟨a3, cap3, rfl, h5, h6, hr3⟩ := ht
  refine x_calls tabOK Try.func3 rfl [cfgS c (.rs 0 c.quanta.length cap), .rs 1 l.length cap2, .rs 2 ts.length cap3] _ _ rfl rfl (relR3 hr hr2 hr3) ?_
  by_cases hok : okActsM l 40
  case neg =>
    repeat' ((conv => whnf); first
        | refine CutN.plain ?_
        | with_reducible refine Br.tt ?_
        | with_reducible refine Br.ff ?_
        | with_reducible refine Br.nt ?_
        | with_reducible refine Br.nf ?_
        | with_reducible refine Br.eeI ?_
        | with_reducible refine Br.nnI ?_
        | refine Br.yes (by decide) ?_
        | refine Br.no (by decide) ?_
        | refine Need.go rfl ?_
        | refine QuiD.quiet (by kernel_rfl) ?_
        | refine IdxN.lit ?_
        | refine draw_go tabOK (by kernel_rfl) ?_
        | refine Need.go ⟨rfl, rfl⟩ ?_
        | refine Need.go ⟨⟨rfl, rfl, rfl⟩, rfl⟩ ?_
        | (with_reducible refine Br.dec (fun h => ?_) (fun h => ?_); first | (rotate_left; exfalso; omega; clear h) | (exfalso; omega; clear h) | skip)
        | (with_reducible refine Br.eqI (fun h => ?_) (fun h => ?_); first | (rotate_left; exfalso; omega; clear h) | (exfalso; omega; clear h) | skip)
        | (with_reducible refine Br.neI (fun h => ?_) (fun h => ?_); first | (rotate_left; exfalso; omega; clear h) | (exfalso; omega; clear h) | skip)
        | (with_reducible refine Br.eqS (fun h => ?_) (fun h => ?_); first | (rotate_left; exfalso; omega; clear h) | (exfalso; omega; clear h) | skip)
        | (with_reducible refine Br.neS (fun h => ?_) (fun h => ?_); first | (rotate_left; exfalso; omega; clear h) | (exfalso; omega; clear h) | skip)
        | (with_reducible refine Br.nd (fun h => ?_) (fun h => ?_); first | (rotate_left; exfalso; omega; clear h) | (exfalso; omega; clear h) | skip)
        | refine Ar.i64 (by omega) (by omega) ?_
        | (refine call_mem (f := 14) (args := [.rs 1 l.length cap2, .v (.int .i64 40)]) (V := .bool true) ?_ ?_; exact fun ρ w h => greatM_no l _ 40 w (sl_rs h (i := 1) rfl (Nat.le_refl _) h3 h4) hok)
        | (refine quiet_mem (f := 14) (args := [.rs 1 l.length cap2, .v (.int .i64 40)]) (V := .bool true) ?_ ?_; exact fun ρ w h => greatM_no l _ 40 w (sl_rs h (i := 1) rfl (Nat.le_refl _) h3 h4) hok)
        | (refine seg_mem (f := 14) (args := [.rs 1 l.length cap2, .v (.int .i64 40)]) (V := .bool true) ?_ ?_; exact fun ρ w h => greatM_no l _ 40 w (sl_rs h (i := 1) rfl (Nat.le_refl _) h3 h4) hok)
        | (refine call_mem (f := 15) (args := []) (V := .bool true) ?_ ?_; exact fun ρ w h => chained_any w)
        | (refine quiet_mem (f := 15) (args := []) (V := .bool true) ?_ ?_; exact fun ρ w h => chained_any w)
        | (refine seg_mem (f := 15) (args := []) (V := .bool true) ?_ ?_; exact fun ρ w h => chained_any w)
        | refine Need.go (by first | omega | decide | (simp <;> omega) | fail) ?_
        | refine Need.go (by first | (simp [Value.oneCell'] <;> omega) | fail) ?_
        | refine Need.go ⟨rfl, by omega, getD_one rfl rfl⟩ ?_
        | refine Need.go ⟨rfl, by omega, fun _ _ _ _ => rfl⟩ ?_
        | refine Br.both (fun h => ?_) (fun h => ?_))
    all_goals (conv => whnf)
    all_goals exact ret_pure (fun _ => rfl)
  obtain ⟨d, hd⟩ : ∃ d, fitM c = d := ⟨_, rfl⟩
  have hdo : okM d = true := by rw [← hd]; exact fit_ok c
  have hdn := okM_nodes hdo
  have hdq : d.quanta.length ≤ 4 := by
    unfold okM preB at hdo
    simp only [Bool.and_eq_true, winB, decide_eq_true_eq] at hdo
    omega
  have hl40 := hok.2
  have h6' := h6
  unfold maxLen at h6'
  repeat' ((conv => whnf); first
      | refine CutN.plain ?_
      | with_reducible refine Br.tt ?_
      | with_reducible refine Br.ff ?_
      | with_reducible refine Br.nt ?_
      | with_reducible refine Br.nf ?_
      | with_reducible refine Br.eeI ?_
      | with_reducible refine Br.nnI ?_
      | refine Br.yes (by decide) ?_
      | refine Br.no (by decide) ?_
      | refine Need.go rfl ?_
      | refine QuiD.quiet (by kernel_rfl) ?_
      | refine IdxN.lit ?_
      | refine draw_go tabOK (by kernel_rfl) ?_
      | refine Need.go ⟨rfl, rfl⟩ ?_
      | refine Need.go ⟨⟨rfl, rfl, rfl⟩, rfl⟩ ?_
      | (with_reducible refine Br.dec (fun h => ?_) (fun h => ?_); first | (rotate_left; exfalso; omega; clear h) | (exfalso; omega; clear h) | skip)
      | (with_reducible refine Br.eqI (fun h => ?_) (fun h => ?_); first | (rotate_left; exfalso; omega; clear h) | (exfalso; omega; clear h) | skip)
      | (with_reducible refine Br.neI (fun h => ?_) (fun h => ?_); first | (rotate_left; exfalso; omega; clear h) | (exfalso; omega; clear h) | skip)
      | (with_reducible refine Br.eqS (fun h => ?_) (fun h => ?_); first | (rotate_left; exfalso; omega; clear h) | (exfalso; omega; clear h) | skip)
      | (with_reducible refine Br.neS (fun h => ?_) (fun h => ?_); first | (rotate_left; exfalso; omega; clear h) | (exfalso; omega; clear h) | skip)
      | (with_reducible refine Br.nd (fun h => ?_) (fun h => ?_); first | (rotate_left; exfalso; omega; clear h) | (exfalso; omega; clear h) | skip)
      | refine Ar.i64 (by omega) (by omega) ?_
      | (refine call_mem (f := 14) (args := [.rs 1 l.length cap2, .v (.int .i64 40)]) (V := .bool false) ?_ ?_; exact fun ρ w h => greatM_yes l _ 40 w (sl_rs h (i := 1) rfl (Nat.le_refl _) h3 h4) hok)
      | (refine quiet_mem (f := 14) (args := [.rs 1 l.length cap2, .v (.int .i64 40)]) (V := .bool false) ?_ ?_; exact fun ρ w h => greatM_yes l _ 40 w (sl_rs h (i := 1) rfl (Nat.le_refl _) h3 h4) hok)
      | (refine seg_mem (f := 14) (args := [.rs 1 l.length cap2, .v (.int .i64 40)]) (V := .bool false) ?_ ?_; exact fun ρ w h => greatM_yes l _ 40 w (sl_rs h (i := 1) rfl (Nat.le_refl _) h3 h4) hok)
      | (refine call_mem (f := 15) (args := []) (V := .bool true) ?_ ?_; exact fun ρ w h => chained_any w)
      | (refine quiet_mem (f := 15) (args := []) (V := .bool true) ?_ ?_; exact fun ρ w h => chained_any w)
      | (refine seg_mem (f := 15) (args := []) (V := .bool true) ?_ ?_; exact fun ρ w h => chained_any w)
      | (refine rfit_n c d hd (.rs 0 c.quanta.length cap) ?_ ?_; exact fun ρ w h => sl_rs h (i := 0) rfl (Nat.le_refl _) h1 h2)
      | (refine mas_new d (.os 4 d.quanta.length) (fun ρ w h => sl_os h (i := 4) rfl) hdo (by omega) ?_; intro b Z0)
      | refine Need.go (by first | omega | decide | (simp <;> omega) | fail) ?_
      | refine Need.go (by first | (simp [Value.oneCell'] <;> omega) | fail) ?_
      | refine Need.go ⟨rfl, by omega, getD_one rfl rfl⟩ ?_
      | refine Need.go ⟨rfl, by omega, fun _ _ _ _ => rfl⟩ ?_
      | refine Br.both (fun h => ?_) (fun h => ?_))
  all_goals (conv => whnf)
  all_goals try exact ret_pure (fun _ => rfl)
  refine loop_up 46 (fun x : Nat × Int × MasM × (Nat → Prop) => x.1 ≤ l.length ∧ (0 ≤ x.2.1 ∧ x.2.1 ≤ 3 * x.1) ∧ MasSt d (1 + 12 * x.1) x.2.2.1) (fun x => l.length - x.1) (fun x => [(9, .v (.int .i64 x.2.1)), (11, .v (.int .i64 x.1)), (12, .junk), (13, .junk), (14, .junk), (15, .junk), (16, .junk), (17, .junk), (18, .junk), (19, .junk), (20, .junk), (21, .junk), (22, .junk)])
    (fun x => [(5, .ent (.res true x.2.2.2 (MasQ b x.2.2.1 x.2.2.2))), (6, .ent (.blk 34 (arrL x.2.2.1.heard)))]) (fun _ => []) (0, 0, newMas d, Z0) ⟨Nat.zero_le _, by simp only; omega, newMas_st hdo⟩ (by
    (conv => whnf)
    refine ⟨[some 0, some 1, some 2, some 3, some 4, some 5, some 6], by decide, ?_, ?_⟩
    all_goals repeat' (first | exact trivial | exact .inl ⟨rfl, rfl⟩ | rfl | exact .inr ⟨_, rfl, rfl, rfl⟩ | exact ⟨_, rfl, trivial⟩ | exact ⟨_, rfl, rfl⟩ | exact ⟨_, rfl, ⟨rfl, rfl, rfl⟩, fun _ _ _ _ => rfl⟩ | exact ⟨_, rfl, ⟨rfl, rfl, .inl rfl⟩, rfl⟩ | exact ⟨_, rfl, ⟨rfl, rfl, .inr rfl⟩, rfl⟩ | exact ⟨_, rfl, ⟨rfl, rfl, rfl, rfl, rfl⟩, rfl⟩ | exact ⟨_, rfl, ⟨rfl, rfl⟩, fun _ => Iff.rfl⟩ | refine ⟨_, rfl, rfl, ?_⟩ | refine ⟨_, rfl, ⟨rfl, rfl, rfl⟩, ?_⟩ | refine And.intro ?_ ?_)) (fun x hx => ?_)
  obtain ⟨k, now0, m, Z⟩ := x
  obtain ⟨hkl, hnow0, hst⟩ := hx
  simp only at hkl hst hnow0
  dsimp only
  by_cases hlt : k < l.length
  case neg =>
    repeat' ((conv => whnf); first
        | refine CutN.plain ?_
        | with_reducible refine Br.tt ?_
        | with_reducible refine Br.ff ?_
        | with_reducible refine Br.nt ?_
        | with_reducible refine Br.nf ?_
        | with_reducible refine Br.eeI ?_
        | with_reducible refine Br.nnI ?_
        | refine Br.yes (by decide) ?_
        | refine Br.no (by decide) ?_
        | refine Need.go rfl ?_
        | refine QuiD.quiet (by kernel_rfl) ?_
        | refine IdxN.lit ?_
        | refine draw_go tabOK (by kernel_rfl) ?_
        | refine Need.go ⟨rfl, rfl⟩ ?_
        | refine Need.go ⟨⟨rfl, rfl, rfl⟩, rfl⟩ ?_
        | (with_reducible refine Br.dec (fun h => ?_) (fun h => ?_); first | (rotate_left; exfalso; omega; clear h) | (exfalso; omega; clear h) | skip)
        | (with_reducible refine Br.eqI (fun h => ?_) (fun h => ?_); first | (rotate_left; exfalso; omega; clear h) | (exfalso; omega; clear h) | skip)
        | (with_reducible refine Br.neI (fun h => ?_) (fun h => ?_); first | (rotate_left; exfalso; omega; clear h) | (exfalso; omega; clear h) | skip)
        | (with_reducible refine Br.eqS (fun h => ?_) (fun h => ?_); first | (rotate_left; exfalso; omega; clear h) | (exfalso; omega; clear h) | skip)
        | (with_reducible refine Br.neS (fun h => ?_) (fun h => ?_); first | (rotate_left; exfalso; omega; clear h) | (exfalso; omega; clear h) | skip)
        | (with_reducible refine Br.nd (fun h => ?_) (fun h => ?_); first | (rotate_left; exfalso; omega; clear h) | (exfalso; omega; clear h) | skip)
        | refine Ar.i64 (by omega) (by omega) ?_
        | (refine call_mem (f := 15) (args := []) (V := .bool true) ?_ ?_; exact fun ρ w h => chained_any w)
        | (refine quiet_mem (f := 15) (args := []) (V := .bool true) ?_ ?_; exact fun ρ w h => chained_any w)
        | (refine seg_mem (f := 15) (args := []) (V := .bool true) ?_ ?_; exact fun ρ w h => chained_any w)
        | refine Need.go (by first | omega | decide | (simp <;> omega) | fail) ?_
        | refine Need.go (by first | (simp [Value.oneCell'] <;> omega) | fail) ?_
        | refine Need.go ⟨rfl, by omega, getD_one rfl rfl⟩ ?_
        | refine Need.go ⟨rfl, by omega, fun _ _ _ _ => rfl⟩ ?_
        | refine Br.both (fun h => ?_) (fun h => ?_))
    all_goals (conv => whnf)
    exact ret_pure (fun _ => rfl)
  obtain ⟨y, hy⟩ : ∃ y, l.getD (Int.toNat (k : Int)) actMZ = y := ⟨_, rfl⟩
  have hyw : y.wf w := hy ▸ ActMM.wf_at hk hlt
  have hya := hyw.a
  have hyk := hyw.kind
  have hmo := hst.ok
  have htk : k < ts.length → 0 ≤ ts.getD (Int.toNat (k : Int)) 0 ∧ ts.getD (Int.toNat (k : Int)) 0 ≤ 255 := fun h => by
    rw [Int.toNat_natCast, List.getD, List.getElem?_eq_getElem h]
    exact htb _ (List.getElem_mem h)
  repeat' ((conv => whnf); first
      | (refine cut_up 1055 46 (fun x : Int => now0 ≤ x ∧ x ≤ now0 + 3) (fun x => [(9, .v (.int .i64 x))]) (fun _ => []) (fun _ => []) ?_ ?_)
      | refine CutN.plain ?_
      | with_reducible refine Br.tt ?_
      | with_reducible refine Br.ff ?_
      | with_reducible refine Br.nt ?_
      | with_reducible refine Br.nf ?_
      | with_reducible refine Br.eeI ?_
      | with_reducible refine Br.nnI ?_
      | refine Br.yes (by decide) ?_
      | refine Br.no (by decide) ?_
      | refine Need.go rfl ?_
      | refine QuiD.quiet (by kernel_rfl) ?_
      | refine IdxN.lit ?_
      | refine draw_go tabOK (by kernel_rfl) ?_
      | refine Need.go ⟨rfl, rfl⟩ ?_
      | refine Need.go ⟨⟨rfl, rfl, rfl⟩, rfl⟩ ?_
      | (with_reducible refine Br.dec (fun h => ?_) (fun h => ?_); first | (rotate_left; exfalso; omega; clear h) | (exfalso; omega; clear h) | skip)
      | (with_reducible refine Br.eqI (fun h => ?_) (fun h => ?_); first | (rotate_left; exfalso; omega; clear h) | (exfalso; omega; clear h) | skip)
      | (with_reducible refine Br.neI (fun h => ?_) (fun h => ?_); first | (rotate_left; exfalso; omega; clear h) | (exfalso; omega; clear h) | skip)
      | (with_reducible refine Br.eqS (fun h => ?_) (fun h => ?_); first | (rotate_left; exfalso; omega; clear h) | (exfalso; omega; clear h) | skip)
      | (with_reducible refine Br.neS (fun h => ?_) (fun h => ?_); first | (rotate_left; exfalso; omega; clear h) | (exfalso; omega; clear h) | skip)
      | (with_reducible refine Br.nd (fun h => ?_) (fun h => ?_); first | (rotate_left; exfalso; omega; clear h) | (exfalso; omega; clear h) | skip)
      | refine Ar.i64 (by omega) (by omega) ?_
      | refine Need.go (by first | (have := htk (by omega); omega) | fail) ?_
      | refine Ar.i64 (by first | (have := htk (by omega); omega) | fail) (by first | (have := htk (by omega); omega) | fail) ?_
      | refine Need.go (by first | omega | decide | (simp <;> omega) | fail) ?_
      | refine Need.go (by first | (simp [Value.oneCell'] <;> omega) | fail) ?_
      | refine Need.go ⟨rfl, by omega, getD_one rfl rfl⟩ ?_
      | refine Need.go ⟨rfl, by omega, fun _ _ _ _ => rfl⟩ ?_
      | refine Br.both (fun h => ?_) (fun h => ?_))
  rotate_left
  all_goals (conv => whnf)
  any_goals first
    | (refine ⟨now0 + ts.getD (Int.toNat (k : Int)) 0 % 4, by (have := htk (by omega); omega), ?_⟩
       (conv => whnf)
       refine ⟨[some 0, some 1, some 2, some 3, some 4, some 5, some 6], by decide, ?_, ?_⟩
       all_goals repeat' (first | exact trivial | exact .inl ⟨rfl, rfl⟩ | rfl | exact .inr ⟨_, rfl, rfl, rfl⟩ | exact ⟨_, rfl, trivial⟩ | exact ⟨_, rfl, rfl⟩ | exact ⟨_, rfl, ⟨rfl, rfl, rfl⟩, fun _ _ _ _ => rfl⟩ | exact ⟨_, rfl, ⟨rfl, rfl, .inl rfl⟩, rfl⟩ | exact ⟨_, rfl, ⟨rfl, rfl, .inr rfl⟩, rfl⟩ | exact ⟨_, rfl, ⟨rfl, rfl, rfl, rfl, rfl⟩, rfl⟩ | exact ⟨_, rfl, ⟨rfl, rfl⟩, fun _ => Iff.rfl⟩ | refine ⟨_, rfl, rfl, ?_⟩ | refine ⟨_, rfl, ⟨rfl, rfl, rfl⟩, ?_⟩ | refine And.intro ?_ ?_)
       done)
    | (refine ⟨now0, by omega, ?_⟩
       (conv => whnf)
       refine ⟨[some 0, some 1, some 2, some 3, some 4, some 5, some 6], by decide, ?_, ?_⟩
       all_goals repeat' (first | exact trivial | exact .inl ⟨rfl, rfl⟩ | rfl | exact .inr ⟨_, rfl, rfl, rfl⟩ | exact ⟨_, rfl, trivial⟩ | exact ⟨_, rfl, rfl⟩ | exact ⟨_, rfl, ⟨rfl, rfl, rfl⟩, fun _ _ _ _ => rfl⟩ | exact ⟨_, rfl, ⟨rfl, rfl, .inl rfl⟩, rfl⟩ | exact ⟨_, rfl, ⟨rfl, rfl, .inr rfl⟩, rfl⟩ | exact ⟨_, rfl, ⟨rfl, rfl, rfl, rfl, rfl⟩, rfl⟩ | exact ⟨_, rfl, ⟨rfl, rfl⟩, fun _ => Iff.rfl⟩ | refine ⟨_, rfl, rfl, ?_⟩ | refine ⟨_, rfl, ⟨rfl, rfl, rfl⟩, ?_⟩ | refine And.intro ?_ ?_)
       done)
    | fail
  clear htk
  intro now hnow
  have hn0 : 0 ≤ y.a % d.nodes ∧ y.a % d.nodes < d.nodes := ⟨Int.emod_nonneg _ (by omega), Int.emod_lt_of_pos _ (by omega)⟩
  have hnear : nearM now = now := by unfold nearM; omega
  obtain ⟨n, hn⟩ : ∃ n, y.a % d.nodes = n := ⟨_, rfl⟩
  rw [hn] at hn0
  have hmn := hst.nodes
  have t0 := masTake m hmo n now (frA 11 m.ch.epoch 1) none 0 0
  have t0 : Spec Try.prog 18 [.p 0 0, .v (.int .i64 n), frS (frA 11 m.ch.epoch 1) (.v (.slice none 0 0)), .v (.int .i64 now)] (masH m) (outR (takeM m n 11 m.ch.epoch 1 now) fun q => q) := t0
  have t1 := masJoin m hmo n now
  have t2 := masSuspect m hmo n
  have la := lay_arr m.heard now (v := n) (by omega) (by omega)
  have e0 := take_heard (m := m) (n := n) (by omega) now
  have e1 := join_heard (m := m) (n := n) (now := now)
  have e2 := join_no (m := m) (n := n) (now := now)
  rw [hnear] at e0
  have s0 := take_st hst n 11 m.ch.epoch 1 now
  have s1 := join_st hst n now
  have s2 := suspect_st hst n
  have f2 := suspect_heard m n
  obtain ⟨o0, ho0⟩ : ∃ o, takeM m n 11 m.ch.epoch 1 now = o := ⟨_, rfl⟩
  obtain ⟨o1, ho1⟩ : ∃ o, joinMM m n now = o := ⟨_, rfl⟩
  obtain ⟨o2, ho2⟩ : ∃ o, suspectM m n = o := ⟨_, rfl⟩
  rw [ho0] at t0 e0 s0
  rw [ho1] at t1 e1 e2 s1
  rw [ho2] at t2 s2 f2
  have la0 := la
  rw [← e0] at la0
  repeat' ((conv => whnf); first
      | rw [hy]
      | rw [hn]
      | (refine cut_up 2 46 (fun x : MasM × (Nat → Prop) => MasSt d (1 + 12 * k + 1) x.1) (fun _ => [(13, .junk), (14, .junk)]) (fun x => [(5, .ent (.res true x.2 (MasQ b x.1 x.2))), (6, .ent (.blk 34 (arrL x.1.heard)))]) (fun _ => []) ?_ ?_)
      | refine IdxN.sym ?_
      | refine CutN.plain ?_
      | with_reducible refine Br.tt ?_
      | with_reducible refine Br.ff ?_
      | with_reducible refine Br.nt ?_
      | with_reducible refine Br.nf ?_
      | with_reducible refine Br.eeI ?_
      | with_reducible refine Br.nnI ?_
      | refine Br.yes (by decide) ?_
      | refine Br.no (by decide) ?_
      | refine Need.go rfl ?_
      | refine QuiD.quiet (by kernel_rfl) ?_
      | refine IdxN.lit ?_
      | refine draw_go tabOK (by kernel_rfl) ?_
      | refine Need.go ⟨rfl, rfl⟩ ?_
      | refine Need.go ⟨⟨rfl, rfl, rfl⟩, rfl⟩ ?_
      | (with_reducible refine Br.dec (fun h => ?_) (fun h => ?_); first | (rotate_left; exfalso; omega; clear h) | (exfalso; omega; clear h) | skip)
      | (with_reducible refine Br.eqI (fun h => ?_) (fun h => ?_); first | (rotate_left; exfalso; omega; clear h) | (exfalso; omega; clear h) | skip)
      | (with_reducible refine Br.neI (fun h => ?_) (fun h => ?_); first | (rotate_left; exfalso; omega; clear h) | (exfalso; omega; clear h) | skip)
      | (with_reducible refine Br.eqS (fun h => ?_) (fun h => ?_); first | (rotate_left; exfalso; omega; clear h) | (exfalso; omega; clear h) | skip)
      | (with_reducible refine Br.neS (fun h => ?_) (fun h => ?_); first | (rotate_left; exfalso; omega; clear h) | (exfalso; omega; clear h) | skip)
      | (with_reducible refine Br.nd (fun h => ?_) (fun h => ?_); first | (rotate_left; exfalso; omega; clear h) | (exfalso; omega; clear h) | skip)
      | refine Ar.i64 (by omega) (by omega) ?_
      | (refine mas_op t0 mk_id (fun _ _ => rfl) 5 rfl ?_; intro p1 Y1 ZT)
      | (refine mas_op t1 (mk_pair _) (fun _ _ => rfl) 5 rfl ?_; intro p1 Y1 ZJ)
      | (refine mas_op t2 (mk_pair _) (fun _ _ => rfl) 5 rfl ?_; intro p1 Y1 ZS)
      | refine mas_chain m hmo 5 rfl ?_
      | refine LayN.mk' (arrL o0.m.heard) (by have _ := ZT; exact la0) ?_
      | refine LayN.mk' (arrL fun i => if i = n.toNat then now else m.heard i) la ?_
      | refine Need.go (by first | omega | decide | (simp <;> omega) | fail) ?_
      | refine Need.go (by first | (simp [Value.oneCell'] <;> omega) | fail) ?_
      | refine Need.go ⟨rfl, by omega, getD_one rfl rfl⟩ ?_
      | refine Need.go ⟨rfl, by omega, fun _ _ _ _ => rfl⟩ ?_
      | refine Br.both (fun h => ?_) (fun h => ?_))
  rotate_left
  all_goals (conv => whnf)
  any_goals first
    | (refine ⟨(o0.m, ZT), s0, ?_⟩
       dsimp only
       (conv => whnf)
       refine ⟨[some 0, some 1, some 2, some 3, some 4, some 5, some 6], by decide, ?_, ?_⟩
       all_goals repeat' (first | exact trivial | exact .inl ⟨rfl, rfl⟩ | rfl | exact .inr ⟨_, rfl, rfl, rfl⟩ | exact ⟨_, rfl, trivial⟩ | exact ⟨_, rfl, rfl⟩ | exact ⟨_, rfl, ⟨rfl, rfl, rfl⟩, fun _ _ _ _ => rfl⟩ | exact ⟨_, rfl, ⟨rfl, rfl, .inl rfl⟩, rfl⟩ | exact ⟨_, rfl, ⟨rfl, rfl, .inr rfl⟩, rfl⟩ | exact ⟨_, rfl, ⟨rfl, rfl, rfl, rfl, rfl⟩, rfl⟩ | exact ⟨_, rfl, ⟨rfl, rfl⟩, fun _ => Iff.rfl⟩ | refine ⟨_, rfl, rfl, ?_⟩ | refine ⟨_, rfl, ⟨rfl, rfl, rfl⟩, ?_⟩ | refine And.intro ?_ ?_)
       done)
    | (have e1' : o1.m.heard = fun i => if i = n.toNat then now else m.heard i := by rw [e1 (by assumption), hnear]
       refine ⟨(o1.m, ZJ), s1, ?_⟩
       dsimp only
       rw [e1']
       (conv => whnf)
       refine ⟨[some 0, some 1, some 2, some 3, some 4, some 5, some 6], by decide, ?_, ?_⟩
       all_goals repeat' (first | exact trivial | exact .inl ⟨rfl, rfl⟩ | rfl | exact .inr ⟨_, rfl, rfl, rfl⟩ | exact ⟨_, rfl, trivial⟩ | exact ⟨_, rfl, rfl⟩ | exact ⟨_, rfl, ⟨rfl, rfl, rfl⟩, fun _ _ _ _ => rfl⟩ | exact ⟨_, rfl, ⟨rfl, rfl, .inl rfl⟩, rfl⟩ | exact ⟨_, rfl, ⟨rfl, rfl, .inr rfl⟩, rfl⟩ | exact ⟨_, rfl, ⟨rfl, rfl, rfl, rfl, rfl⟩, rfl⟩ | exact ⟨_, rfl, ⟨rfl, rfl⟩, fun _ => Iff.rfl⟩ | refine ⟨_, rfl, rfl, ?_⟩ | refine ⟨_, rfl, ⟨rfl, rfl, rfl⟩, ?_⟩ | refine And.intro ?_ ?_)
       done)
    | (have e2' : o1.m = m := e2 (by assumption)
       refine ⟨(o1.m, ZJ), s1, ?_⟩
       dsimp only
       rw [e2']
       (conv => whnf)
       refine ⟨[some 0, some 1, some 2, some 3, some 4, some 5, some 6], by decide, ?_, ?_⟩
       all_goals repeat' (first | exact trivial | exact .inl ⟨rfl, rfl⟩ | rfl | exact .inr ⟨_, rfl, rfl, rfl⟩ | exact ⟨_, rfl, trivial⟩ | exact ⟨_, rfl, rfl⟩ | exact ⟨_, rfl, ⟨rfl, rfl, rfl⟩, fun _ _ _ _ => rfl⟩ | exact ⟨_, rfl, ⟨rfl, rfl, .inl rfl⟩, rfl⟩ | exact ⟨_, rfl, ⟨rfl, rfl, .inr rfl⟩, rfl⟩ | exact ⟨_, rfl, ⟨rfl, rfl, rfl, rfl, rfl⟩, rfl⟩ | exact ⟨_, rfl, ⟨rfl, rfl⟩, fun _ => Iff.rfl⟩ | refine ⟨_, rfl, rfl, ?_⟩ | refine ⟨_, rfl, ⟨rfl, rfl, rfl⟩, ?_⟩ | refine And.intro ?_ ?_)
       done)
    | (refine ⟨(o2.m, ZS), s2, ?_⟩
       dsimp only
       rw [f2]
       (conv => whnf)
       refine ⟨[some 0, some 1, some 2, some 3, some 4, some 5, some 6], by decide, ?_, ?_⟩
       all_goals repeat' (first | exact trivial | exact .inl ⟨rfl, rfl⟩ | rfl | exact .inr ⟨_, rfl, rfl, rfl⟩ | exact ⟨_, rfl, trivial⟩ | exact ⟨_, rfl, rfl⟩ | exact ⟨_, rfl, ⟨rfl, rfl, rfl⟩, fun _ _ _ _ => rfl⟩ | exact ⟨_, rfl, ⟨rfl, rfl, .inl rfl⟩, rfl⟩ | exact ⟨_, rfl, ⟨rfl, rfl, .inr rfl⟩, rfl⟩ | exact ⟨_, rfl, ⟨rfl, rfl, rfl, rfl, rfl⟩, rfl⟩ | exact ⟨_, rfl, ⟨rfl, rfl⟩, fun _ => Iff.rfl⟩ | refine ⟨_, rfl, rfl, ?_⟩ | refine ⟨_, rfl, ⟨rfl, rfl, rfl⟩, ?_⟩ | refine And.intro ?_ ?_)
       done)
    | fail
  clear t0 t1 t2 la e0 e1 e2 s0 s1 s2 f2 la0 ho0 ho1 ho2 hst hmo hmn
  clear hya hyk hyw hn0 hn
  intro x hst
  obtain ⟨m', Z'⟩ := x
  simp only at hst
  dsimp only
  have hmo := hst.ok
  have hme := hst.ep
  have hml := okCh_len hmo.ch
  have hpat := hst.pat
  have t6 := masTick m' hmo now
  have hto := tick_okM hmo now
  have htst := tick_st hst now
  have hkeep := fun {j : Nat} (hj : j < m'.ch.mem.length) => tick_keeps hmo (now := now) (by omega) (by omega) hj
  have hhd := tick_heardM m' now
  obtain ⟨o, ho⟩ : ∃ o, tickM m' now = o := ⟨_, rfl⟩
  rw [ho] at t6 hto htst hhd
  simp only [ho] at hkeep
  obtain ⟨mt, sl, er⟩ := o
  simp only at hto htst hkeep hhd
  have htl := okCh_len hto.ch
  repeat' ((conv => whnf); first
      | refine CutN.plain ?_
      | with_reducible refine Br.tt ?_
      | with_reducible refine Br.ff ?_
      | with_reducible refine Br.nt ?_
      | with_reducible refine Br.nf ?_
      | with_reducible refine Br.eeI ?_
      | with_reducible refine Br.nnI ?_
      | refine Br.yes (by decide) ?_
      | refine Br.no (by decide) ?_
      | refine Need.go rfl ?_
      | refine QuiD.quiet (by kernel_rfl) ?_
      | refine IdxN.lit ?_
      | refine draw_go tabOK (by kernel_rfl) ?_
      | refine Need.go ⟨rfl, rfl⟩ ?_
      | refine Need.go ⟨⟨rfl, rfl, rfl⟩, rfl⟩ ?_
      | (with_reducible refine Br.dec (fun h => ?_) (fun h => ?_); first | (rotate_left; exfalso; omega; clear h) | (exfalso; omega; clear h) | skip)
      | (with_reducible refine Br.eqI (fun h => ?_) (fun h => ?_); first | (rotate_left; exfalso; omega; clear h) | (exfalso; omega; clear h) | skip)
      | (with_reducible refine Br.neI (fun h => ?_) (fun h => ?_); first | (rotate_left; exfalso; omega; clear h) | (exfalso; omega; clear h) | skip)
      | (with_reducible refine Br.eqS (fun h => ?_) (fun h => ?_); first | (rotate_left; exfalso; omega; clear h) | (exfalso; omega; clear h) | skip)
      | (with_reducible refine Br.neS (fun h => ?_) (fun h => ?_); first | (rotate_left; exfalso; omega; clear h) | (exfalso; omega; clear h) | skip)
      | (with_reducible refine Br.nd (fun h => ?_) (fun h => ?_); first | (rotate_left; exfalso; omega; clear h) | (exfalso; omega; clear h) | skip)
      | refine Ar.i64 (by omega) (by omega) ?_
      | refine mas_chain m' hmo 5 rfl ?_
      | (refine mas_op t6 mk_id (fun _ _ => rfl) 5 rfl ?_; intro p2 Y2 Z2)
      | refine mas_chain mt hto 5 rfl ?_
      | refine Need.go (by first | omega | decide | (simp <;> omega) | fail) ?_
      | refine Need.go (by first | (simp [Value.oneCell'] <;> omega) | fail) ?_
      | refine Need.go ⟨rfl, by omega, getD_one rfl rfl⟩ ?_
      | refine Need.go ⟨rfl, by omega, fun _ _ _ _ => rfl⟩ ?_
      | refine Br.both (fun h => ?_) (fun h => ?_))
  all_goals (conv => whnf)
  refine loop_up 117 (fun j : Nat => j ≤ m'.ch.mem.length) (fun j => m'.ch.mem.length - j) (fun j => [(17, .v (.int .i64 j)), (18, .junk), (19, .junk), (20, .junk), (21, .junk), (22, .junk)]) (fun _ => []) (fun _ => []) 0 (Nat.zero_le _) (by
    (conv => whnf)
    refine ⟨[some 0, some 1, some 2, some 3, some 4, some 5, some 6, some 7, some 8, some 9, some 10, some 11, some 12], by decide, ?_, ?_⟩
    all_goals repeat' (first | exact trivial | exact .inl ⟨rfl, rfl⟩ | rfl | exact .inr ⟨_, rfl, rfl, rfl⟩ | exact ⟨_, rfl, trivial⟩ | exact ⟨_, rfl, rfl⟩ | exact ⟨_, rfl, ⟨rfl, rfl, rfl⟩, fun _ _ _ _ => rfl⟩ | exact ⟨_, rfl, ⟨rfl, rfl, .inl rfl⟩, rfl⟩ | exact ⟨_, rfl, ⟨rfl, rfl, .inr rfl⟩, rfl⟩ | exact ⟨_, rfl, ⟨rfl, rfl, rfl, rfl, rfl⟩, rfl⟩ | exact ⟨_, rfl, ⟨rfl, rfl⟩, fun _ => Iff.rfl⟩ | refine ⟨_, rfl, rfl, ?_⟩ | refine ⟨_, rfl, ⟨rfl, rfl, rfl⟩, ?_⟩ | refine And.intro ?_ ?_)) (fun j hj => ?_)
  by_cases hjm : j < m'.ch.mem.length
  case neg =>
    repeat' ((conv => whnf); first
        | refine CutN.plain ?_
        | with_reducible refine Br.tt ?_
        | with_reducible refine Br.ff ?_
        | with_reducible refine Br.nt ?_
        | with_reducible refine Br.nf ?_
        | with_reducible refine Br.eeI ?_
        | with_reducible refine Br.nnI ?_
        | refine Br.yes (by decide) ?_
        | refine Br.no (by decide) ?_
        | refine Need.go rfl ?_
        | refine QuiD.quiet (by kernel_rfl) ?_
        | refine IdxN.lit ?_
        | refine draw_go tabOK (by kernel_rfl) ?_
        | refine Need.go ⟨rfl, rfl⟩ ?_
        | refine Need.go ⟨⟨rfl, rfl, rfl⟩, rfl⟩ ?_
        | (with_reducible refine Br.dec (fun h => ?_) (fun h => ?_); first | (rotate_left; exfalso; omega; clear h) | (exfalso; omega; clear h) | skip)
        | (with_reducible refine Br.eqI (fun h => ?_) (fun h => ?_); first | (rotate_left; exfalso; omega; clear h) | (exfalso; omega; clear h) | skip)
        | (with_reducible refine Br.neI (fun h => ?_) (fun h => ?_); first | (rotate_left; exfalso; omega; clear h) | (exfalso; omega; clear h) | skip)
        | (with_reducible refine Br.eqS (fun h => ?_) (fun h => ?_); first | (rotate_left; exfalso; omega; clear h) | (exfalso; omega; clear h) | skip)
        | (with_reducible refine Br.neS (fun h => ?_) (fun h => ?_); first | (rotate_left; exfalso; omega; clear h) | (exfalso; omega; clear h) | skip)
        | (with_reducible refine Br.nd (fun h => ?_) (fun h => ?_); first | (rotate_left; exfalso; omega; clear h) | (exfalso; omega; clear h) | skip)
        | refine Ar.i64 (by omega) (by omega) ?_
        | refine Need.go (by first | omega | decide | (simp <;> omega) | fail) ?_
        | refine Need.go (by first | (simp [Value.oneCell'] <;> omega) | fail) ?_
        | refine Need.go ⟨rfl, by omega, getD_one rfl rfl⟩ ?_
        | refine Need.go ⟨rfl, by omega, fun _ _ _ _ => rfl⟩ ?_
        | refine Br.both (fun h => ?_) (fun h => ?_))
    all_goals (conv => whnf)
    refine ⟨(k + 1, now, mt, Z2), ⟨by simp only; omega, by simp only; omega, htst.mono (by omega)⟩, by simp only; omega, ?_⟩
    dsimp only
    rw [hhd]
    (conv => whnf)
    refine ⟨[some 0, some 1, some 2, some 3, some 4, some 5, some 6], by decide, ?_, ?_⟩
    all_goals repeat' (first | exact trivial | exact .inl ⟨rfl, rfl⟩ | rfl | exact .inr ⟨_, rfl, rfl, rfl⟩ | exact ⟨_, rfl, trivial⟩ | exact ⟨_, rfl, rfl⟩ | exact ⟨_, rfl, ⟨rfl, rfl, rfl⟩, fun _ _ _ _ => rfl⟩ | exact ⟨_, rfl, ⟨rfl, rfl, .inl rfl⟩, rfl⟩ | exact ⟨_, rfl, ⟨rfl, rfl, .inr rfl⟩, rfl⟩ | exact ⟨_, rfl, ⟨rfl, rfl, rfl, rfl, rfl⟩, rfl⟩ | exact ⟨_, rfl, ⟨rfl, rfl⟩, fun _ => Iff.rfl⟩ | refine ⟨_, rfl, rfl, ?_⟩ | refine ⟨_, rfl, ⟨rfl, rfl, rfl⟩, ?_⟩ | refine And.intro ?_ ?_)
  have hnd := nd_ok hmo.ch hjm
  obtain ⟨hka, hkb⟩ := hkeep hjm
  obtain ⟨z, hz⟩ : ∃ z, (m'.ch.mem.getD (Int.toNat (j : Int)) (0, 0)).1 = z := ⟨_, rfl⟩
  rw [show j = Int.toNat (j : Int) from rfl, hz] at hnd hka hkb
  have hz0 := hnd.1
  have hz6 := hnd.2.1
  have hhe := hmo.heard z.toNat
  have hsin : sinceM mt.ch z = ((sinceM mt.ch z).1, isMemM mt z) := rfl
  rw [hpat] at hka hkb
  clear hnd
  cases hin : isMemM mt z with
  | false =>
    have hka := hka hin
    rw [hin] at hsin
    repeat' ((conv => whnf); first
        | rw [hz]
        | refine IdxN.sym ?_
        | refine CutN.plain ?_
        | with_reducible refine Br.tt ?_
        | with_reducible refine Br.ff ?_
        | with_reducible refine Br.nt ?_
        | with_reducible refine Br.nf ?_
        | with_reducible refine Br.eeI ?_
        | with_reducible refine Br.nnI ?_
        | refine Br.yes (by decide) ?_
        | refine Br.no (by decide) ?_
        | refine Need.go rfl ?_
        | refine QuiD.quiet (by kernel_rfl) ?_
        | refine IdxN.lit ?_
        | refine draw_go tabOK (by kernel_rfl) ?_
        | refine Need.go ⟨rfl, rfl⟩ ?_
        | refine Need.go ⟨⟨rfl, rfl, rfl⟩, rfl⟩ ?_
        | (with_reducible refine Br.dec (fun h => ?_) (fun h => ?_); first | (rotate_left; exfalso; omega; clear h) | (exfalso; omega; clear h) | skip)
        | (with_reducible refine Br.eqI (fun h => ?_) (fun h => ?_); first | (rotate_left; exfalso; omega; clear h) | (exfalso; omega; clear h) | skip)
        | (with_reducible refine Br.neI (fun h => ?_) (fun h => ?_); first | (rotate_left; exfalso; omega; clear h) | (exfalso; omega; clear h) | skip)
        | (with_reducible refine Br.eqS (fun h => ?_) (fun h => ?_); first | (rotate_left; exfalso; omega; clear h) | (exfalso; omega; clear h) | skip)
        | (with_reducible refine Br.neS (fun h => ?_) (fun h => ?_); first | (rotate_left; exfalso; omega; clear h) | (exfalso; omega; clear h) | skip)
        | (with_reducible refine Br.nd (fun h => ?_) (fun h => ?_); first | (rotate_left; exfalso; omega; clear h) | (exfalso; omega; clear h) | skip)
        | refine Ar.i64 (by omega) (by omega) ?_
        | refine SelN.mk' (.v (.int .i64 (m'.heard z.toNat))) (sel_arr m'.heard hz0 hz6) ?_
        | (refine call_mem (f := 23) (args := [chS mt.ch (.os 11 mt.ch.mem.length), .v (.int .i64 (m'.ch.mem.getD (Int.toNat (j : Int)) (0, 0)).1)]) (V := .tuple #[.int .i64 (sinceM mt.ch z).1, .bool false]) ?_ ?_; exact fun ρ w h => (by rw [hz]; have := since_any mt.ch _ z w (sl_os h (i := 11) rfl) (by omega); rw [hsin] at this; exact this))
        | (refine quiet_mem (f := 23) (args := [chS mt.ch (.os 11 mt.ch.mem.length), .v (.int .i64 (m'.ch.mem.getD (Int.toNat (j : Int)) (0, 0)).1)]) (V := .tuple #[.int .i64 (sinceM mt.ch z).1, .bool false]) ?_ ?_; exact fun ρ w h => (by rw [hz]; have := since_any mt.ch _ z w (sl_os h (i := 11) rfl) (by omega); rw [hsin] at this; exact this))
        | (refine seg_mem (f := 23) (args := [chS mt.ch (.os 11 mt.ch.mem.length), .v (.int .i64 (m'.ch.mem.getD (Int.toNat (j : Int)) (0, 0)).1)]) (V := .tuple #[.int .i64 (sinceM mt.ch z).1, .bool false]) ?_ ?_; exact fun ρ w h => (by rw [hz]; have := since_any mt.ch _ z w (sl_os h (i := 11) rfl) (by omega); rw [hsin] at this; exact this))
        | refine Need.go (by first | omega | decide | (simp <;> omega) | fail) ?_
        | refine Need.go (by first | (simp [Value.oneCell'] <;> omega) | fail) ?_
        | refine Need.go ⟨rfl, by omega, getD_one rfl rfl⟩ ?_
        | refine Need.go ⟨rfl, by omega, fun _ _ _ _ => rfl⟩ ?_
        | refine Br.both (fun h => ?_) (fun h => ?_))
    all_goals (conv => whnf)
    refine loop_up 156 (fun x : Nat × Bool => x.1 ≤ mt.ch.mem.length ∧ x.2 = othersM mt mt.ch.mem z x.1) (fun x => mt.ch.mem.length - x.1) (fun x => [(21, .v (.bool x.2)), (22, .v (.int .i64 x.1))]) (fun _ => []) (fun _ => []) (0, false) ⟨Nat.zero_le _, rfl⟩ (by
      (conv => whnf)
      refine ⟨[some 0, some 1, some 2, some 3, some 4, some 5, some 6, some 7, some 8, some 9, some 10, some 11, some 12], by decide, ?_, ?_⟩
      all_goals repeat' (first | exact trivial | exact .inl ⟨rfl, rfl⟩ | rfl | exact .inr ⟨_, rfl, rfl, rfl⟩ | exact ⟨_, rfl, trivial⟩ | exact ⟨_, rfl, rfl⟩ | exact ⟨_, rfl, ⟨rfl, rfl, rfl⟩, fun _ _ _ _ => rfl⟩ | exact ⟨_, rfl, ⟨rfl, rfl, .inl rfl⟩, rfl⟩ | exact ⟨_, rfl, ⟨rfl, rfl, .inr rfl⟩, rfl⟩ | exact ⟨_, rfl, ⟨rfl, rfl, rfl, rfl, rfl⟩, rfl⟩ | exact ⟨_, rfl, ⟨rfl, rfl⟩, fun _ => Iff.rfl⟩ | refine ⟨_, rfl, rfl, ?_⟩ | refine ⟨_, rfl, ⟨rfl, rfl, rfl⟩, ?_⟩ | refine And.intro ?_ ?_)) (fun x hx => ?_)
    obtain ⟨j2, B⟩ := x
    obtain ⟨hj2, hB⟩ := hx
    simp only at hj2 hB
    dsimp only
    by_cases hjl : j2 < mt.ch.mem.length
    · have hos := oth_step mt mt.ch.mem z hjl
      have hos : othersM mt mt.ch.mem z (j2 + 1) = (B || (!((mt.ch.mem.getD (Int.toNat (j2 : Int)) (0, 0)).1 == z) && wholeM mt (mt.ch.mem.getD (Int.toNat (j2 : Int)) (0, 0)).1)) := hB ▸ hos
      obtain ⟨wz, hwz⟩ : ∃ wz, wholeM mt (mt.ch.mem.getD (Int.toNat (j2 : Int)) (0, 0)).1 = wz := ⟨_, rfl⟩
      rw [hwz] at hos
      clear hB
      cases B with
      | true =>
        have hos : othersM mt mt.ch.mem z (j2 + 1) = true := hos.trans (Bool.true_or _)
        repeat' ((conv => whnf); first
            | refine CutN.plain ?_
            | with_reducible refine Br.tt ?_
            | with_reducible refine Br.ff ?_
            | with_reducible refine Br.nt ?_
            | with_reducible refine Br.nf ?_
            | with_reducible refine Br.eeI ?_
            | with_reducible refine Br.nnI ?_
            | refine Br.yes (by decide) ?_
            | refine Br.no (by decide) ?_
            | refine Need.go rfl ?_
            | refine QuiD.quiet (by kernel_rfl) ?_
            | refine IdxN.lit ?_
            | refine draw_go tabOK (by kernel_rfl) ?_
            | refine Need.go ⟨rfl, rfl⟩ ?_
            | refine Need.go ⟨⟨rfl, rfl, rfl⟩, rfl⟩ ?_
            | (with_reducible refine Br.dec (fun h => ?_) (fun h => ?_); first | (rotate_left; exfalso; omega; clear h) | (exfalso; omega; clear h) | skip)
            | (with_reducible refine Br.eqI (fun h => ?_) (fun h => ?_); first | (rotate_left; exfalso; omega; clear h) | (exfalso; omega; clear h) | skip)
            | (with_reducible refine Br.neI (fun h => ?_) (fun h => ?_); first | (rotate_left; exfalso; omega; clear h) | (exfalso; omega; clear h) | skip)
            | (with_reducible refine Br.eqS (fun h => ?_) (fun h => ?_); first | (rotate_left; exfalso; omega; clear h) | (exfalso; omega; clear h) | skip)
            | (with_reducible refine Br.neS (fun h => ?_) (fun h => ?_); first | (rotate_left; exfalso; omega; clear h) | (exfalso; omega; clear h) | skip)
            | (with_reducible refine Br.nd (fun h => ?_) (fun h => ?_); first | (rotate_left; exfalso; omega; clear h) | (exfalso; omega; clear h) | skip)
            | refine Ar.i64 (by omega) (by omega) ?_
            | (refine mas_whole mt hto (mt.ch.mem.getD (Int.toNat (j2 : Int)) (0, 0)).1 5 rfl ?_; rw [hwz])
            | refine Need.go (by first | omega | decide | (simp <;> omega) | fail) ?_
            | refine Need.go (by first | (simp [Value.oneCell'] <;> omega) | fail) ?_
            | refine Need.go ⟨rfl, by omega, getD_one rfl rfl⟩ ?_
            | refine Need.go ⟨rfl, by omega, fun _ _ _ _ => rfl⟩ ?_
            | refine Br.both (fun h => ?_) (fun h => ?_))
        all_goals (conv => whnf)
        refine ⟨(j2 + 1, true), ⟨by simp only; omega, hos.symm⟩, by simp only; omega, ?_⟩
        dsimp only
        (conv => whnf)
        refine ⟨[some 0, some 1, some 2, some 3, some 4, some 5, some 6, some 7, some 8, some 9, some 10, some 11, some 12], by decide, ?_, ?_⟩
        all_goals repeat' (first | exact trivial | exact .inl ⟨rfl, rfl⟩ | rfl | exact .inr ⟨_, rfl, rfl, rfl⟩ | exact ⟨_, rfl, trivial⟩ | exact ⟨_, rfl, rfl⟩ | exact ⟨_, rfl, ⟨rfl, rfl, rfl⟩, fun _ _ _ _ => rfl⟩ | exact ⟨_, rfl, ⟨rfl, rfl, .inl rfl⟩, rfl⟩ | exact ⟨_, rfl, ⟨rfl, rfl, .inr rfl⟩, rfl⟩ | exact ⟨_, rfl, ⟨rfl, rfl, rfl, rfl, rfl⟩, rfl⟩ | exact ⟨_, rfl, ⟨rfl, rfl⟩, fun _ => Iff.rfl⟩ | refine ⟨_, rfl, rfl, ?_⟩ | refine ⟨_, rfl, ⟨rfl, rfl, rfl⟩, ?_⟩ | refine And.intro ?_ ?_)
      | false =>
        by_cases hzn : (mt.ch.mem.getD (Int.toNat (j2 : Int)) (0, 0)).1 = z
        · have hos : othersM mt mt.ch.mem z (j2 + 1) = false := by rw [hos, beq_iff_eq.2 hzn]; rfl
          repeat' ((conv => whnf); first
              | refine CutN.plain ?_
              | with_reducible refine Br.tt ?_
              | with_reducible refine Br.ff ?_
              | with_reducible refine Br.nt ?_
              | with_reducible refine Br.nf ?_
              | with_reducible refine Br.eeI ?_
              | with_reducible refine Br.nnI ?_
              | refine Br.yes (by decide) ?_
              | refine Br.no (by decide) ?_
              | refine Need.go rfl ?_
              | refine QuiD.quiet (by kernel_rfl) ?_
              | refine IdxN.lit ?_
              | refine draw_go tabOK (by kernel_rfl) ?_
              | refine Need.go ⟨rfl, rfl⟩ ?_
              | refine Need.go ⟨⟨rfl, rfl, rfl⟩, rfl⟩ ?_
              | (with_reducible refine Br.dec (fun h => ?_) (fun h => ?_); first | (rotate_left; exfalso; omega; clear h) | (exfalso; omega; clear h) | skip)
              | (with_reducible refine Br.eqI (fun h => ?_) (fun h => ?_); first | (rotate_left; exfalso; omega; clear h) | (exfalso; omega; clear h) | skip)
              | (with_reducible refine Br.neI (fun h => ?_) (fun h => ?_); first | (rotate_left; exfalso; omega; clear h) | (exfalso; omega; clear h) | skip)
              | (with_reducible refine Br.eqS (fun h => ?_) (fun h => ?_); first | (rotate_left; exfalso; omega; clear h) | (exfalso; omega; clear h) | skip)
              | (with_reducible refine Br.neS (fun h => ?_) (fun h => ?_); first | (rotate_left; exfalso; omega; clear h) | (exfalso; omega; clear h) | skip)
              | (with_reducible refine Br.nd (fun h => ?_) (fun h => ?_); first | (rotate_left; exfalso; omega; clear h) | (exfalso; omega; clear h) | skip)
              | refine Ar.i64 (by omega) (by omega) ?_
              | (refine mas_whole mt hto (mt.ch.mem.getD (Int.toNat (j2 : Int)) (0, 0)).1 5 rfl ?_; rw [hwz])
              | refine Need.go (by first | omega | decide | (simp <;> omega) | fail) ?_
              | refine Need.go (by first | (simp [Value.oneCell'] <;> omega) | fail) ?_
              | refine Need.go ⟨rfl, by omega, getD_one rfl rfl⟩ ?_
              | refine Need.go ⟨rfl, by omega, fun _ _ _ _ => rfl⟩ ?_
              | refine Br.both (fun h => ?_) (fun h => ?_))
          all_goals (conv => whnf)
          refine ⟨(j2 + 1, false), ⟨by simp only; omega, hos.symm⟩, by simp only; omega, ?_⟩
          dsimp only
          (conv => whnf)
          refine ⟨[some 0, some 1, some 2, some 3, some 4, some 5, some 6, some 7, some 8, some 9, some 10, some 11, some 12], by decide, ?_, ?_⟩
          all_goals repeat' (first | exact trivial | exact .inl ⟨rfl, rfl⟩ | rfl | exact .inr ⟨_, rfl, rfl, rfl⟩ | exact ⟨_, rfl, trivial⟩ | exact ⟨_, rfl, rfl⟩ | exact ⟨_, rfl, ⟨rfl, rfl, rfl⟩, fun _ _ _ _ => rfl⟩ | exact ⟨_, rfl, ⟨rfl, rfl, .inl rfl⟩, rfl⟩ | exact ⟨_, rfl, ⟨rfl, rfl, .inr rfl⟩, rfl⟩ | exact ⟨_, rfl, ⟨rfl, rfl, rfl, rfl, rfl⟩, rfl⟩ | exact ⟨_, rfl, ⟨rfl, rfl⟩, fun _ => Iff.rfl⟩ | refine ⟨_, rfl, rfl, ?_⟩ | refine ⟨_, rfl, ⟨rfl, rfl, rfl⟩, ?_⟩ | refine And.intro ?_ ?_)
        · have hos : othersM mt mt.ch.mem z (j2 + 1) = wz := by rw [hos, beq_eq_false_iff_ne.2 hzn]; cases wz <;> rfl
          repeat' ((conv => whnf); first
              | refine CutN.plain ?_
              | with_reducible refine Br.tt ?_
              | with_reducible refine Br.ff ?_
              | with_reducible refine Br.nt ?_
              | with_reducible refine Br.nf ?_
              | with_reducible refine Br.eeI ?_
              | with_reducible refine Br.nnI ?_
              | refine Br.yes (by decide) ?_
              | refine Br.no (by decide) ?_
              | refine Need.go rfl ?_
              | refine QuiD.quiet (by kernel_rfl) ?_
              | refine IdxN.lit ?_
              | refine draw_go tabOK (by kernel_rfl) ?_
              | refine Need.go ⟨rfl, rfl⟩ ?_
              | refine Need.go ⟨⟨rfl, rfl, rfl⟩, rfl⟩ ?_
              | (with_reducible refine Br.dec (fun h => ?_) (fun h => ?_); first | (rotate_left; exfalso; omega; clear h) | (exfalso; omega; clear h) | skip)
              | (with_reducible refine Br.eqI (fun h => ?_) (fun h => ?_); first | (rotate_left; exfalso; omega; clear h) | (exfalso; omega; clear h) | skip)
              | (with_reducible refine Br.neI (fun h => ?_) (fun h => ?_); first | (rotate_left; exfalso; omega; clear h) | (exfalso; omega; clear h) | skip)
              | (with_reducible refine Br.eqS (fun h => ?_) (fun h => ?_); first | (rotate_left; exfalso; omega; clear h) | (exfalso; omega; clear h) | skip)
              | (with_reducible refine Br.neS (fun h => ?_) (fun h => ?_); first | (rotate_left; exfalso; omega; clear h) | (exfalso; omega; clear h) | skip)
              | (with_reducible refine Br.nd (fun h => ?_) (fun h => ?_); first | (rotate_left; exfalso; omega; clear h) | (exfalso; omega; clear h) | skip)
              | refine Ar.i64 (by omega) (by omega) ?_
              | (refine mas_whole mt hto (mt.ch.mem.getD (Int.toNat (j2 : Int)) (0, 0)).1 5 rfl ?_; rw [hwz])
              | refine Need.go (by first | omega | decide | (simp <;> omega) | fail) ?_
              | refine Need.go (by first | (simp [Value.oneCell'] <;> omega) | fail) ?_
              | refine Need.go ⟨rfl, by omega, getD_one rfl rfl⟩ ?_
              | refine Need.go ⟨rfl, by omega, fun _ _ _ _ => rfl⟩ ?_
              | refine Br.both (fun h => ?_) (fun h => ?_))
          all_goals (conv => whnf)
          refine ⟨(j2 + 1, wz), ⟨by simp only; omega, hos.symm⟩, by simp only; omega, ?_⟩
          dsimp only
          (conv => whnf)
          refine ⟨[some 0, some 1, some 2, some 3, some 4, some 5, some 6, some 7, some 8, some 9, some 10, some 11, some 12], by decide, ?_, ?_⟩
          all_goals repeat' (first | exact trivial | exact .inl ⟨rfl, rfl⟩ | rfl | exact .inr ⟨_, rfl, rfl, rfl⟩ | exact ⟨_, rfl, trivial⟩ | exact ⟨_, rfl, rfl⟩ | exact ⟨_, rfl, ⟨rfl, rfl, rfl⟩, fun _ _ _ _ => rfl⟩ | exact ⟨_, rfl, ⟨rfl, rfl, .inl rfl⟩, rfl⟩ | exact ⟨_, rfl, ⟨rfl, rfl, .inr rfl⟩, rfl⟩ | exact ⟨_, rfl, ⟨rfl, rfl, rfl, rfl, rfl⟩, rfl⟩ | exact ⟨_, rfl, ⟨rfl, rfl⟩, fun _ => Iff.rfl⟩ | refine ⟨_, rfl, rfl, ?_⟩ | refine ⟨_, rfl, ⟨rfl, rfl, rfl⟩, ?_⟩ | refine And.intro ?_ ?_)
    · obtain rfl : j2 = mt.ch.mem.length := by omega
      rw [oth_all hto z] at hB
      clear hkb; have hkb : d.patience < d.patience → false = true := fun h => absurd h (Int.lt_irrefl _)
      repeat' ((conv => whnf); first
          | rw [hz]
          | refine IdxN.sym ?_
          | refine CutN.plain ?_
          | with_reducible refine Br.tt ?_
          | with_reducible refine Br.ff ?_
          | with_reducible refine Br.nt ?_
          | with_reducible refine Br.nf ?_
          | with_reducible refine Br.eeI ?_
          | with_reducible refine Br.nnI ?_
          | refine Br.yes (by decide) ?_
          | refine Br.no (by decide) ?_
          | refine Need.go rfl ?_
          | refine QuiD.quiet (by kernel_rfl) ?_
          | refine IdxN.lit ?_
          | refine draw_go tabOK (by kernel_rfl) ?_
          | refine Need.go ⟨rfl, rfl⟩ ?_
          | refine Need.go ⟨⟨rfl, rfl, rfl⟩, rfl⟩ ?_
          | (with_reducible refine Br.dec (fun h => ?_) (fun h => ?_); first | (rotate_left; exfalso; omega; clear h) | (exfalso; omega; clear h) | skip)
          | (with_reducible refine Br.eqI (fun h => ?_) (fun h => ?_); first | (rotate_left; exfalso; omega; clear h) | (exfalso; omega; clear h) | skip)
          | (with_reducible refine Br.neI (fun h => ?_) (fun h => ?_); first | (rotate_left; exfalso; omega; clear h) | (exfalso; omega; clear h) | skip)
          | (with_reducible refine Br.eqS (fun h => ?_) (fun h => ?_); first | (rotate_left; exfalso; omega; clear h) | (exfalso; omega; clear h) | skip)
          | (with_reducible refine Br.neS (fun h => ?_) (fun h => ?_); first | (rotate_left; exfalso; omega; clear h) | (exfalso; omega; clear h) | skip)
          | (with_reducible refine Br.nd (fun h => ?_) (fun h => ?_); first | (rotate_left; exfalso; omega; clear h) | (exfalso; omega; clear h) | skip)
          | refine Ar.i64 (by omega) (by omega) ?_
          | refine SelN.mk' (.v (.int .i64 (m'.heard z.toNat))) (sel_arr m'.heard hz0 hz6) ?_
          | refine Need.go (by first | omega | decide | (simp <;> omega) | fail) ?_
          | refine Need.go (by first | (simp [Value.oneCell'] <;> omega) | fail) ?_
          | refine Need.go ⟨rfl, by omega, getD_one rfl rfl⟩ ?_
          | refine Need.go ⟨rfl, by omega, fun _ _ _ _ => rfl⟩ ?_
          | refine Br.both (fun h => ?_) (fun h => ?_))
      all_goals (conv => whnf)
      all_goals first
        | (exfalso; omega)
        | (exfalso; have hf := hkb (by omega); rw [← hB] at hf; cases hf; done)
        | (exfalso; have hf := hkb (by omega); rw [← hB] at hf; exact absurd (hf.symm.trans (by assumption)) Bool.false_ne_true)
        | (refine ⟨j + 1, by omega, by omega, ?_⟩
           (conv => whnf)
           refine ⟨[some 0, some 1, some 2, some 3, some 4, some 5, some 6, some 7, some 8, some 9, some 10, some 11, some 12], by decide, ?_, ?_⟩
           all_goals repeat' (first | exact trivial | exact .inl ⟨rfl, rfl⟩ | rfl | exact .inr ⟨_, rfl, rfl, rfl⟩ | exact ⟨_, rfl, trivial⟩ | exact ⟨_, rfl, rfl⟩ | exact ⟨_, rfl, ⟨rfl, rfl, rfl⟩, fun _ _ _ _ => rfl⟩ | exact ⟨_, rfl, ⟨rfl, rfl, .inl rfl⟩, rfl⟩ | exact ⟨_, rfl, ⟨rfl, rfl, .inr rfl⟩, rfl⟩ | exact ⟨_, rfl, ⟨rfl, rfl, rfl, rfl, rfl⟩, rfl⟩ | exact ⟨_, rfl, ⟨rfl, rfl⟩, fun _ => Iff.rfl⟩ | refine ⟨_, rfl, rfl, ?_⟩ | refine ⟨_, rfl, ⟨rfl, rfl, rfl⟩, ?_⟩ | refine And.intro ?_ ?_)
           done)
        | fail
  | true =>
    have hkb := hkb hin
    rw [hin] at hsin
    repeat' ((conv => whnf); first
        | rw [hz]
        | refine IdxN.sym ?_
        | refine CutN.plain ?_
        | with_reducible refine Br.tt ?_
        | with_reducible refine Br.ff ?_
        | with_reducible refine Br.nt ?_
        | with_reducible refine Br.nf ?_
        | with_reducible refine Br.eeI ?_
        | with_reducible refine Br.nnI ?_
        | refine Br.yes (by decide) ?_
        | refine Br.no (by decide) ?_
        | refine Need.go rfl ?_
        | refine QuiD.quiet (by kernel_rfl) ?_
        | refine IdxN.lit ?_
        | refine draw_go tabOK (by kernel_rfl) ?_
        | refine Need.go ⟨rfl, rfl⟩ ?_
        | refine Need.go ⟨⟨rfl, rfl, rfl⟩, rfl⟩ ?_
        | (with_reducible refine Br.dec (fun h => ?_) (fun h => ?_); first | (rotate_left; exfalso; omega; clear h) | (exfalso; omega; clear h) | skip)
        | (with_reducible refine Br.eqI (fun h => ?_) (fun h => ?_); first | (rotate_left; exfalso; omega; clear h) | (exfalso; omega; clear h) | skip)
        | (with_reducible refine Br.neI (fun h => ?_) (fun h => ?_); first | (rotate_left; exfalso; omega; clear h) | (exfalso; omega; clear h) | skip)
        | (with_reducible refine Br.eqS (fun h => ?_) (fun h => ?_); first | (rotate_left; exfalso; omega; clear h) | (exfalso; omega; clear h) | skip)
        | (with_reducible refine Br.neS (fun h => ?_) (fun h => ?_); first | (rotate_left; exfalso; omega; clear h) | (exfalso; omega; clear h) | skip)
        | (with_reducible refine Br.nd (fun h => ?_) (fun h => ?_); first | (rotate_left; exfalso; omega; clear h) | (exfalso; omega; clear h) | skip)
        | refine Ar.i64 (by omega) (by omega) ?_
        | refine SelN.mk' (.v (.int .i64 (m'.heard z.toNat))) (sel_arr m'.heard hz0 hz6) ?_
        | (refine call_mem (f := 23) (args := [chS mt.ch (.os 11 mt.ch.mem.length), .v (.int .i64 (m'.ch.mem.getD (Int.toNat (j : Int)) (0, 0)).1)]) (V := .tuple #[.int .i64 (sinceM mt.ch z).1, .bool true]) ?_ ?_; exact fun ρ w h => (by rw [hz]; have := since_any mt.ch _ z w (sl_os h (i := 11) rfl) (by omega); rw [hsin] at this; exact this))
        | (refine quiet_mem (f := 23) (args := [chS mt.ch (.os 11 mt.ch.mem.length), .v (.int .i64 (m'.ch.mem.getD (Int.toNat (j : Int)) (0, 0)).1)]) (V := .tuple #[.int .i64 (sinceM mt.ch z).1, .bool true]) ?_ ?_; exact fun ρ w h => (by rw [hz]; have := since_any mt.ch _ z w (sl_os h (i := 11) rfl) (by omega); rw [hsin] at this; exact this))
        | (refine seg_mem (f := 23) (args := [chS mt.ch (.os 11 mt.ch.mem.length), .v (.int .i64 (m'.ch.mem.getD (Int.toNat (j : Int)) (0, 0)).1)]) (V := .tuple #[.int .i64 (sinceM mt.ch z).1, .bool true]) ?_ ?_; exact fun ρ w h => (by rw [hz]; have := since_any mt.ch _ z w (sl_os h (i := 11) rfl) (by omega); rw [hsin] at this; exact this))
        | refine Need.go (by first | omega | decide | (simp <;> omega) | fail) ?_
        | refine Need.go (by first | (simp [Value.oneCell'] <;> omega) | fail) ?_
        | refine Need.go ⟨rfl, by omega, getD_one rfl rfl⟩ ?_
        | refine Need.go ⟨rfl, by omega, fun _ _ _ _ => rfl⟩ ?_
        | refine Br.both (fun h => ?_) (fun h => ?_))
    all_goals (conv => whnf)
    refine loop_up 156 (fun x : Nat × Bool => x.1 ≤ mt.ch.mem.length ∧ x.2 = othersM mt mt.ch.mem z x.1) (fun x => mt.ch.mem.length - x.1) (fun x => [(21, .v (.bool x.2)), (22, .v (.int .i64 x.1))]) (fun _ => []) (fun _ => []) (0, false) ⟨Nat.zero_le _, rfl⟩ (by
      (conv => whnf)
      refine ⟨[some 0, some 1, some 2, some 3, some 4, some 5, some 6, some 7, some 8, some 9, some 10, some 11, some 12], by decide, ?_, ?_⟩
      all_goals repeat' (first | exact trivial | exact .inl ⟨rfl, rfl⟩ | rfl | exact .inr ⟨_, rfl, rfl, rfl⟩ | exact ⟨_, rfl, trivial⟩ | exact ⟨_, rfl, rfl⟩ | exact ⟨_, rfl, ⟨rfl, rfl, rfl⟩, fun _ _ _ _ => rfl⟩ | exact ⟨_, rfl, ⟨rfl, rfl, .inl rfl⟩, rfl⟩ | exact ⟨_, rfl, ⟨rfl, rfl, .inr rfl⟩, rfl⟩ | exact ⟨_, rfl, ⟨rfl, rfl, rfl, rfl, rfl⟩, rfl⟩ | exact ⟨_, rfl, ⟨rfl, rfl⟩, fun _ => Iff.rfl⟩ | refine ⟨_, rfl, rfl, ?_⟩ | refine ⟨_, rfl, ⟨rfl, rfl, rfl⟩, ?_⟩ | refine And.intro ?_ ?_)) (fun x hx => ?_)
    obtain ⟨j2, B⟩ := x
    obtain ⟨hj2, hB⟩ := hx
    simp only at hj2 hB
    dsimp only
    by_cases hjl : j2 < mt.ch.mem.length
    · have hos := oth_step mt mt.ch.mem z hjl
      have hos : othersM mt mt.ch.mem z (j2 + 1) = (B || (!((mt.ch.mem.getD (Int.toNat (j2 : Int)) (0, 0)).1 == z) && wholeM mt (mt.ch.mem.getD (Int.toNat (j2 : Int)) (0, 0)).1)) := hB ▸ hos
      obtain ⟨wz, hwz⟩ : ∃ wz, wholeM mt (mt.ch.mem.getD (Int.toNat (j2 : Int)) (0, 0)).1 = wz := ⟨_, rfl⟩
      rw [hwz] at hos
      clear hB
      cases B with
      | true =>
        have hos : othersM mt mt.ch.mem z (j2 + 1) = true := hos.trans (Bool.true_or _)
        repeat' ((conv => whnf); first
            | refine CutN.plain ?_
            | with_reducible refine Br.tt ?_
            | with_reducible refine Br.ff ?_
            | with_reducible refine Br.nt ?_
            | with_reducible refine Br.nf ?_
            | with_reducible refine Br.eeI ?_
            | with_reducible refine Br.nnI ?_
            | refine Br.yes (by decide) ?_
            | refine Br.no (by decide) ?_
            | refine Need.go rfl ?_
            | refine QuiD.quiet (by kernel_rfl) ?_
            | refine IdxN.lit ?_
            | refine draw_go tabOK (by kernel_rfl) ?_
            | refine Need.go ⟨rfl, rfl⟩ ?_
            | refine Need.go ⟨⟨rfl, rfl, rfl⟩, rfl⟩ ?_
            | (with_reducible refine Br.dec (fun h => ?_) (fun h => ?_); first | (rotate_left; exfalso; omega; clear h) | (exfalso; omega; clear h) | skip)
            | (with_reducible refine Br.eqI (fun h => ?_) (fun h => ?_); first | (rotate_left; exfalso; omega; clear h) | (exfalso; omega; clear h) | skip)
            | (with_reducible refine Br.neI (fun h => ?_) (fun h => ?_); first | (rotate_left; exfalso; omega; clear h) | (exfalso; omega; clear h) | skip)
            | (with_reducible refine Br.eqS (fun h => ?_) (fun h => ?_); first | (rotate_left; exfalso; omega; clear h) | (exfalso; omega; clear h) | skip)
            | (with_reducible refine Br.neS (fun h => ?_) (fun h => ?_); first | (rotate_left; exfalso; omega; clear h) | (exfalso; omega; clear h) | skip)
            | (with_reducible refine Br.nd (fun h => ?_) (fun h => ?_); first | (rotate_left; exfalso; omega; clear h) | (exfalso; omega; clear h) | skip)
            | refine Ar.i64 (by omega) (by omega) ?_
            | (refine mas_whole mt hto (mt.ch.mem.getD (Int.toNat (j2 : Int)) (0, 0)).1 5 rfl ?_; rw [hwz])
            | refine Need.go (by first | omega | decide | (simp <;> omega) | fail) ?_
            | refine Need.go (by first | (simp [Value.oneCell'] <;> omega) | fail) ?_
            | refine Need.go ⟨rfl, by omega, getD_one rfl rfl⟩ ?_
            | refine Need.go ⟨rfl, by omega, fun _ _ _ _ => rfl⟩ ?_
            | refine Br.both (fun h => ?_) (fun h => ?_))
        all_goals (conv => whnf)
        refine ⟨(j2 + 1, true), ⟨by simp only; omega, hos.symm⟩, by simp only; omega, ?_⟩
        dsimp only
        (conv => whnf)
        refine ⟨[some 0, some 1, some 2, some 3, some 4, some 5, some 6, some 7, some 8, some 9, some 10, some 11, some 12], by decide, ?_, ?_⟩
        all_goals repeat' (first | exact trivial | exact .inl ⟨rfl, rfl⟩ | rfl | exact .inr ⟨_, rfl, rfl, rfl⟩ | exact ⟨_, rfl, trivial⟩ | exact ⟨_, rfl, rfl⟩ | exact ⟨_, rfl, ⟨rfl, rfl, rfl⟩, fun _ _ _ _ => rfl⟩ | exact ⟨_, rfl, ⟨rfl, rfl, .inl rfl⟩, rfl⟩ | exact ⟨_, rfl, ⟨rfl, rfl, .inr rfl⟩, rfl⟩ | exact ⟨_, rfl, ⟨rfl, rfl, rfl, rfl, rfl⟩, rfl⟩ | exact ⟨_, rfl, ⟨rfl, rfl⟩, fun _ => Iff.rfl⟩ | refine ⟨_, rfl, rfl, ?_⟩ | refine ⟨_, rfl, ⟨rfl, rfl, rfl⟩, ?_⟩ | refine And.intro ?_ ?_)
      | false =>
        by_cases hzn : (mt.ch.mem.getD (Int.toNat (j2 : Int)) (0, 0)).1 = z
        · have hos : othersM mt mt.ch.mem z (j2 + 1) = false := by rw [hos, beq_iff_eq.2 hzn]; rfl
          repeat' ((conv => whnf); first
              | refine CutN.plain ?_
              | with_reducible refine Br.tt ?_
              | with_reducible refine Br.ff ?_
              | with_reducible refine Br.nt ?_
              | with_reducible refine Br.nf ?_
              | with_reducible refine Br.eeI ?_
              | with_reducible refine Br.nnI ?_
              | refine Br.yes (by decide) ?_
              | refine Br.no (by decide) ?_
              | refine Need.go rfl ?_
              | refine QuiD.quiet (by kernel_rfl) ?_
              | refine IdxN.lit ?_
              | refine draw_go tabOK (by kernel_rfl) ?_
              | refine Need.go ⟨rfl, rfl⟩ ?_
              | refine Need.go ⟨⟨rfl, rfl, rfl⟩, rfl⟩ ?_
              | (with_reducible refine Br.dec (fun h => ?_) (fun h => ?_); first | (rotate_left; exfalso; omega; clear h) | (exfalso; omega; clear h) | skip)
              | (with_reducible refine Br.eqI (fun h => ?_) (fun h => ?_); first | (rotate_left; exfalso; omega; clear h) | (exfalso; omega; clear h) | skip)
              | (with_reducible refine Br.neI (fun h => ?_) (fun h => ?_); first | (rotate_left; exfalso; omega; clear h) | (exfalso; omega; clear h) | skip)
              | (with_reducible refine Br.eqS (fun h => ?_) (fun h => ?_); first | (rotate_left; exfalso; omega; clear h) | (exfalso; omega; clear h) | skip)
              | (with_reducible refine Br.neS (fun h => ?_) (fun h => ?_); first | (rotate_left; exfalso; omega; clear h) | (exfalso; omega; clear h) | skip)
              | (with_reducible refine Br.nd (fun h => ?_) (fun h => ?_); first | (rotate_left; exfalso; omega; clear h) | (exfalso; omega; clear h) | skip)
              | refine Ar.i64 (by omega) (by omega) ?_
              | (refine mas_whole mt hto (mt.ch.mem.getD (Int.toNat (j2 : Int)) (0, 0)).1 5 rfl ?_; rw [hwz])
              | refine Need.go (by first | omega | decide | (simp <;> omega) | fail) ?_
              | refine Need.go (by first | (simp [Value.oneCell'] <;> omega) | fail) ?_
              | refine Need.go ⟨rfl, by omega, getD_one rfl rfl⟩ ?_
              | refine Need.go ⟨rfl, by omega, fun _ _ _ _ => rfl⟩ ?_
              | refine Br.both (fun h => ?_) (fun h => ?_))
          all_goals (conv => whnf)
          refine ⟨(j2 + 1, false), ⟨by simp only; omega, hos.symm⟩, by simp only; omega, ?_⟩
          dsimp only
          (conv => whnf)
          refine ⟨[some 0, some 1, some 2, some 3, some 4, some 5, some 6, some 7, some 8, some 9, some 10, some 11, some 12], by decide, ?_, ?_⟩
          all_goals repeat' (first | exact trivial | exact .inl ⟨rfl, rfl⟩ | rfl | exact .inr ⟨_, rfl, rfl, rfl⟩ | exact ⟨_, rfl, trivial⟩ | exact ⟨_, rfl, rfl⟩ | exact ⟨_, rfl, ⟨rfl, rfl, rfl⟩, fun _ _ _ _ => rfl⟩ | exact ⟨_, rfl, ⟨rfl, rfl, .inl rfl⟩, rfl⟩ | exact ⟨_, rfl, ⟨rfl, rfl, .inr rfl⟩, rfl⟩ | exact ⟨_, rfl, ⟨rfl, rfl, rfl, rfl, rfl⟩, rfl⟩ | exact ⟨_, rfl, ⟨rfl, rfl⟩, fun _ => Iff.rfl⟩ | refine ⟨_, rfl, rfl, ?_⟩ | refine ⟨_, rfl, ⟨rfl, rfl, rfl⟩, ?_⟩ | refine And.intro ?_ ?_)
        · have hos : othersM mt mt.ch.mem z (j2 + 1) = wz := by rw [hos, beq_eq_false_iff_ne.2 hzn]; cases wz <;> rfl
          repeat' ((conv => whnf); first
              | refine CutN.plain ?_
              | with_reducible refine Br.tt ?_
              | with_reducible refine Br.ff ?_
              | with_reducible refine Br.nt ?_
              | with_reducible refine Br.nf ?_
              | with_reducible refine Br.eeI ?_
              | with_reducible refine Br.nnI ?_
              | refine Br.yes (by decide) ?_
              | refine Br.no (by decide) ?_
              | refine Need.go rfl ?_
              | refine QuiD.quiet (by kernel_rfl) ?_
              | refine IdxN.lit ?_
              | refine draw_go tabOK (by kernel_rfl) ?_
              | refine Need.go ⟨rfl, rfl⟩ ?_
              | refine Need.go ⟨⟨rfl, rfl, rfl⟩, rfl⟩ ?_
              | (with_reducible refine Br.dec (fun h => ?_) (fun h => ?_); first | (rotate_left; exfalso; omega; clear h) | (exfalso; omega; clear h) | skip)
              | (with_reducible refine Br.eqI (fun h => ?_) (fun h => ?_); first | (rotate_left; exfalso; omega; clear h) | (exfalso; omega; clear h) | skip)
              | (with_reducible refine Br.neI (fun h => ?_) (fun h => ?_); first | (rotate_left; exfalso; omega; clear h) | (exfalso; omega; clear h) | skip)
              | (with_reducible refine Br.eqS (fun h => ?_) (fun h => ?_); first | (rotate_left; exfalso; omega; clear h) | (exfalso; omega; clear h) | skip)
              | (with_reducible refine Br.neS (fun h => ?_) (fun h => ?_); first | (rotate_left; exfalso; omega; clear h) | (exfalso; omega; clear h) | skip)
              | (with_reducible refine Br.nd (fun h => ?_) (fun h => ?_); first | (rotate_left; exfalso; omega; clear h) | (exfalso; omega; clear h) | skip)
              | refine Ar.i64 (by omega) (by omega) ?_
              | (refine mas_whole mt hto (mt.ch.mem.getD (Int.toNat (j2 : Int)) (0, 0)).1 5 rfl ?_; rw [hwz])
              | refine Need.go (by first | omega | decide | (simp <;> omega) | fail) ?_
              | refine Need.go (by first | (simp [Value.oneCell'] <;> omega) | fail) ?_
              | refine Need.go ⟨rfl, by omega, getD_one rfl rfl⟩ ?_
              | refine Need.go ⟨rfl, by omega, fun _ _ _ _ => rfl⟩ ?_
              | refine Br.both (fun h => ?_) (fun h => ?_))
          all_goals (conv => whnf)
          refine ⟨(j2 + 1, wz), ⟨by simp only; omega, hos.symm⟩, by simp only; omega, ?_⟩
          dsimp only
          (conv => whnf)
          refine ⟨[some 0, some 1, some 2, some 3, some 4, some 5, some 6, some 7, some 8, some 9, some 10, some 11, some 12], by decide, ?_, ?_⟩
          all_goals repeat' (first | exact trivial | exact .inl ⟨rfl, rfl⟩ | rfl | exact .inr ⟨_, rfl, rfl, rfl⟩ | exact ⟨_, rfl, trivial⟩ | exact ⟨_, rfl, rfl⟩ | exact ⟨_, rfl, ⟨rfl, rfl, rfl⟩, fun _ _ _ _ => rfl⟩ | exact ⟨_, rfl, ⟨rfl, rfl, .inl rfl⟩, rfl⟩ | exact ⟨_, rfl, ⟨rfl, rfl, .inr rfl⟩, rfl⟩ | exact ⟨_, rfl, ⟨rfl, rfl, rfl, rfl, rfl⟩, rfl⟩ | exact ⟨_, rfl, ⟨rfl, rfl⟩, fun _ => Iff.rfl⟩ | refine ⟨_, rfl, rfl, ?_⟩ | refine ⟨_, rfl, ⟨rfl, rfl, rfl⟩, ?_⟩ | refine And.intro ?_ ?_)
    · obtain rfl : j2 = mt.ch.mem.length := by omega
      rw [oth_all hto z] at hB
      skip
      repeat' ((conv => whnf); first
          | rw [hz]
          | refine IdxN.sym ?_
          | refine CutN.plain ?_
          | with_reducible refine Br.tt ?_
          | with_reducible refine Br.ff ?_
          | with_reducible refine Br.nt ?_
          | with_reducible refine Br.nf ?_
          | with_reducible refine Br.eeI ?_
          | with_reducible refine Br.nnI ?_
          | refine Br.yes (by decide) ?_
          | refine Br.no (by decide) ?_
          | refine Need.go rfl ?_
          | refine QuiD.quiet (by kernel_rfl) ?_
          | refine IdxN.lit ?_
          | refine draw_go tabOK (by kernel_rfl) ?_
          | refine Need.go ⟨rfl, rfl⟩ ?_
          | refine Need.go ⟨⟨rfl, rfl, rfl⟩, rfl⟩ ?_
          | (with_reducible refine Br.dec (fun h => ?_) (fun h => ?_); first | (rotate_left; exfalso; omega; clear h) | (exfalso; omega; clear h) | skip)
          | (with_reducible refine Br.eqI (fun h => ?_) (fun h => ?_); first | (rotate_left; exfalso; omega; clear h) | (exfalso; omega; clear h) | skip)
          | (with_reducible refine Br.neI (fun h => ?_) (fun h => ?_); first | (rotate_left; exfalso; omega; clear h) | (exfalso; omega; clear h) | skip)
          | (with_reducible refine Br.eqS (fun h => ?_) (fun h => ?_); first | (rotate_left; exfalso; omega; clear h) | (exfalso; omega; clear h) | skip)
          | (with_reducible refine Br.neS (fun h => ?_) (fun h => ?_); first | (rotate_left; exfalso; omega; clear h) | (exfalso; omega; clear h) | skip)
          | (with_reducible refine Br.nd (fun h => ?_) (fun h => ?_); first | (rotate_left; exfalso; omega; clear h) | (exfalso; omega; clear h) | skip)
          | refine Ar.i64 (by omega) (by omega) ?_
          | refine SelN.mk' (.v (.int .i64 (m'.heard z.toNat))) (sel_arr m'.heard hz0 hz6) ?_
          | refine Need.go (by first | omega | decide | (simp <;> omega) | fail) ?_
          | refine Need.go (by first | (simp [Value.oneCell'] <;> omega) | fail) ?_
          | refine Need.go ⟨rfl, by omega, getD_one rfl rfl⟩ ?_
          | refine Need.go ⟨rfl, by omega, fun _ _ _ _ => rfl⟩ ?_
          | refine Br.both (fun h => ?_) (fun h => ?_))
      all_goals (conv => whnf)
      all_goals first
        | (exfalso; omega)
        | (exfalso; have hf := hkb (by omega); rw [← hB] at hf; cases hf; done)
        | (exfalso; have hf := hkb (by omega); rw [← hB] at hf; exact absurd (hf.symm.trans (by assumption)) Bool.false_ne_true)
        | (refine ⟨j + 1, by omega, by omega, ?_⟩
           (conv => whnf)
           refine ⟨[some 0, some 1, some 2, some 3, some 4, some 5, some 6, some 7, some 8, some 9, some 10, some 11, some 12], by decide, ?_, ?_⟩
           all_goals repeat' (first | exact trivial | exact .inl ⟨rfl, rfl⟩ | rfl | exact .inr ⟨_, rfl, rfl, rfl⟩ | exact ⟨_, rfl, trivial⟩ | exact ⟨_, rfl, rfl⟩ | exact ⟨_, rfl, ⟨rfl, rfl, rfl⟩, fun _ _ _ _ => rfl⟩ | exact ⟨_, rfl, ⟨rfl, rfl, .inl rfl⟩, rfl⟩ | exact ⟨_, rfl, ⟨rfl, rfl, .inr rfl⟩, rfl⟩ | exact ⟨_, rfl, ⟨rfl, rfl, rfl, rfl, rfl⟩, rfl⟩ | exact ⟨_, rfl, ⟨rfl, rfl⟩, fun _ => Iff.rfl⟩ | refine ⟨_, rfl, rfl, ?_⟩ | refine ⟨_, rfl, ⟨rfl, rfl, rfl⟩, ?_⟩ | refine And.intro ?_ ?_)
           done)
        | fail
end Go.Proofs.Ytghfigeepnbjaaa.lawMasterKeeps
