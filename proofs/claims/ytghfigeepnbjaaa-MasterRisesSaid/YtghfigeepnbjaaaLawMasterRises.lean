/-
  MasterRises: the walk. No condition.
-/
import Derived.Test.YtghfigeepnbjaaaMasR
import Derived.Test.YtghfigeepnbjaaaPI
namespace Go.Proofs.Ytghfigeepnbjaaa.lawMasterRises
open Go.Proofs.Ytghfigeepnbjaaa Go.RowKit
set_option maxRecDepth 100000 in
set_option maxHeartbeats 40000000 in
theorem core (c : CfgM) (l : List ActMM) (ts : List Int) (p q r : Value) (w : World) (hp : SliceV w p 1 c.quanta.length (intsF c.quanta)) (hq : SliceV w q 33 l.length (actMF l)) (ht : SliceV w r 1 ts.length (byteF ts)) (hk : ∀ x ∈ l, x.wf w) (htb : ∀ x ∈ ts, 0 ≤ x ∧ x ≤ 255) :
    Calls Try.prog 6 #[cfgV c p, q, r] w fun e w' => e = .returned (.bool true) ∧ w.grownBy w' none := by
  obtain ⟨a, cap, rfl, h1, h2, hr⟩ := hp
  obtain ⟨a2, cap2, rfl, h3, h4, hr2⟩ := hq
  obtain ⟨a3, cap3, rfl, h5, h6, hr3⟩ := ht
  refine x_calls tabOK Try.func6 rfl [cfgS c (.rs 0 c.quanta.length cap), .rs 1 l.length cap2, .rs 2 ts.length cap3] _ _ rfl rfl (relR3 hr hr2 hr3) ?_
  by_cases hok : okActsM l 80
  case neg =>
    repeat' ((conv => whnf); first
        | refine CutN.plain ?_
        | with_reducible refine Br.tt ?_
        | with_reducible refine Br.ff ?_
        | with_reducible refine Br.nt ?_
        | with_reducible refine Br.nf ?_
        | with_reducible refine Br.eeI ?_
        | with_reducible refine Br.nnI ?_
        | refine Br.yes (by decide) ?_
        | refine Br.no (by decide) ?_
        | refine Need.go rfl ?_
        | refine QuiD.quiet (by kernel_rfl) ?_
        | refine IdxN.lit ?_
        | refine draw_go tabOK (by kernel_rfl) ?_
        | refine Need.go ⟨rfl, rfl⟩ ?_
        | refine Need.go ⟨⟨rfl, rfl, rfl⟩, rfl⟩ ?_
        | (with_reducible refine Br.dec (fun h => ?_) (fun h => ?_); first | (rotate_left; exfalso; omega; clear h) | (exfalso; omega; clear h) | skip)
        | (with_reducible refine Br.eqI (fun h => ?_) (fun h => ?_); first | (rotate_left; exfalso; omega; clear h) | (exfalso; omega; clear h) | skip)
        | (with_reducible refine Br.neI (fun h => ?_) (fun h => ?_); first | (rotate_left; exfalso; omega; clear h) | (exfalso; omega; clear h) | skip)
        | (with_reducible refine Br.eqS (fun h => ?_) (fun h => ?_); first | (rotate_left; exfalso; omega; clear h) | (exfalso; omega; clear h) | skip)
        | (with_reducible refine Br.neS (fun h => ?_) (fun h => ?_); first | (rotate_left; exfalso; omega; clear h) | (exfalso; omega; clear h) | skip)
        | (with_reducible refine Br.nd (fun h => ?_) (fun h => ?_); first | (rotate_left; exfalso; omega; clear h) | (exfalso; omega; clear h) | skip)
        | refine Ar.i64 (by omega) (by omega) ?_
        | (refine call_mem (f := 14) (args := [.rs 1 l.length cap2, .v (.int .i64 80)]) (V := .bool true) ?_ ?_; exact fun ρ w h => greatM_no l _ 80 w (sl_rs h (i := 1) rfl (Nat.le_refl _) h3 h4) hok)
        | (refine quiet_mem (f := 14) (args := [.rs 1 l.length cap2, .v (.int .i64 80)]) (V := .bool true) ?_ ?_; exact fun ρ w h => greatM_no l _ 80 w (sl_rs h (i := 1) rfl (Nat.le_refl _) h3 h4) hok)
        | (refine seg_mem (f := 14) (args := [.rs 1 l.length cap2, .v (.int .i64 80)]) (V := .bool true) ?_ ?_; exact fun ρ w h => greatM_no l _ 80 w (sl_rs h (i := 1) rfl (Nat.le_refl _) h3 h4) hok)
        | (refine call_mem (f := 15) (args := []) (V := .bool true) ?_ ?_; exact fun ρ w h => chained_any w)
        | (refine quiet_mem (f := 15) (args := []) (V := .bool true) ?_ ?_; exact fun ρ w h => chained_any w)
        | (refine seg_mem (f := 15) (args := []) (V := .bool true) ?_ ?_; exact fun ρ w h => chained_any w)
        | refine Need.go (by first | omega | decide | (simp <;> omega) | fail) ?_
        | refine Need.go (by first | (simp [Value.oneCell'] <;> omega) | fail) ?_
        | refine Need.go ⟨rfl, by omega, getD_one rfl rfl⟩ ?_
        | refine Need.go ⟨rfl, by omega, fun _ _ _ _ => rfl⟩ ?_
        | refine Br.both (fun h => ?_) (fun h => ?_))
    all_goals (conv => whnf)
    all_goals exact ret_pure (fun _ => rfl)
  obtain ⟨d, hd⟩ : ∃ d, fitM c = d := ⟨_, rfl⟩
  have hdo : okM d = true := by rw [← hd]; exact fit_ok c
  have hdn := okM_nodes hdo
  have hdq : d.quanta.length ≤ 4 := by
    unfold okM preB at hdo
    simp only [Bool.and_eq_true, winB, decide_eq_true_eq] at hdo
    omega
  have hl40 := hok.2
  have h6' := h6
  unfold maxLen at h6'
  by_cases hq20 : 20 < (c.quanta.length : Int)
  · repeat' ((conv => whnf); first
      | refine CutN.plain ?_
      | with_reducible refine Br.tt ?_
      | with_reducible refine Br.ff ?_
      | with_reducible refine Br.nt ?_
      | with_reducible refine Br.nf ?_
      | with_reducible refine Br.eeI ?_
      | with_reducible refine Br.nnI ?_
      | refine Br.yes (by decide) ?_
      | refine Br.no (by decide) ?_
      | refine Need.go rfl ?_
      | refine QuiD.quiet (by kernel_rfl) ?_
      | refine IdxN.lit ?_
      | refine draw_go tabOK (by kernel_rfl) ?_
      | refine Need.go ⟨rfl, rfl⟩ ?_
      | refine Need.go ⟨⟨rfl, rfl, rfl⟩, rfl⟩ ?_
      | (with_reducible refine Br.dec (fun h => ?_) (fun h => ?_); first | (rotate_left; exfalso; omega; clear h) | (exfalso; omega; clear h) | skip)
      | (with_reducible refine Br.eqI (fun h => ?_) (fun h => ?_); first | (rotate_left; exfalso; omega; clear h) | (exfalso; omega; clear h) | skip)
      | (with_reducible refine Br.neI (fun h => ?_) (fun h => ?_); first | (rotate_left; exfalso; omega; clear h) | (exfalso; omega; clear h) | skip)
      | (with_reducible refine Br.eqS (fun h => ?_) (fun h => ?_); first | (rotate_left; exfalso; omega; clear h) | (exfalso; omega; clear h) | skip)
      | (with_reducible refine Br.neS (fun h => ?_) (fun h => ?_); first | (rotate_left; exfalso; omega; clear h) | (exfalso; omega; clear h) | skip)
      | (with_reducible refine Br.nd (fun h => ?_) (fun h => ?_); first | (rotate_left; exfalso; omega; clear h) | (exfalso; omega; clear h) | skip)
      | refine Ar.i64 (by omega) (by omega) ?_
      | (refine call_mem (f := 15) (args := []) (V := .bool true) ?_ ?_; exact fun ρ w h => chained_any w)
      | (refine quiet_mem (f := 15) (args := []) (V := .bool true) ?_ ?_; exact fun ρ w h => chained_any w)
      | (refine seg_mem (f := 15) (args := []) (V := .bool true) ?_ ?_; exact fun ρ w h => chained_any w)
      | refine Need.go (by first | omega | decide | (simp <;> omega) | fail) ?_
      | refine Need.go (by first | (simp [Value.oneCell'] <;> omega) | fail) ?_
      | refine Need.go ⟨rfl, by omega, getD_one rfl rfl⟩ ?_
      | refine Need.go ⟨rfl, by omega, fun _ _ _ _ => rfl⟩ ?_
      | refine Br.both (fun h => ?_) (fun h => ?_))
    all_goals (conv => whnf)
    exact ret_pure (fun _ => rfl)
  repeat' ((conv => whnf); first
      | refine CutN.plain ?_
      | with_reducible refine Br.tt ?_
      | with_reducible refine Br.ff ?_
      | with_reducible refine Br.nt ?_
      | with_reducible refine Br.nf ?_
      | with_reducible refine Br.eeI ?_
      | with_reducible refine Br.nnI ?_
      | refine Br.yes (by decide) ?_
      | refine Br.no (by decide) ?_
      | refine Need.go rfl ?_
      | refine QuiD.quiet (by kernel_rfl) ?_
      | refine IdxN.lit ?_
      | refine draw_go tabOK (by kernel_rfl) ?_
      | refine Need.go ⟨rfl, rfl⟩ ?_
      | refine Need.go ⟨⟨rfl, rfl, rfl⟩, rfl⟩ ?_
      | (with_reducible refine Br.dec (fun h => ?_) (fun h => ?_); first | (rotate_left; exfalso; omega; clear h) | (exfalso; omega; clear h) | skip)
      | (with_reducible refine Br.eqI (fun h => ?_) (fun h => ?_); first | (rotate_left; exfalso; omega; clear h) | (exfalso; omega; clear h) | skip)
      | (with_reducible refine Br.neI (fun h => ?_) (fun h => ?_); first | (rotate_left; exfalso; omega; clear h) | (exfalso; omega; clear h) | skip)
      | (with_reducible refine Br.eqS (fun h => ?_) (fun h => ?_); first | (rotate_left; exfalso; omega; clear h) | (exfalso; omega; clear h) | skip)
      | (with_reducible refine Br.neS (fun h => ?_) (fun h => ?_); first | (rotate_left; exfalso; omega; clear h) | (exfalso; omega; clear h) | skip)
      | (with_reducible refine Br.nd (fun h => ?_) (fun h => ?_); first | (rotate_left; exfalso; omega; clear h) | (exfalso; omega; clear h) | skip)
      | refine Ar.i64 (by omega) (by omega) ?_
      | (refine call_mem (f := 14) (args := [.rs 1 l.length cap2, .v (.int .i64 80)]) (V := .bool false) ?_ ?_; exact fun ρ w h => greatM_yes l _ 80 w (sl_rs h (i := 1) rfl (Nat.le_refl _) h3 h4) hok)
      | (refine quiet_mem (f := 14) (args := [.rs 1 l.length cap2, .v (.int .i64 80)]) (V := .bool false) ?_ ?_; exact fun ρ w h => greatM_yes l _ 80 w (sl_rs h (i := 1) rfl (Nat.le_refl _) h3 h4) hok)
      | (refine seg_mem (f := 14) (args := [.rs 1 l.length cap2, .v (.int .i64 80)]) (V := .bool false) ?_ ?_; exact fun ρ w h => greatM_yes l _ 80 w (sl_rs h (i := 1) rfl (Nat.le_refl _) h3 h4) hok)
      | (refine call_mem (f := 15) (args := []) (V := .bool true) ?_ ?_; exact fun ρ w h => chained_any w)
      | (refine quiet_mem (f := 15) (args := []) (V := .bool true) ?_ ?_; exact fun ρ w h => chained_any w)
      | (refine seg_mem (f := 15) (args := []) (V := .bool true) ?_ ?_; exact fun ρ w h => chained_any w)
      | (refine sfit_n c d hd (.rs 0 c.quanta.length cap) ?_ (by omega) ?_; exact fun ρ w h => sl_rs h (i := 0) rfl (Nat.le_refl _) h1 h2)
      | (refine mas_new d (.os 4 d.quanta.length) (fun ρ w h => sl_os h (i := 4) rfl) hdo (by omega) ?_; intro b Z0)
      | refine Need.go (by first | omega | decide | (simp <;> omega) | fail) ?_
      | refine Need.go (by first | (simp [Value.oneCell'] <;> omega) | fail) ?_
      | refine Need.go ⟨rfl, by omega, getD_one rfl rfl⟩ ?_
      | refine Need.go ⟨rfl, by omega, fun _ _ _ _ => rfl⟩ ?_
      | refine Br.both (fun h => ?_) (fun h => ?_))
  all_goals (conv => whnf)
  all_goals try exact ret_pure (fun _ => rfl)
  refine loop_up 49 (fun x : Nat × Int × MasM × (Nat → Prop) => x.1 ≤ l.length ∧ (0 ≤ x.2.1 ∧ x.2.1 ≤ 255 * x.1) ∧ MasSt d (1 + 12 * x.1) x.2.2.1 ∧ hasW x.2.2.1) (fun x => l.length - x.1) (fun x => [(9, .v (.int .i64 x.2.1)), (10, .v (.int .i64 x.1)), (11, .junk), (12, .junk), (13, .junk), (14, .junk), (15, .junk), (16, .junk), (17, .junk), (18, .junk), (19, .junk), (20, .junk), (21, .junk), (22, .junk), (23, .junk), (24, .junk), (25, .junk)])
    (fun x => [(5, .ent (.res true x.2.2.2 (MasQ b x.2.2.1 x.2.2.2)))]) (fun _ => []) (0, 0, newMas d, Z0) ⟨Nat.zero_le _, by simp only; omega, newMas_st hdo, newMas_W hdo⟩ (by
    (conv => whnf)
    refine ⟨[some 0, some 1, some 2, some 3, some 4, some 5], by decide, ?_, ?_⟩
    all_goals repeat' (first | exact leT_junk rfl | refine And.intro ?_ ?_ | exact trivial | exact .inl ⟨rfl, rfl⟩ | rfl | exact .inr ⟨_, rfl, rfl, rfl⟩ | exact ⟨_, rfl, trivial⟩ | exact ⟨_, rfl, rfl⟩ | exact ⟨_, rfl, ⟨rfl, rfl, rfl⟩, fun _ _ _ _ => rfl⟩ | exact ⟨_, rfl, ⟨rfl, rfl, .inl rfl⟩, rfl⟩ | exact ⟨_, rfl, ⟨rfl, rfl, .inr rfl⟩, rfl⟩ | exact ⟨_, rfl, ⟨rfl, rfl, rfl, rfl, rfl⟩, rfl⟩ | exact ⟨_, rfl, ⟨rfl, rfl⟩, fun _ => Iff.rfl⟩ | refine ⟨_, rfl, rfl, ?_⟩ | refine ⟨_, rfl, ⟨rfl, rfl, rfl⟩, ?_⟩)) (fun x hx => ?_)
  obtain ⟨k, now0, m, Z⟩ := x
  obtain ⟨hkl, hnow0, hst, hwm⟩ := hx
  simp only at hkl hst hnow0 hwm
  dsimp only
  by_cases hlt : k < l.length
  case neg =>
    repeat' ((conv => whnf); first
        | refine CutN.plain ?_
        | with_reducible refine Br.tt ?_
        | with_reducible refine Br.ff ?_
        | with_reducible refine Br.nt ?_
        | with_reducible refine Br.nf ?_
        | with_reducible refine Br.eeI ?_
        | with_reducible refine Br.nnI ?_
        | refine Br.yes (by decide) ?_
        | refine Br.no (by decide) ?_
        | refine Need.go rfl ?_
        | refine QuiD.quiet (by kernel_rfl) ?_
        | refine IdxN.lit ?_
        | refine draw_go tabOK (by kernel_rfl) ?_
        | refine Need.go ⟨rfl, rfl⟩ ?_
        | refine Need.go ⟨⟨rfl, rfl, rfl⟩, rfl⟩ ?_
        | (with_reducible refine Br.dec (fun h => ?_) (fun h => ?_); first | (rotate_left; exfalso; omega; clear h) | (exfalso; omega; clear h) | skip)
        | (with_reducible refine Br.eqI (fun h => ?_) (fun h => ?_); first | (rotate_left; exfalso; omega; clear h) | (exfalso; omega; clear h) | skip)
        | (with_reducible refine Br.neI (fun h => ?_) (fun h => ?_); first | (rotate_left; exfalso; omega; clear h) | (exfalso; omega; clear h) | skip)
        | (with_reducible refine Br.eqS (fun h => ?_) (fun h => ?_); first | (rotate_left; exfalso; omega; clear h) | (exfalso; omega; clear h) | skip)
        | (with_reducible refine Br.neS (fun h => ?_) (fun h => ?_); first | (rotate_left; exfalso; omega; clear h) | (exfalso; omega; clear h) | skip)
        | (with_reducible refine Br.nd (fun h => ?_) (fun h => ?_); first | (rotate_left; exfalso; omega; clear h) | (exfalso; omega; clear h) | skip)
        | refine Ar.i64 (by omega) (by omega) ?_
        | (refine call_mem (f := 15) (args := []) (V := .bool true) ?_ ?_; exact fun ρ w h => chained_any w)
        | (refine quiet_mem (f := 15) (args := []) (V := .bool true) ?_ ?_; exact fun ρ w h => chained_any w)
        | (refine seg_mem (f := 15) (args := []) (V := .bool true) ?_ ?_; exact fun ρ w h => chained_any w)
        | refine Need.go (by first | omega | decide | (simp <;> omega) | fail) ?_
        | refine Need.go (by first | (simp [Value.oneCell'] <;> omega) | fail) ?_
        | refine Need.go ⟨rfl, by omega, getD_one rfl rfl⟩ ?_
        | refine Need.go ⟨rfl, by omega, fun _ _ _ _ => rfl⟩ ?_
        | refine Br.both (fun h => ?_) (fun h => ?_))
    all_goals (conv => whnf)
    exact ret_pure (fun _ => rfl)
  obtain ⟨y, hy⟩ : ∃ y, l.getD (Int.toNat (k : Int)) actMZ = y := ⟨_, rfl⟩
  have hyw : y.wf w := hy ▸ ActMM.wf_at hk hlt
  have hya := hyw.a
  have hyb := hyw.b
  have hyk := hyw.kind
  have hmo := hst.ok
  have hml := okCh_len hmo.ch
  have htk : k < ts.length → 0 ≤ ts.getD (Int.toNat (k : Int)) 0 ∧ ts.getD (Int.toNat (k : Int)) 0 ≤ 255 := fun h => by
    rw [Int.toNat_natCast, List.getD, List.getElem?_eq_getElem h]
    exact htb _ (List.getElem_mem h)
  repeat' ((conv => whnf); first
      | rw [hy]
      | (refine cut_up 1062 49 (fun x : Int => now0 ≤ x ∧ x ≤ now0 + 255) (fun x => [(9, .v (.int .i64 x))]) (fun _ => []) (fun _ => []) ?_ ?_)
      | refine CutN.plain ?_
      | with_reducible refine Br.tt ?_
      | with_reducible refine Br.ff ?_
      | with_reducible refine Br.nt ?_
      | with_reducible refine Br.nf ?_
      | with_reducible refine Br.eeI ?_
      | with_reducible refine Br.nnI ?_
      | refine Br.yes (by decide) ?_
      | refine Br.no (by decide) ?_
      | refine Need.go rfl ?_
      | refine QuiD.quiet (by kernel_rfl) ?_
      | refine IdxN.lit ?_
      | refine draw_go tabOK (by kernel_rfl) ?_
      | refine Need.go ⟨rfl, rfl⟩ ?_
      | refine Need.go ⟨⟨rfl, rfl, rfl⟩, rfl⟩ ?_
      | (with_reducible refine Br.dec (fun h => ?_) (fun h => ?_); first | (rotate_left; exfalso; omega; clear h) | (exfalso; omega; clear h) | skip)
      | (with_reducible refine Br.eqI (fun h => ?_) (fun h => ?_); first | (rotate_left; exfalso; omega; clear h) | (exfalso; omega; clear h) | skip)
      | (with_reducible refine Br.neI (fun h => ?_) (fun h => ?_); first | (rotate_left; exfalso; omega; clear h) | (exfalso; omega; clear h) | skip)
      | (with_reducible refine Br.eqS (fun h => ?_) (fun h => ?_); first | (rotate_left; exfalso; omega; clear h) | (exfalso; omega; clear h) | skip)
      | (with_reducible refine Br.neS (fun h => ?_) (fun h => ?_); first | (rotate_left; exfalso; omega; clear h) | (exfalso; omega; clear h) | skip)
      | (with_reducible refine Br.nd (fun h => ?_) (fun h => ?_); first | (rotate_left; exfalso; omega; clear h) | (exfalso; omega; clear h) | skip)
      | refine Ar.i64 (by omega) (by omega) ?_
      | refine Ar.i64 (by first | (have := htk (by omega); omega) | fail) (by first | (have := htk (by omega); omega) | fail) ?_
      | refine Need.go (by first | omega | decide | (simp <;> omega) | fail) ?_
      | refine Need.go (by first | (simp [Value.oneCell'] <;> omega) | fail) ?_
      | refine Need.go ⟨rfl, by omega, getD_one rfl rfl⟩ ?_
      | refine Need.go ⟨rfl, by omega, fun _ _ _ _ => rfl⟩ ?_
      | refine Br.both (fun h => ?_) (fun h => ?_))
  rotate_left
  all_goals (conv => whnf)
  any_goals first
    | (refine ⟨now0 + ts.getD (Int.toNat (k : Int)) 0, by (have := htk (by omega); omega), ?_⟩
       (conv => whnf)
       refine ⟨[some 0, some 1, some 2, some 3, some 4, some 5, some 6], by decide, ?_, ?_⟩
       all_goals repeat' (first | exact leT_junk rfl | refine And.intro ?_ ?_ | exact trivial | exact .inl ⟨rfl, rfl⟩ | rfl | exact .inr ⟨_, rfl, rfl, rfl⟩ | exact ⟨_, rfl, trivial⟩ | exact ⟨_, rfl, rfl⟩ | exact ⟨_, rfl, ⟨rfl, rfl, rfl⟩, fun _ _ _ _ => rfl⟩ | exact ⟨_, rfl, ⟨rfl, rfl, .inl rfl⟩, rfl⟩ | exact ⟨_, rfl, ⟨rfl, rfl, .inr rfl⟩, rfl⟩ | exact ⟨_, rfl, ⟨rfl, rfl, rfl, rfl, rfl⟩, rfl⟩ | exact ⟨_, rfl, ⟨rfl, rfl⟩, fun _ => Iff.rfl⟩ | refine ⟨_, rfl, rfl, ?_⟩ | refine ⟨_, rfl, ⟨rfl, rfl, rfl⟩, ?_⟩)
       done)
    | (refine ⟨now0, by omega, ?_⟩
       (conv => whnf)
       refine ⟨[some 0, some 1, some 2, some 3, some 4, some 5, some 6], by decide, ?_, ?_⟩
       all_goals repeat' (first | exact leT_junk rfl | refine And.intro ?_ ?_ | exact trivial | exact .inl ⟨rfl, rfl⟩ | rfl | exact .inr ⟨_, rfl, rfl, rfl⟩ | exact ⟨_, rfl, trivial⟩ | exact ⟨_, rfl, rfl⟩ | exact ⟨_, rfl, ⟨rfl, rfl, rfl⟩, fun _ _ _ _ => rfl⟩ | exact ⟨_, rfl, ⟨rfl, rfl, .inl rfl⟩, rfl⟩ | exact ⟨_, rfl, ⟨rfl, rfl, .inr rfl⟩, rfl⟩ | exact ⟨_, rfl, ⟨rfl, rfl, rfl, rfl, rfl⟩, rfl⟩ | exact ⟨_, rfl, ⟨rfl, rfl⟩, fun _ => Iff.rfl⟩ | refine ⟨_, rfl, rfl, ?_⟩ | refine ⟨_, rfl, ⟨rfl, rfl, rfl⟩, ?_⟩)
       done)
    | fail
  clear htk
  intro now hnow
  obtain ⟨n, hn⟩ : ∃ n, y.a % 7 = n := ⟨_, rfl⟩
  clear hyw
  have t1 := masSuspect m hmo n
  have r1 := rise_suspect hst hwm n
  have t2 := masJoin m hmo n now
  have r2 := rise_join hst hwm n now
  have t3 := masDrain m hmo n
  have r3 := rise_drain hst hwm n
  have t4 := masTick m hmo now
  have r4 := rise_tick hst hwm now
  have t5 : Spec Try.prog 18 [.p 0 0, .v (.int .i64 n), frS (frA 12 m.ch.epoch 0) (.v (.slice none 0 0)), .v (.int .i64 now)] (masH m) (outR (takeM m n 12 m.ch.epoch 0 now) fun q => q) := masTake m hmo n now (frA 12 m.ch.epoch 0) none 0 0
  have r5 := rise_take hst hwm n 12 m.ch.epoch 0 now
  have t6 : Spec Try.prog 18 [.p 0 0, .v (.int .i64 n), frS (frA 11 m.ch.epoch (y.b % 2)) (.v (.slice none 0 0)), .v (.int .i64 now)] (masH m) (outR (takeM m n 11 m.ch.epoch (y.b % 2) now) fun q => q) := masTake m hmo n now (frA 11 m.ch.epoch (y.b % 2)) none 0 0
  have r6 := rise_take hst hwm n 11 m.ch.epoch (y.b % 2) now
  have jt := join_tail hmo (n := n) (now := now)
  have dt := drain_drain (m := m) (n := n)
  obtain ⟨o1, ho1⟩ : ∃ o, suspectM m n = o := ⟨_, rfl⟩
  rw [ho1] at t1 r1
  obtain ⟨o2, ho2⟩ : ∃ o, joinMM m n now = o := ⟨_, rfl⟩
  rw [ho2] at t2 r2 jt
  obtain ⟨o3, ho3⟩ : ∃ o, drainMM m n = o := ⟨_, rfl⟩
  rw [ho3] at t3 r3 dt
  obtain ⟨o4, ho4⟩ : ∃ o, tickM m now = o := ⟨_, rfl⟩
  rw [ho4] at t4 r4
  obtain ⟨o5, ho5⟩ : ∃ o, takeM m n 12 m.ch.epoch 0 now = o := ⟨_, rfl⟩
  rw [ho5] at t5 r5
  obtain ⟨o6, ho6⟩ : ∃ o, takeM m n 11 m.ch.epoch (y.b % 2) now = o := ⟨_, rfl⟩
  rw [ho6] at t6 r6
  have k2 := r2.st.ok
  have k3 := r3.st.ok
  have l2 := okCh_len k2.ch
  repeat' ((conv => whnf); first
      | rw [hy]
      | rw [hn]
      | (refine cut_up 2 49 (fun x : MasM × (Nat → Prop) × Int × Int => Rise d (1 + 12 * k) m x.1 x.2.2.1 x.2.2.2) (fun x => [(14, .v (.int .i64 x.2.2.1)), (15, .v (.int .i64 x.2.2.2)), (16, .junk), (17, .junk), (18, .junk), (19, .junk), (20, .junk), (21, .junk)]) (fun x => [(5, .ent (.res true x.2.1 (MasQ b x.1 x.2.1)))]) (fun _ => []) ?_ ?_)
      | refine Br.no (by first | (simp [(jt (by assumption)).1]; done) | (simp [dt (by assumption)]; done) | fail) ?_
      | refine CutN.plain ?_
      | with_reducible refine Br.tt ?_
      | with_reducible refine Br.ff ?_
      | with_reducible refine Br.nt ?_
      | with_reducible refine Br.nf ?_
      | with_reducible refine Br.eeI ?_
      | with_reducible refine Br.nnI ?_
      | refine Br.yes (by decide) ?_
      | refine Br.no (by decide) ?_
      | refine Need.go rfl ?_
      | refine QuiD.quiet (by kernel_rfl) ?_
      | refine IdxN.lit ?_
      | refine draw_go tabOK (by kernel_rfl) ?_
      | refine Need.go ⟨rfl, rfl⟩ ?_
      | refine Need.go ⟨⟨rfl, rfl, rfl⟩, rfl⟩ ?_
      | (with_reducible refine Br.dec (fun h => ?_) (fun h => ?_); first | (rotate_left; exfalso; omega; clear h) | (exfalso; omega; clear h) | skip)
      | (with_reducible refine Br.eqI (fun h => ?_) (fun h => ?_); first | (rotate_left; exfalso; omega; clear h) | (exfalso; omega; clear h) | skip)
      | (with_reducible refine Br.neI (fun h => ?_) (fun h => ?_); first | (rotate_left; exfalso; omega; clear h) | (exfalso; omega; clear h) | skip)
      | (with_reducible refine Br.eqS (fun h => ?_) (fun h => ?_); first | (rotate_left; exfalso; omega; clear h) | (exfalso; omega; clear h) | skip)
      | (with_reducible refine Br.neS (fun h => ?_) (fun h => ?_); first | (rotate_left; exfalso; omega; clear h) | (exfalso; omega; clear h) | skip)
      | (with_reducible refine Br.nd (fun h => ?_) (fun h => ?_); first | (rotate_left; exfalso; omega; clear h) | (exfalso; omega; clear h) | skip)
      | refine Ar.i64 (by omega) (by omega) ?_
      | refine mas_chain m hmo 5 rfl ?_
      | (refine mas_op t1 (mk_pair _) (fun _ _ => rfl) 5 rfl ?_; intro p1 Y1 ZS)
      | (refine mas_op t2 (mk_pair _) (fun _ _ => rfl) 5 rfl ?_; intro p1 Y1 ZJ)
      | (refine mas_op t3 (mk_pair _) (fun _ _ => rfl) 5 rfl ?_; intro p1 Y1 ZD)
      | (refine mas_op t4 mk_id (fun _ _ => rfl) 5 rfl ?_; intro p1 Y1 ZK)
      | (refine mas_op t5 mk_id (fun _ _ => rfl) 5 rfl ?_; intro p1 Y1 ZE)
      | (refine mas_op t6 mk_id (fun _ _ => rfl) 5 rfl ?_; intro p1 Y1 ZT)
      | refine mas_chain o2.m k2 5 rfl ?_
      | refine mas_chain o3.m k3 5 rfl ?_
      | (refine call_mem (f := 36) (args := [chS o2.m.ch (.os 11 o2.m.ch.mem.length)]) (V := .int .i64 (tailM o2.m.ch)) ?_ ?_; exact fun ρ w h => tail_any o2.m.ch _ w (sl_os h (i := 11) rfl) (by omega))
      | (refine quiet_mem (f := 36) (args := [chS o2.m.ch (.os 11 o2.m.ch.mem.length)]) (V := .int .i64 (tailM o2.m.ch)) ?_ ?_; exact fun ρ w h => tail_any o2.m.ch _ w (sl_os h (i := 11) rfl) (by omega))
      | (refine seg_mem (f := 36) (args := [chS o2.m.ch (.os 11 o2.m.ch.mem.length)]) (V := .int .i64 (tailM o2.m.ch)) ?_ ?_; exact fun ρ w h => tail_any o2.m.ch _ w (sl_os h (i := 11) rfl) (by omega))
      | (refine mas_whole o2.m k2 n 5 rfl ?_; rw [(jt (by assumption)).2])
      | refine Need.go (by first | omega | decide | (simp <;> omega) | fail) ?_
      | refine Need.go (by first | (simp [Value.oneCell'] <;> omega) | fail) ?_
      | refine Need.go ⟨rfl, by omega, getD_one rfl rfl⟩ ?_
      | refine Need.go ⟨rfl, by omega, fun _ _ _ _ => rfl⟩ ?_
      | refine Br.both (fun h => ?_) (fun h => ?_))
  rotate_left
  all_goals (conv => whnf)
  any_goals first
    | (refine ⟨(o1.m, ZS, o1.er, ((o1.l.length : Nat) : Int)), r1, ?_⟩
       dsimp only
       (conv => whnf)
       refine ⟨[some 0, some 1, some 2, some 3, some 4, some 5, some 6, some 7, some 8], by decide, ?_, ?_⟩
       all_goals repeat' (first | exact leT_junk rfl | refine And.intro ?_ ?_ | exact trivial | exact .inl ⟨rfl, rfl⟩ | rfl | exact .inr ⟨_, rfl, rfl, rfl⟩ | exact ⟨_, rfl, trivial⟩ | exact ⟨_, rfl, rfl⟩ | exact ⟨_, rfl, ⟨rfl, rfl, rfl⟩, fun _ _ _ _ => rfl⟩ | exact ⟨_, rfl, ⟨rfl, rfl, .inl rfl⟩, rfl⟩ | exact ⟨_, rfl, ⟨rfl, rfl, .inr rfl⟩, rfl⟩ | exact ⟨_, rfl, ⟨rfl, rfl, rfl, rfl, rfl⟩, rfl⟩ | exact ⟨_, rfl, ⟨rfl, rfl⟩, fun _ => Iff.rfl⟩ | refine ⟨_, rfl, rfl, ?_⟩ | refine ⟨_, rfl, ⟨rfl, rfl, rfl⟩, ?_⟩)
       done)
    | (refine ⟨(o2.m, ZJ, o2.er, ((o2.l.length : Nat) : Int)), r2, ?_⟩
       dsimp only
       (conv => whnf)
       refine ⟨[some 0, some 1, some 2, some 3, some 4, some 5, some 6, some 7, some 8], by decide, ?_, ?_⟩
       all_goals repeat' (first | exact leT_junk rfl | refine And.intro ?_ ?_ | exact trivial | exact .inl ⟨rfl, rfl⟩ | rfl | exact .inr ⟨_, rfl, rfl, rfl⟩ | exact ⟨_, rfl, trivial⟩ | exact ⟨_, rfl, rfl⟩ | exact ⟨_, rfl, ⟨rfl, rfl, rfl⟩, fun _ _ _ _ => rfl⟩ | exact ⟨_, rfl, ⟨rfl, rfl, .inl rfl⟩, rfl⟩ | exact ⟨_, rfl, ⟨rfl, rfl, .inr rfl⟩, rfl⟩ | exact ⟨_, rfl, ⟨rfl, rfl, rfl, rfl, rfl⟩, rfl⟩ | exact ⟨_, rfl, ⟨rfl, rfl⟩, fun _ => Iff.rfl⟩ | refine ⟨_, rfl, rfl, ?_⟩ | refine ⟨_, rfl, ⟨rfl, rfl, rfl⟩, ?_⟩)
       done)
    | (refine ⟨(o3.m, ZD, o3.er, ((o3.l.length : Nat) : Int)), r3, ?_⟩
       dsimp only
       (conv => whnf)
       refine ⟨[some 0, some 1, some 2, some 3, some 4, some 5, some 6, some 7, some 8], by decide, ?_, ?_⟩
       all_goals repeat' (first | exact leT_junk rfl | refine And.intro ?_ ?_ | exact trivial | exact .inl ⟨rfl, rfl⟩ | rfl | exact .inr ⟨_, rfl, rfl, rfl⟩ | exact ⟨_, rfl, trivial⟩ | exact ⟨_, rfl, rfl⟩ | exact ⟨_, rfl, ⟨rfl, rfl, rfl⟩, fun _ _ _ _ => rfl⟩ | exact ⟨_, rfl, ⟨rfl, rfl, .inl rfl⟩, rfl⟩ | exact ⟨_, rfl, ⟨rfl, rfl, .inr rfl⟩, rfl⟩ | exact ⟨_, rfl, ⟨rfl, rfl, rfl, rfl, rfl⟩, rfl⟩ | exact ⟨_, rfl, ⟨rfl, rfl⟩, fun _ => Iff.rfl⟩ | refine ⟨_, rfl, rfl, ?_⟩ | refine ⟨_, rfl, ⟨rfl, rfl, rfl⟩, ?_⟩)
       done)
    | (refine ⟨(o4.m, ZK, 4, ((o4.l.length : Nat) : Int)), r4, ?_⟩
       dsimp only
       (conv => whnf)
       refine ⟨[some 0, some 1, some 2, some 3, some 4, some 5, some 6, some 7, some 8], by decide, ?_, ?_⟩
       all_goals repeat' (first | exact leT_junk rfl | refine And.intro ?_ ?_ | exact trivial | exact .inl ⟨rfl, rfl⟩ | rfl | exact .inr ⟨_, rfl, rfl, rfl⟩ | exact ⟨_, rfl, trivial⟩ | exact ⟨_, rfl, rfl⟩ | exact ⟨_, rfl, ⟨rfl, rfl, rfl⟩, fun _ _ _ _ => rfl⟩ | exact ⟨_, rfl, ⟨rfl, rfl, .inl rfl⟩, rfl⟩ | exact ⟨_, rfl, ⟨rfl, rfl, .inr rfl⟩, rfl⟩ | exact ⟨_, rfl, ⟨rfl, rfl, rfl, rfl, rfl⟩, rfl⟩ | exact ⟨_, rfl, ⟨rfl, rfl⟩, fun _ => Iff.rfl⟩ | refine ⟨_, rfl, rfl, ?_⟩ | refine ⟨_, rfl, ⟨rfl, rfl, rfl⟩, ?_⟩)
       done)
    | (refine ⟨(o5.m, ZE, 4, ((o5.l.length : Nat) : Int)), r5, ?_⟩
       dsimp only
       (conv => whnf)
       refine ⟨[some 0, some 1, some 2, some 3, some 4, some 5, some 6, some 7, some 8], by decide, ?_, ?_⟩
       all_goals repeat' (first | exact leT_junk rfl | refine And.intro ?_ ?_ | exact trivial | exact .inl ⟨rfl, rfl⟩ | rfl | exact .inr ⟨_, rfl, rfl, rfl⟩ | exact ⟨_, rfl, trivial⟩ | exact ⟨_, rfl, rfl⟩ | exact ⟨_, rfl, ⟨rfl, rfl, rfl⟩, fun _ _ _ _ => rfl⟩ | exact ⟨_, rfl, ⟨rfl, rfl, .inl rfl⟩, rfl⟩ | exact ⟨_, rfl, ⟨rfl, rfl, .inr rfl⟩, rfl⟩ | exact ⟨_, rfl, ⟨rfl, rfl, rfl, rfl, rfl⟩, rfl⟩ | exact ⟨_, rfl, ⟨rfl, rfl⟩, fun _ => Iff.rfl⟩ | refine ⟨_, rfl, rfl, ?_⟩ | refine ⟨_, rfl, ⟨rfl, rfl, rfl⟩, ?_⟩)
       done)
    | (refine ⟨(o6.m, ZT, 4, ((o6.l.length : Nat) : Int)), r6, ?_⟩
       dsimp only
       (conv => whnf)
       refine ⟨[some 0, some 1, some 2, some 3, some 4, some 5, some 6, some 7, some 8], by decide, ?_, ?_⟩
       all_goals repeat' (first | exact leT_junk rfl | refine And.intro ?_ ?_ | exact trivial | exact .inl ⟨rfl, rfl⟩ | rfl | exact .inr ⟨_, rfl, rfl, rfl⟩ | exact ⟨_, rfl, trivial⟩ | exact ⟨_, rfl, rfl⟩ | exact ⟨_, rfl, ⟨rfl, rfl, rfl⟩, fun _ _ _ _ => rfl⟩ | exact ⟨_, rfl, ⟨rfl, rfl, .inl rfl⟩, rfl⟩ | exact ⟨_, rfl, ⟨rfl, rfl, .inr rfl⟩, rfl⟩ | exact ⟨_, rfl, ⟨rfl, rfl, rfl, rfl, rfl⟩, rfl⟩ | exact ⟨_, rfl, ⟨rfl, rfl⟩, fun _ => Iff.rfl⟩ | refine ⟨_, rfl, rfl, ?_⟩ | refine ⟨_, rfl, ⟨rfl, rfl, rfl⟩, ?_⟩)
       done)
    | fail
  clear t1 t2 t3 t4 t5 t6 r1 r2 r3 r4 r5 r6 jt dt ho1 ho2 ho3 ho4 ho5 ho6 k2 k3 l2 hya hyb hyk hn hwm hst
  intro x hx
  obtain ⟨mt, Zt, f, sent⟩ := x
  obtain ⟨hst2, hw, hcase⟩ := hx
  simp only at hst2 hw hcase
  dsimp only
  have hto := hst2.ok
  have htl := okCh_len hto.ch
  have hte := hst2.ep
  rcases hcase with ⟨hce, hf⟩ | ⟨hlt1, hor, hse⟩
  · have hep : mt.ch.epoch = m.ch.epoch := by rw [hce]
    have hsm : sameCh m.ch mt.ch = true := by rw [hce]; exact sameCh_self _
    repeat' ((conv => whnf); first
        | refine CutN.plain ?_
        | with_reducible refine Br.tt ?_
        | with_reducible refine Br.ff ?_
        | with_reducible refine Br.nt ?_
        | with_reducible refine Br.nf ?_
        | with_reducible refine Br.eeI ?_
        | with_reducible refine Br.nnI ?_
        | refine Br.yes (by decide) ?_
        | refine Br.no (by decide) ?_
        | refine Need.go rfl ?_
        | refine QuiD.quiet (by kernel_rfl) ?_
        | refine IdxN.lit ?_
        | refine draw_go tabOK (by kernel_rfl) ?_
        | refine Need.go ⟨rfl, rfl⟩ ?_
        | refine Need.go ⟨⟨rfl, rfl, rfl⟩, rfl⟩ ?_
        | (with_reducible refine Br.dec (fun h => ?_) (fun h => ?_); first | (rotate_left; exfalso; omega; clear h) | (exfalso; omega; clear h) | skip)
        | (with_reducible refine Br.eqI (fun h => ?_) (fun h => ?_); first | (rotate_left; exfalso; omega; clear h) | (exfalso; omega; clear h) | skip)
        | (with_reducible refine Br.neI (fun h => ?_) (fun h => ?_); first | (rotate_left; exfalso; omega; clear h) | (exfalso; omega; clear h) | skip)
        | (with_reducible refine Br.eqS (fun h => ?_) (fun h => ?_); first | (rotate_left; exfalso; omega; clear h) | (exfalso; omega; clear h) | skip)
        | (with_reducible refine Br.neS (fun h => ?_) (fun h => ?_); first | (rotate_left; exfalso; omega; clear h) | (exfalso; omega; clear h) | skip)
        | (with_reducible refine Br.nd (fun h => ?_) (fun h => ?_); first | (rotate_left; exfalso; omega; clear h) | (exfalso; omega; clear h) | skip)
        | refine Ar.i64 (by omega) (by omega) ?_
        | refine mas_chain mt hto 5 rfl ?_
        | (refine call_mem (f := 37) (args := [chS m.ch (.os 7 m.ch.mem.length), chS mt.ch (.os 9 mt.ch.mem.length)]) (V := .bool true) ?_ ?_; exact fun ρ w h => (by have := sameCh19_any m.ch mt.ch _ _ w (sl_os h (i := 7) rfl) (sl_os h (i := 9) rfl) (by omega); rw [hsm] at this; exact this))
        | (refine quiet_mem (f := 37) (args := [chS m.ch (.os 7 m.ch.mem.length), chS mt.ch (.os 9 mt.ch.mem.length)]) (V := .bool true) ?_ ?_; exact fun ρ w h => (by have := sameCh19_any m.ch mt.ch _ _ w (sl_os h (i := 7) rfl) (sl_os h (i := 9) rfl) (by omega); rw [hsm] at this; exact this))
        | (refine seg_mem (f := 37) (args := [chS m.ch (.os 7 m.ch.mem.length), chS mt.ch (.os 9 mt.ch.mem.length)]) (V := .bool true) ?_ ?_; exact fun ρ w h => (by have := sameCh19_any m.ch mt.ch _ _ w (sl_os h (i := 7) rfl) (sl_os h (i := 9) rfl) (by omega); rw [hsm] at this; exact this))
        | (refine call_mem (f := 38) (args := [chS mt.ch (.os 9 mt.ch.mem.length)]) (V := .int .i64 0) ?_ ?_; exact fun ρ w h => (by have := chCheck_any mt.ch _ w (sl_os h (i := 9) rfl) (by omega); rw [hto.ch] at this; exact this))
        | (refine quiet_mem (f := 38) (args := [chS mt.ch (.os 9 mt.ch.mem.length)]) (V := .int .i64 0) ?_ ?_; exact fun ρ w h => (by have := chCheck_any mt.ch _ w (sl_os h (i := 9) rfl) (by omega); rw [hto.ch] at this; exact this))
        | (refine seg_mem (f := 38) (args := [chS mt.ch (.os 9 mt.ch.mem.length)]) (V := .int .i64 0) ?_ ?_; exact fun ρ w h => (by have := chCheck_any mt.ch _ w (sl_os h (i := 9) rfl) (by omega); rw [hto.ch] at this; exact this))
        | refine Br.no (by first | (simp [hep, hf]; done) | fail) ?_
        | refine Need.go (by first | omega | decide | (simp <;> omega) | fail) ?_
        | refine Need.go (by first | (simp [Value.oneCell'] <;> omega) | fail) ?_
        | refine Need.go ⟨rfl, by omega, getD_one rfl rfl⟩ ?_
        | refine Need.go ⟨rfl, by omega, fun _ _ _ _ => rfl⟩ ?_
        | refine Br.both (fun h => ?_) (fun h => ?_))
    all_goals (conv => whnf)
    all_goals try (exfalso; omega)
    refine loop_up 229 (fun x : Nat × Bool => x.1 ≤ mt.ch.mem.length ∧ x.2 = anyW mt x.1) (fun x => mt.ch.mem.length - x.1) (fun x => [(24, .v (.bool x.2)), (25, .v (.int .i64 x.1))]) (fun _ => []) (fun _ => []) (0, false) ⟨Nat.zero_le _, rfl⟩ (by
      (conv => whnf)
      refine ⟨[some 0, some 1, some 2, some 3, some 4, some 5, some 6, some 7, some 8, some 9, some 10], by decide, ?_, ?_⟩
      all_goals repeat' (first | exact leT_junk rfl | refine And.intro ?_ ?_ | exact trivial | exact .inl ⟨rfl, rfl⟩ | rfl | exact .inr ⟨_, rfl, rfl, rfl⟩ | exact ⟨_, rfl, trivial⟩ | exact ⟨_, rfl, rfl⟩ | exact ⟨_, rfl, ⟨rfl, rfl, rfl⟩, fun _ _ _ _ => rfl⟩ | exact ⟨_, rfl, ⟨rfl, rfl, .inl rfl⟩, rfl⟩ | exact ⟨_, rfl, ⟨rfl, rfl, .inr rfl⟩, rfl⟩ | exact ⟨_, rfl, ⟨rfl, rfl, rfl, rfl, rfl⟩, rfl⟩ | exact ⟨_, rfl, ⟨rfl, rfl⟩, fun _ => Iff.rfl⟩ | refine ⟨_, rfl, rfl, ?_⟩ | refine ⟨_, rfl, ⟨rfl, rfl, rfl⟩, ?_⟩)) (fun x hx => ?_)
    obtain ⟨j, B⟩ := x
    obtain ⟨hj, hB⟩ := hx
    simp only at hj hB
    dsimp only
    by_cases hjl : j < mt.ch.mem.length
    · have hos := anyW_step mt hjl
      have hos : anyW mt (j + 1) = (B || wholeM mt (mt.ch.mem.getD (Int.toNat (j : Int)) (0, 0)).1) := hB ▸ hos
      obtain ⟨wz, hwz⟩ : ∃ wz, wholeM mt (mt.ch.mem.getD (Int.toNat (j : Int)) (0, 0)).1 = wz := ⟨_, rfl⟩
      rw [hwz] at hos
      clear hB
      cases B with
      | true =>
        have hos : anyW mt (j + 1) = true := hos.trans (Bool.true_or _)
        repeat' ((conv => whnf); first
            | refine CutN.plain ?_
            | with_reducible refine Br.tt ?_
            | with_reducible refine Br.ff ?_
            | with_reducible refine Br.nt ?_
            | with_reducible refine Br.nf ?_
            | with_reducible refine Br.eeI ?_
            | with_reducible refine Br.nnI ?_
            | refine Br.yes (by decide) ?_
            | refine Br.no (by decide) ?_
            | refine Need.go rfl ?_
            | refine QuiD.quiet (by kernel_rfl) ?_
            | refine IdxN.lit ?_
            | refine draw_go tabOK (by kernel_rfl) ?_
            | refine Need.go ⟨rfl, rfl⟩ ?_
            | refine Need.go ⟨⟨rfl, rfl, rfl⟩, rfl⟩ ?_
            | (with_reducible refine Br.dec (fun h => ?_) (fun h => ?_); first | (rotate_left; exfalso; omega; clear h) | (exfalso; omega; clear h) | skip)
            | (with_reducible refine Br.eqI (fun h => ?_) (fun h => ?_); first | (rotate_left; exfalso; omega; clear h) | (exfalso; omega; clear h) | skip)
            | (with_reducible refine Br.neI (fun h => ?_) (fun h => ?_); first | (rotate_left; exfalso; omega; clear h) | (exfalso; omega; clear h) | skip)
            | (with_reducible refine Br.eqS (fun h => ?_) (fun h => ?_); first | (rotate_left; exfalso; omega; clear h) | (exfalso; omega; clear h) | skip)
            | (with_reducible refine Br.neS (fun h => ?_) (fun h => ?_); first | (rotate_left; exfalso; omega; clear h) | (exfalso; omega; clear h) | skip)
            | (with_reducible refine Br.nd (fun h => ?_) (fun h => ?_); first | (rotate_left; exfalso; omega; clear h) | (exfalso; omega; clear h) | skip)
            | refine Ar.i64 (by omega) (by omega) ?_
            | (refine mas_whole mt hto (mt.ch.mem.getD (Int.toNat (j : Int)) (0, 0)).1 5 rfl ?_; rw [hwz])
            | refine Need.go (by first | omega | decide | (simp <;> omega) | fail) ?_
            | refine Need.go (by first | (simp [Value.oneCell'] <;> omega) | fail) ?_
            | refine Need.go ⟨rfl, by omega, getD_one rfl rfl⟩ ?_
            | refine Need.go ⟨rfl, by omega, fun _ _ _ _ => rfl⟩ ?_
            | refine Br.both (fun h => ?_) (fun h => ?_))
        all_goals (conv => whnf)
        refine ⟨(j + 1, true), ⟨by simp only; omega, hos.symm⟩, by simp only; omega, ?_⟩
        dsimp only
        (conv => whnf)
        refine ⟨[some 0, some 1, some 2, some 3, some 4, some 5, some 6, some 7, some 8, some 9, some 10], by decide, ?_, ?_⟩
        all_goals repeat' (first | exact leT_junk rfl | refine And.intro ?_ ?_ | exact trivial | exact .inl ⟨rfl, rfl⟩ | rfl | exact .inr ⟨_, rfl, rfl, rfl⟩ | exact ⟨_, rfl, trivial⟩ | exact ⟨_, rfl, rfl⟩ | exact ⟨_, rfl, ⟨rfl, rfl, rfl⟩, fun _ _ _ _ => rfl⟩ | exact ⟨_, rfl, ⟨rfl, rfl, .inl rfl⟩, rfl⟩ | exact ⟨_, rfl, ⟨rfl, rfl, .inr rfl⟩, rfl⟩ | exact ⟨_, rfl, ⟨rfl, rfl, rfl, rfl, rfl⟩, rfl⟩ | exact ⟨_, rfl, ⟨rfl, rfl⟩, fun _ => Iff.rfl⟩ | refine ⟨_, rfl, rfl, ?_⟩ | refine ⟨_, rfl, ⟨rfl, rfl, rfl⟩, ?_⟩)
      | false =>
        have hos : anyW mt (j + 1) = wz := hos.trans (Bool.false_or _)
        repeat' ((conv => whnf); first
            | refine CutN.plain ?_
            | with_reducible refine Br.tt ?_
            | with_reducible refine Br.ff ?_
            | with_reducible refine Br.nt ?_
            | with_reducible refine Br.nf ?_
            | with_reducible refine Br.eeI ?_
            | with_reducible refine Br.nnI ?_
            | refine Br.yes (by decide) ?_
            | refine Br.no (by decide) ?_
            | refine Need.go rfl ?_
            | refine QuiD.quiet (by kernel_rfl) ?_
            | refine IdxN.lit ?_
            | refine draw_go tabOK (by kernel_rfl) ?_
            | refine Need.go ⟨rfl, rfl⟩ ?_
            | refine Need.go ⟨⟨rfl, rfl, rfl⟩, rfl⟩ ?_
            | (with_reducible refine Br.dec (fun h => ?_) (fun h => ?_); first | (rotate_left; exfalso; omega; clear h) | (exfalso; omega; clear h) | skip)
            | (with_reducible refine Br.eqI (fun h => ?_) (fun h => ?_); first | (rotate_left; exfalso; omega; clear h) | (exfalso; omega; clear h) | skip)
            | (with_reducible refine Br.neI (fun h => ?_) (fun h => ?_); first | (rotate_left; exfalso; omega; clear h) | (exfalso; omega; clear h) | skip)
            | (with_reducible refine Br.eqS (fun h => ?_) (fun h => ?_); first | (rotate_left; exfalso; omega; clear h) | (exfalso; omega; clear h) | skip)
            | (with_reducible refine Br.neS (fun h => ?_) (fun h => ?_); first | (rotate_left; exfalso; omega; clear h) | (exfalso; omega; clear h) | skip)
            | (with_reducible refine Br.nd (fun h => ?_) (fun h => ?_); first | (rotate_left; exfalso; omega; clear h) | (exfalso; omega; clear h) | skip)
            | refine Ar.i64 (by omega) (by omega) ?_
            | (refine mas_whole mt hto (mt.ch.mem.getD (Int.toNat (j : Int)) (0, 0)).1 5 rfl ?_; rw [hwz])
            | refine Need.go (by first | omega | decide | (simp <;> omega) | fail) ?_
            | refine Need.go (by first | (simp [Value.oneCell'] <;> omega) | fail) ?_
            | refine Need.go ⟨rfl, by omega, getD_one rfl rfl⟩ ?_
            | refine Need.go ⟨rfl, by omega, fun _ _ _ _ => rfl⟩ ?_
            | refine Br.both (fun h => ?_) (fun h => ?_))
        all_goals (conv => whnf)
        refine ⟨(j + 1, wz), ⟨by simp only; omega, hos.symm⟩, by simp only; omega, ?_⟩
        dsimp only
        (conv => whnf)
        refine ⟨[some 0, some 1, some 2, some 3, some 4, some 5, some 6, some 7, some 8, some 9, some 10], by decide, ?_, ?_⟩
        all_goals repeat' (first | exact leT_junk rfl | refine And.intro ?_ ?_ | exact trivial | exact .inl ⟨rfl, rfl⟩ | rfl | exact .inr ⟨_, rfl, rfl, rfl⟩ | exact ⟨_, rfl, trivial⟩ | exact ⟨_, rfl, rfl⟩ | exact ⟨_, rfl, ⟨rfl, rfl, rfl⟩, fun _ _ _ _ => rfl⟩ | exact ⟨_, rfl, ⟨rfl, rfl, .inl rfl⟩, rfl⟩ | exact ⟨_, rfl, ⟨rfl, rfl, .inr rfl⟩, rfl⟩ | exact ⟨_, rfl, ⟨rfl, rfl, rfl, rfl, rfl⟩, rfl⟩ | exact ⟨_, rfl, ⟨rfl, rfl⟩, fun _ => Iff.rfl⟩ | refine ⟨_, rfl, rfl, ?_⟩ | refine ⟨_, rfl, ⟨rfl, rfl, rfl⟩, ?_⟩)
    · obtain rfl : j = mt.ch.mem.length := by omega
      rw [anyW_all hto hw] at hB
      subst hB
      repeat' ((conv => whnf); first
          | refine CutN.plain ?_
          | with_reducible refine Br.tt ?_
          | with_reducible refine Br.ff ?_
          | with_reducible refine Br.nt ?_
          | with_reducible refine Br.nf ?_
          | with_reducible refine Br.eeI ?_
          | with_reducible refine Br.nnI ?_
          | refine Br.yes (by decide) ?_
          | refine Br.no (by decide) ?_
          | refine Need.go rfl ?_
          | refine QuiD.quiet (by kernel_rfl) ?_
          | refine IdxN.lit ?_
          | refine draw_go tabOK (by kernel_rfl) ?_
          | refine Need.go ⟨rfl, rfl⟩ ?_
          | refine Need.go ⟨⟨rfl, rfl, rfl⟩, rfl⟩ ?_
          | (with_reducible refine Br.dec (fun h => ?_) (fun h => ?_); first | (rotate_left; exfalso; omega; clear h) | (exfalso; omega; clear h) | skip)
          | (with_reducible refine Br.eqI (fun h => ?_) (fun h => ?_); first | (rotate_left; exfalso; omega; clear h) | (exfalso; omega; clear h) | skip)
          | (with_reducible refine Br.neI (fun h => ?_) (fun h => ?_); first | (rotate_left; exfalso; omega; clear h) | (exfalso; omega; clear h) | skip)
          | (with_reducible refine Br.eqS (fun h => ?_) (fun h => ?_); first | (rotate_left; exfalso; omega; clear h) | (exfalso; omega; clear h) | skip)
          | (with_reducible refine Br.neS (fun h => ?_) (fun h => ?_); first | (rotate_left; exfalso; omega; clear h) | (exfalso; omega; clear h) | skip)
          | (with_reducible refine Br.nd (fun h => ?_) (fun h => ?_); first | (rotate_left; exfalso; omega; clear h) | (exfalso; omega; clear h) | skip)
          | refine Ar.i64 (by omega) (by omega) ?_
          | refine Need.go (by first | omega | decide | (simp <;> omega) | fail) ?_
          | refine Need.go (by first | (simp [Value.oneCell'] <;> omega) | fail) ?_
          | refine Need.go ⟨rfl, by omega, getD_one rfl rfl⟩ ?_
          | refine Need.go ⟨rfl, by omega, fun _ _ _ _ => rfl⟩ ?_
          | refine Br.both (fun h => ?_) (fun h => ?_))
      all_goals (conv => whnf)
      refine ⟨(k + 1, now, mt, Zt), ⟨by simp only; omega, by simp only; omega, hst2.mono (by omega), hw⟩, by simp only; omega, ?_⟩
      dsimp only
      (conv => whnf)
      refine ⟨[some 0, some 1, some 2, some 3, some 4, some 5], by decide, ?_, ?_⟩
      all_goals repeat' (first | exact leT_junk rfl | refine And.intro ?_ ?_ | exact trivial | exact .inl ⟨rfl, rfl⟩ | rfl | exact .inr ⟨_, rfl, rfl, rfl⟩ | exact ⟨_, rfl, trivial⟩ | exact ⟨_, rfl, rfl⟩ | exact ⟨_, rfl, ⟨rfl, rfl, rfl⟩, fun _ _ _ _ => rfl⟩ | exact ⟨_, rfl, ⟨rfl, rfl, .inl rfl⟩, rfl⟩ | exact ⟨_, rfl, ⟨rfl, rfl, .inr rfl⟩, rfl⟩ | exact ⟨_, rfl, ⟨rfl, rfl, rfl, rfl, rfl⟩, rfl⟩ | exact ⟨_, rfl, ⟨rfl, rfl⟩, fun _ => Iff.rfl⟩ | refine ⟨_, rfl, rfl, ?_⟩ | refine ⟨_, rfl, ⟨rfl, rfl, rfl⟩, ?_⟩)
  · have hne : ¬ mt.ch.epoch = m.ch.epoch := by omega
    have hsm : sameCh m.ch mt.ch = false := by
      have : ¬ m.ch.epoch = mt.ch.epoch := fun e => hne e.symm
      simp [sameCh, this]
    repeat' ((conv => whnf); first
        | refine CutN.plain ?_
        | with_reducible refine Br.tt ?_
        | with_reducible refine Br.ff ?_
        | with_reducible refine Br.nt ?_
        | with_reducible refine Br.nf ?_
        | with_reducible refine Br.eeI ?_
        | with_reducible refine Br.nnI ?_
        | refine Br.yes (by decide) ?_
        | refine Br.no (by decide) ?_
        | refine Need.go rfl ?_
        | refine QuiD.quiet (by kernel_rfl) ?_
        | refine IdxN.lit ?_
        | refine draw_go tabOK (by kernel_rfl) ?_
        | refine Need.go ⟨rfl, rfl⟩ ?_
        | refine Need.go ⟨⟨rfl, rfl, rfl⟩, rfl⟩ ?_
        | (with_reducible refine Br.dec (fun h => ?_) (fun h => ?_); first | (rotate_left; exfalso; omega; clear h) | (exfalso; omega; clear h) | skip)
        | (with_reducible refine Br.eqI (fun h => ?_) (fun h => ?_); first | (rotate_left; exfalso; omega; clear h) | (exfalso; omega; clear h) | skip)
        | (with_reducible refine Br.neI (fun h => ?_) (fun h => ?_); first | (rotate_left; exfalso; omega; clear h) | (exfalso; omega; clear h) | skip)
        | (with_reducible refine Br.eqS (fun h => ?_) (fun h => ?_); first | (rotate_left; exfalso; omega; clear h) | (exfalso; omega; clear h) | skip)
        | (with_reducible refine Br.neS (fun h => ?_) (fun h => ?_); first | (rotate_left; exfalso; omega; clear h) | (exfalso; omega; clear h) | skip)
        | (with_reducible refine Br.nd (fun h => ?_) (fun h => ?_); first | (rotate_left; exfalso; omega; clear h) | (exfalso; omega; clear h) | skip)
        | refine Ar.i64 (by omega) (by omega) ?_
        | refine mas_chain mt hto 5 rfl ?_
        | (refine call_mem (f := 37) (args := [chS m.ch (.os 7 m.ch.mem.length), chS mt.ch (.os 9 mt.ch.mem.length)]) (V := .bool false) ?_ ?_; exact fun ρ w h => (by have := sameCh19_any m.ch mt.ch _ _ w (sl_os h (i := 7) rfl) (sl_os h (i := 9) rfl) (by omega); rw [hsm] at this; exact this))
        | (refine quiet_mem (f := 37) (args := [chS m.ch (.os 7 m.ch.mem.length), chS mt.ch (.os 9 mt.ch.mem.length)]) (V := .bool false) ?_ ?_; exact fun ρ w h => (by have := sameCh19_any m.ch mt.ch _ _ w (sl_os h (i := 7) rfl) (sl_os h (i := 9) rfl) (by omega); rw [hsm] at this; exact this))
        | (refine seg_mem (f := 37) (args := [chS m.ch (.os 7 m.ch.mem.length), chS mt.ch (.os 9 mt.ch.mem.length)]) (V := .bool false) ?_ ?_; exact fun ρ w h => (by have := sameCh19_any m.ch mt.ch _ _ w (sl_os h (i := 7) rfl) (sl_os h (i := 9) rfl) (by omega); rw [hsm] at this; exact this))
        | (refine call_mem (f := 38) (args := [chS mt.ch (.os 9 mt.ch.mem.length)]) (V := .int .i64 0) ?_ ?_; exact fun ρ w h => (by have := chCheck_any mt.ch _ w (sl_os h (i := 9) rfl) (by omega); rw [hto.ch] at this; exact this))
        | (refine quiet_mem (f := 38) (args := [chS mt.ch (.os 9 mt.ch.mem.length)]) (V := .int .i64 0) ?_ ?_; exact fun ρ w h => (by have := chCheck_any mt.ch _ w (sl_os h (i := 9) rfl) (by omega); rw [hto.ch] at this; exact this))
        | (refine seg_mem (f := 38) (args := [chS mt.ch (.os 9 mt.ch.mem.length)]) (V := .int .i64 0) ?_ ?_; exact fun ρ w h => (by have := chCheck_any mt.ch _ w (sl_os h (i := 9) rfl) (by omega); rw [hto.ch] at this; exact this))
        | refine Br.no (by first | (simp [hne, hse]; done) | fail) ?_
        | refine Need.go (by first | omega | decide | (simp <;> omega) | fail) ?_
        | refine Need.go (by first | (simp [Value.oneCell'] <;> omega) | fail) ?_
        | refine Need.go ⟨rfl, by omega, getD_one rfl rfl⟩ ?_
        | refine Need.go ⟨rfl, by omega, fun _ _ _ _ => rfl⟩ ?_
        | refine Br.both (fun h => ?_) (fun h => ?_))
    all_goals (conv => whnf)
    all_goals try (exfalso; omega)
    all_goals
      refine loop_up 229 (fun x : Nat × Bool => x.1 ≤ mt.ch.mem.length ∧ x.2 = anyW mt x.1) (fun x => mt.ch.mem.length - x.1) (fun x => [(24, .v (.bool x.2)), (25, .v (.int .i64 x.1))]) (fun _ => []) (fun _ => []) (0, false) ⟨Nat.zero_le _, rfl⟩ (by
        (conv => whnf)
        refine ⟨[some 0, some 1, some 2, some 3, some 4, some 5, some 6, some 7, some 8, some 9, some 10], by decide, ?_, ?_⟩
        all_goals repeat' (first | exact leT_junk rfl | refine And.intro ?_ ?_ | exact trivial | exact .inl ⟨rfl, rfl⟩ | rfl | exact .inr ⟨_, rfl, rfl, rfl⟩ | exact ⟨_, rfl, trivial⟩ | exact ⟨_, rfl, rfl⟩ | exact ⟨_, rfl, ⟨rfl, rfl, rfl⟩, fun _ _ _ _ => rfl⟩ | exact ⟨_, rfl, ⟨rfl, rfl, .inl rfl⟩, rfl⟩ | exact ⟨_, rfl, ⟨rfl, rfl, .inr rfl⟩, rfl⟩ | exact ⟨_, rfl, ⟨rfl, rfl, rfl, rfl, rfl⟩, rfl⟩ | exact ⟨_, rfl, ⟨rfl, rfl⟩, fun _ => Iff.rfl⟩ | refine ⟨_, rfl, rfl, ?_⟩ | refine ⟨_, rfl, ⟨rfl, rfl, rfl⟩, ?_⟩)) (fun x hx => ?_)
      obtain ⟨j, B⟩ := x
      obtain ⟨hj, hB⟩ := hx
      simp only at hj hB
      dsimp only
      by_cases hjl : j < mt.ch.mem.length
      · have hos := anyW_step mt hjl
        have hos : anyW mt (j + 1) = (B || wholeM mt (mt.ch.mem.getD (Int.toNat (j : Int)) (0, 0)).1) := hB ▸ hos
        obtain ⟨wz, hwz⟩ : ∃ wz, wholeM mt (mt.ch.mem.getD (Int.toNat (j : Int)) (0, 0)).1 = wz := ⟨_, rfl⟩
        rw [hwz] at hos
        clear hB
        cases B with
        | true =>
          have hos : anyW mt (j + 1) = true := hos.trans (Bool.true_or _)
          repeat' ((conv => whnf); first
              | refine CutN.plain ?_
              | with_reducible refine Br.tt ?_
              | with_reducible refine Br.ff ?_
              | with_reducible refine Br.nt ?_
              | with_reducible refine Br.nf ?_
              | with_reducible refine Br.eeI ?_
              | with_reducible refine Br.nnI ?_
              | refine Br.yes (by decide) ?_
              | refine Br.no (by decide) ?_
              | refine Need.go rfl ?_
              | refine QuiD.quiet (by kernel_rfl) ?_
              | refine IdxN.lit ?_
              | refine draw_go tabOK (by kernel_rfl) ?_
              | refine Need.go ⟨rfl, rfl⟩ ?_
              | refine Need.go ⟨⟨rfl, rfl, rfl⟩, rfl⟩ ?_
              | (with_reducible refine Br.dec (fun h => ?_) (fun h => ?_); first | (rotate_left; exfalso; omega; clear h) | (exfalso; omega; clear h) | skip)
              | (with_reducible refine Br.eqI (fun h => ?_) (fun h => ?_); first | (rotate_left; exfalso; omega; clear h) | (exfalso; omega; clear h) | skip)
              | (with_reducible refine Br.neI (fun h => ?_) (fun h => ?_); first | (rotate_left; exfalso; omega; clear h) | (exfalso; omega; clear h) | skip)
              | (with_reducible refine Br.eqS (fun h => ?_) (fun h => ?_); first | (rotate_left; exfalso; omega; clear h) | (exfalso; omega; clear h) | skip)
              | (with_reducible refine Br.neS (fun h => ?_) (fun h => ?_); first | (rotate_left; exfalso; omega; clear h) | (exfalso; omega; clear h) | skip)
              | (with_reducible refine Br.nd (fun h => ?_) (fun h => ?_); first | (rotate_left; exfalso; omega; clear h) | (exfalso; omega; clear h) | skip)
              | refine Ar.i64 (by omega) (by omega) ?_
              | (refine mas_whole mt hto (mt.ch.mem.getD (Int.toNat (j : Int)) (0, 0)).1 5 rfl ?_; rw [hwz])
              | refine Need.go (by first | omega | decide | (simp <;> omega) | fail) ?_
              | refine Need.go (by first | (simp [Value.oneCell'] <;> omega) | fail) ?_
              | refine Need.go ⟨rfl, by omega, getD_one rfl rfl⟩ ?_
              | refine Need.go ⟨rfl, by omega, fun _ _ _ _ => rfl⟩ ?_
              | refine Br.both (fun h => ?_) (fun h => ?_))
          all_goals (conv => whnf)
          refine ⟨(j + 1, true), ⟨by simp only; omega, hos.symm⟩, by simp only; omega, ?_⟩
          dsimp only
          (conv => whnf)
          refine ⟨[some 0, some 1, some 2, some 3, some 4, some 5, some 6, some 7, some 8, some 9, some 10], by decide, ?_, ?_⟩
          all_goals repeat' (first | exact leT_junk rfl | refine And.intro ?_ ?_ | exact trivial | exact .inl ⟨rfl, rfl⟩ | rfl | exact .inr ⟨_, rfl, rfl, rfl⟩ | exact ⟨_, rfl, trivial⟩ | exact ⟨_, rfl, rfl⟩ | exact ⟨_, rfl, ⟨rfl, rfl, rfl⟩, fun _ _ _ _ => rfl⟩ | exact ⟨_, rfl, ⟨rfl, rfl, .inl rfl⟩, rfl⟩ | exact ⟨_, rfl, ⟨rfl, rfl, .inr rfl⟩, rfl⟩ | exact ⟨_, rfl, ⟨rfl, rfl, rfl, rfl, rfl⟩, rfl⟩ | exact ⟨_, rfl, ⟨rfl, rfl⟩, fun _ => Iff.rfl⟩ | refine ⟨_, rfl, rfl, ?_⟩ | refine ⟨_, rfl, ⟨rfl, rfl, rfl⟩, ?_⟩)
        | false =>
          have hos : anyW mt (j + 1) = wz := hos.trans (Bool.false_or _)
          repeat' ((conv => whnf); first
              | refine CutN.plain ?_
              | with_reducible refine Br.tt ?_
              | with_reducible refine Br.ff ?_
              | with_reducible refine Br.nt ?_
              | with_reducible refine Br.nf ?_
              | with_reducible refine Br.eeI ?_
              | with_reducible refine Br.nnI ?_
              | refine Br.yes (by decide) ?_
              | refine Br.no (by decide) ?_
              | refine Need.go rfl ?_
              | refine QuiD.quiet (by kernel_rfl) ?_
              | refine IdxN.lit ?_
              | refine draw_go tabOK (by kernel_rfl) ?_
              | refine Need.go ⟨rfl, rfl⟩ ?_
              | refine Need.go ⟨⟨rfl, rfl, rfl⟩, rfl⟩ ?_
              | (with_reducible refine Br.dec (fun h => ?_) (fun h => ?_); first | (rotate_left; exfalso; omega; clear h) | (exfalso; omega; clear h) | skip)
              | (with_reducible refine Br.eqI (fun h => ?_) (fun h => ?_); first | (rotate_left; exfalso; omega; clear h) | (exfalso; omega; clear h) | skip)
              | (with_reducible refine Br.neI (fun h => ?_) (fun h => ?_); first | (rotate_left; exfalso; omega; clear h) | (exfalso; omega; clear h) | skip)
              | (with_reducible refine Br.eqS (fun h => ?_) (fun h => ?_); first | (rotate_left; exfalso; omega; clear h) | (exfalso; omega; clear h) | skip)
              | (with_reducible refine Br.neS (fun h => ?_) (fun h => ?_); first | (rotate_left; exfalso; omega; clear h) | (exfalso; omega; clear h) | skip)
              | (with_reducible refine Br.nd (fun h => ?_) (fun h => ?_); first | (rotate_left; exfalso; omega; clear h) | (exfalso; omega; clear h) | skip)
              | refine Ar.i64 (by omega) (by omega) ?_
              | (refine mas_whole mt hto (mt.ch.mem.getD (Int.toNat (j : Int)) (0, 0)).1 5 rfl ?_; rw [hwz])
              | refine Need.go (by first | omega | decide | (simp <;> omega) | fail) ?_
              | refine Need.go (by first | (simp [Value.oneCell'] <;> omega) | fail) ?_
              | refine Need.go ⟨rfl, by omega, getD_one rfl rfl⟩ ?_
              | refine Need.go ⟨rfl, by omega, fun _ _ _ _ => rfl⟩ ?_
              | refine Br.both (fun h => ?_) (fun h => ?_))
          all_goals (conv => whnf)
          refine ⟨(j + 1, wz), ⟨by simp only; omega, hos.symm⟩, by simp only; omega, ?_⟩
          dsimp only
          (conv => whnf)
          refine ⟨[some 0, some 1, some 2, some 3, some 4, some 5, some 6, some 7, some 8, some 9, some 10], by decide, ?_, ?_⟩
          all_goals repeat' (first | exact leT_junk rfl | refine And.intro ?_ ?_ | exact trivial | exact .inl ⟨rfl, rfl⟩ | rfl | exact .inr ⟨_, rfl, rfl, rfl⟩ | exact ⟨_, rfl, trivial⟩ | exact ⟨_, rfl, rfl⟩ | exact ⟨_, rfl, ⟨rfl, rfl, rfl⟩, fun _ _ _ _ => rfl⟩ | exact ⟨_, rfl, ⟨rfl, rfl, .inl rfl⟩, rfl⟩ | exact ⟨_, rfl, ⟨rfl, rfl, .inr rfl⟩, rfl⟩ | exact ⟨_, rfl, ⟨rfl, rfl, rfl, rfl, rfl⟩, rfl⟩ | exact ⟨_, rfl, ⟨rfl, rfl⟩, fun _ => Iff.rfl⟩ | refine ⟨_, rfl, rfl, ?_⟩ | refine ⟨_, rfl, ⟨rfl, rfl, rfl⟩, ?_⟩)
      · obtain rfl : j = mt.ch.mem.length := by omega
        rw [anyW_all hto hw] at hB
        subst hB
        repeat' ((conv => whnf); first
            | refine CutN.plain ?_
            | with_reducible refine Br.tt ?_
            | with_reducible refine Br.ff ?_
            | with_reducible refine Br.nt ?_
            | with_reducible refine Br.nf ?_
            | with_reducible refine Br.eeI ?_
            | with_reducible refine Br.nnI ?_
            | refine Br.yes (by decide) ?_
            | refine Br.no (by decide) ?_
            | refine Need.go rfl ?_
            | refine QuiD.quiet (by kernel_rfl) ?_
            | refine IdxN.lit ?_
            | refine draw_go tabOK (by kernel_rfl) ?_
            | refine Need.go ⟨rfl, rfl⟩ ?_
            | refine Need.go ⟨⟨rfl, rfl, rfl⟩, rfl⟩ ?_
            | (with_reducible refine Br.dec (fun h => ?_) (fun h => ?_); first | (rotate_left; exfalso; omega; clear h) | (exfalso; omega; clear h) | skip)
            | (with_reducible refine Br.eqI (fun h => ?_) (fun h => ?_); first | (rotate_left; exfalso; omega; clear h) | (exfalso; omega; clear h) | skip)
            | (with_reducible refine Br.neI (fun h => ?_) (fun h => ?_); first | (rotate_left; exfalso; omega; clear h) | (exfalso; omega; clear h) | skip)
            | (with_reducible refine Br.eqS (fun h => ?_) (fun h => ?_); first | (rotate_left; exfalso; omega; clear h) | (exfalso; omega; clear h) | skip)
            | (with_reducible refine Br.neS (fun h => ?_) (fun h => ?_); first | (rotate_left; exfalso; omega; clear h) | (exfalso; omega; clear h) | skip)
            | (with_reducible refine Br.nd (fun h => ?_) (fun h => ?_); first | (rotate_left; exfalso; omega; clear h) | (exfalso; omega; clear h) | skip)
            | refine Ar.i64 (by omega) (by omega) ?_
            | refine Need.go (by first | omega | decide | (simp <;> omega) | fail) ?_
            | refine Need.go (by first | (simp [Value.oneCell'] <;> omega) | fail) ?_
            | refine Need.go ⟨rfl, by omega, getD_one rfl rfl⟩ ?_
            | refine Need.go ⟨rfl, by omega, fun _ _ _ _ => rfl⟩ ?_
            | refine Br.both (fun h => ?_) (fun h => ?_))
        all_goals (conv => whnf)
        refine ⟨(k + 1, now, mt, Zt), ⟨by simp only; omega, by simp only; omega, hst2.mono (by omega), hw⟩, by simp only; omega, ?_⟩
        dsimp only
        (conv => whnf)
        refine ⟨[some 0, some 1, some 2, some 3, some 4, some 5], by decide, ?_, ?_⟩
        all_goals repeat' (first | exact leT_junk rfl | refine And.intro ?_ ?_ | exact trivial | exact .inl ⟨rfl, rfl⟩ | rfl | exact .inr ⟨_, rfl, rfl, rfl⟩ | exact ⟨_, rfl, trivial⟩ | exact ⟨_, rfl, rfl⟩ | exact ⟨_, rfl, ⟨rfl, rfl, rfl⟩, fun _ _ _ _ => rfl⟩ | exact ⟨_, rfl, ⟨rfl, rfl, .inl rfl⟩, rfl⟩ | exact ⟨_, rfl, ⟨rfl, rfl, .inr rfl⟩, rfl⟩ | exact ⟨_, rfl, ⟨rfl, rfl, rfl, rfl, rfl⟩, rfl⟩ | exact ⟨_, rfl, ⟨rfl, rfl⟩, fun _ => Iff.rfl⟩ | refine ⟨_, rfl, rfl, ?_⟩ | refine ⟨_, rfl, ⟨rfl, rfl, rfl⟩, ?_⟩)
end Go.Proofs.Ytghfigeepnbjaaa.lawMasterRises
