/-
  MasterPlays: the walk. No condition.
-/
import Derived.Test.YtghfigeepnbjaaaRMS
import Derived.Test.YtghfigeepnbjaaaPI
import Derived.Test.YtghfigeepnbjaaaMasA
namespace Go.Proofs.Ytghfigeepnbjaaa.lawMasterPlays
open Go.Proofs.Ytghfigeepnbjaaa Go.RowKit
theorem ord_each {P : Program} {w0 : World} {U : Nat → Prop} {T : Tab} (hT : TabOK P T) {id : Nat} {ops : Array Oper} {tm : List SV} {H : List HE} {K : List SV → List HE → Prop} (t : OT) {n : Nat} (_ : ops.size = n) (hW : waitB ops = true) (hB : otB t ops = true)
    (h : allX P w0 U T t ops tm H K) : DrawN P w0 U id ops tm H K := ord_out hT hW (ord_tree hT t ops hB h)
set_option maxRecDepth 100000 in
set_option maxHeartbeats 40000000 in
theorem core (c : CfgM) (l : List ActMM) (ts : List Int) (p q r : Value) (w : World) (hp : SliceV w p 1 c.quanta.length (intsF c.quanta)) (hq : SliceV w q 33 l.length (actMF l)) (ht : SliceV w r 1 ts.length (byteF ts)) (hk : ∀ x ∈ l, x.wf w) (htb : ∀ x ∈ ts, 0 ≤ x ∧ x ≤ 255) :
    Calls Try.prog 4 #[cfgV c p, q, r] w fun e w' => e = .returned (.bool true) ∧ w.grownBy w' none := by
  obtain ⟨a, cap, rfl, h1, h2, hr⟩ := hp
  obtain ⟨a2, cap2, rfl, h3, h4, hr2⟩ := hq
  obtain ⟨a3, cap3, rfl, h5, h6, hr3⟩ := ht
  refine x_calls tabOK Try.func4 rfl [cfgS c (.rs 0 c.quanta.length cap), .rs 1 l.length cap2, .rs 2 ts.length cap3] _ _ rfl rfl (relR3 hr hr2 hr3) ?_
  by_cases hok : okActsM l 80
  case neg =>
    repeat' ((conv => whnf); first
        | refine CutN.plain ?_
        | with_reducible refine Br.tt ?_
        | with_reducible refine Br.ff ?_
        | with_reducible refine Br.nt ?_
        | with_reducible refine Br.nf ?_
        | with_reducible refine Br.eeI ?_
        | with_reducible refine Br.nnI ?_
        | refine Br.yes (by decide) ?_
        | refine Br.no (by decide) ?_
        | refine Need.go rfl ?_
        | refine QuiD.quiet (by kernel_rfl) ?_
        | refine IdxN.lit ?_
        | refine draw_go tabOK (by kernel_rfl) ?_
        | refine Need.go ⟨rfl, rfl⟩ ?_
        | refine Need.go ⟨⟨rfl, rfl, rfl⟩, rfl⟩ ?_
        | (with_reducible refine Br.dec (fun h => ?_) (fun h => ?_); first | (rotate_left; exfalso; omega; clear h) | (exfalso; omega; clear h) | skip)
        | (with_reducible refine Br.eqI (fun h => ?_) (fun h => ?_); first | (rotate_left; exfalso; omega; clear h) | (exfalso; omega; clear h) | skip)
        | (with_reducible refine Br.neI (fun h => ?_) (fun h => ?_); first | (rotate_left; exfalso; omega; clear h) | (exfalso; omega; clear h) | skip)
        | (with_reducible refine Br.eqS (fun h => ?_) (fun h => ?_); first | (rotate_left; exfalso; omega; clear h) | (exfalso; omega; clear h) | skip)
        | (with_reducible refine Br.neS (fun h => ?_) (fun h => ?_); first | (rotate_left; exfalso; omega; clear h) | (exfalso; omega; clear h) | skip)
        | (with_reducible refine Br.nd (fun h => ?_) (fun h => ?_); first | (rotate_left; exfalso; omega; clear h) | (exfalso; omega; clear h) | skip)
        | refine Ar.i64 (by omega) (by omega) ?_
        | (refine call_mem (f := 14) (args := [.rs 1 l.length cap2, .v (.int .i64 80)]) (V := .bool true) ?_ ?_; exact fun ρ w h => greatM_no l _ 80 w (sl_rs h (i := 1) rfl (Nat.le_refl _) h3 h4) hok)
        | (refine quiet_mem (f := 14) (args := [.rs 1 l.length cap2, .v (.int .i64 80)]) (V := .bool true) ?_ ?_; exact fun ρ w h => greatM_no l _ 80 w (sl_rs h (i := 1) rfl (Nat.le_refl _) h3 h4) hok)
        | (refine seg_mem (f := 14) (args := [.rs 1 l.length cap2, .v (.int .i64 80)]) (V := .bool true) ?_ ?_; exact fun ρ w h => greatM_no l _ 80 w (sl_rs h (i := 1) rfl (Nat.le_refl _) h3 h4) hok)
        | (refine call_mem (f := 15) (args := []) (V := .bool true) ?_ ?_; exact fun ρ w h => chained_any w)
        | (refine quiet_mem (f := 15) (args := []) (V := .bool true) ?_ ?_; exact fun ρ w h => chained_any w)
        | (refine seg_mem (f := 15) (args := []) (V := .bool true) ?_ ?_; exact fun ρ w h => chained_any w)
        | refine Need.go (by first | omega | decide | (simp <;> omega) | fail) ?_
        | refine Need.go (by first | (simp [Value.oneCell'] <;> omega) | fail) ?_
        | refine Need.go ⟨rfl, by omega, getD_one rfl rfl⟩ ?_
        | refine Need.go ⟨rfl, by omega, fun _ _ _ _ => rfl⟩ ?_
        | refine Br.both (fun h => ?_) (fun h => ?_))
    all_goals (conv => whnf)
    all_goals exact ret_pure (fun _ => rfl)
  obtain ⟨d, hd⟩ : ∃ d, fitM c = d := ⟨_, rfl⟩
  have hdo : okM d = true := by rw [← hd]; exact fit_ok c
  have hdn := okM_nodes hdo
  have hdq : d.quanta.length ≤ 4 := by
    unfold okM preB at hdo
    simp only [Bool.and_eq_true, winB, decide_eq_true_eq] at hdo
    omega
  have hl40 := hok.2
  have h6' := h6
  unfold maxLen at h6'
  by_cases hq20 : 20 < (c.quanta.length : Int)
  · repeat' ((conv => whnf); first
      | refine CutN.plain ?_
      | with_reducible refine Br.tt ?_
      | with_reducible refine Br.ff ?_
      | with_reducible refine Br.nt ?_
      | with_reducible refine Br.nf ?_
      | with_reducible refine Br.eeI ?_
      | with_reducible refine Br.nnI ?_
      | refine Br.yes (by decide) ?_
      | refine Br.no (by decide) ?_
      | refine Need.go rfl ?_
      | refine QuiD.quiet (by kernel_rfl) ?_
      | refine IdxN.lit ?_
      | refine draw_go tabOK (by kernel_rfl) ?_
      | refine Need.go ⟨rfl, rfl⟩ ?_
      | refine Need.go ⟨⟨rfl, rfl, rfl⟩, rfl⟩ ?_
      | (with_reducible refine Br.dec (fun h => ?_) (fun h => ?_); first | (rotate_left; exfalso; omega; clear h) | (exfalso; omega; clear h) | skip)
      | (with_reducible refine Br.eqI (fun h => ?_) (fun h => ?_); first | (rotate_left; exfalso; omega; clear h) | (exfalso; omega; clear h) | skip)
      | (with_reducible refine Br.neI (fun h => ?_) (fun h => ?_); first | (rotate_left; exfalso; omega; clear h) | (exfalso; omega; clear h) | skip)
      | (with_reducible refine Br.eqS (fun h => ?_) (fun h => ?_); first | (rotate_left; exfalso; omega; clear h) | (exfalso; omega; clear h) | skip)
      | (with_reducible refine Br.neS (fun h => ?_) (fun h => ?_); first | (rotate_left; exfalso; omega; clear h) | (exfalso; omega; clear h) | skip)
      | (with_reducible refine Br.nd (fun h => ?_) (fun h => ?_); first | (rotate_left; exfalso; omega; clear h) | (exfalso; omega; clear h) | skip)
      | refine Ar.i64 (by omega) (by omega) ?_
      | (refine call_mem (f := 15) (args := []) (V := .bool true) ?_ ?_; exact fun ρ w h => chained_any w)
      | (refine quiet_mem (f := 15) (args := []) (V := .bool true) ?_ ?_; exact fun ρ w h => chained_any w)
      | (refine seg_mem (f := 15) (args := []) (V := .bool true) ?_ ?_; exact fun ρ w h => chained_any w)
      | refine Need.go (by first | omega | decide | (simp <;> omega) | fail) ?_
      | refine Need.go (by first | (simp [Value.oneCell'] <;> omega) | fail) ?_
      | refine Need.go ⟨rfl, by omega, getD_one rfl rfl⟩ ?_
      | refine Need.go ⟨rfl, by omega, fun _ _ _ _ => rfl⟩ ?_
      | refine Br.both (fun h => ?_) (fun h => ?_))
    all_goals (conv => whnf)
    exact ret_pure (fun _ => rfl)
  have hc6 := okM_chain1 hdo
  have h0 : ∀ x : RLoc, x.ok (newR d) → TwoOk d 1 6 (newMas d) x (newR d) := fun x hx => ⟨newMas_st hdo, newR_agr hdo, by show (knowsN d.chain.toNat).length ≤ 6; rw [knowsN_len]; omega, hx⟩
  repeat' ((conv => whnf); first
      | refine CutN.plain ?_
      | with_reducible refine Br.tt ?_
      | with_reducible refine Br.ff ?_
      | with_reducible refine Br.nt ?_
      | with_reducible refine Br.nf ?_
      | with_reducible refine Br.eeI ?_
      | with_reducible refine Br.nnI ?_
      | refine Br.yes (by decide) ?_
      | refine Br.no (by decide) ?_
      | refine Need.go rfl ?_
      | refine QuiD.quiet (by kernel_rfl) ?_
      | refine IdxN.lit ?_
      | refine draw_go tabOK (by kernel_rfl) ?_
      | refine Need.go ⟨rfl, rfl⟩ ?_
      | refine Need.go ⟨⟨rfl, rfl, rfl⟩, rfl⟩ ?_
      | (with_reducible refine Br.dec (fun h => ?_) (fun h => ?_); first | (rotate_left; exfalso; omega; clear h) | (exfalso; omega; clear h) | skip)
      | (with_reducible refine Br.eqI (fun h => ?_) (fun h => ?_); first | (rotate_left; exfalso; omega; clear h) | (exfalso; omega; clear h) | skip)
      | (with_reducible refine Br.neI (fun h => ?_) (fun h => ?_); first | (rotate_left; exfalso; omega; clear h) | (exfalso; omega; clear h) | skip)
      | (with_reducible refine Br.eqS (fun h => ?_) (fun h => ?_); first | (rotate_left; exfalso; omega; clear h) | (exfalso; omega; clear h) | skip)
      | (with_reducible refine Br.neS (fun h => ?_) (fun h => ?_); first | (rotate_left; exfalso; omega; clear h) | (exfalso; omega; clear h) | skip)
      | (with_reducible refine Br.nd (fun h => ?_) (fun h => ?_); first | (rotate_left; exfalso; omega; clear h) | (exfalso; omega; clear h) | skip)
      | refine Ar.i64 (by omega) (by omega) ?_
      | (refine call_mem (f := 14) (args := [.rs 1 l.length cap2, .v (.int .i64 80)]) (V := .bool false) ?_ ?_; exact fun ρ w h => greatM_yes l _ 80 w (sl_rs h (i := 1) rfl (Nat.le_refl _) h3 h4) hok)
      | (refine quiet_mem (f := 14) (args := [.rs 1 l.length cap2, .v (.int .i64 80)]) (V := .bool false) ?_ ?_; exact fun ρ w h => greatM_yes l _ 80 w (sl_rs h (i := 1) rfl (Nat.le_refl _) h3 h4) hok)
      | (refine seg_mem (f := 14) (args := [.rs 1 l.length cap2, .v (.int .i64 80)]) (V := .bool false) ?_ ?_; exact fun ρ w h => greatM_yes l _ 80 w (sl_rs h (i := 1) rfl (Nat.le_refl _) h3 h4) hok)
      | (refine call_mem (f := 15) (args := []) (V := .bool true) ?_ ?_; exact fun ρ w h => chained_any w)
      | (refine quiet_mem (f := 15) (args := []) (V := .bool true) ?_ ?_; exact fun ρ w h => chained_any w)
      | (refine seg_mem (f := 15) (args := []) (V := .bool true) ?_ ?_; exact fun ρ w h => chained_any w)
      | (refine rfit_n c d hd (.rs 0 c.quanta.length cap) ?_ ?_; exact fun ρ w h => sl_rs h (i := 0) rfl (Nat.le_refl _) h1 h2)
      | (refine mas_new d (.os 4 d.quanta.length) (fun ρ w h => sl_os h (i := 4) rfl) hdo (by omega) ?_; intro b1 Z0)
      | (refine ref_new d (.os 4 d.quanta.length) (fun ρ w h => sl_os h (i := 4) rfl) hdo (by omega) ?_; intro b2 x0 W0 hx0)
      | (refine call_sp (f := 26) (alike_spec (newMas d) (newMas_ok hdo) x0 (newR d) ((h0 x0 hx0).rok (by decide)) hx0 (newR_agr hdo) b1 b2 Z0 W0) [5, 6] (by decide) rfl ⟨rfl, rfl, trivial⟩ rfl ?_; rintro s H1 ⟨rfl, rfl⟩)
      | refine Need.go (by first | omega | decide | (simp <;> omega) | fail) ?_
      | refine Need.go (by first | (simp [Value.oneCell'] <;> omega) | fail) ?_
      | refine Need.go ⟨rfl, by omega, getD_one rfl rfl⟩ ?_
      | refine Need.go ⟨rfl, by omega, fun _ _ _ _ => rfl⟩ ?_
      | refine Br.both (fun h => ?_) (fun h => ?_))
  all_goals (conv => whnf)
  all_goals try exact ret_pure (fun _ => rfl)
  refine loop_up 70 (fun x : Nat × Int × MasM × (Nat → Prop) × RMasM × RLoc × (Nat → Prop) => x.1 ≤ l.length ∧ (0 ≤ x.2.1 ∧ x.2.1 ≤ 255 * x.1) ∧ TwoOk d (1 + 12 * x.1) (6 + x.1) x.2.2.1 x.2.2.2.2.2.1 x.2.2.2.2.1) (fun x => l.length - x.1) (fun x => [(6, .v (.bool false)), (11, .v (.int .i64 x.2.1)), (12, .v (.int .i64 x.1)), (13, .junk), (14, .junk), (15, .junk), (16, .junk), (17, .junk), (18, .junk), (19, .junk), (20, .junk), (21, .junk), (22, .junk), (23, .junk), (24, .junk), (25, .junk), (26, .junk), (27, .junk), (28, .junk), (29, .junk), (30, .junk)])
    (fun x => [(5, .ent (.res true x.2.2.2.1 (MasQ b1 x.2.2.1 x.2.2.2.1))), (6, .ent (.res true x.2.2.2.2.2.2 (RMasQ b2 x.2.2.2.2.2.1 x.2.2.2.2.1 x.2.2.2.2.2.2)))]) (fun _ => []) (0, 0, newMas d, Z0, newR d, x0, W0) ⟨Nat.zero_le _, by simp only; omega, h0 x0 hx0⟩ (by
    (conv => whnf)
    refine ⟨[some 0, some 1, some 2, some 3, some 4, some 5, some 6], by decide, ?_, ?_⟩
    all_goals repeat' (first | exact leT_junk rfl | refine And.intro ?_ ?_ | exact trivial | exact .inl ⟨rfl, rfl⟩ | rfl | exact .inr ⟨_, rfl, rfl, rfl⟩ | exact ⟨_, rfl, trivial⟩ | exact ⟨_, rfl, rfl⟩ | exact ⟨_, rfl, ⟨rfl, rfl, rfl⟩, fun _ _ _ _ => rfl⟩ | exact ⟨_, rfl, ⟨rfl, rfl, .inl rfl⟩, rfl⟩ | exact ⟨_, rfl, ⟨rfl, rfl, .inr rfl⟩, rfl⟩ | exact ⟨_, rfl, ⟨rfl, rfl, rfl, rfl, rfl⟩, rfl⟩ | exact ⟨_, rfl, ⟨rfl, rfl⟩, fun _ => Iff.rfl⟩ | refine ⟨_, rfl, rfl, ?_⟩ | refine ⟨_, rfl, ⟨rfl, rfl, rfl⟩, ?_⟩)) (fun x hx => ?_)
  obtain ⟨k, now0, m, Z, r, x, W⟩ := x
  obtain ⟨hkl, hnow0, h2k⟩ := hx
  dsimp only at hkl hnow0 h2k ⊢
  by_cases hlt : k < l.length
  case neg =>
    repeat' ((conv => whnf); first
        | refine CutN.plain ?_
        | with_reducible refine Br.tt ?_
        | with_reducible refine Br.ff ?_
        | with_reducible refine Br.nt ?_
        | with_reducible refine Br.nf ?_
        | with_reducible refine Br.eeI ?_
        | with_reducible refine Br.nnI ?_
        | refine Br.yes (by decide) ?_
        | refine Br.no (by decide) ?_
        | refine Need.go rfl ?_
        | refine QuiD.quiet (by kernel_rfl) ?_
        | refine IdxN.lit ?_
        | refine draw_go tabOK (by kernel_rfl) ?_
        | refine Need.go ⟨rfl, rfl⟩ ?_
        | refine Need.go ⟨⟨rfl, rfl, rfl⟩, rfl⟩ ?_
        | (with_reducible refine Br.dec (fun h => ?_) (fun h => ?_); first | (rotate_left; exfalso; omega; clear h) | (exfalso; omega; clear h) | skip)
        | (with_reducible refine Br.eqI (fun h => ?_) (fun h => ?_); first | (rotate_left; exfalso; omega; clear h) | (exfalso; omega; clear h) | skip)
        | (with_reducible refine Br.neI (fun h => ?_) (fun h => ?_); first | (rotate_left; exfalso; omega; clear h) | (exfalso; omega; clear h) | skip)
        | (with_reducible refine Br.eqS (fun h => ?_) (fun h => ?_); first | (rotate_left; exfalso; omega; clear h) | (exfalso; omega; clear h) | skip)
        | (with_reducible refine Br.neS (fun h => ?_) (fun h => ?_); first | (rotate_left; exfalso; omega; clear h) | (exfalso; omega; clear h) | skip)
        | (with_reducible refine Br.nd (fun h => ?_) (fun h => ?_); first | (rotate_left; exfalso; omega; clear h) | (exfalso; omega; clear h) | skip)
        | refine Ar.i64 (by omega) (by omega) ?_
        | (refine call_mem (f := 15) (args := []) (V := .bool true) ?_ ?_; exact fun ρ w h => chained_any w)
        | (refine quiet_mem (f := 15) (args := []) (V := .bool true) ?_ ?_; exact fun ρ w h => chained_any w)
        | (refine seg_mem (f := 15) (args := []) (V := .bool true) ?_ ?_; exact fun ρ w h => chained_any w)
        | refine Need.go (by first | omega | decide | (simp <;> omega) | fail) ?_
        | refine Need.go (by first | (simp [Value.oneCell'] <;> omega) | fail) ?_
        | refine Need.go ⟨rfl, by omega, getD_one rfl rfl⟩ ?_
        | refine Need.go ⟨rfl, by omega, fun _ _ _ _ => rfl⟩ ?_
        | refine Br.both (fun h => ?_) (fun h => ?_))
    all_goals (conv => whnf)
    exact ret_pure (fun _ => rfl)
  obtain ⟨y, hy⟩ : ∃ y, l.getD (Int.toNat (k : Int)) actMZ = y := ⟨_, rfl⟩
  have hyw : y.wf w := hy ▸ ActMM.wf_at hk hlt
  have hya := hyw.a
  have hyb := hyw.b
  have hyk := hyw.kind
  have htk : k < ts.length → 0 ≤ ts.getD (Int.toNat (k : Int)) 0 ∧ ts.getD (Int.toNat (k : Int)) 0 ≤ 255 := fun h => by
    rw [Int.toNat_natCast, List.getD, List.getElem?_eq_getElem h]
    exact htb _ (List.getElem_mem h)
  have hk80 : k < 80 := by omega
  have hro := h2k.rok (by omega)
  have hmo := h2k.st.ok
  clear hyw
  repeat' ((conv => whnf); first
      | (refine cut_up 1083 70 (fun x : Int => now0 ≤ x ∧ x ≤ now0 + 255) (fun x => [(11, .v (.int .i64 x))]) (fun _ => [(7, .ent (.blk 47 (actCells (l.getD (Int.toNat (k : Int)) actMZ))))]) (fun _ => []) ?_ ?_)
      | refine CutN.plain ?_
      | with_reducible refine Br.tt ?_
      | with_reducible refine Br.ff ?_
      | with_reducible refine Br.nt ?_
      | with_reducible refine Br.nf ?_
      | with_reducible refine Br.eeI ?_
      | with_reducible refine Br.nnI ?_
      | refine Br.yes (by decide) ?_
      | refine Br.no (by decide) ?_
      | refine Need.go rfl ?_
      | refine QuiD.quiet (by kernel_rfl) ?_
      | refine IdxN.lit ?_
      | refine draw_go tabOK (by kernel_rfl) ?_
      | refine Need.go ⟨rfl, rfl⟩ ?_
      | refine Need.go ⟨⟨rfl, rfl, rfl⟩, rfl⟩ ?_
      | (with_reducible refine Br.dec (fun h => ?_) (fun h => ?_); first | (rotate_left; exfalso; omega; clear h) | (exfalso; omega; clear h) | skip)
      | (with_reducible refine Br.eqI (fun h => ?_) (fun h => ?_); first | (rotate_left; exfalso; omega; clear h) | (exfalso; omega; clear h) | skip)
      | (with_reducible refine Br.neI (fun h => ?_) (fun h => ?_); first | (rotate_left; exfalso; omega; clear h) | (exfalso; omega; clear h) | skip)
      | (with_reducible refine Br.eqS (fun h => ?_) (fun h => ?_); first | (rotate_left; exfalso; omega; clear h) | (exfalso; omega; clear h) | skip)
      | (with_reducible refine Br.neS (fun h => ?_) (fun h => ?_); first | (rotate_left; exfalso; omega; clear h) | (exfalso; omega; clear h) | skip)
      | (with_reducible refine Br.nd (fun h => ?_) (fun h => ?_); first | (rotate_left; exfalso; omega; clear h) | (exfalso; omega; clear h) | skip)
      | refine Ar.i64 (by omega) (by omega) ?_
      | refine Ar.i64 (by first | (have := htk (by omega); omega) | fail) (by first | (have := htk (by omega); omega) | fail) ?_
      | refine Need.go (by first | omega | decide | (simp <;> omega) | fail) ?_
      | refine Need.go (by first | (simp [Value.oneCell'] <;> omega) | fail) ?_
      | refine Need.go ⟨rfl, by omega, getD_one rfl rfl⟩ ?_
      | refine Need.go ⟨rfl, by omega, fun _ _ _ _ => rfl⟩ ?_
      | refine Br.both (fun h => ?_) (fun h => ?_))
  rotate_left
  all_goals (conv => whnf)
  any_goals first
    | (refine ⟨now0 + ts.getD (Int.toNat (k : Int)) 0, by (have := htk (by omega); omega), ?_⟩
       (conv => whnf)
       refine ⟨[some 0, some 1, some 2, some 3, some 4, some 5, some 6, some 7], by decide, ?_, ?_⟩
       all_goals repeat' (first | exact leT_junk rfl | refine And.intro ?_ ?_ | exact trivial | exact .inl ⟨rfl, rfl⟩ | rfl | exact .inr ⟨_, rfl, rfl, rfl⟩ | exact ⟨_, rfl, trivial⟩ | exact ⟨_, rfl, rfl⟩ | exact ⟨_, rfl, ⟨rfl, rfl, rfl⟩, fun _ _ _ _ => rfl⟩ | exact ⟨_, rfl, ⟨rfl, rfl, .inl rfl⟩, rfl⟩ | exact ⟨_, rfl, ⟨rfl, rfl, .inr rfl⟩, rfl⟩ | exact ⟨_, rfl, ⟨rfl, rfl, rfl, rfl, rfl⟩, rfl⟩ | exact ⟨_, rfl, ⟨rfl, rfl⟩, fun _ => Iff.rfl⟩ | refine ⟨_, rfl, rfl, ?_⟩ | refine ⟨_, rfl, ⟨rfl, rfl, rfl⟩, ?_⟩)
       done)
    | (refine ⟨now0, by omega, ?_⟩
       (conv => whnf)
       refine ⟨[some 0, some 1, some 2, some 3, some 4, some 5, some 6, some 7], by decide, ?_, ?_⟩
       all_goals repeat' (first | exact leT_junk rfl | refine And.intro ?_ ?_ | exact trivial | exact .inl ⟨rfl, rfl⟩ | rfl | exact .inr ⟨_, rfl, rfl, rfl⟩ | exact ⟨_, rfl, trivial⟩ | exact ⟨_, rfl, rfl⟩ | exact ⟨_, rfl, ⟨rfl, rfl, rfl⟩, fun _ _ _ _ => rfl⟩ | exact ⟨_, rfl, ⟨rfl, rfl, .inl rfl⟩, rfl⟩ | exact ⟨_, rfl, ⟨rfl, rfl, .inr rfl⟩, rfl⟩ | exact ⟨_, rfl, ⟨rfl, rfl, rfl, rfl, rfl⟩, rfl⟩ | exact ⟨_, rfl, ⟨rfl, rfl⟩, fun _ => Iff.rfl⟩ | refine ⟨_, rfl, rfl, ?_⟩ | refine ⟨_, rfl, ⟨rfl, rfl, rfl⟩, ?_⟩)
       done)
    | fail
  clear htk
  intro now hnow
  rw [hy]
  repeat' ((conv => whnf); first
      | (refine cut_up 1098 70 (fun x : Int => True) (fun x => [(14, .v (.int .i64 x))]) (fun _ => []) (fun _ => []) ?_ ?_)
      | refine CutN.plain ?_
      | with_reducible refine Br.tt ?_
      | with_reducible refine Br.ff ?_
      | with_reducible refine Br.nt ?_
      | with_reducible refine Br.nf ?_
      | with_reducible refine Br.eeI ?_
      | with_reducible refine Br.nnI ?_
      | refine Br.yes (by decide) ?_
      | refine Br.no (by decide) ?_
      | refine Need.go rfl ?_
      | refine QuiD.quiet (by kernel_rfl) ?_
      | refine IdxN.lit ?_
      | refine draw_go tabOK (by kernel_rfl) ?_
      | refine Need.go ⟨rfl, rfl⟩ ?_
      | refine Need.go ⟨⟨rfl, rfl, rfl⟩, rfl⟩ ?_
      | (with_reducible refine Br.dec (fun h => ?_) (fun h => ?_); first | (rotate_left; exfalso; omega; clear h) | (exfalso; omega; clear h) | skip)
      | (with_reducible refine Br.eqI (fun h => ?_) (fun h => ?_); first | (rotate_left; exfalso; omega; clear h) | (exfalso; omega; clear h) | skip)
      | (with_reducible refine Br.neI (fun h => ?_) (fun h => ?_); first | (rotate_left; exfalso; omega; clear h) | (exfalso; omega; clear h) | skip)
      | (with_reducible refine Br.eqS (fun h => ?_) (fun h => ?_); first | (rotate_left; exfalso; omega; clear h) | (exfalso; omega; clear h) | skip)
      | (with_reducible refine Br.neS (fun h => ?_) (fun h => ?_); first | (rotate_left; exfalso; omega; clear h) | (exfalso; omega; clear h) | skip)
      | (with_reducible refine Br.nd (fun h => ?_) (fun h => ?_); first | (rotate_left; exfalso; omega; clear h) | (exfalso; omega; clear h) | skip)
      | refine Ar.i64 (by omega) (by omega) ?_
      | refine Need.go (by first | omega | decide | (simp <;> omega) | fail) ?_
      | refine Need.go (by first | (simp [Value.oneCell'] <;> omega) | fail) ?_
      | refine Need.go ⟨rfl, by omega, getD_one rfl rfl⟩ ?_
      | refine Need.go ⟨rfl, by omega, fun _ _ _ _ => rfl⟩ ?_
      | refine Br.both (fun h => ?_) (fun h => ?_))
  rotate_left
  all_goals (conv => whnf)
  any_goals first
    | (refine ⟨y.a % 7, trivial, ?_⟩
       (conv => whnf)
       refine ⟨[some 0, some 1, some 2, some 3, some 4, some 5, some 6, some 7], by decide, ?_, ?_⟩
       all_goals repeat' (first | exact leT_junk rfl | refine And.intro ?_ ?_ | exact trivial | exact .inl ⟨rfl, rfl⟩ | rfl | exact .inr ⟨_, rfl, rfl, rfl⟩ | exact ⟨_, rfl, trivial⟩ | exact ⟨_, rfl, rfl⟩ | exact ⟨_, rfl, ⟨rfl, rfl, rfl⟩, fun _ _ _ _ => rfl⟩ | exact ⟨_, rfl, ⟨rfl, rfl, .inl rfl⟩, rfl⟩ | exact ⟨_, rfl, ⟨rfl, rfl, .inr rfl⟩, rfl⟩ | exact ⟨_, rfl, ⟨rfl, rfl, rfl, rfl, rfl⟩, rfl⟩ | exact ⟨_, rfl, ⟨rfl, rfl⟩, fun _ => Iff.rfl⟩ | refine ⟨_, rfl, rfl, ?_⟩ | refine ⟨_, rfl, ⟨rfl, rfl, rfl⟩, ?_⟩)
       done)
    | (refine ⟨y.frm, trivial, ?_⟩
       (conv => whnf)
       refine ⟨[some 0, some 1, some 2, some 3, some 4, some 5, some 6, some 7], by decide, ?_, ?_⟩
       all_goals repeat' (first | exact leT_junk rfl | refine And.intro ?_ ?_ | exact trivial | exact .inl ⟨rfl, rfl⟩ | rfl | exact .inr ⟨_, rfl, rfl, rfl⟩ | exact ⟨_, rfl, trivial⟩ | exact ⟨_, rfl, rfl⟩ | exact ⟨_, rfl, ⟨rfl, rfl, rfl⟩, fun _ _ _ _ => rfl⟩ | exact ⟨_, rfl, ⟨rfl, rfl, .inl rfl⟩, rfl⟩ | exact ⟨_, rfl, ⟨rfl, rfl, .inr rfl⟩, rfl⟩ | exact ⟨_, rfl, ⟨rfl, rfl, rfl, rfl, rfl⟩, rfl⟩ | exact ⟨_, rfl, ⟨rfl, rfl⟩, fun _ => Iff.rfl⟩ | refine ⟨_, rfl, rfl, ?_⟩ | refine ⟨_, rfl, ⟨rfl, rfl, rfl⟩, ?_⟩)
       done)
    | fail
  intro n _
  obtain ⟨oS, rS, bS⟩ := both_suspect h2k (by omega) (by omega) n
  obtain ⟨oJ, rJ, bJ⟩ := both_join h2k (by omega) n now
  obtain ⟨oD, rD, bD⟩ := both_drain h2k (by omega) n
  obtain ⟨oK, rK, bK⟩ := both_tick h2k (by omega) now
  have hT := both_take h2k (by omega) (now := now)
  have tS := bS.t
  have uS := bS.u
  have tJ := bJ.t
  have uJ := bJ.u
  have tD := bD.t
  have uD := bD.u
  have tK := bK.t
  have uK := bK.u
  repeat' ((conv => whnf); first
      | (refine cut_up 2 70 (fun x : Bool × MasM × (Nat → Prop) × RMasM × RLoc × (Nat → Prop) => x.1 = true ∧ TwoOk d (1 + 12 * k + 12) (6 + k + 1) x.2.1 x.2.2.2.2.1 x.2.2.2.1) (fun x => [(15, .v (.bool x.1)), (16, .junk), (17, .junk), (18, .junk), (19, .junk), (20, .junk), (21, .junk), (22, .junk), (23, .junk), (24, .junk), (25, .junk), (26, .junk), (27, .junk), (28, .junk), (29, .junk), (30, .junk)]) (fun x => [(5, .ent (.res true x.2.2.1 (MasQ b1 x.2.1 x.2.2.1))), (6, .ent (.res true x.2.2.2.2.2 (RMasQ b2 x.2.2.2.2.1 x.2.2.2.1 x.2.2.2.2.2)))]) (fun _ => []) ?_ ?_)
      | (refine QuiD.draw (ord_each tabOK (.ho 5 [4] [5,0,1,2,3,4,6,7,8,9,10,11] (.ho 6 [5] [6,0,1,2,3,4,5,7,8,9,10,11] (.ho 8 [6] [8,0,1,2,3,4,5,6,7,9,10,11] (.sp 8 7 [0,1,2,3,4,5,6,8,7,9,10,11] [0,1,2,3,4,5,6,7,8,9,10,11] .leaf .leaf)))) (show _ = 12 from rfl) (by kernel_rfl) (by kernel_rfl) ?_); refine And.intro ?_ ?_)
      | refine CutN.plain ?_
      | with_reducible refine Br.tt ?_
      | with_reducible refine Br.ff ?_
      | with_reducible refine Br.nt ?_
      | with_reducible refine Br.nf ?_
      | with_reducible refine Br.eeI ?_
      | with_reducible refine Br.nnI ?_
      | refine Br.yes (by decide) ?_
      | refine Br.no (by decide) ?_
      | refine Need.go rfl ?_
      | refine QuiD.quiet (by kernel_rfl) ?_
      | refine IdxN.lit ?_
      | refine draw_go tabOK (by kernel_rfl) ?_
      | refine Need.go ⟨rfl, rfl⟩ ?_
      | refine Need.go ⟨⟨rfl, rfl, rfl⟩, rfl⟩ ?_
      | (with_reducible refine Br.dec (fun h => ?_) (fun h => ?_); first | (rotate_left; exfalso; omega; clear h) | (exfalso; omega; clear h) | skip)
      | (with_reducible refine Br.eqI (fun h => ?_) (fun h => ?_); first | (rotate_left; exfalso; omega; clear h) | (exfalso; omega; clear h) | skip)
      | (with_reducible refine Br.neI (fun h => ?_) (fun h => ?_); first | (rotate_left; exfalso; omega; clear h) | (exfalso; omega; clear h) | skip)
      | (with_reducible refine Br.eqS (fun h => ?_) (fun h => ?_); first | (rotate_left; exfalso; omega; clear h) | (exfalso; omega; clear h) | skip)
      | (with_reducible refine Br.neS (fun h => ?_) (fun h => ?_); first | (rotate_left; exfalso; omega; clear h) | (exfalso; omega; clear h) | skip)
      | (with_reducible refine Br.nd (fun h => ?_) (fun h => ?_); first | (rotate_left; exfalso; omega; clear h) | (exfalso; omega; clear h) | skip)
      | refine Ar.i64 (by omega) (by omega) ?_
      | (refine mas_op tS (mk_pair _) (fun _ _ => rfl) 5 rfl ?_; intro pS YS ZS)
      | (refine ref_op uS (mk_pair _) (fun _ _ => rfl) 6 rfl ?_; intro yS qS WS hyS hqS)
      | (refine call_mem (f := 28) (args := [.os 8 oS.l.length, .os 10 oS.l.length]) (V := .bool true) ?_ ?_; exact fun ρ w h => sends_any oS.l pS qS _ _ w (sl_os h (i := 8) rfl) (sl_os h (i := 10) rfl) (res_q h (i := 9) rfl) (hqS w (RMasQ.q (res_q h (i := 6) rfl))) bS.sm)
      | (refine quiet_mem (f := 28) (args := [.os 8 oS.l.length, .os 10 oS.l.length]) (V := .bool true) ?_ ?_; exact fun ρ w h => sends_any oS.l pS qS _ _ w (sl_os h (i := 8) rfl) (sl_os h (i := 10) rfl) (res_q h (i := 9) rfl) (hqS w (RMasQ.q (res_q h (i := 6) rfl))) bS.sm)
      | (refine seg_mem (f := 28) (args := [.os 8 oS.l.length, .os 10 oS.l.length]) (V := .bool true) ?_ ?_; exact fun ρ w h => sends_any oS.l pS qS _ _ w (sl_os h (i := 8) rfl) (sl_os h (i := 10) rfl) (res_q h (i := 9) rfl) (hqS w (RMasQ.q (res_q h (i := 6) rfl))) bS.sm)
      | (refine mas_op tJ (mk_pair _) (fun _ _ => rfl) 5 rfl ?_; intro pJ YJ ZJ)
      | (refine ref_op uJ (mk_pair _) (fun _ _ => rfl) 6 rfl ?_; intro yJ qJ WJ hyJ hqJ)
      | (refine call_mem (f := 28) (args := [.os 8 oJ.l.length, .os 10 oJ.l.length]) (V := .bool true) ?_ ?_; exact fun ρ w h => sends_any oJ.l pJ qJ _ _ w (sl_os h (i := 8) rfl) (sl_os h (i := 10) rfl) (res_q h (i := 9) rfl) (hqJ w (RMasQ.q (res_q h (i := 6) rfl))) bJ.sm)
      | (refine quiet_mem (f := 28) (args := [.os 8 oJ.l.length, .os 10 oJ.l.length]) (V := .bool true) ?_ ?_; exact fun ρ w h => sends_any oJ.l pJ qJ _ _ w (sl_os h (i := 8) rfl) (sl_os h (i := 10) rfl) (res_q h (i := 9) rfl) (hqJ w (RMasQ.q (res_q h (i := 6) rfl))) bJ.sm)
      | (refine seg_mem (f := 28) (args := [.os 8 oJ.l.length, .os 10 oJ.l.length]) (V := .bool true) ?_ ?_; exact fun ρ w h => sends_any oJ.l pJ qJ _ _ w (sl_os h (i := 8) rfl) (sl_os h (i := 10) rfl) (res_q h (i := 9) rfl) (hqJ w (RMasQ.q (res_q h (i := 6) rfl))) bJ.sm)
      | (refine mas_op tD (mk_pair _) (fun _ _ => rfl) 5 rfl ?_; intro pD YD ZD)
      | (refine ref_op uD (mk_pair _) (fun _ _ => rfl) 6 rfl ?_; intro yD qD WD hyD hqD)
      | (refine call_mem (f := 28) (args := [.os 8 oD.l.length, .os 10 oD.l.length]) (V := .bool true) ?_ ?_; exact fun ρ w h => sends_any oD.l pD qD _ _ w (sl_os h (i := 8) rfl) (sl_os h (i := 10) rfl) (res_q h (i := 9) rfl) (hqD w (RMasQ.q (res_q h (i := 6) rfl))) bD.sm)
      | (refine quiet_mem (f := 28) (args := [.os 8 oD.l.length, .os 10 oD.l.length]) (V := .bool true) ?_ ?_; exact fun ρ w h => sends_any oD.l pD qD _ _ w (sl_os h (i := 8) rfl) (sl_os h (i := 10) rfl) (res_q h (i := 9) rfl) (hqD w (RMasQ.q (res_q h (i := 6) rfl))) bD.sm)
      | (refine seg_mem (f := 28) (args := [.os 8 oD.l.length, .os 10 oD.l.length]) (V := .bool true) ?_ ?_; exact fun ρ w h => sends_any oD.l pD qD _ _ w (sl_os h (i := 8) rfl) (sl_os h (i := 10) rfl) (res_q h (i := 9) rfl) (hqD w (RMasQ.q (res_q h (i := 6) rfl))) bD.sm)
      | (refine mas_op tK mk_id (fun _ _ => rfl) 5 rfl ?_; intro pK YK ZK)
      | (refine ref_op uK mk_id (fun _ _ => rfl) 6 rfl ?_; intro yK qK WK hyK hqK)
      | (refine call_mem (f := 28) (args := [.os 8 oK.l.length, .os 10 oK.l.length]) (V := .bool true) ?_ ?_; exact fun ρ w h => sends_any oK.l pK qK _ _ w (sl_os h (i := 8) rfl) (sl_os h (i := 10) rfl) (res_q h (i := 9) rfl) (hqK w (RMasQ.q (res_q h (i := 6) rfl))) bK.sm)
      | (refine quiet_mem (f := 28) (args := [.os 8 oK.l.length, .os 10 oK.l.length]) (V := .bool true) ?_ ?_; exact fun ρ w h => sends_any oK.l pK qK _ _ w (sl_os h (i := 8) rfl) (sl_os h (i := 10) rfl) (res_q h (i := 9) rfl) (hqK w (RMasQ.q (res_q h (i := 6) rfl))) bK.sm)
      | (refine seg_mem (f := 28) (args := [.os 8 oK.l.length, .os 10 oK.l.length]) (V := .bool true) ?_ ?_; exact fun ρ w h => sends_any oK.l pK qK _ _ w (sl_os h (i := 8) rfl) (sl_os h (i := 10) rfl) (res_q h (i := 9) rfl) (hqK w (RMasQ.q (res_q h (i := 6) rfl))) bK.sm)
      | (refine call_sp (f := 33) (frame_spec y hyk hya hyb x r hro b2 W) [6] (by decide) rfl ⟨rfl, trivial⟩ rfl ?_; rintro s H1 ⟨fn, fr, qa, qn, qc, rfl, rfl⟩; obtain ⟨oT, rT, bT⟩ := hT fn fr qa qn qc; have tT := bT.t; have uT := bT.u)
      | (refine mas_op tT mk_id (fun _ _ => rfl) 5 rfl ?_; intro pT YT ZT)
      | (refine ref_op uT mk_id (fun _ _ => rfl) 6 rfl ?_; intro yT qT WT hyT hqT)
      | (refine call_mem (f := 28) (args := [.os 9 oT.l.length, .os 11 oT.l.length]) (V := .bool true) ?_ ?_; exact fun ρ w h => sends_any oT.l pT qT _ _ w (sl_os h (i := 9) rfl) (sl_os h (i := 11) rfl) (res_q h (i := 10) rfl) (hqT w (RMasQ.q (res_q h (i := 6) rfl))) bT.sm)
      | (refine quiet_mem (f := 28) (args := [.os 9 oT.l.length, .os 11 oT.l.length]) (V := .bool true) ?_ ?_; exact fun ρ w h => sends_any oT.l pT qT _ _ w (sl_os h (i := 9) rfl) (sl_os h (i := 11) rfl) (res_q h (i := 10) rfl) (hqT w (RMasQ.q (res_q h (i := 6) rfl))) bT.sm)
      | (refine seg_mem (f := 28) (args := [.os 9 oT.l.length, .os 11 oT.l.length]) (V := .bool true) ?_ ?_; exact fun ρ w h => sends_any oT.l pT qT _ _ w (sl_os h (i := 9) rfl) (sl_os h (i := 11) rfl) (res_q h (i := 10) rfl) (hqT w (RMasQ.q (res_q h (i := 6) rfl))) bT.sm)
      | refine Need.go (by first | omega | decide | (simp <;> omega) | fail) ?_
      | refine Need.go (by first | (simp [Value.oneCell'] <;> omega) | fail) ?_
      | refine Need.go ⟨rfl, by omega, getD_one rfl rfl⟩ ?_
      | refine Need.go ⟨rfl, by omega, fun _ _ _ _ => rfl⟩ ?_
      | refine Br.both (fun h => ?_) (fun h => ?_))
  rotate_left
  all_goals (conv => whnf)
  any_goals first
    | (refine ⟨(oS.er == oS.er, oS.m, ZS, rS, yS, WS), ⟨by simp, bS.st, bS.agr, bS.len, hyS⟩, ?_⟩
       (conv => whnf)
       refine ⟨[some 0, some 1, some 2, some 3, some 4, some 5, some 6, some 7], by decide, ?_, ?_⟩
       all_goals repeat' (first | exact leT_junk rfl | refine And.intro ?_ ?_ | exact trivial | exact .inl ⟨rfl, rfl⟩ | rfl | exact .inr ⟨_, rfl, rfl, rfl⟩ | exact ⟨_, rfl, trivial⟩ | exact ⟨_, rfl, rfl⟩ | exact ⟨_, rfl, ⟨rfl, rfl, rfl⟩, fun _ _ _ _ => rfl⟩ | exact ⟨_, rfl, ⟨rfl, rfl, .inl rfl⟩, rfl⟩ | exact ⟨_, rfl, ⟨rfl, rfl, .inr rfl⟩, rfl⟩ | exact ⟨_, rfl, ⟨rfl, rfl, rfl, rfl, rfl⟩, rfl⟩ | exact ⟨_, rfl, ⟨rfl, rfl⟩, fun _ => Iff.rfl⟩ | refine ⟨_, rfl, rfl, ?_⟩ | refine ⟨_, rfl, ⟨rfl, rfl, rfl⟩, ?_⟩)
       done)
    | (refine ⟨(oJ.er == oJ.er, oJ.m, ZJ, rJ, yJ, WJ), ⟨by simp, bJ.st, bJ.agr, bJ.len, hyJ⟩, ?_⟩
       (conv => whnf)
       refine ⟨[some 0, some 1, some 2, some 3, some 4, some 5, some 6, some 7], by decide, ?_, ?_⟩
       all_goals repeat' (first | exact leT_junk rfl | refine And.intro ?_ ?_ | exact trivial | exact .inl ⟨rfl, rfl⟩ | rfl | exact .inr ⟨_, rfl, rfl, rfl⟩ | exact ⟨_, rfl, trivial⟩ | exact ⟨_, rfl, rfl⟩ | exact ⟨_, rfl, ⟨rfl, rfl, rfl⟩, fun _ _ _ _ => rfl⟩ | exact ⟨_, rfl, ⟨rfl, rfl, .inl rfl⟩, rfl⟩ | exact ⟨_, rfl, ⟨rfl, rfl, .inr rfl⟩, rfl⟩ | exact ⟨_, rfl, ⟨rfl, rfl, rfl, rfl, rfl⟩, rfl⟩ | exact ⟨_, rfl, ⟨rfl, rfl⟩, fun _ => Iff.rfl⟩ | refine ⟨_, rfl, rfl, ?_⟩ | refine ⟨_, rfl, ⟨rfl, rfl, rfl⟩, ?_⟩)
       done)
    | (refine ⟨(oD.er == oD.er, oD.m, ZD, rD, yD, WD), ⟨by simp, bD.st, bD.agr, bD.len, hyD⟩, ?_⟩
       (conv => whnf)
       refine ⟨[some 0, some 1, some 2, some 3, some 4, some 5, some 6, some 7], by decide, ?_, ?_⟩
       all_goals repeat' (first | exact leT_junk rfl | refine And.intro ?_ ?_ | exact trivial | exact .inl ⟨rfl, rfl⟩ | rfl | exact .inr ⟨_, rfl, rfl, rfl⟩ | exact ⟨_, rfl, trivial⟩ | exact ⟨_, rfl, rfl⟩ | exact ⟨_, rfl, ⟨rfl, rfl, rfl⟩, fun _ _ _ _ => rfl⟩ | exact ⟨_, rfl, ⟨rfl, rfl, .inl rfl⟩, rfl⟩ | exact ⟨_, rfl, ⟨rfl, rfl, .inr rfl⟩, rfl⟩ | exact ⟨_, rfl, ⟨rfl, rfl, rfl, rfl, rfl⟩, rfl⟩ | exact ⟨_, rfl, ⟨rfl, rfl⟩, fun _ => Iff.rfl⟩ | refine ⟨_, rfl, rfl, ?_⟩ | refine ⟨_, rfl, ⟨rfl, rfl, rfl⟩, ?_⟩)
       done)
    | (refine ⟨(true, oK.m, ZK, rK, yK, WK), ⟨by simp, bK.st, bK.agr, bK.len, hyK⟩, ?_⟩
       (conv => whnf)
       refine ⟨[some 0, some 1, some 2, some 3, some 4, some 5, some 6, some 7], by decide, ?_, ?_⟩
       all_goals repeat' (first | exact leT_junk rfl | refine And.intro ?_ ?_ | exact trivial | exact .inl ⟨rfl, rfl⟩ | rfl | exact .inr ⟨_, rfl, rfl, rfl⟩ | exact ⟨_, rfl, trivial⟩ | exact ⟨_, rfl, rfl⟩ | exact ⟨_, rfl, ⟨rfl, rfl, rfl⟩, fun _ _ _ _ => rfl⟩ | exact ⟨_, rfl, ⟨rfl, rfl, .inl rfl⟩, rfl⟩ | exact ⟨_, rfl, ⟨rfl, rfl, .inr rfl⟩, rfl⟩ | exact ⟨_, rfl, ⟨rfl, rfl, rfl, rfl, rfl⟩, rfl⟩ | exact ⟨_, rfl, ⟨rfl, rfl⟩, fun _ => Iff.rfl⟩ | refine ⟨_, rfl, rfl, ?_⟩ | refine ⟨_, rfl, ⟨rfl, rfl, rfl⟩, ?_⟩)
       done)
    | (refine ⟨(true, oT.m, ZT, rT, yT, WT), ⟨rfl, bT.st, bT.agr, bT.len, hyT⟩, ?_⟩
       (conv => whnf)
       refine ⟨[some 0, some 1, some 2, some 3, some 4, some 5, some 6, some 7], by decide, ?_, ?_⟩
       all_goals repeat' (first | exact leT_junk rfl | refine And.intro ?_ ?_ | exact trivial | exact .inl ⟨rfl, rfl⟩ | rfl | exact .inr ⟨_, rfl, rfl, rfl⟩ | exact ⟨_, rfl, trivial⟩ | exact ⟨_, rfl, rfl⟩ | exact ⟨_, rfl, ⟨rfl, rfl, rfl⟩, fun _ _ _ _ => rfl⟩ | exact ⟨_, rfl, ⟨rfl, rfl, .inl rfl⟩, rfl⟩ | exact ⟨_, rfl, ⟨rfl, rfl, .inr rfl⟩, rfl⟩ | exact ⟨_, rfl, ⟨rfl, rfl, rfl, rfl, rfl⟩, rfl⟩ | exact ⟨_, rfl, ⟨rfl, rfl⟩, fun _ => Iff.rfl⟩ | refine ⟨_, rfl, rfl, ?_⟩ | refine ⟨_, rfl, ⟨rfl, rfl, rfl⟩, ?_⟩)
       done)
    | fail
  rintro ⟨g, m1, Z1, r1, x1, W1⟩ ⟨hg, h2n⟩
  dsimp only at hg h2n ⊢
  subst hg
  have hro1 := h2n.rok (by omega)
  repeat' ((conv => whnf); first
      | refine CutN.plain ?_
      | with_reducible refine Br.tt ?_
      | with_reducible refine Br.ff ?_
      | with_reducible refine Br.nt ?_
      | with_reducible refine Br.nf ?_
      | with_reducible refine Br.eeI ?_
      | with_reducible refine Br.nnI ?_
      | refine Br.yes (by decide) ?_
      | refine Br.no (by decide) ?_
      | refine Need.go rfl ?_
      | refine QuiD.quiet (by kernel_rfl) ?_
      | refine IdxN.lit ?_
      | refine draw_go tabOK (by kernel_rfl) ?_
      | refine Need.go ⟨rfl, rfl⟩ ?_
      | refine Need.go ⟨⟨rfl, rfl, rfl⟩, rfl⟩ ?_
      | (with_reducible refine Br.dec (fun h => ?_) (fun h => ?_); first | (rotate_left; exfalso; omega; clear h) | (exfalso; omega; clear h) | skip)
      | (with_reducible refine Br.eqI (fun h => ?_) (fun h => ?_); first | (rotate_left; exfalso; omega; clear h) | (exfalso; omega; clear h) | skip)
      | (with_reducible refine Br.neI (fun h => ?_) (fun h => ?_); first | (rotate_left; exfalso; omega; clear h) | (exfalso; omega; clear h) | skip)
      | (with_reducible refine Br.eqS (fun h => ?_) (fun h => ?_); first | (rotate_left; exfalso; omega; clear h) | (exfalso; omega; clear h) | skip)
      | (with_reducible refine Br.neS (fun h => ?_) (fun h => ?_); first | (rotate_left; exfalso; omega; clear h) | (exfalso; omega; clear h) | skip)
      | (with_reducible refine Br.nd (fun h => ?_) (fun h => ?_); first | (rotate_left; exfalso; omega; clear h) | (exfalso; omega; clear h) | skip)
      | refine Ar.i64 (by omega) (by omega) ?_
      | (refine call_sp (f := 26) (alike_spec m1 h2n.st.ok x1 r1 hro1 h2n.x h2n.agr b1 b2 Z1 W1) [5, 6] (by decide) rfl ⟨rfl, rfl, trivial⟩ rfl ?_; rintro s H1 ⟨rfl, rfl⟩)
      | refine Need.go (by first | omega | decide | (simp <;> omega) | fail) ?_
      | refine Need.go (by first | (simp [Value.oneCell'] <;> omega) | fail) ?_
      | refine Need.go ⟨rfl, by omega, getD_one rfl rfl⟩ ?_
      | refine Need.go ⟨rfl, by omega, fun _ _ _ _ => rfl⟩ ?_
      | refine Br.both (fun h => ?_) (fun h => ?_))
  all_goals (conv => whnf)
  all_goals
    refine ⟨(k + 1, now, m1, Z1, r1, x1, W1), ⟨by dsimp only; omega, by dsimp only; omega, ?_, h2n.agr, h2n.len, h2n.x⟩, by dsimp only; omega, ?_⟩
    · exact h2n.st.mono (by dsimp only; omega)
    (conv => whnf)
    refine ⟨[some 0, some 1, some 2, some 3, some 4, some 5, some 6], by decide, ?_, ?_⟩
    all_goals repeat' (first | exact leT_junk rfl | refine And.intro ?_ ?_ | exact trivial | exact .inl ⟨rfl, rfl⟩ | rfl | exact .inr ⟨_, rfl, rfl, rfl⟩ | exact ⟨_, rfl, trivial⟩ | exact ⟨_, rfl, rfl⟩ | exact ⟨_, rfl, ⟨rfl, rfl, rfl⟩, fun _ _ _ _ => rfl⟩ | exact ⟨_, rfl, ⟨rfl, rfl, .inl rfl⟩, rfl⟩ | exact ⟨_, rfl, ⟨rfl, rfl, .inr rfl⟩, rfl⟩ | exact ⟨_, rfl, ⟨rfl, rfl, rfl, rfl, rfl⟩, rfl⟩ | exact ⟨_, rfl, ⟨rfl, rfl⟩, fun _ => Iff.rfl⟩ | refine ⟨_, rfl, rfl, ?_⟩ | refine ⟨_, rfl, ⟨rfl, rfl, rfl⟩, ?_⟩)
end Go.Proofs.Ytghfigeepnbjaaa.lawMasterPlays
