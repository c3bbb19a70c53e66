/-
  LinearWeaker: the walk. No condition.
-/
import Derived.Test.YtlphkjbadjdleaaLinV
import Derived.Test.YtlphkjbadjdleaaLinQ
namespace Go.Proofs.Ytlphkjbadjdleaa.lawLinearWeaker
open Go.Proofs.Ytlphkjbadjdleaa Go.RowKit
def r99 : RecM := ⟨2, 99, ⟨3, [122], [], 0⟩, 50, -1, 0, 0, ⟨0, [], 0, 0⟩⟩
theorem recC_one (x : RecM) (c : Nat) (h : c < 14) : ((recC x).getD c undef).oneCell' = true := by
  rcases c with _ | _ | _ | _ | _ | _ | _ | _ | _ | _ | _ | _ | _ | _ | c <;> first | rfl | omega
theorem recB_set {R : List RecM} {p n : Nat} {z : Int} (hp : p < R.length) : ∀ r c, r < n → c < 14 → updR (recF R) p 8 [.int .i64 z, .int .i64 0, .int .i64 0, S [], .int .i64 0, .int .i64 0] r c = recF (R.set p { R.getD p recZ with okind := z, why := 0, res := ⟨0, [], 0, 0⟩ }) r c :=
  recF_set hp (fun _ _ _ _ => rfl) (fun c hc => by rcases c with _ | _ | _ | _ | _ | _ | _ | _ | _ | _ | _ | _ | _ | _ | c <;> first | rfl | omega)
theorem recA_set {R : List RecM} {p n : Nat} (hp : p < R.length) : ∀ r c, r < n → c < 14 → updR (updR (recF R) p 8 [.int .i64 0, .int .i64 0, .int .i64 0, S [], .int .i64 0, .int .i64 0]) p 7 [.int .i64 (-1)] r c = recF (R.set p { R.getD p recZ with upto := -1, okind := 0, why := 0, res := ⟨0, [], 0, 0⟩ }) r c := fun r c hr hc => by
  have h := recF_set (n := n) (R := R.set p { R.getD p recZ with okind := 0, why := 0, res := ⟨0, [], 0, 0⟩ }) (p := p) (c0 := 7) (vs := [.int .i64 (-1)]) (r' := { R.getD p recZ with upto := -1, okind := 0, why := 0, res := ⟨0, [], 0, 0⟩ }) (by rw [List.length_set]; exact hp) (recB_set (z := 0) hp) (fun c hc => by
    rw [getD_set_self hp]
    rcases c with _ | _ | _ | _ | _ | _ | _ | _ | _ | _ | _ | _ | _ | _ | c <;> first | rfl | omega) r c hr hc
  rw [List.set_set] at h
  exact h
theorem entF_snoc {D : List EntM} {f g : Nat → Nat → Value} (x : EntM) (hf : ∀ r c, r < D.length → c < 7 → f r c = entF' D r c) (hg : ∀ c, c < 7 → g 0 c = (entC x).getD c undef) : ∀ r c, r < D.length + 1 → c < 7 → rowsApp D.length f g r c = entF' (D ++ [x]) r c := by
  refine rowsApp_one (fun r c hr hc => ?_) (fun c hc => ?_)
  · rw [hf r c hr hc]
    show (entC (D.getD r entZ)).getD c undef = (entC ((D ++ [x]).getD r entZ)).getD c undef
    rw [getD_lt hr]
  · rw [hg c hc]
    show _ = (entC ((D ++ [x]).getD D.length entZ)).getD c undef
    rw [getD_len]
theorem row0 (cs : List Value) (c sz : Nat) : cs.getD (0 * sz + c) undef = cs.getD c undef := by rw [Nat.zero_mul, Nat.zero_add]
set_option maxRecDepth 100000 in
set_option maxHeartbeats 16000000 in
theorem core (l : List SmlM) (ord : List Int) (k : Int) (v1 v2 : Value) (w : World) (hv1 : SliceV w v1 9 l.length (smlF l)) (hv2 : SliceV w v2 1 ord.length (byteF ord)) (hw : ∀ x ∈ l, x.wf) (ho : ∀ x ∈ ord, 0 ≤ x ∧ x ≤ 255) (hk : 0 ≤ k ∧ k ≤ 255) :
    Calls Try.prog 6 #[v1, v2, .int .u8 k] w fun e w' => e = .returned (.bool true) ∧ w.grownBy w' none := by
  obtain ⟨a, c1, rfl, h1, h2, hr⟩ := hv1
  obtain ⟨a2, c2, rfl, h3, h4, hr2⟩ := hv2
  unfold maxLen at h2 h4
  refine x_calls tabOK Try.func6 rfl [.rs 0 l.length c1, .rs 1 ord.length c2, .v (.int .u8 k)] _ _ rfl rfl (relR2 hr hr2) ?_
  by_cases hlen : 6 < l.length ∨ 12 < ord.length ∨ l.length = 0
  · repeat' ((conv => whnf); first
      | refine CutN.plain ?_
      | with_reducible refine Br.tt ?_
      | with_reducible refine Br.ff ?_
      | with_reducible refine Br.nt ?_
      | with_reducible refine Br.nf ?_
      | with_reducible refine Br.eeI ?_
      | with_reducible refine Br.nnI ?_
      | refine Br.yes (by decide) ?_
      | refine Br.no (by decide) ?_
      | refine AppN.own ?_
      | refine Need.go rfl ?_
      | refine QuiD.quiet (by kernel_rfl) ?_
      | refine IdxN.lit ?_
      | refine draw_go tabOK (by kernel_rfl) ?_
      | refine Need.go ⟨rfl, rfl⟩ ?_
      | refine Need.go ⟨⟨rfl, rfl, rfl⟩, rfl⟩ ?_
      | (with_reducible refine Br.dec (fun h => ?_) (fun h => ?_); first | (rotate_left; exfalso; omega; clear h) | (exfalso; omega; clear h) | skip)
      | (with_reducible refine Br.eqI (fun h => ?_) (fun h => ?_); first | (rotate_left; exfalso; omega; clear h) | (exfalso; omega; clear h) | skip)
      | (with_reducible refine Br.neI (fun h => ?_) (fun h => ?_); first | (rotate_left; exfalso; omega; clear h) | (exfalso; omega; clear h) | skip)
      | (with_reducible refine Br.eqS (fun h => ?_) (fun h => ?_); first | (rotate_left; exfalso; omega; clear h) | (exfalso; omega; clear h) | skip)
      | (with_reducible refine Br.neS (fun h => ?_) (fun h => ?_); first | (rotate_left; exfalso; omega; clear h) | (exfalso; omega; clear h) | skip)
      | (with_reducible refine Br.nd (fun h => ?_) (fun h => ?_); first | (rotate_left; exfalso; omega; clear h) | (exfalso; omega; clear h) | skip)
      | refine Ar.i64 (by omega) (by omega) ?_
      | (refine call_mem (f := 24) (args := []) (V := .bool true) ?_ ?_; exact fun ρ w h => held_any w)
      | (refine quiet_mem (f := 24) (args := []) (V := .bool true) ?_ ?_; exact fun ρ w h => held_any w)
      | (refine seg_mem (f := 24) (args := []) (V := .bool true) ?_ ?_; exact fun ρ w h => held_any w)
      | refine Need.go (by first | omega | decide | (simp <;> omega) | fail) ?_
      | refine Need.go (by first | (simp [Value.oneCell'] <;> omega) | fail) ?_
      | refine Need.go ⟨rfl, by omega, getD_one rfl rfl⟩ ?_
      | refine Need.go ⟨rfl, by omega, fun _ _ _ _ => rfl⟩ ?_
      | refine Br.both (fun h => ?_) (fun h => ?_))
    all_goals (conv => whnf)
    all_goals exact ret_pure (fun _ => rfl)
  have hl0 : (0 : Int) < (l.length : Int) := by omega
  repeat' ((conv => whnf); first
      | refine CutN.plain ?_
      | with_reducible refine Br.tt ?_
      | with_reducible refine Br.ff ?_
      | with_reducible refine Br.nt ?_
      | with_reducible refine Br.nf ?_
      | with_reducible refine Br.eeI ?_
      | with_reducible refine Br.nnI ?_
      | refine Br.yes (by decide) ?_
      | refine Br.no (by decide) ?_
      | refine AppN.own ?_
      | refine Need.go rfl ?_
      | refine QuiD.quiet (by kernel_rfl) ?_
      | refine IdxN.lit ?_
      | refine draw_go tabOK (by kernel_rfl) ?_
      | refine Need.go ⟨rfl, rfl⟩ ?_
      | refine Need.go ⟨⟨rfl, rfl, rfl⟩, rfl⟩ ?_
      | (with_reducible refine Br.dec (fun h => ?_) (fun h => ?_); first | (rotate_left; exfalso; omega; clear h) | (exfalso; omega; clear h) | skip)
      | (with_reducible refine Br.eqI (fun h => ?_) (fun h => ?_); first | (rotate_left; exfalso; omega; clear h) | (exfalso; omega; clear h) | skip)
      | (with_reducible refine Br.neI (fun h => ?_) (fun h => ?_); first | (rotate_left; exfalso; omega; clear h) | (exfalso; omega; clear h) | skip)
      | (with_reducible refine Br.eqS (fun h => ?_) (fun h => ?_); first | (rotate_left; exfalso; omega; clear h) | (exfalso; omega; clear h) | skip)
      | (with_reducible refine Br.neS (fun h => ?_) (fun h => ?_); first | (rotate_left; exfalso; omega; clear h) | (exfalso; omega; clear h) | skip)
      | (with_reducible refine Br.nd (fun h => ?_) (fun h => ?_); first | (rotate_left; exfalso; omega; clear h) | (exfalso; omega; clear h) | skip)
      | refine Ar.i64 (by omega) (by omega) ?_
      | refine Need.go (by first | omega | decide | (simp <;> omega) | fail) ?_
      | refine Need.go (by first | (simp [Value.oneCell'] <;> omega) | fail) ?_
      | refine Need.go ⟨rfl, by omega, getD_one rfl rfl⟩ ?_
      | refine Need.go ⟨rfl, by omega, fun _ _ _ _ => rfl⟩ ?_
      | refine Br.both (fun h => ?_) (fun h => ?_))
  all_goals (conv => whnf)
  refine loop_up 35 (fun i : Nat => i ≤ l.length) (fun i => l.length - i) (fun i => [(7, .os 2 i), (8, .v (.int .i64 i))]) (fun _ => []) (fun i => [.own 52 14 i (recF (recL l))]) 0 (Nat.zero_le _) (by
    (conv => whnf)
    refine ⟨[some 0, some 1, none], by decide, ?_, ?_⟩
    all_goals repeat' (first | exact .inr ⟨_, rfl, rfl, rfl⟩ | exact leT_junk rfl | refine And.intro ?_ ?_ | exact trivial | exact .inl ⟨rfl, rfl⟩ | rfl | exact .inr ⟨_, rfl, rfl, rfl⟩ | exact ⟨_, rfl, trivial⟩ | exact ⟨_, rfl, rfl⟩ | exact ⟨_, rfl, ⟨rfl, rfl, rfl⟩, fun _ _ _ _ => rfl⟩ | exact ⟨_, rfl, ⟨rfl, rfl, .inl rfl⟩, rfl⟩ | exact ⟨_, rfl, ⟨rfl, rfl, .inr rfl⟩, rfl⟩ | exact ⟨_, rfl, ⟨rfl, rfl, rfl, rfl, rfl⟩, rfl⟩ | exact ⟨_, rfl, ⟨rfl, rfl⟩, fun _ => Iff.rfl⟩ | refine ⟨_, rfl, rfl, ?_⟩ | refine ⟨_, rfl, ⟨rfl, rfl, rfl⟩, ?_⟩)) (fun i hi => ?_)
  by_cases hlt : i < l.length
  · have hx := hw _ (getD_mem (z := smlZ) hlt)
    have hRi := recL_at hlt
    repeat' ((conv => whnf); first
        | refine CutN.plain ?_
        | with_reducible refine Br.tt ?_
        | with_reducible refine Br.ff ?_
        | with_reducible refine Br.nt ?_
        | with_reducible refine Br.nf ?_
        | with_reducible refine Br.eeI ?_
        | with_reducible refine Br.nnI ?_
        | refine Br.yes (by decide) ?_
        | refine Br.no (by decide) ?_
        | refine AppN.own ?_
        | refine Need.go rfl ?_
        | refine QuiD.quiet (by kernel_rfl) ?_
        | refine IdxN.lit ?_
        | refine draw_go tabOK (by kernel_rfl) ?_
        | refine Need.go ⟨rfl, rfl⟩ ?_
        | refine Need.go ⟨⟨rfl, rfl, rfl⟩, rfl⟩ ?_
        | (with_reducible refine Br.dec (fun h => ?_) (fun h => ?_); first | (rotate_left; exfalso; omega; clear h) | (exfalso; omega; clear h) | skip)
        | (with_reducible refine Br.eqI (fun h => ?_) (fun h => ?_); first | (rotate_left; exfalso; omega; clear h) | (exfalso; omega; clear h) | skip)
        | (with_reducible refine Br.neI (fun h => ?_) (fun h => ?_); first | (rotate_left; exfalso; omega; clear h) | (exfalso; omega; clear h) | skip)
        | (with_reducible refine Br.eqS (fun h => ?_) (fun h => ?_); first | (rotate_left; exfalso; omega; clear h) | (exfalso; omega; clear h) | skip)
        | (with_reducible refine Br.neS (fun h => ?_) (fun h => ?_); first | (rotate_left; exfalso; omega; clear h) | (exfalso; omega; clear h) | skip)
        | (with_reducible refine Br.nd (fun h => ?_) (fun h => ?_); first | (rotate_left; exfalso; omega; clear h) | (exfalso; omega; clear h) | skip)
        | refine Ar.i64 (by omega) (by omega) ?_
        | (refine call_sv (f := 29) (args := [.agg (mapRow (smlF l) (Int.toNat (i : Int)) 0 9), .v (.int .i64 i)]) (s := recS (smlR (l.getD i smlZ) i)) (fun _ => rfl) ?_ ?_; exact fun ρ w h => linRecord (l.getD i smlZ) i hx (by omega) w)
        | (refine seg_sv (f := 29) (args := [.agg (mapRow (smlF l) (Int.toNat (i : Int)) 0 9), .v (.int .i64 i)]) (s := recS (smlR (l.getD i smlZ) i)) (fun _ => rfl) ?_ ?_; exact fun ρ w h => linRecord (l.getD i smlZ) i hx (by omega) w)
        | refine Need.go ⟨rfl, rfl, rfl, by omega, Nat.le_trans (Nat.mul_le_mul_right _ (show i + 1 ≤ 8 by omega)) (by decide)⟩ ?_
        | refine Need.go (by first | omega | decide | (simp <;> omega) | fail) ?_
        | refine Need.go (by first | (simp [Value.oneCell'] <;> omega) | fail) ?_
        | refine Need.go ⟨rfl, by omega, getD_one rfl rfl⟩ ?_
        | refine Need.go ⟨rfl, by omega, fun _ _ _ _ => rfl⟩ ?_
        | refine Br.both (fun h => ?_) (fun h => ?_))
    all_goals (conv => whnf)
    refine ⟨i + 1, by omega, by omega, ?_⟩
    (conv => whnf)
    refine ⟨[some 0, some 1, some 4], by decide, ?_, ?_⟩
    all_goals repeat' (first | exact ⟨_, rfl, ⟨rfl, rfl, rfl⟩, rowsApp_one (fun _ _ _ _ => rfl) (fun c hc => by show _ = (recC ((recL l).getD i recZ)).getD c undef; rw [hRi]; rcases c with _ | _ | _ | _ | _ | _ | _ | _ | _ | _ | _ | _ | _ | _ | c <;> first | rfl | omega)⟩ | exact leT_junk rfl | refine And.intro ?_ ?_ | exact trivial | exact .inl ⟨rfl, rfl⟩ | rfl | exact .inr ⟨_, rfl, rfl, rfl⟩ | exact ⟨_, rfl, trivial⟩ | exact ⟨_, rfl, rfl⟩ | exact ⟨_, rfl, ⟨rfl, rfl, rfl⟩, fun _ _ _ _ => rfl⟩ | exact ⟨_, rfl, ⟨rfl, rfl, .inl rfl⟩, rfl⟩ | exact ⟨_, rfl, ⟨rfl, rfl, .inr rfl⟩, rfl⟩ | exact ⟨_, rfl, ⟨rfl, rfl, rfl, rfl, rfl⟩, rfl⟩ | exact ⟨_, rfl, ⟨rfl, rfl⟩, fun _ => Iff.rfl⟩ | refine ⟨_, rfl, rfl, ?_⟩ | refine ⟨_, rfl, ⟨rfl, rfl, rfl⟩, ?_⟩)
  obtain rfl : i = l.length := by omega

  repeat' ((conv => whnf); first
      | refine CutN.plain ?_
      | with_reducible refine Br.tt ?_
      | with_reducible refine Br.ff ?_
      | with_reducible refine Br.nt ?_
      | with_reducible refine Br.nf ?_
      | with_reducible refine Br.eeI ?_
      | with_reducible refine Br.nnI ?_
      | refine Br.yes (by decide) ?_
      | refine Br.no (by decide) ?_
      | refine AppN.own ?_
      | refine Need.go rfl ?_
      | refine QuiD.quiet (by kernel_rfl) ?_
      | refine IdxN.lit ?_
      | refine draw_go tabOK (by kernel_rfl) ?_
      | refine Need.go ⟨rfl, rfl⟩ ?_
      | refine Need.go ⟨⟨rfl, rfl, rfl⟩, rfl⟩ ?_
      | (with_reducible refine Br.dec (fun h => ?_) (fun h => ?_); first | (rotate_left; exfalso; omega; clear h) | (exfalso; omega; clear h) | skip)
      | (with_reducible refine Br.eqI (fun h => ?_) (fun h => ?_); first | (rotate_left; exfalso; omega; clear h) | (exfalso; omega; clear h) | skip)
      | (with_reducible refine Br.neI (fun h => ?_) (fun h => ?_); first | (rotate_left; exfalso; omega; clear h) | (exfalso; omega; clear h) | skip)
      | (with_reducible refine Br.eqS (fun h => ?_) (fun h => ?_); first | (rotate_left; exfalso; omega; clear h) | (exfalso; omega; clear h) | skip)
      | (with_reducible refine Br.neS (fun h => ?_) (fun h => ?_); first | (rotate_left; exfalso; omega; clear h) | (exfalso; omega; clear h) | skip)
      | (with_reducible refine Br.nd (fun h => ?_) (fun h => ?_); first | (rotate_left; exfalso; omega; clear h) | (exfalso; omega; clear h) | skip)
      | refine Ar.i64 (by omega) (by omega) ?_
      | refine call_new1 (f := 30) (args := []) 119 [] [] false zS (kcs []) (fun ρ w h => kvNew_any w) ?_
      | refine Need.go (by first | omega | decide | (simp <;> omega) | fail) ?_
      | refine Need.go (by first | (simp [Value.oneCell'] <;> omega) | fail) ?_
      | refine Need.go ⟨rfl, by omega, getD_one rfl rfl⟩ ?_
      | refine Need.go ⟨rfl, by omega, fun _ _ _ _ => rfl⟩ ?_
      | refine Br.both (fun h => ?_) (fun h => ?_))
  all_goals (conv => whnf)
  refine loop_up 54 (fun x : Nat × List RecM × List EntM × List Bool => (x.1 ≤ ord.length ∧ x.2.2.1.length ≤ x.1) ∧ RecOK l x.2.1 ∧ x.2.2.2.length = l.length) (fun x => ord.length - x.1)
    (fun x => [(9, .os 5 x.2.2.1.length), (12, .v (.int .i64 x.1)), (13, .junk), (14, .junk)])
    (fun x => [(2, .ent (.own 52 14 l.length (recF x.2.1))), (3, .ent (.own 4 1 l.length (boolF x.2.2.2))), (4, .ent (kvE (storeN x.2.2.1 x.2.2.1.length)))])
    (fun x => [.own 30 7 x.2.2.1.length (entF' x.2.2.1)]) (0, recL l, [], List.replicate l.length false) ⟨⟨Nat.zero_le _, Nat.le_refl _⟩, recOK_0 l, List.length_replicate⟩ (by
    (conv => whnf)
    refine ⟨[some 0, some 1, some 2, some 3, some 4, none], by decide, ?_, ?_⟩
    all_goals repeat' (first | exact .inr ⟨_, rfl, rfl, rfl⟩ | exact ⟨_, rfl, ⟨rfl, rfl, rfl⟩, boolF_0⟩ | exact leT_junk rfl | refine And.intro ?_ ?_ | exact trivial | exact .inl ⟨rfl, rfl⟩ | rfl | exact .inr ⟨_, rfl, rfl, rfl⟩ | exact ⟨_, rfl, trivial⟩ | exact ⟨_, rfl, rfl⟩ | exact ⟨_, rfl, ⟨rfl, rfl, rfl⟩, fun _ _ _ _ => rfl⟩ | exact ⟨_, rfl, ⟨rfl, rfl, .inl rfl⟩, rfl⟩ | exact ⟨_, rfl, ⟨rfl, rfl, .inr rfl⟩, rfl⟩ | exact ⟨_, rfl, ⟨rfl, rfl, rfl, rfl, rfl⟩, rfl⟩ | exact ⟨_, rfl, ⟨rfl, rfl⟩, fun _ => Iff.rfl⟩ | refine ⟨_, rfl, rfl, ?_⟩ | refine ⟨_, rfl, ⟨rfl, rfl, rfl⟩, ?_⟩)) (fun x hx => ?_)
  obtain ⟨j, R, D, us⟩ := x
  obtain ⟨⟨hj, hDj⟩, hR, hus⟩ := hx
  simp only at hj hDj hR hus
  dsimp only
  have hRl := hR.len
  by_cases hjl : j < ord.length
  · have hob := ho _ (getD_mem (z := (0 : Int)) hjl)
    obtain ⟨p, hp⟩ : ∃ p : Nat, ord.getD (Int.toNat (j : Int)) 0 % (l.length : Int) = p := ⟨(ord.getD j 0 % (l.length : Int)).toNat, (Int.toNat_of_nonneg (Int.emod_nonneg _ (by omega))).symm⟩
    have hpl : p < l.length := by
      have := Int.emod_lt_of_pos (ord.getD (Int.toNat (j : Int)) 0) hl0
      omega
    obtain ⟨e, he⟩ : ∃ e, entR D (R.getD p recZ) = e := ⟨_, rfl⟩
    have hst := storeN_entR D (R.getD p recZ)
    rw [he] at hst
    obtain ⟨q, hq⟩ : ∃ q, (applyM (storeN D D.length) ((D.length : Int) + 1) (R.getD p recZ).op).2 = q := ⟨_, rfl⟩
    have hdn := hR.done hpl q
    repeat' ((conv => whnf); first
        | (refine Need.go ⟨hob.1, hl0⟩ ?_; rw [hp])
        | refine QuiD.draw (ord_each tabOK .leaf (show _ = 23 from rfl) (by kernel_rfl) (by kernel_rfl) ?_)
        | refine ord_each tabOK .leaf (show _ = 23 from rfl) (by kernel_rfl) (by kernel_rfl) ?_
        | refine CutN.plain ?_
        | with_reducible refine Br.tt ?_
        | with_reducible refine Br.ff ?_
        | with_reducible refine Br.nt ?_
        | with_reducible refine Br.nf ?_
        | with_reducible refine Br.eeI ?_
        | with_reducible refine Br.nnI ?_
        | refine Br.yes (by decide) ?_
        | refine Br.no (by decide) ?_
        | refine AppN.own ?_
        | refine Need.go rfl ?_
        | refine QuiD.quiet (by kernel_rfl) ?_
        | refine IdxN.lit ?_
        | refine draw_go tabOK (by kernel_rfl) ?_
        | refine Need.go ⟨rfl, rfl⟩ ?_
        | refine Need.go ⟨⟨rfl, rfl, rfl⟩, rfl⟩ ?_
        | (with_reducible refine Br.dec (fun h => ?_) (fun h => ?_); first | (rotate_left; exfalso; omega; clear h) | (exfalso; omega; clear h) | skip)
        | (with_reducible refine Br.eqI (fun h => ?_) (fun h => ?_); first | (rotate_left; exfalso; omega; clear h) | (exfalso; omega; clear h) | skip)
        | (with_reducible refine Br.neI (fun h => ?_) (fun h => ?_); first | (rotate_left; exfalso; omega; clear h) | (exfalso; omega; clear h) | skip)
        | (with_reducible refine Br.eqS (fun h => ?_) (fun h => ?_); first | (rotate_left; exfalso; omega; clear h) | (exfalso; omega; clear h) | skip)
        | (with_reducible refine Br.neS (fun h => ?_) (fun h => ?_); first | (rotate_left; exfalso; omega; clear h) | (exfalso; omega; clear h) | skip)
        | (with_reducible refine Br.nd (fun h => ?_) (fun h => ?_); first | (rotate_left; exfalso; omega; clear h) | (exfalso; omega; clear h) | skip)
        | refine Ar.i64 (by omega) (by omega) ?_
        | refine Ar.i64 (Int.le_trans (by decide) hob.1) (Int.le_trans hob.2 (by decide)) ?_
        | (refine call_mem (f := 28) (args := [.agg (mapRow (recF R) (Int.toNat (p : Int)) 2 4)]) (V := .bool (readsO (R.getD p recZ).op)) ?_ ?_; exact fun ρ w h => reads_at (R.getD p recZ).op _ w rfl)
        | (refine quiet_mem (f := 28) (args := [.agg (mapRow (recF R) (Int.toNat (p : Int)) 2 4)]) (V := .bool (readsO (R.getD p recZ).op)) ?_ ?_; exact fun ρ w h => reads_at (R.getD p recZ).op _ w rfl)
        | (refine seg_mem (f := 28) (args := [.agg (mapRow (recF R) (Int.toNat (p : Int)) 2 4)]) (V := .bool (readsO (R.getD p recZ).op)) ?_ ?_; exact fun ρ w h => reads_at (R.getD p recZ).op _ w rfl)
        | refine kvApply_n 4 (storeN D D.length) ((D.length + 1 : Nat) : Int) (R.getD p recZ).op rfl ?_
        | refine Need.go ⟨rfl, rfl, rfl, by omega, Nat.le_trans (Nat.mul_le_mul_right _ (show D.length + 1 ≤ 14 by omega)) (by decide)⟩ ?_
        | refine Need.go (by first | omega | decide | (simp <;> omega) | fail) ?_
        | refine Need.go (by first | (simp [Value.oneCell'] <;> omega) | fail) ?_
        | refine Need.go ⟨rfl, by omega, getD_one rfl rfl⟩ ?_
        | refine Need.go ⟨rfl, by omega, fun _ _ _ _ => rfl⟩ ?_
        | refine Br.both (fun h => ?_) (fun h => ?_))
    all_goals (conv => whnf)
    iterate 3
      · refine ⟨(j + 1, R, D, us), ⟨⟨by dsimp only; omega, by dsimp only; omega⟩, hR, hus⟩, by dsimp only; omega, ?_⟩
        (conv => whnf)
        refine ⟨[some 0, some 1, some 2, some 3, some 4, some 5], by decide, ?_, ?_⟩
        all_goals repeat' (first | exact leT_junk rfl | refine And.intro ?_ ?_ | exact trivial | exact .inl ⟨rfl, rfl⟩ | rfl | exact .inr ⟨_, rfl, rfl, rfl⟩ | exact ⟨_, rfl, trivial⟩ | exact ⟨_, rfl, rfl⟩ | exact ⟨_, rfl, ⟨rfl, rfl, rfl⟩, fun _ _ _ _ => rfl⟩ | exact ⟨_, rfl, ⟨rfl, rfl, .inl rfl⟩, rfl⟩ | exact ⟨_, rfl, ⟨rfl, rfl, .inr rfl⟩, rfl⟩ | exact ⟨_, rfl, ⟨rfl, rfl, rfl, rfl, rfl⟩, rfl⟩ | exact ⟨_, rfl, ⟨rfl, rfl⟩, fun _ => Iff.rfl⟩ | refine ⟨_, rfl, rfl, ?_⟩ | refine ⟨_, rfl, ⟨rfl, rfl, rfl⟩, ?_⟩)
    · refine ⟨(j + 1, R.set p { R.getD p recZ with res := q }, D ++ [e], us.set p true), ⟨⟨by dsimp only; omega, by simp; omega⟩, hR.set hpl q, by simpa using hus⟩, by dsimp only; omega, ?_⟩
      dsimp only
      rw [hst]
      subst he hq
      (conv => whnf)
      refine ⟨[some 0, some 1, some 2, some 3, some 4, some 7], by decide, ?_, ?_⟩
      all_goals repeat' (first | exact .inl ⟨rfl, congrArg (SV.os 7) List.length_append⟩ | exact ⟨_, rfl, ⟨rfl, rfl, rfl⟩, boolF_set (by omega)⟩ | exact ⟨_, rfl, ⟨rfl, rfl, rfl⟩, recF_set (by omega) (fun _ _ _ _ => rfl) (fun c hc => by rcases c with _ | _ | _ | _ | _ | _ | _ | _ | _ | _ | _ | _ | _ | _ | c <;> first | rfl | omega)⟩ | exact ⟨_, rfl, ⟨rfl, rfl, by simp⟩, fun r c hr hc => rowsF_snoc entC entZ 7 D (entR D (R.getD p recZ)) r c (by simpa using hr) hc⟩ | exact leT_junk rfl | refine And.intro ?_ ?_ | exact trivial | exact .inl ⟨rfl, rfl⟩ | rfl | exact .inr ⟨_, rfl, rfl, rfl⟩ | exact ⟨_, rfl, trivial⟩ | exact ⟨_, rfl, rfl⟩ | exact ⟨_, rfl, ⟨rfl, rfl, rfl⟩, fun _ _ _ _ => rfl⟩ | exact ⟨_, rfl, ⟨rfl, rfl, .inl rfl⟩, rfl⟩ | exact ⟨_, rfl, ⟨rfl, rfl, .inr rfl⟩, rfl⟩ | exact ⟨_, rfl, ⟨rfl, rfl, rfl, rfl, rfl⟩, rfl⟩ | exact ⟨_, rfl, ⟨rfl, rfl⟩, fun _ => Iff.rfl⟩ | refine ⟨_, rfl, rfl, ?_⟩ | refine ⟨_, rfl, ⟨rfl, rfl, rfl⟩, ?_⟩)
    · refine ⟨(j + 1, R, D ++ [e], us.set p true), ⟨⟨by dsimp only; omega, by simp; omega⟩, hR, by simpa using hus⟩, by dsimp only; omega, ?_⟩
      dsimp only
      rw [hst]
      subst he hq
      (conv => whnf)
      refine ⟨[some 0, some 1, some 2, some 3, some 4, some 7], by decide, ?_, ?_⟩
      all_goals repeat' (first | exact .inl ⟨rfl, congrArg (SV.os 7) List.length_append⟩ | exact ⟨_, rfl, ⟨rfl, rfl, rfl⟩, boolF_set (by omega)⟩ | exact ⟨_, rfl, ⟨rfl, rfl, rfl⟩, recF_set (by omega) (fun _ _ _ _ => rfl) (fun c hc => by rcases c with _ | _ | _ | _ | _ | _ | _ | _ | _ | _ | _ | _ | _ | _ | c <;> first | rfl | omega)⟩ | exact ⟨_, rfl, ⟨rfl, rfl, by simp⟩, fun r c hr hc => rowsF_snoc entC entZ 7 D (entR D (R.getD p recZ)) r c (by simpa using hr) hc⟩ | exact leT_junk rfl | refine And.intro ?_ ?_ | exact trivial | exact .inl ⟨rfl, rfl⟩ | rfl | exact .inr ⟨_, rfl, rfl, rfl⟩ | exact ⟨_, rfl, trivial⟩ | exact ⟨_, rfl, rfl⟩ | exact ⟨_, rfl, ⟨rfl, rfl, rfl⟩, fun _ _ _ _ => rfl⟩ | exact ⟨_, rfl, ⟨rfl, rfl, .inl rfl⟩, rfl⟩ | exact ⟨_, rfl, ⟨rfl, rfl, .inr rfl⟩, rfl⟩ | exact ⟨_, rfl, ⟨rfl, rfl, rfl, rfl, rfl⟩, rfl⟩ | exact ⟨_, rfl, ⟨rfl, rfl⟩, fun _ => Iff.rfl⟩ | refine ⟨_, rfl, rfl, ?_⟩ | refine ⟨_, rfl, ⟨rfl, rfl, rfl⟩, ?_⟩)
  obtain rfl : j = ord.length := by omega
  obtain ⟨z, hz⟩ : ∃ z, chkL R D = z := ⟨_, rfl⟩
  by_cases hz1 : z = -1
  case neg =>
    repeat' ((conv => whnf); first
        | refine CutN.plain ?_
        | with_reducible refine Br.tt ?_
        | with_reducible refine Br.ff ?_
        | with_reducible refine Br.nt ?_
        | with_reducible refine Br.nf ?_
        | with_reducible refine Br.eeI ?_
        | with_reducible refine Br.nnI ?_
        | refine Br.yes (by decide) ?_
        | refine Br.no (by decide) ?_
        | refine AppN.own ?_
        | refine Need.go rfl ?_
        | refine QuiD.quiet (by kernel_rfl) ?_
        | refine IdxN.lit ?_
        | refine draw_go tabOK (by kernel_rfl) ?_
        | refine Need.go ⟨rfl, rfl⟩ ?_
        | refine Need.go ⟨⟨rfl, rfl, rfl⟩, rfl⟩ ?_
        | (with_reducible refine Br.dec (fun h => ?_) (fun h => ?_); first | (rotate_left; exfalso; omega; clear h) | (exfalso; omega; clear h) | skip)
        | (with_reducible refine Br.eqI (fun h => ?_) (fun h => ?_); first | (rotate_left; exfalso; omega; clear h) | (exfalso; omega; clear h) | skip)
        | (with_reducible refine Br.neI (fun h => ?_) (fun h => ?_); first | (rotate_left; exfalso; omega; clear h) | (exfalso; omega; clear h) | skip)
        | (with_reducible refine Br.eqS (fun h => ?_) (fun h => ?_); first | (rotate_left; exfalso; omega; clear h) | (exfalso; omega; clear h) | skip)
        | (with_reducible refine Br.neS (fun h => ?_) (fun h => ?_); first | (rotate_left; exfalso; omega; clear h) | (exfalso; omega; clear h) | skip)
        | (with_reducible refine Br.nd (fun h => ?_) (fun h => ?_); first | (rotate_left; exfalso; omega; clear h) | (exfalso; omega; clear h) | skip)
        | refine Ar.i64 (by omega) (by omega) ?_
        | (refine call_mem (f := 25) (args := [.os 2 l.length, .os 5 D.length]) (V := .int .i64 z) ?_ ?_; exact fun ρ w h => lchk_len R D z _ _ _ _ w hRl rfl (sl_os h (i := 2) rfl) (sl_os h (i := 5) rfl) (by omega) (by omega) hz)
        | (refine quiet_mem (f := 25) (args := [.os 2 l.length, .os 5 D.length]) (V := .int .i64 z) ?_ ?_; exact fun ρ w h => lchk_len R D z _ _ _ _ w hRl rfl (sl_os h (i := 2) rfl) (sl_os h (i := 5) rfl) (by omega) (by omega) hz)
        | (refine seg_mem (f := 25) (args := [.os 2 l.length, .os 5 D.length]) (V := .int .i64 z) ?_ ?_; exact fun ρ w h => lchk_len R D z _ _ _ _ w hRl rfl (sl_os h (i := 2) rfl) (sl_os h (i := 5) rfl) (by omega) (by omega) hz)
        | (refine call_mem (f := 24) (args := []) (V := .bool true) ?_ ?_; exact fun ρ w h => held_any w)
        | (refine quiet_mem (f := 24) (args := []) (V := .bool true) ?_ ?_; exact fun ρ w h => held_any w)
        | (refine seg_mem (f := 24) (args := []) (V := .bool true) ?_ ?_; exact fun ρ w h => held_any w)
        | refine Need.go (by first | omega | decide | (simp <;> omega) | fail) ?_
        | refine Need.go (by first | (simp [Value.oneCell'] <;> omega) | fail) ?_
        | refine Need.go ⟨rfl, by omega, getD_one rfl rfl⟩ ?_
        | refine Need.go ⟨rfl, by omega, fun _ _ _ _ => rfl⟩ ?_
        | refine Br.both (fun h => ?_) (fun h => ?_))
    all_goals (conv => whnf)
    all_goals exact ret_pure (fun _ => rfl)
  subst hz1
  obtain ⟨p, hp⟩ : ∃ p : Nat, k % (l.length : Int) = p := ⟨(k % (l.length : Int)).toNat, (Int.toNat_of_nonneg (Int.emod_nonneg _ (by omega))).symm⟩
  have hpl : p < l.length := by
    have := Int.emod_lt_of_pos k hl0
    omega
  have hpr : R[p]? = some (R.getD p recZ) := by
    rw [List.getD_eq_getElem?_getD, List.getElem?_eq_getElem (by omega)]; rfl
  have h99 : ∀ q ∈ R, q.seq ≠ r99.seq := fun q hq => by
    obtain ⟨i, hi, rfl⟩ := mem_getD (z := recZ) hq
    rw [hR.seq (by omega)]
    show ¬ ((i : Int) + 1 = 99)
    omega
  have hC := chkL_more hz h99 (by decide) rfl
  have hCD := chkL_entry hz h99 (by decide) rfl (by decide)
  obtain ⟨ra, hra⟩ : ∃ ra : RecM, ra = { R.getD p recZ with upto := -1, okind := 0, why := 0, res := ⟨0, [], 0, 0⟩ } := ⟨_, rfl⟩
  obtain ⟨rb, hrb⟩ : ∃ rb : RecM, rb = { R.getD p recZ with okind := 3, why := 0, res := ⟨0, [], 0, 0⟩ } := ⟨_, rfl⟩
  have hA := chkL_weaker (r' := ra) hz hpr (by rw [hra]) (by rw [hra]) (by rw [hra]) (by rw [hra]) (by rw [hra]; show (0 : Int) ≠ 1; decide) (by rw [hra]; show (0 : Int) ≠ 2; decide)
  have hB := chkL_weaker (r' := rb) hz hpr (by rw [hrb]) (by rw [hrb]) (by rw [hrb]) (by rw [hrb]) (by rw [hrb]; show (3 : Int) ≠ 1; decide) (by rw [hrb]; show (3 : Int) ≠ 2; decide)
  repeat' ((conv => whnf); first
      | (refine cut_up 1156 157 (fun x : List RecM × List RecM => (chkL x.1 D = -1 ∧ x.1.length = l.length) ∧ (chkL x.2 D = -1 ∧ x.2.length = l.length)) (fun _ => []) (fun x => [(6, .ent (.own 52 14 l.length (recF x.1))), (7, .ent (.own 52 14 l.length (recF x.2)))]) (fun _ => []) ?_ ?_)
      | (refine Need.go ⟨hk.1, hl0⟩ ?_; rw [hp])
      | refine CutN.plain ?_
      | with_reducible refine Br.tt ?_
      | with_reducible refine Br.ff ?_
      | with_reducible refine Br.nt ?_
      | with_reducible refine Br.nf ?_
      | with_reducible refine Br.eeI ?_
      | with_reducible refine Br.nnI ?_
      | refine Br.yes (by decide) ?_
      | refine Br.no (by decide) ?_
      | refine AppN.own ?_
      | refine Need.go rfl ?_
      | refine QuiD.quiet (by kernel_rfl) ?_
      | refine IdxN.lit ?_
      | refine draw_go tabOK (by kernel_rfl) ?_
      | refine Need.go ⟨rfl, rfl⟩ ?_
      | refine Need.go ⟨⟨rfl, rfl, rfl⟩, rfl⟩ ?_
      | (with_reducible refine Br.dec (fun h => ?_) (fun h => ?_); first | (rotate_left; exfalso; omega; clear h) | (exfalso; omega; clear h) | skip)
      | (with_reducible refine Br.eqI (fun h => ?_) (fun h => ?_); first | (rotate_left; exfalso; omega; clear h) | (exfalso; omega; clear h) | skip)
      | (with_reducible refine Br.neI (fun h => ?_) (fun h => ?_); first | (rotate_left; exfalso; omega; clear h) | (exfalso; omega; clear h) | skip)
      | (with_reducible refine Br.eqS (fun h => ?_) (fun h => ?_); first | (rotate_left; exfalso; omega; clear h) | (exfalso; omega; clear h) | skip)
      | (with_reducible refine Br.neS (fun h => ?_) (fun h => ?_); first | (rotate_left; exfalso; omega; clear h) | (exfalso; omega; clear h) | skip)
      | (with_reducible refine Br.nd (fun h => ?_) (fun h => ?_); first | (rotate_left; exfalso; omega; clear h) | (exfalso; omega; clear h) | skip)
      | refine Ar.i64 (by omega) (by omega) ?_
      | (refine call_mem (f := 25) (args := [.os 2 l.length, .os 5 D.length]) (V := .int .i64 (-1)) ?_ ?_; exact fun ρ w h => lchk_len R D (-1) _ _ _ _ w hRl rfl (sl_os h (i := 2) rfl) (sl_os h (i := 5) rfl) (by omega) (by omega) hz)
      | (refine quiet_mem (f := 25) (args := [.os 2 l.length, .os 5 D.length]) (V := .int .i64 (-1)) ?_ ?_; exact fun ρ w h => lchk_len R D (-1) _ _ _ _ w hRl rfl (sl_os h (i := 2) rfl) (sl_os h (i := 5) rfl) (by omega) (by omega) hz)
      | (refine seg_mem (f := 25) (args := [.os 2 l.length, .os 5 D.length]) (V := .int .i64 (-1)) ?_ ?_; exact fun ρ w h => lchk_len R D (-1) _ _ _ _ w hRl rfl (sl_os h (i := 2) rfl) (sl_os h (i := 5) rfl) (by omega) (by omega) hz)
      | refine Need.go ⟨rfl, Nat.le_refl _, rowsF_one recC_one R⟩ ?_
      | refine Need.go ⟨by omega, Nat.le_trans (Nat.mul_le_mul_right _ (show l.length ≤ 8 by omega)) (by decide)⟩ ?_
      | refine Need.go (by first | omega | decide | (simp <;> omega) | fail) ?_
      | refine Need.go (by first | (simp [Value.oneCell'] <;> omega) | fail) ?_
      | refine Need.go ⟨rfl, by omega, getD_one rfl rfl⟩ ?_
      | refine Need.go ⟨rfl, by omega, fun _ _ _ _ => rfl⟩ ?_
      | refine Br.both (fun h => ?_) (fun h => ?_))
  all_goals (conv => whnf)
  · intro x hx
    obtain ⟨A, B⟩ := x
    obtain ⟨⟨hA1, hA2⟩, hB1, hB2⟩ := hx
    simp only at hA1 hA2 hB1 hB2
    clear hA hB hra hrb
    have hRc : (R ++ [r99]).length = l.length + 1 := by simp [hRl]
    have hDc : (D ++ [entR D r99]).length = D.length + 1 := by simp
    (conv => whnf)
    repeat' ((conv => whnf); first
        | (refine ord_to tabOK (.sp 2 1 [0,2,1,3,4,5,6] [0,1,2,3,4,5,6] (.sp 3 2 [0,1,3,2,4,5,6] [0,1,2,3,4,5,6] (.sp 4 3 [0,1,2,4,3,5,6] [0,1,2,3,4,5,6] .leaf .leaf) .leaf) .leaf) (show _ = 7 from rfl) (by kernel_rfl) (by kernel_rfl) 172 [(19, .os 9 (l.length + 1))] [] [.own 52 14 (l.length + 1) (recF (R ++ [r99]))] ?_ ?_)
        | (refine QuiD.draw (ord_to tabOK (.sp 2 1 [0,2,1,3,4,5,6] [0,1,2,3,4,5,6] (.sp 3 2 [0,1,3,2,4,5,6] [0,1,2,3,4,5,6] (.sp 4 3 [0,1,2,4,3,5,6] [0,1,2,3,4,5,6] .leaf .leaf) .leaf) .leaf) (show _ = 7 from rfl) (by kernel_rfl) (by kernel_rfl) 172 [(19, .os 9 (l.length + 1))] [] [.own 52 14 (l.length + 1) (recF (R ++ [r99]))] ?_ ?_))
        | (refine ord_to tabOK (.ho 2 [1] [2,0,1,3,4,5,6,7,8,9] (.sp 3 2 [0,1,3,2,4,5,6,7,8,9] [0,1,2,3,4,5,6,7,8,9] (.sp 4 3 [0,1,2,4,3,5,6,7,8,9] [0,1,2,3,4,5,6,7,8,9] (.sp 5 4 [0,1,2,3,5,4,6,7,8,9] [0,1,2,3,4,5,6,7,8,9] (.sp 6 5 [0,1,2,3,4,6,5,7,8,9] [0,1,2,3,4,5,6,7,8,9] (.sp 7 6 [0,1,2,3,4,5,7,6,8,9] [0,1,2,3,4,5,6,7,8,9] .leaf .leaf) .leaf) .leaf) (.sp 5 3 [0,1,2,5,3,4,6,7,8,9] [0,1,2,3,4,5,6,7,8,9] .leaf .leaf)) (.sp 5 2 [0,1,5,2,3,4,6,7,8,9] [0,1,2,3,4,5,6,7,8,9] .leaf .leaf))) (show _ = 10 from rfl) (by kernel_rfl) (by kernel_rfl) 178 [(20, .os 10 (D.length + 1))] [] [.own 30 7 (D.length + 1) (entF' (D ++ [entR D r99]))] ?_ ?_)
        | (refine QuiD.draw (ord_to tabOK (.ho 2 [1] [2,0,1,3,4,5,6,7,8,9] (.sp 3 2 [0,1,3,2,4,5,6,7,8,9] [0,1,2,3,4,5,6,7,8,9] (.sp 4 3 [0,1,2,4,3,5,6,7,8,9] [0,1,2,3,4,5,6,7,8,9] (.sp 5 4 [0,1,2,3,5,4,6,7,8,9] [0,1,2,3,4,5,6,7,8,9] (.sp 6 5 [0,1,2,3,4,6,5,7,8,9] [0,1,2,3,4,5,6,7,8,9] (.sp 7 6 [0,1,2,3,4,5,7,6,8,9] [0,1,2,3,4,5,6,7,8,9] .leaf .leaf) .leaf) .leaf) (.sp 5 3 [0,1,2,5,3,4,6,7,8,9] [0,1,2,3,4,5,6,7,8,9] .leaf .leaf)) (.sp 5 2 [0,1,5,2,3,4,6,7,8,9] [0,1,2,3,4,5,6,7,8,9] .leaf .leaf))) (show _ = 10 from rfl) (by kernel_rfl) (by kernel_rfl) 178 [(20, .os 10 (D.length + 1))] [] [.own 30 7 (D.length + 1) (entF' (D ++ [entR D r99]))] ?_ ?_))
        | refine CutN.plain ?_
        | with_reducible refine Br.tt ?_
        | with_reducible refine Br.ff ?_
        | with_reducible refine Br.nt ?_
        | with_reducible refine Br.nf ?_
        | with_reducible refine Br.eeI ?_
        | with_reducible refine Br.nnI ?_
        | refine Br.yes (by decide) ?_
        | refine Br.no (by decide) ?_
        | refine AppN.own ?_
        | refine Need.go rfl ?_
        | refine QuiD.quiet (by kernel_rfl) ?_
        | refine IdxN.lit ?_
        | refine draw_go tabOK (by kernel_rfl) ?_
        | refine Need.go ⟨rfl, rfl⟩ ?_
        | refine Need.go ⟨⟨rfl, rfl, rfl⟩, rfl⟩ ?_
        | (with_reducible refine Br.dec (fun h => ?_) (fun h => ?_); first | (rotate_left; exfalso; omega; clear h) | (exfalso; omega; clear h) | skip)
        | (with_reducible refine Br.eqI (fun h => ?_) (fun h => ?_); first | (rotate_left; exfalso; omega; clear h) | (exfalso; omega; clear h) | skip)
        | (with_reducible refine Br.neI (fun h => ?_) (fun h => ?_); first | (rotate_left; exfalso; omega; clear h) | (exfalso; omega; clear h) | skip)
        | (with_reducible refine Br.eqS (fun h => ?_) (fun h => ?_); first | (rotate_left; exfalso; omega; clear h) | (exfalso; omega; clear h) | skip)
        | (with_reducible refine Br.neS (fun h => ?_) (fun h => ?_); first | (rotate_left; exfalso; omega; clear h) | (exfalso; omega; clear h) | skip)
        | (with_reducible refine Br.nd (fun h => ?_) (fun h => ?_); first | (rotate_left; exfalso; omega; clear h) | (exfalso; omega; clear h) | skip)
        | refine Ar.i64 (by omega) (by omega) ?_
        | refine And.intro ?_ ?_
        | (refine ⟨[some 0, some 1, some 2, some 3, some 4, some 5, some 6, some 7, some 8, some 11], ⟨by decide, rfl⟩, ?_, ?_⟩; all_goals (repeat' (first | exact ⟨_, rfl, ⟨rfl, rfl, rfl⟩, recF_snoc r99 hRl (fun r c hr hc => rfl) (fun c _ => row0 (recC r99) c 14)⟩ | exact leT_junk rfl | refine And.intro ?_ ?_ | exact trivial | exact .inl ⟨rfl, rfl⟩ | rfl | exact .inr ⟨_, rfl, rfl, rfl⟩ | exact ⟨_, rfl, trivial⟩ | exact ⟨_, rfl, rfl⟩ | exact ⟨_, rfl, ⟨rfl, rfl, rfl⟩, fun _ _ _ _ => rfl⟩ | exact ⟨_, rfl, ⟨rfl, rfl, .inl rfl⟩, rfl⟩ | exact ⟨_, rfl, ⟨rfl, rfl, .inr rfl⟩, rfl⟩ | exact ⟨_, rfl, ⟨rfl, rfl, rfl, rfl, rfl⟩, rfl⟩ | exact ⟨_, rfl, ⟨rfl, rfl⟩, fun _ => Iff.rfl⟩ | refine ⟨_, rfl, rfl, ?_⟩ | refine ⟨_, rfl, ⟨rfl, rfl, rfl⟩, ?_⟩)); done)
        | refine Need.go ⟨rfl, Nat.le_refl _, rowsF_one recC_one R⟩ ?_
        | refine Need.go ⟨by omega, Nat.le_trans (Nat.mul_le_mul_right _ (show l.length ≤ 8 by omega)) (by decide)⟩ ?_
        | refine Need.go ⟨rfl, rfl, rfl, by omega, Nat.le_trans (Nat.mul_le_mul_right _ (show l.length + 1 ≤ 8 by omega)) (by decide)⟩ ?_
        | refine And.intro ?_ ?_
        | (refine ⟨[some 0, some 1, some 2, some 3, some 4, some 5, some 6, some 7, some 8, some 9, some 12], ⟨by decide, rfl⟩, ?_, ?_⟩; all_goals (repeat' (first | exact ⟨_, rfl, ⟨rfl, rfl, rfl⟩, entF_snoc (entR D r99) (fun r c hr hc => rfl) (fun c _ => row0 (entC (entR D r99)) c 7)⟩ | exact leT_junk rfl | refine And.intro ?_ ?_ | exact trivial | exact .inl ⟨rfl, rfl⟩ | rfl | exact .inr ⟨_, rfl, rfl, rfl⟩ | exact ⟨_, rfl, trivial⟩ | exact ⟨_, rfl, rfl⟩ | exact ⟨_, rfl, ⟨rfl, rfl, rfl⟩, fun _ _ _ _ => rfl⟩ | exact ⟨_, rfl, ⟨rfl, rfl, .inl rfl⟩, rfl⟩ | exact ⟨_, rfl, ⟨rfl, rfl, .inr rfl⟩, rfl⟩ | exact ⟨_, rfl, ⟨rfl, rfl, rfl, rfl, rfl⟩, rfl⟩ | exact ⟨_, rfl, ⟨rfl, rfl⟩, fun _ => Iff.rfl⟩ | refine ⟨_, rfl, rfl, ?_⟩ | refine ⟨_, rfl, ⟨rfl, rfl, rfl⟩, ?_⟩)); done)
        | refine Need.go ⟨rfl, Nat.le_refl _, rowsF_one entC_one D⟩ ?_
        | refine Need.go ⟨by omega, Nat.le_trans (Nat.mul_le_mul_right _ (show D.length ≤ 13 by omega)) (by decide)⟩ ?_
        | refine Need.go ⟨rfl, rfl, rfl, by omega, Nat.le_trans (Nat.mul_le_mul_right _ (show D.length + 1 ≤ 14 by omega)) (by decide)⟩ ?_
        | (refine call_mem (f := 25) (args := [.os 6 l.length, .os 5 D.length]) (V := .int .i64 (-1)) ?_ ?_; exact fun ρ w h => lchk_len A D (-1) _ _ _ _ w hA2 rfl (sl_os h (i := 6) rfl) (sl_os h (i := 5) rfl) (by omega) (by omega) hA1)
        | (refine quiet_mem (f := 25) (args := [.os 6 l.length, .os 5 D.length]) (V := .int .i64 (-1)) ?_ ?_; exact fun ρ w h => lchk_len A D (-1) _ _ _ _ w hA2 rfl (sl_os h (i := 6) rfl) (sl_os h (i := 5) rfl) (by omega) (by omega) hA1)
        | (refine seg_mem (f := 25) (args := [.os 6 l.length, .os 5 D.length]) (V := .int .i64 (-1)) ?_ ?_; exact fun ρ w h => lchk_len A D (-1) _ _ _ _ w hA2 rfl (sl_os h (i := 6) rfl) (sl_os h (i := 5) rfl) (by omega) (by omega) hA1)
        | (refine call_mem (f := 25) (args := [.os 7 l.length, .os 5 D.length]) (V := .int .i64 (-1)) ?_ ?_; exact fun ρ w h => lchk_len B D (-1) _ _ _ _ w hB2 rfl (sl_os h (i := 7) rfl) (sl_os h (i := 5) rfl) (by omega) (by omega) hB1)
        | (refine quiet_mem (f := 25) (args := [.os 7 l.length, .os 5 D.length]) (V := .int .i64 (-1)) ?_ ?_; exact fun ρ w h => lchk_len B D (-1) _ _ _ _ w hB2 rfl (sl_os h (i := 7) rfl) (sl_os h (i := 5) rfl) (by omega) (by omega) hB1)
        | (refine seg_mem (f := 25) (args := [.os 7 l.length, .os 5 D.length]) (V := .int .i64 (-1)) ?_ ?_; exact fun ρ w h => lchk_len B D (-1) _ _ _ _ w hB2 rfl (sl_os h (i := 7) rfl) (sl_os h (i := 5) rfl) (by omega) (by omega) hB1)
        | (refine call_mem (f := 25) (args := [.os 9 (l.length + 1), .os 5 D.length]) (V := .int .i64 (-1)) ?_ ?_; exact fun ρ w h => lchk_len (R ++ [r99]) D (-1) _ _ _ _ w hRc rfl (sl_os h (i := 9) rfl) (sl_os h (i := 5) rfl) (by omega) (by omega) hC)
        | (refine quiet_mem (f := 25) (args := [.os 9 (l.length + 1), .os 5 D.length]) (V := .int .i64 (-1)) ?_ ?_; exact fun ρ w h => lchk_len (R ++ [r99]) D (-1) _ _ _ _ w hRc rfl (sl_os h (i := 9) rfl) (sl_os h (i := 5) rfl) (by omega) (by omega) hC)
        | (refine seg_mem (f := 25) (args := [.os 9 (l.length + 1), .os 5 D.length]) (V := .int .i64 (-1)) ?_ ?_; exact fun ρ w h => lchk_len (R ++ [r99]) D (-1) _ _ _ _ w hRc rfl (sl_os h (i := 9) rfl) (sl_os h (i := 5) rfl) (by omega) (by omega) hC)
        | (refine call_mem (f := 25) (args := [.os 9 (l.length + 1), .os 10 (D.length + 1)]) (V := .int .i64 (-1)) ?_ ?_; exact fun ρ w h => lchk_len (R ++ [r99]) (D ++ [entR D r99]) (-1) _ _ _ _ w hRc hDc (sl_os h (i := 9) rfl) (sl_os h (i := 10) rfl) (by omega) (by omega) hCD)
        | (refine quiet_mem (f := 25) (args := [.os 9 (l.length + 1), .os 10 (D.length + 1)]) (V := .int .i64 (-1)) ?_ ?_; exact fun ρ w h => lchk_len (R ++ [r99]) (D ++ [entR D r99]) (-1) _ _ _ _ w hRc hDc (sl_os h (i := 9) rfl) (sl_os h (i := 10) rfl) (by omega) (by omega) hCD)
        | (refine seg_mem (f := 25) (args := [.os 9 (l.length + 1), .os 10 (D.length + 1)]) (V := .int .i64 (-1)) ?_ ?_; exact fun ρ w h => lchk_len (R ++ [r99]) (D ++ [entR D r99]) (-1) _ _ _ _ w hRc hDc (sl_os h (i := 9) rfl) (sl_os h (i := 10) rfl) (by omega) (by omega) hCD)
        | (refine call_mem (f := 24) (args := []) (V := .bool true) ?_ ?_; exact fun ρ w h => held_any w)
        | (refine quiet_mem (f := 24) (args := []) (V := .bool true) ?_ ?_; exact fun ρ w h => held_any w)
        | (refine seg_mem (f := 24) (args := []) (V := .bool true) ?_ ?_; exact fun ρ w h => held_any w)
        | refine Need.go (by first | omega | decide | (simp <;> omega) | fail) ?_
        | refine Need.go (by first | (simp [Value.oneCell'] <;> omega) | fail) ?_
        | refine Need.go ⟨rfl, by omega, getD_one rfl rfl⟩ ?_
        | refine Need.go ⟨rfl, by omega, fun _ _ _ _ => rfl⟩ ?_
        | refine Br.both (fun h => ?_) (fun h => ?_))
    all_goals (conv => whnf)
    all_goals exact ret_pure (fun _ => rfl)
  · subst hra hrb
    refine ⟨(R.set p _, R.set p _), ⟨⟨hA, by rw [List.length_set]; exact hRl⟩, hB, by rw [List.length_set]; exact hRl⟩, ?_⟩
    (conv => whnf)
    refine ⟨[some 0, some 1, some 2, some 3, some 4, some 5, some 6, some 7], by decide, ?_, ?_⟩
    all_goals repeat' (first | exact ⟨_, rfl, ⟨rfl, rfl, rfl⟩, recA_set (by omega)⟩ | exact ⟨_, rfl, ⟨rfl, rfl, rfl⟩, recB_set (z := 3) (by omega)⟩ | exact leT_junk rfl | refine And.intro ?_ ?_ | exact trivial | exact .inl ⟨rfl, rfl⟩ | rfl | exact .inr ⟨_, rfl, rfl, rfl⟩ | exact ⟨_, rfl, trivial⟩ | exact ⟨_, rfl, rfl⟩ | exact ⟨_, rfl, ⟨rfl, rfl, rfl⟩, fun _ _ _ _ => rfl⟩ | exact ⟨_, rfl, ⟨rfl, rfl, .inl rfl⟩, rfl⟩ | exact ⟨_, rfl, ⟨rfl, rfl, .inr rfl⟩, rfl⟩ | exact ⟨_, rfl, ⟨rfl, rfl, rfl, rfl, rfl⟩, rfl⟩ | exact ⟨_, rfl, ⟨rfl, rfl⟩, fun _ => Iff.rfl⟩ | refine ⟨_, rfl, rfl, ?_⟩ | refine ⟨_, rfl, ⟨rfl, rfl, rfl⟩, ?_⟩)
  · refine ⟨(R, R), ⟨⟨hz, hRl⟩, hz, hRl⟩, ?_⟩
    (conv => whnf)
    refine ⟨[some 0, some 1, some 2, some 3, some 4, some 5, some 6, some 7], by decide, ?_, ?_⟩
    all_goals repeat' (first | exact leT_junk rfl | refine And.intro ?_ ?_ | exact trivial | exact .inl ⟨rfl, rfl⟩ | rfl | exact .inr ⟨_, rfl, rfl, rfl⟩ | exact ⟨_, rfl, trivial⟩ | exact ⟨_, rfl, rfl⟩ | exact ⟨_, rfl, ⟨rfl, rfl, rfl⟩, fun _ _ _ _ => rfl⟩ | exact ⟨_, rfl, ⟨rfl, rfl, .inl rfl⟩, rfl⟩ | exact ⟨_, rfl, ⟨rfl, rfl, .inr rfl⟩, rfl⟩ | exact ⟨_, rfl, ⟨rfl, rfl, rfl, rfl, rfl⟩, rfl⟩ | exact ⟨_, rfl, ⟨rfl, rfl⟩, fun _ => Iff.rfl⟩ | refine ⟨_, rfl, rfl, ?_⟩ | refine ⟨_, rfl, ⟨rfl, rfl, rfl⟩, ?_⟩)
end Go.Proofs.Ytlphkjbadjdleaa.lawLinearWeaker
