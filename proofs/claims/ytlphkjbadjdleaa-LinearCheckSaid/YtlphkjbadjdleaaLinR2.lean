/-
  Calls held against a log, the document's: did, entries. No condition.
-/
import Derived.Test.YtlphkjbadjdleaaLinR1
namespace Go.Proofs.Ytlphkjbadjdleaa
theorem rlook_is (d : List EntM) (v : Value) (key : List UInt8) (n : Nat) (q : ResM) (w : World) (hv : SliceV w v 7 d.length (entF' d)) (hn : n ≤ d.length) (hd : d.length ≤ 4000) (hq : readN d key n = q) :
    Calls Try.prog 87 #[v, S key, .int .i64 n] w fun e w' => e = .returned (resV q) ∧ w.grownBy w' none := by
  subst hq
  exact rlook23 d v key n w hv hn hd
set_option maxRecDepth 100000 in
set_option maxHeartbeats 2000000 in
theorem rdid23 (d : List EntM) (v : Value) (i : Nat) (w : World) (hv : SliceV w v 7 d.length (entF' d)) (hi : i < d.length) (hd : d.length ≤ 4000) :
    Calls Try.prog 89 #[v, .int .i64 i] w fun e w' => e = .returned (resV (didN d i)) ∧ w.grownBy w' none := by
  have hv0 := hv
  obtain ⟨a, cap, rfl, h1, h2, hr⟩ := hv
  refine x_calls tabOK Try.func89 rfl [.rs 0 d.length cap, .v (.int .i64 i)] _ _ rfl rfl (relR1 hr) ?_
  have hdid : didN d i = (effM (findC (storeN d i) (d.getD i entZ).op.key) ((i : Int) + 1) (d.getD i entZ).op).2 := rfl
  rw [hdid]
  obtain ⟨c, hc⟩ : ∃ c, chkO (d.getD i entZ).op = c := ⟨_, rfl⟩
  have hk : c = 0 → 1 ≤ (d.getD i entZ).op.kind ∧ (d.getD i entZ).op.kind ≤ 4 := fun e => by
    have := chkO_0.1 (hc.trans e)
    exact ⟨this.1, this.2.1⟩
  rcases hf : findC (storeN d i) (d.getD i entZ).op.key with _ | ⟨val, ver⟩
  · have hrd : readN d (d.getD i entZ).op.key i = ⟨2, [], 0, i⟩ := by simp only [readN, hf, lookM]
    repeat' ((conv => whnf); first
        | refine CutN.plain ?_
        | with_reducible refine Br.tt ?_
        | with_reducible refine Br.ff ?_
        | with_reducible refine Br.nt ?_
        | with_reducible refine Br.nf ?_
        | with_reducible refine Br.eeI ?_
        | with_reducible refine Br.nnI ?_
        | refine Br.yes (by decide) ?_
        | refine Br.no (by decide) ?_
        | refine AppN.own ?_
        | refine Need.go rfl ?_
        | refine QuiD.quiet (by kernel_rfl) ?_
        | refine IdxN.lit ?_
        | refine draw_go tabOK (by kernel_rfl) ?_
        | refine Need.go ⟨rfl, rfl⟩ ?_
        | refine Need.go ⟨⟨rfl, rfl, rfl⟩, rfl⟩ ?_
        | (with_reducible refine Br.dec (fun h => ?_) (fun h => ?_); first | (rotate_left; exfalso; omega; clear h) | (exfalso; omega; clear h) | skip)
        | (with_reducible refine Br.eqI (fun h => ?_) (fun h => ?_); first | (rotate_left; exfalso; omega; clear h) | (exfalso; omega; clear h) | skip)
        | (with_reducible refine Br.neI (fun h => ?_) (fun h => ?_); first | (rotate_left; exfalso; omega; clear h) | (exfalso; omega; clear h) | skip)
        | (with_reducible refine Br.eqS (fun h => ?_) (fun h => ?_); first | (rotate_left; exfalso; omega; clear h) | (exfalso; omega; clear h) | skip)
        | (with_reducible refine Br.neS (fun h => ?_) (fun h => ?_); first | (rotate_left; exfalso; omega; clear h) | (exfalso; omega; clear h) | skip)
        | (with_reducible refine Br.nd (fun h => ?_) (fun h => ?_); first | (rotate_left; exfalso; omega; clear h) | (exfalso; omega; clear h) | skip)
        | refine Ar.i64 (by omega) (by omega) ?_
        | (refine call_mem (f := 65) (args := [.agg (mapRow (entF' d) (Int.toNat (i : Int)) 3 4)]) (V := .int .i64 c) ?_ ?_; exact fun ρ w h => rcheck_at (d.getD i entZ).op c w hc)
        | (refine quiet_mem (f := 65) (args := [.agg (mapRow (entF' d) (Int.toNat (i : Int)) 3 4)]) (V := .int .i64 c) ?_ ?_; exact fun ρ w h => rcheck_at (d.getD i entZ).op c w hc)
        | (refine seg_mem (f := 65) (args := [.agg (mapRow (entF' d) (Int.toNat (i : Int)) 3 4)]) (V := .int .i64 c) ?_ ?_; exact fun ρ w h => rcheck_at (d.getD i entZ).op c w hc)
        | (refine call_sv (f := 87) (args := [.rs 0 d.length cap, .v (S (d.getD i entZ).op.key), .v (.int .i64 i)]) (s := resS ⟨2, [], 0, i⟩) (fun _ => rfl) ?_ ?_; exact fun ρ w h => rlook_is d _ (d.getD i entZ).op.key i ⟨2, [], 0, i⟩ w (sl_rs h (i := 0) rfl (Nat.le_refl _) h1 h2) (by omega) hd hrd)
        | (refine seg_sv (f := 87) (args := [.rs 0 d.length cap, .v (S (d.getD i entZ).op.key), .v (.int .i64 i)]) (s := resS ⟨2, [], 0, i⟩) (fun _ => rfl) ?_ ?_; exact fun ρ w h => rlook_is d _ (d.getD i entZ).op.key i ⟨2, [], 0, i⟩ w (sl_rs h (i := 0) rfl (Nat.le_refl _) h1 h2) (by omega) hd hrd)
        | refine Need.go (by first | omega | decide | (simp <;> omega) | fail) ?_
        | refine Need.go (by first | (simp [Value.oneCell'] <;> omega) | fail) ?_
        | refine Need.go ⟨rfl, by omega, getD_one rfl rfl⟩ ?_
        | refine Need.go ⟨rfl, by omega, fun _ _ _ _ => rfl⟩ ?_
        | refine Br.both (fun h => ?_) (fun h => ?_))
    all_goals (conv => whnf)
    all_goals
      simp only [Int.toNat_natCast] at *
      refine ret_pure (fun _ => ?_)
      clear hdid hrd hr hv0
      simp only [effM, hc]
      (repeat' split) <;> simp_all [SV.den, SV.denL, resC, resZ, lookM] <;> omega
  · have hrd : readN d (d.getD i entZ).op.key i = ⟨1, val, ver, i⟩ := by simp only [readN, hf, lookM]
    repeat' ((conv => whnf); first
        | refine CutN.plain ?_
        | with_reducible refine Br.tt ?_
        | with_reducible refine Br.ff ?_
        | with_reducible refine Br.nt ?_
        | with_reducible refine Br.nf ?_
        | with_reducible refine Br.eeI ?_
        | with_reducible refine Br.nnI ?_
        | refine Br.yes (by decide) ?_
        | refine Br.no (by decide) ?_
        | refine AppN.own ?_
        | refine Need.go rfl ?_
        | refine QuiD.quiet (by kernel_rfl) ?_
        | refine IdxN.lit ?_
        | refine draw_go tabOK (by kernel_rfl) ?_
        | refine Need.go ⟨rfl, rfl⟩ ?_
        | refine Need.go ⟨⟨rfl, rfl, rfl⟩, rfl⟩ ?_
        | (with_reducible refine Br.dec (fun h => ?_) (fun h => ?_); first | (rotate_left; exfalso; omega; clear h) | (exfalso; omega; clear h) | skip)
        | (with_reducible refine Br.eqI (fun h => ?_) (fun h => ?_); first | (rotate_left; exfalso; omega; clear h) | (exfalso; omega; clear h) | skip)
        | (with_reducible refine Br.neI (fun h => ?_) (fun h => ?_); first | (rotate_left; exfalso; omega; clear h) | (exfalso; omega; clear h) | skip)
        | (with_reducible refine Br.eqS (fun h => ?_) (fun h => ?_); first | (rotate_left; exfalso; omega; clear h) | (exfalso; omega; clear h) | skip)
        | (with_reducible refine Br.neS (fun h => ?_) (fun h => ?_); first | (rotate_left; exfalso; omega; clear h) | (exfalso; omega; clear h) | skip)
        | (with_reducible refine Br.nd (fun h => ?_) (fun h => ?_); first | (rotate_left; exfalso; omega; clear h) | (exfalso; omega; clear h) | skip)
        | refine Ar.i64 (by omega) (by omega) ?_
        | (refine call_mem (f := 65) (args := [.agg (mapRow (entF' d) (Int.toNat (i : Int)) 3 4)]) (V := .int .i64 c) ?_ ?_; exact fun ρ w h => rcheck_at (d.getD i entZ).op c w hc)
        | (refine quiet_mem (f := 65) (args := [.agg (mapRow (entF' d) (Int.toNat (i : Int)) 3 4)]) (V := .int .i64 c) ?_ ?_; exact fun ρ w h => rcheck_at (d.getD i entZ).op c w hc)
        | (refine seg_mem (f := 65) (args := [.agg (mapRow (entF' d) (Int.toNat (i : Int)) 3 4)]) (V := .int .i64 c) ?_ ?_; exact fun ρ w h => rcheck_at (d.getD i entZ).op c w hc)
        | (refine call_sv (f := 87) (args := [.rs 0 d.length cap, .v (S (d.getD i entZ).op.key), .v (.int .i64 i)]) (s := resS ⟨1, val, ver, i⟩) (fun _ => rfl) ?_ ?_; exact fun ρ w h => rlook_is d _ (d.getD i entZ).op.key i ⟨1, val, ver, i⟩ w (sl_rs h (i := 0) rfl (Nat.le_refl _) h1 h2) (by omega) hd hrd)
        | (refine seg_sv (f := 87) (args := [.rs 0 d.length cap, .v (S (d.getD i entZ).op.key), .v (.int .i64 i)]) (s := resS ⟨1, val, ver, i⟩) (fun _ => rfl) ?_ ?_; exact fun ρ w h => rlook_is d _ (d.getD i entZ).op.key i ⟨1, val, ver, i⟩ w (sl_rs h (i := 0) rfl (Nat.le_refl _) h1 h2) (by omega) hd hrd)
        | refine Need.go (by first | omega | decide | (simp <;> omega) | fail) ?_
        | refine Need.go (by first | (simp [Value.oneCell'] <;> omega) | fail) ?_
        | refine Need.go ⟨rfl, by omega, getD_one rfl rfl⟩ ?_
        | refine Need.go ⟨rfl, by omega, fun _ _ _ _ => rfl⟩ ?_
        | refine Br.both (fun h => ?_) (fun h => ?_))
    all_goals (conv => whnf)
    all_goals
      simp only [Int.toNat_natCast] at *
      refine ret_pure (fun _ => ?_)
      clear hdid hrd hr hv0
      simp only [effM, hc]
      (repeat' split) <;> simp_all [SV.den, SV.denL, resC, resZ, lookM] <;> omega
/-- Where the entries of a client and Seq stand. -/
def entsN (d : List EntM) (c s : Int) (k : Nat) : List Int := ((List.range k).filter fun i => isOf c s (d.getD i entZ)).map fun i : Nat => (i : Int)
theorem entsN_succ (d : List EntM) (c s : Int) (k : Nat) : entsN d c s (k + 1) = entsN d c s k ++ if isOf c s (d.getD k entZ) = true then [(k : Int)] else [] := by
  unfold entsN
  rw [List.range_succ, List.filter_append, List.map_append]
  by_cases h : isOf c s (d.getD k entZ) = true <;> simp [h, -List.getD_eq_getElem?_getD]
theorem entsN_is (d : List EntM) (c s : Int) : ∀ k, k ≤ d.length → (entsN d c s k).length = countN (d.take k) c s ∧ (entsN d c s k).head? = (firstN (d.take k) c s).map fun i : Nat => (i : Int)
  | 0, _ => by simp [entsN, countN, firstN]
  | k + 1, hk => by
    obtain ⟨h1, h2⟩ := entsN_is d c s k (by omega)
    rw [entsN_succ, take_snoc (by omega), countN_snoc, firstN_snoc, List.length_append, List.head?_append, h1, h2]
    have e : (d.take k).length = k := by simp; omega
    rw [e]
    by_cases h : isOf c s (d.getD k entZ) = true
    · simp only [if_pos h]
      refine ⟨rfl, ?_⟩
      cases firstN (d.take k) c s <;> simp
    · simp only [if_neg h]
      refine ⟨rfl, ?_⟩
      cases firstN (d.take k) c s <;> simp
theorem entsN_len (d : List EntM) (c s : Int) : (entsN d c s d.length).length = countN d c s := by
  have := (entsN_is d c s d.length (Nat.le_refl _)).1
  rwa [List.take_length] at this
theorem entsN_first (d : List EntM) (c s : Int) {i : Nat} (h : firstN d c s = some i) : (entsN d c s d.length).getD 0 0 = (i : Int) := by
  have := (entsN_is d c s d.length (Nat.le_refl _)).2
  rw [List.take_length, h] at this
  rw [List.getD_eq_getElem?_getD, ← List.head?_eq_getElem?, this]
  rfl
theorem entsN_le (d : List EntM) (c s : Int) (k : Nat) : (entsN d c s k).length ≤ k := by
  unfold entsN
  rw [List.length_map]
  exact Nat.le_trans (List.length_filter_le _ _) (by simp)
def numF (zs : List Int) : Nat → Nat → Value := fun r _ => .int .i64 (zs.getD r 0)
theorem numF_snoc (xs : List Int) (x : Int) : ∀ r c, r < xs.length + 1 → c < 1 → rowsApp xs.length (numF xs) (fun r c => [Value.int .i64 x].getD (r * 1 + c) undef) r c = numF (xs ++ [x]) r c := fun r c hr hc => by
  unfold rowsApp numF
  obtain rfl : c = 0 := by omega
  by_cases h : r < xs.length
  · rw [if_pos h, getD_lt h]
  · rw [if_neg h, show r = xs.length by omega, getD_len, Nat.sub_self]
    rfl
abbrev numE (l : List Int) : HE := .own 3 1 l.length (numF l)
set_option maxRecDepth 100000 in
set_option maxHeartbeats 2000000 in
theorem rents23 (d : List EntM) (cap : Nat) (c s : Int) (hd : d.length ≤ 4000) : Spec Try.prog 88 [.rs 0 d.length cap, .v (.int .i64 c), .v (.int .i64 s)] [.row 7 d.length (entF' d)] fun x H1 => x = .os 1 (entsN d c s d.length).length ∧ H1 = [.row 7 d.length (entF' d)] ++ [numE (entsN d c s d.length)] := by
  refine spec_x Try.func88 rfl 1 rfl rfl fun w0 U => ?_
  repeat' ((conv => whnf); first
      | refine CutN.plain ?_
      | with_reducible refine Br.tt ?_
      | with_reducible refine Br.ff ?_
      | with_reducible refine Br.nt ?_
      | with_reducible refine Br.nf ?_
      | with_reducible refine Br.eeI ?_
      | with_reducible refine Br.nnI ?_
      | refine Br.yes (by decide) ?_
      | refine Br.no (by decide) ?_
      | refine AppN.own ?_
      | refine Need.go rfl ?_
      | refine QuiD.quiet (by kernel_rfl) ?_
      | refine IdxN.lit ?_
      | refine draw_go tabOK (by kernel_rfl) ?_
      | refine Need.go ⟨rfl, rfl⟩ ?_
      | refine Need.go ⟨⟨rfl, rfl, rfl⟩, rfl⟩ ?_
      | (with_reducible refine Br.dec (fun h => ?_) (fun h => ?_); first | (rotate_left; exfalso; omega; clear h) | (exfalso; omega; clear h) | skip)
      | (with_reducible refine Br.eqI (fun h => ?_) (fun h => ?_); first | (rotate_left; exfalso; omega; clear h) | (exfalso; omega; clear h) | skip)
      | (with_reducible refine Br.neI (fun h => ?_) (fun h => ?_); first | (rotate_left; exfalso; omega; clear h) | (exfalso; omega; clear h) | skip)
      | (with_reducible refine Br.eqS (fun h => ?_) (fun h => ?_); first | (rotate_left; exfalso; omega; clear h) | (exfalso; omega; clear h) | skip)
      | (with_reducible refine Br.neS (fun h => ?_) (fun h => ?_); first | (rotate_left; exfalso; omega; clear h) | (exfalso; omega; clear h) | skip)
      | (with_reducible refine Br.nd (fun h => ?_) (fun h => ?_); first | (rotate_left; exfalso; omega; clear h) | (exfalso; omega; clear h) | skip)
      | refine Ar.i64 (by omega) (by omega) ?_
      | refine Need.go (by first | omega | decide | (simp <;> omega) | fail) ?_
      | refine Need.go (by first | (simp [Value.oneCell'] <;> omega) | fail) ?_
      | refine Need.go ⟨rfl, by omega, getD_one rfl rfl⟩ ?_
      | refine Need.go ⟨rfl, by omega, fun _ _ _ _ => rfl⟩ ?_
      | refine Br.both (fun h => ?_) (fun h => ?_))
  all_goals (conv => whnf)
  refine loop_up 9 (fun i : Nat => i ≤ d.length) (fun i => d.length - i) (fun i => [(7, .os 1 (entsN d c s i).length), (8, .v (.int .i64 i))]) (fun _ => []) (fun i => [numE (entsN d c s i)]) 0 (Nat.zero_le _) (by
    (conv => whnf)
    refine ⟨[some 0, none], by decide, ?_, ?_⟩
    all_goals repeat' (first | exact .inr ⟨_, rfl, rfl, rfl⟩ | exact leT_junk rfl | refine And.intro ?_ ?_ | exact trivial | exact .inl ⟨rfl, rfl⟩ | rfl | exact .inr ⟨_, rfl, rfl, rfl⟩ | exact ⟨_, rfl, trivial⟩ | exact ⟨_, rfl, rfl⟩ | exact ⟨_, rfl, ⟨rfl, rfl, rfl⟩, fun _ _ _ _ => rfl⟩ | exact ⟨_, rfl, ⟨rfl, rfl, .inl rfl⟩, rfl⟩ | exact ⟨_, rfl, ⟨rfl, rfl, .inr rfl⟩, rfl⟩ | exact ⟨_, rfl, ⟨rfl, rfl, rfl, rfl, rfl⟩, rfl⟩ | exact ⟨_, rfl, ⟨rfl, rfl⟩, fun _ => Iff.rfl⟩ | refine ⟨_, rfl, rfl, ?_⟩ | refine ⟨_, rfl, ⟨rfl, rfl, rfl⟩, ?_⟩)) (fun i hi => ?_)
  have he := entsN_le d c s i
  by_cases hlt : i < d.length
  · have hs := entsN_succ d c s i
    repeat' ((conv => whnf); first
        | refine CutN.plain ?_
        | with_reducible refine Br.tt ?_
        | with_reducible refine Br.ff ?_
        | with_reducible refine Br.nt ?_
        | with_reducible refine Br.nf ?_
        | with_reducible refine Br.eeI ?_
        | with_reducible refine Br.nnI ?_
        | refine Br.yes (by decide) ?_
        | refine Br.no (by decide) ?_
        | refine AppN.own ?_
        | refine Need.go rfl ?_
        | refine QuiD.quiet (by kernel_rfl) ?_
        | refine IdxN.lit ?_
        | refine draw_go tabOK (by kernel_rfl) ?_
        | refine Need.go ⟨rfl, rfl⟩ ?_
        | refine Need.go ⟨⟨rfl, rfl, rfl⟩, rfl⟩ ?_
        | (with_reducible refine Br.dec (fun h => ?_) (fun h => ?_); first | (rotate_left; exfalso; omega; clear h) | (exfalso; omega; clear h) | skip)
        | (with_reducible refine Br.eqI (fun h => ?_) (fun h => ?_); first | (rotate_left; exfalso; omega; clear h) | (exfalso; omega; clear h) | skip)
        | (with_reducible refine Br.neI (fun h => ?_) (fun h => ?_); first | (rotate_left; exfalso; omega; clear h) | (exfalso; omega; clear h) | skip)
        | (with_reducible refine Br.eqS (fun h => ?_) (fun h => ?_); first | (rotate_left; exfalso; omega; clear h) | (exfalso; omega; clear h) | skip)
        | (with_reducible refine Br.neS (fun h => ?_) (fun h => ?_); first | (rotate_left; exfalso; omega; clear h) | (exfalso; omega; clear h) | skip)
        | (with_reducible refine Br.nd (fun h => ?_) (fun h => ?_); first | (rotate_left; exfalso; omega; clear h) | (exfalso; omega; clear h) | skip)
        | refine Ar.i64 (by omega) (by omega) ?_
        | refine Need.go ⟨rfl, rfl, rfl, by omega, (Nat.mul_le_mul_right _ (show (entsN d c s i).length + 1 ≤ 1000001 by omega)).trans (by decide)⟩ ?_
        | refine Need.go (by first | omega | decide | (simp <;> omega) | fail) ?_
        | refine Need.go (by first | (simp [Value.oneCell'] <;> omega) | fail) ?_
        | refine Need.go ⟨rfl, by omega, getD_one rfl rfl⟩ ?_
        | refine Need.go ⟨rfl, by omega, fun _ _ _ _ => rfl⟩ ?_
        | refine Br.both (fun h => ?_) (fun h => ?_))
    all_goals (conv => whnf)
    · simp only [Int.toNat_natCast] at *
      rw [if_pos (by simp_all [isOf])] at hs
      refine ⟨i + 1, by omega, by omega, ?_⟩
      (conv => whnf)
      rw [hs]
      refine ⟨[some 0, some 3], by decide, ?_, ?_⟩
      all_goals repeat' (first | exact .inl ⟨rfl, congrArg (SV.os 3) List.length_append⟩ | exact ⟨_, rfl, ⟨rfl, rfl, by simp⟩, fun r c hr hc => numF_snoc _ (i : Int) r c (by simpa using hr) hc⟩ | exact leT_junk rfl | refine And.intro ?_ ?_ | exact trivial | exact .inl ⟨rfl, rfl⟩ | rfl | exact .inr ⟨_, rfl, rfl, rfl⟩ | exact ⟨_, rfl, trivial⟩ | exact ⟨_, rfl, rfl⟩ | exact ⟨_, rfl, ⟨rfl, rfl, rfl⟩, fun _ _ _ _ => rfl⟩ | exact ⟨_, rfl, ⟨rfl, rfl, .inl rfl⟩, rfl⟩ | exact ⟨_, rfl, ⟨rfl, rfl, .inr rfl⟩, rfl⟩ | exact ⟨_, rfl, ⟨rfl, rfl, rfl, rfl, rfl⟩, rfl⟩ | exact ⟨_, rfl, ⟨rfl, rfl⟩, fun _ => Iff.rfl⟩ | refine ⟨_, rfl, rfl, ?_⟩ | refine ⟨_, rfl, ⟨rfl, rfl, rfl⟩, ?_⟩)
    all_goals
      simp only [Int.toNat_natCast] at *
      rw [if_neg (by simp_all [isOf]), List.append_nil] at hs
      refine ⟨i + 1, by omega, by omega, ?_⟩
      (conv => whnf)
      rw [hs]
      refine ⟨[some 0, some 1], by decide, ?_, ?_⟩
      all_goals repeat' (first | exact leT_junk rfl | refine And.intro ?_ ?_ | exact trivial | exact .inl ⟨rfl, rfl⟩ | rfl | exact .inr ⟨_, rfl, rfl, rfl⟩ | exact ⟨_, rfl, trivial⟩ | exact ⟨_, rfl, rfl⟩ | exact ⟨_, rfl, ⟨rfl, rfl, rfl⟩, fun _ _ _ _ => rfl⟩ | exact ⟨_, rfl, ⟨rfl, rfl, .inl rfl⟩, rfl⟩ | exact ⟨_, rfl, ⟨rfl, rfl, .inr rfl⟩, rfl⟩ | exact ⟨_, rfl, ⟨rfl, rfl, rfl, rfl, rfl⟩, rfl⟩ | exact ⟨_, rfl, ⟨rfl, rfl⟩, fun _ => Iff.rfl⟩ | refine ⟨_, rfl, rfl, ?_⟩ | refine ⟨_, rfl, ⟨rfl, rfl, rfl⟩, ?_⟩)
  · obtain rfl : i = d.length := by omega
    repeat' ((conv => whnf); first
        | refine CutN.plain ?_
        | with_reducible refine Br.tt ?_
        | with_reducible refine Br.ff ?_
        | with_reducible refine Br.nt ?_
        | with_reducible refine Br.nf ?_
        | with_reducible refine Br.eeI ?_
        | with_reducible refine Br.nnI ?_
        | refine Br.yes (by decide) ?_
        | refine Br.no (by decide) ?_
        | refine AppN.own ?_
        | refine Need.go rfl ?_
        | refine QuiD.quiet (by kernel_rfl) ?_
        | refine IdxN.lit ?_
        | refine draw_go tabOK (by kernel_rfl) ?_
        | refine Need.go ⟨rfl, rfl⟩ ?_
        | refine Need.go ⟨⟨rfl, rfl, rfl⟩, rfl⟩ ?_
        | (with_reducible refine Br.dec (fun h => ?_) (fun h => ?_); first | (rotate_left; exfalso; omega; clear h) | (exfalso; omega; clear h) | skip)
        | (with_reducible refine Br.eqI (fun h => ?_) (fun h => ?_); first | (rotate_left; exfalso; omega; clear h) | (exfalso; omega; clear h) | skip)
        | (with_reducible refine Br.neI (fun h => ?_) (fun h => ?_); first | (rotate_left; exfalso; omega; clear h) | (exfalso; omega; clear h) | skip)
        | (with_reducible refine Br.eqS (fun h => ?_) (fun h => ?_); first | (rotate_left; exfalso; omega; clear h) | (exfalso; omega; clear h) | skip)
        | (with_reducible refine Br.neS (fun h => ?_) (fun h => ?_); first | (rotate_left; exfalso; omega; clear h) | (exfalso; omega; clear h) | skip)
        | (with_reducible refine Br.nd (fun h => ?_) (fun h => ?_); first | (rotate_left; exfalso; omega; clear h) | (exfalso; omega; clear h) | skip)
        | refine Ar.i64 (by omega) (by omega) ?_
        | refine Need.go (by first | omega | decide | (simp <;> omega) | fail) ?_
        | refine Need.go (by first | (simp [Value.oneCell'] <;> omega) | fail) ?_
        | refine Need.go ⟨rfl, by omega, getD_one rfl rfl⟩ ?_
        | refine Need.go ⟨rfl, by omega, fun _ _ _ _ => rfl⟩ ?_
        | refine Br.both (fun h => ?_) (fun h => ?_))
    all_goals (conv => whnf)
    refine ⟨_, _, ⟨rfl, rfl⟩, by simp, ⟨rfl, trivial⟩, ⟨[some 0, some 1], ⟨by decide, rfl⟩, ?_, ?_⟩⟩
    all_goals repeat' (first | exact leT_junk rfl | refine And.intro ?_ ?_ | exact trivial | exact .inl ⟨rfl, rfl⟩ | rfl | exact .inr ⟨_, rfl, rfl, rfl⟩ | exact ⟨_, rfl, trivial⟩ | exact ⟨_, rfl, rfl⟩ | exact ⟨_, rfl, ⟨rfl, rfl, rfl⟩, fun _ _ _ _ => rfl⟩ | exact ⟨_, rfl, ⟨rfl, rfl, .inl rfl⟩, rfl⟩ | exact ⟨_, rfl, ⟨rfl, rfl, .inr rfl⟩, rfl⟩ | exact ⟨_, rfl, ⟨rfl, rfl, rfl, rfl, rfl⟩, rfl⟩ | exact ⟨_, rfl, ⟨rfl, rfl⟩, fun _ => Iff.rfl⟩ | refine ⟨_, rfl, rfl, ?_⟩ | refine ⟨_, rfl, ⟨rfl, rfl, rfl⟩, ?_⟩)
end Go.Proofs.Ytlphkjbadjdleaa
