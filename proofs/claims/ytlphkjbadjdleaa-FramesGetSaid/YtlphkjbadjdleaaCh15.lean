/-
  Chains: the document's Get. No condition.
-/
import Derived.Test.YtlphkjbadjdleaaPQ
namespace Go.Proofs.Ytlphkjbadjdleaa
open Go.RowKit
theorem numsF_len : ∀ (f : Nat) (l : List UInt8) (xs : List Int), numsF f l = some xs → xs.length ≤ l.length
  | 0, l, xs, h => by simp [numsF] at h
  | f + 1, l, xs, h => by
    unfold numsF at h
    split at h
    · simp only [Option.some.injEq] at h; subst h; simp
    · split at h
      · cases h
      · rename_i hu
        have hl := unintB_less hu
        rw [Option.map_eq_some_iff] at h
        obtain ⟨ys, hy, rfl⟩ := h
        have := numsF_len f _ ys hy
        simp only [List.length_cons]
        omega
theorem nums_len (l : List UInt8) : ((numsB l).getD []).length ≤ l.length := by
  rcases h : numsB l with _ | xs
  · simp
  · exact numsF_len _ _ _ h
theorem nums_n {w0 : World} {U : Nat → Prop} {H : List HE} {K : SV → List HE → Prop} (l : List UInt8) (xs : List Int) (hx : (numsB l).getD [] = xs) (hl : l.length ≤ 1000000)
    (hK : lenK H fun N => appK H (.own 3 1 xs.length (intF xs)) fun H' => K (.os N xs.length) H') : CallN Try.prog w0 U 99 [.v (S l)] H K :=
  call_ownL 3 1 xs.length (intF xs) (fun N => .os N xs.length) (fun v => v) (fun N ρ' v h => by subst h; rfl) (fun ρ w h => by have := numbers_any l w hl; rw [hx] at this; exact this) hK
def prM (xs : List Int) (k : Nat) : Int × Int := (xs.getD (2 + 2 * k) 0, xs.getD (3 + 2 * k) 0)
def prs (xs : List Int) (k : Nat) : List (Int × Int) := (List.range k).map (prM xs)
theorem prs_len (xs : List Int) (k : Nat) : (prs xs k).length = k := by simp [prs]
theorem prs_step (xs : List Int) (k : Nat) : prs xs (k + 1) = prs xs k ++ [prM xs k] := by simp [prs, List.range_succ]
theorem pairsF_prs : ∀ (m : Nat) (l : List Int), l.length = 2 * m → pairsF l = (List.range m).map fun k => (l.getD (2 * k) 0, l.getD (2 * k + 1) 0)
  | 0, l, h => by
    obtain rfl : l = [] := List.length_eq_zero_iff.1 (by omega)
    rfl
  | m + 1, l, h => by
    match l, h with
    | a :: b :: r, h =>
      simp only [List.length_cons] at h
      rw [pairsF, pairsF_prs m r (by omega), List.range_succ_eq_map]
      simp only [List.map_cons, List.map_map]
      congr 1
theorem ofNums_prs {xs : List Int} {m : Nat} (h : xs.length = 2 * m + 3) : ofNums xs = ⟨xs.getD 0 0, prs xs m, xs.getD (xs.length - 1) 0⟩ := by
  unfold ofNums
  rw [pairsF_prs m _ (by simp; omega)]
  congr 1
  unfold prs
  apply List.map_congr_left
  intro k hk
  have hk := List.mem_range.1 hk
  unfold prM
  have e : ∀ j, j < 2 * m → ((xs.drop 2).dropLast).getD j 0 = xs.getD (2 + j) 0 := fun j hj => by
    simp only [List.getD, List.getElem?_dropLast, List.length_drop, List.getElem?_drop]
    rw [if_pos (by omega)]
  rw [e _ (by omega), e _ (by omega)]
  congr 2
  omega
theorem prs_app (xs : List Int) (k : Nat) : ∀ r c, r < k + 1 → c < 2 → rowsApp k (memF (prs xs k)) (fun r c => [intF xs (2 + 2 * (k : Int)).toNat 0, intF xs (2 + 2 * (k : Int) + 1).toNat 0].getD (r * 2 + c) undef) r c = memF (prs xs (k + 1)) r c := by
  have h := memF_snoc (prs xs k) (prM xs k).1 (prM xs k).2
  rw [prs_len] at h
  rw [prs_step]
  have e1 : (2 + 2 * (k : Int)).toNat = 2 + 2 * k := by omega
  have e2 : (2 + 2 * (k : Int) + 1).toNat = 3 + 2 * k := by omega
  rw [e1, e2]
  exact h
set_option maxRecDepth 100000 in
set_option maxHeartbeats 1000000 in
theorem chRget_any (l : List UInt8) (w : World) (hl : l.length ≤ 1000000) :
    Calls Try.prog 76 #[S l] w (OutCh w (getM l)) := by
  rw [← rgetM_eq]
  refine x_calls tabOK Try.func76 rfl [.v (S l)] _ _ rfl rfl (rel0 w) ?_
  generalize hx : (numsB l).getD [] = xs
  have hxl := nums_len l
  rw [hx] at hxl
  by_cases hb : xs.length < 5 ∨ xs.length % 2 = 0
  · have e : rgetM l = (chZ, 10) := by unfold rgetM; rw [hx, if_pos hb]
    rw [e]
    repeat' ((conv => whnf); first | refine CutN.plain ?_ | refine Need.go rfl ?_ | refine draw_go tabOK (by kernel_rfl) ?_ | with_reducible refine Br.dec (fun h => ?_) (fun h => ?_) | with_reducible refine Br.eqI (fun h => ?_) (fun h => ?_) | refine Ar.i64 (by omega) (by omega) ?_ | (refine nums_n l xs hx hl ?_) | refine Need.go (by first | omega | decide | (simp <;> omega) | fail) ?_)
    all_goals (conv => whnf)
    all_goals first
      | exact fun ρ w' h => outCh_nil rfl (fr_none h.at.fr)
      | (exfalso; omega)
  · obtain ⟨m, hm⟩ : ∃ m, xs.length = 2 * m + 3 := ⟨(xs.length - 3) / 2, by omega⟩
    repeat' ((conv => whnf); first | refine CutN.plain ?_ | refine Need.go rfl ?_ | refine draw_go tabOK (by kernel_rfl) ?_ | with_reducible refine Br.dec (fun h => ?_) (fun h => ?_) | with_reducible refine Br.eqI (fun h => ?_) (fun h => ?_) | refine Ar.i64 (by omega) (by omega) ?_ | (refine nums_n l xs hx hl ?_) | refine Need.go (by first | omega | decide | (simp <;> omega) | fail) ?_)
    all_goals (conv => whnf)
    all_goals first
      | (exfalso; omega)
      | skip
    refine loop_up 31 (fun k : Nat => k ≤ m) (fun k => m - k) (fun k => [(7, .v (.int .i64 (2 + 2 * (k : Int))))]) (fun k => [(2, .cells [(1, .os 3 k)])]) (fun k => [.own 145 2 k (memF (prs xs k))]) 0 (Nat.zero_le _) (by
      (conv => whnf)
      refine ⟨[some 0, some 1, some 2, none], by decide, ?_, ?_⟩
      all_goals repeat' (first | exact .inr ⟨3, rfl, rfl, rfl⟩ | exact leT_junk rfl | refine And.intro ?_ ?_ | exact trivial | exact .inl ⟨rfl, rfl⟩ | rfl | exact .inr ⟨_, rfl, rfl, rfl⟩ | exact ⟨_, rfl, trivial⟩ | exact ⟨_, rfl, rfl⟩ | exact ⟨_, rfl, ⟨rfl, rfl, rfl⟩, fun _ _ _ _ => rfl⟩ | exact ⟨_, rfl, ⟨rfl, rfl, .inl rfl⟩, rfl⟩ | exact ⟨_, rfl, ⟨rfl, rfl, .inr rfl⟩, rfl⟩ | exact ⟨_, rfl, ⟨rfl, rfl, rfl, rfl, rfl⟩, rfl⟩ | exact ⟨_, rfl, ⟨rfl, rfl⟩, fun _ => Iff.rfl⟩ | refine ⟨_, rfl, rfl, ?_⟩)) (fun k hk => ?_)
    have hz : ((xs.length : Int) - 1).toNat = xs.length - 1 := by omega
    generalize hput : putM ⟨xs.getD 0 0, prs xs m, xs.getD ((xs.length : Int) - 1).toNat 0⟩ = tp
    obtain ⟨tx, er⟩ := tp
    have hrg : rgetM l = if okCh (ofNums xs) = true ∧ (putM (ofNums xs)).1 = l then (ofNums xs, 0) else (chZ, 10) := by unfold rgetM; rw [hx, if_neg hb]
    rw [ofNums_prs hm, ← hz, hput] at hrg
    repeat' ((conv => whnf); first | refine CutN.plain ?_ | refine Need.go rfl ?_ | refine draw_go tabOK (by kernel_rfl) ?_ | with_reducible refine Br.dec (fun h => ?_) (fun h => ?_) | refine Ar.i64 (by omega) (by omega) ?_ | refine Need.go (by first | omega | decide | (simp <;> omega) | fail) ?_ | refine Need.go ⟨rfl, by omega, getD_one rfl rfl⟩ ?_)
    all_goals (conv => whnf)
    · refine ⟨k + 1, by omega, by omega, ?_⟩
      (conv => whnf)
      refine ⟨[some 0, some 1, some 2, some 5], by decide, ?_, ?_⟩
      all_goals repeat' (first | exact .inl ⟨rfl, rfl⟩ | (exact congrArg (fun z => SV.v (.int .i64 z)) (by push_cast; omega)) | (exact ⟨_, rfl, ⟨rfl, rfl, rfl⟩, fun r c hr hc => (prs_app xs k r c hr hc)⟩) | exact leT_junk rfl | refine And.intro ?_ ?_ | exact trivial | exact .inl ⟨rfl, rfl⟩ | rfl | exact .inr ⟨_, rfl, rfl, rfl⟩ | exact ⟨_, rfl, trivial⟩ | exact ⟨_, rfl, rfl⟩ | exact ⟨_, rfl, ⟨rfl, rfl, rfl⟩, fun _ _ _ _ => rfl⟩ | exact ⟨_, rfl, ⟨rfl, rfl, .inl rfl⟩, rfl⟩ | exact ⟨_, rfl, ⟨rfl, rfl, .inr rfl⟩, rfl⟩ | exact ⟨_, rfl, ⟨rfl, rfl, rfl, rfl, rfl⟩, rfl⟩ | exact ⟨_, rfl, ⟨rfl, rfl⟩, fun _ => Iff.rfl⟩ | refine ⟨_, rfl, rfl, ?_⟩)
    · obtain rfl : k = m := by omega
      repeat' ((conv => whnf); first | refine CutN.plain ?_ | refine Need.go rfl ?_ | with_reducible refine Br.neI (fun h => ?_) (fun h => ?_) | with_reducible refine Br.neS (fun h => ?_) (fun h => ?_) | (refine call_mem (f := 100) (args := [chS ⟨xs.getD 0 0, prs xs k, xs.getD ((xs.length : Int) - 1).toNat 0⟩ (.os 3 _)]) (V := .tuple #[S tx, .int .i64 er]) ?_ ?_; exact fun ρ w h => (by have := chRput_any ⟨xs.getD 0 0, prs xs k, xs.getD ((xs.length : Int) - 1).toNat 0⟩ _ w (sl_lit h (i := 3) (prs xs k) rfl (by simp only [prs_len]) rfl (fun _ _ _ _ => rfl)) (by simp only [prs_len]; omega); rw [hput] at this; exact this)))
      all_goals (conv => whnf)
      · have hok : okCh ⟨xs.getD 0 0, prs xs k, xs.getD ((xs.length : Int) - 1).toNat 0⟩ = false := by
          simp only [putM] at hput
          split at hput
          · cases hput; exact absurd rfl ‹_›
          · exact Bool.eq_false_iff.2 ‹_›
        rw [hrg, hok, if_neg (fun x => by cases x.1)]
        exact fun ρ w' h => outCh_nil rfl (fr_none h.at.fr)
      · rw [hrg, if_neg (fun x => absurd x.2 h)]
        exact fun ρ w' h => outCh_nil rfl (fr_none h.at.fr)
      · have hok : okCh ⟨xs.getD 0 0, prs xs k, xs.getD ((xs.length : Int) - 1).toNat 0⟩ = true := by
          simp only [putM] at hput
          split at hput
          · assumption
          · simp_all
        rw [hrg, if_pos ⟨hok, h⟩]
        exact fun ρ' w' hr => ⟨(SV.os 3 _).den ρ', rfl, owns_congr (own_out (i := 3) hr rfl) (prs_len xs k).symm (fun _ _ _ _ => rfl), fr_none hr.at.fr⟩
theorem getM_len (l : List UInt8) : (getM l).1.mem.length ≤ 6 := by
  rcases getM_form l with h | ⟨c, h, hc, _⟩
  · rw [h]; simp [chZ]
  · rw [h]; exact (okCh_len hc).2.1
end Go.Proofs.Ytlphkjbadjdleaa
