/-
  Chains: the document's at, and Check. No condition.
-/
import Derived.Test.YtcogbepdjegheaaCh2
namespace Go.Proofs.Ytcogbepdjegheaa
theorem atM_ge (ms : List (Int × Int)) (n : Int) : -1 ≤ atM ms n := by
  unfold atM
  split <;> omega
theorem atM_self {ms : List (Int × Int)} {k : Nat} (hk : k < ms.length) (h : ∀ j, j < k → ¬ (ms.getD j (0, 0)).1 = (ms.getD k (0, 0)).1) : atM ms (ms.getD k (0, 0)).1 = k := atM_some hk rfl h
theorem atM_dup {ms : List (Int × Int)} {j k : Nat} (hk : k < ms.length) (hj : j < k) (h : (ms.getD j (0, 0)).1 = (ms.getD k (0, 0)).1) : ¬ atM ms (ms.getD k (0, 0)).1 = k := by
  intro e
  unfold atM at e
  split at e
  · rename_i i hi
    rw [List.findIdx?_eq_some_iff_getElem] at hi
    obtain ⟨h1, h2, h3⟩ := hi
    have := h3 j (by omega)
    have hjl : j < ms.length := by omega
    simp [List.getD, hjl, hk] at h
    simp [hk, h] at this
  · omega
set_option maxRecDepth 100000 in
set_option maxHeartbeats 1000000 in
theorem rat_any (c : ChM) (p : Value) (n : Int) (w : World) (hp : ChSl w p c) (hl : c.mem.length ≤ 1000000) :
    Calls Try.prog 65 #[chV c p, .int .i64 n] w fun e w' => e = .returned (.int .i64 (atM c.mem n)) ∧ w.grownBy w' none := by
  obtain ⟨a, cap, rfl, h1, h2, hr⟩ := hp
  refine x_calls tabOK Try.func65 rfl [chS c (.rs 0 c.mem.length cap), .v (.int .i64 n)] _ _ rfl rfl (relR1 hr) ?_
  repeat' ((conv => whnf); first
      | refine Need.go rfl ?_
      | refine QuiD.quiet (by kernel_rfl) ?_
      | refine draw_go tabOK (by kernel_rfl) ?_
      | refine Need.go ⟨rfl, rfl⟩ ?_
      | refine Need.go ⟨⟨rfl, rfl, rfl⟩, rfl⟩ ?_
      | with_reducible refine Br.dec (fun h => ?_) (fun h => ?_)
      | with_reducible refine Br.eqI (fun h => ?_) (fun h => ?_)
      | with_reducible refine Br.neI (fun h => ?_) (fun h => ?_)
      | with_reducible refine Br.eqS (fun h => ?_) (fun h => ?_)
      | with_reducible refine Br.neS (fun h => ?_) (fun h => ?_)
      | with_reducible refine Br.nd (fun h => ?_) (fun h => ?_)
      | refine Ar.i64 (by omega) (by omega) ?_
      | refine Need.go (by first | omega | decide | (simp <;> omega) | fail) ?_
      | refine Need.go (by first | (simp [Value.oneCell'] <;> omega) | fail) ?_
      | refine Need.go ⟨rfl, by omega, getD_one rfl rfl⟩ ?_
      | refine Need.go ⟨rfl, by omega, fun _ _ _ _ => rfl⟩ ?_
      | refine Br.both (fun h => ?_) (fun h => ?_))
  (conv => whnf)
  refine loop_up 6 (fun k : Nat => k ≤ c.mem.length ∧ ∀ j, j < k → ¬ (c.mem.getD j (0, 0)).1 = n) (fun k => c.mem.length - k) (fun k => [(5, .v (.int .i64 k))]) (fun _ => []) (fun _ => []) 0 ⟨Nat.zero_le _, fun j h => absurd h (by omega)⟩ (by
    (conv => whnf)
    refine ⟨[some 0, some 1], by decide, ?_, ?_⟩
    all_goals repeat' (first | exact trivial | exact .inl ⟨rfl, rfl⟩ | rfl | exact .inr ⟨_, rfl, rfl, rfl⟩ | exact ⟨_, rfl, trivial⟩ | exact ⟨_, rfl, rfl⟩ | exact ⟨_, rfl, ⟨rfl, rfl, rfl⟩, fun _ _ _ _ => rfl⟩ | exact ⟨_, rfl, ⟨rfl, rfl, .inl rfl⟩, rfl⟩ | exact ⟨_, rfl, ⟨rfl, rfl, .inr rfl⟩, rfl⟩ | exact ⟨_, rfl, ⟨rfl, rfl, rfl, rfl, rfl⟩, rfl⟩ | refine ⟨_, rfl, rfl, ?_⟩ | refine ⟨_, rfl, ⟨rfl, rfl, rfl⟩, ?_⟩ | refine And.intro ?_ ?_)) (fun k hk => ?_)
  obtain ⟨hk, hs⟩ := hk
  repeat' ((conv => whnf); first
      | refine Need.go rfl ?_
      | refine QuiD.quiet (by kernel_rfl) ?_
      | refine draw_go tabOK (by kernel_rfl) ?_
      | refine Need.go ⟨rfl, rfl⟩ ?_
      | refine Need.go ⟨⟨rfl, rfl, rfl⟩, rfl⟩ ?_
      | with_reducible refine Br.dec (fun h => ?_) (fun h => ?_)
      | with_reducible refine Br.eqI (fun h => ?_) (fun h => ?_)
      | with_reducible refine Br.neI (fun h => ?_) (fun h => ?_)
      | with_reducible refine Br.eqS (fun h => ?_) (fun h => ?_)
      | with_reducible refine Br.neS (fun h => ?_) (fun h => ?_)
      | with_reducible refine Br.nd (fun h => ?_) (fun h => ?_)
      | refine Ar.i64 (by omega) (by omega) ?_
      | refine Need.go (by first | omega | decide | (simp <;> omega) | fail) ?_
      | refine Need.go (by first | (simp [Value.oneCell'] <;> omega) | fail) ?_
      | refine Need.go ⟨rfl, by omega, getD_one rfl rfl⟩ ?_
      | refine Need.go ⟨rfl, by omega, fun _ _ _ _ => rfl⟩ ?_
      | refine Br.both (fun h => ?_) (fun h => ?_))
  all_goals (conv => whnf)
  · have h : (c.mem.getD k (0, 0)).1 = n := h
    exact ret_pure (fun _ => by rw [atM_some (by omega) h hs]; rfl)
  · have h : ¬ (c.mem.getD k (0, 0)).1 = n := h
    refine ⟨k + 1, ⟨by omega, fun j hj => ?_⟩, by omega, ?_⟩
    · rcases Nat.lt_or_ge j k with e | e
      · exact hs j e
      · rw [show j = k by omega]; exact h
    · (conv => whnf)
      refine ⟨[some 0, some 1], by decide, ?_, ?_⟩
      all_goals repeat' (first | exact trivial | exact .inl ⟨rfl, rfl⟩ | rfl | exact .inr ⟨_, rfl, rfl, rfl⟩ | exact ⟨_, rfl, trivial⟩ | exact ⟨_, rfl, rfl⟩ | exact ⟨_, rfl, ⟨rfl, rfl, rfl⟩, fun _ _ _ _ => rfl⟩ | exact ⟨_, rfl, ⟨rfl, rfl, .inl rfl⟩, rfl⟩ | exact ⟨_, rfl, ⟨rfl, rfl, .inr rfl⟩, rfl⟩ | exact ⟨_, rfl, ⟨rfl, rfl, rfl, rfl, rfl⟩, rfl⟩ | refine ⟨_, rfl, rfl, ?_⟩ | refine ⟨_, rfl, ⟨rfl, rfl, rfl⟩, ?_⟩ | refine And.intro ?_ ?_)
  · exact ret_pure (fun _ => by rw [atM_none (fun j hj => hs j (by omega))]; rfl)
set_option maxRecDepth 100000 in
set_option maxHeartbeats 1000000 in
theorem rchCheck_any (c : ChM) (p : Value) (w : World) (hp : ChSl w p c) (hl : c.mem.length ≤ 1000000) :
    Calls Try.prog 47 #[chV c p] w fun e w' => e = .returned (errC (okCh c)) ∧ w.grownBy w' none := by
  obtain ⟨a, cap, rfl, h1, h2, hr⟩ := hp
  refine x_calls tabOK Try.func47 rfl [chS c (.rs 0 c.mem.length cap)] _ _ rfl rfl (relR1 hr) ?_
  repeat' ((conv => whnf); first
      | refine Need.go rfl ?_
      | refine QuiD.quiet (by kernel_rfl) ?_
      | refine draw_go tabOK (by kernel_rfl) ?_
      | refine Need.go ⟨rfl, rfl⟩ ?_
      | refine Need.go ⟨⟨rfl, rfl, rfl⟩, rfl⟩ ?_
      | with_reducible refine Br.dec (fun h => ?_) (fun h => ?_)
      | with_reducible refine Br.eqI (fun h => ?_) (fun h => ?_)
      | with_reducible refine Br.neI (fun h => ?_) (fun h => ?_)
      | with_reducible refine Br.eqS (fun h => ?_) (fun h => ?_)
      | with_reducible refine Br.neS (fun h => ?_) (fun h => ?_)
      | with_reducible refine Br.nd (fun h => ?_) (fun h => ?_)
      | refine Ar.i64 (by omega) (by omega) ?_
      | refine Need.go (by first | omega | decide | (simp <;> omega) | fail) ?_
      | refine Need.go (by first | (simp [Value.oneCell'] <;> omega) | fail) ?_
      | refine Need.go ⟨rfl, by omega, getD_one rfl rfl⟩ ?_
      | refine Need.go ⟨rfl, by omega, fun _ _ _ _ => rfl⟩ ?_
      | refine Br.both (fun h => ?_) (fun h => ?_))
  all_goals (conv => whnf)
  any_goals (refine ret_pure (fun _ => ?_); have e : okCh c = false := (by simp only [okCh, Bool.and_eq_false_iff, decide_eq_false_iff_not]; omega); rw [e]; rfl)
  refine loop_up 26 (fun k : Nat => k ≤ c.mem.length ∧ memsOk c k = true) (fun k => c.mem.length - k) (fun k => [(3, .v (.int .i64 k)), (4, .junk), (5, .junk)]) (fun _ => []) (fun _ => []) 0 ⟨Nat.zero_le _, rfl⟩ (by
    (conv => whnf)
    refine ⟨[some 0, some 1], by decide, ?_, ?_⟩
    all_goals repeat' (first | exact trivial | exact .inl ⟨rfl, rfl⟩ | rfl | exact .inr ⟨_, rfl, rfl, rfl⟩ | exact ⟨_, rfl, trivial⟩ | exact ⟨_, rfl, rfl⟩ | exact ⟨_, rfl, ⟨rfl, rfl, rfl⟩, fun _ _ _ _ => rfl⟩ | exact ⟨_, rfl, ⟨rfl, rfl, .inl rfl⟩, rfl⟩ | exact ⟨_, rfl, ⟨rfl, rfl, .inr rfl⟩, rfl⟩ | exact ⟨_, rfl, ⟨rfl, rfl, rfl, rfl, rfl⟩, rfl⟩ | refine ⟨_, rfl, rfl, ?_⟩ | refine ⟨_, rfl, ⟨rfl, rfl, rfl⟩, ?_⟩ | refine And.intro ?_ ?_)) (fun k hk => ?_)
  obtain ⟨hk, hs⟩ := hk
  repeat' ((conv => whnf); first
      | refine Need.go rfl ?_
      | refine QuiD.quiet (by kernel_rfl) ?_
      | refine draw_go tabOK (by kernel_rfl) ?_
      | refine Need.go ⟨rfl, rfl⟩ ?_
      | refine Need.go ⟨⟨rfl, rfl, rfl⟩, rfl⟩ ?_
      | with_reducible refine Br.dec (fun h => ?_) (fun h => ?_)
      | with_reducible refine Br.eqI (fun h => ?_) (fun h => ?_)
      | with_reducible refine Br.neI (fun h => ?_) (fun h => ?_)
      | with_reducible refine Br.eqS (fun h => ?_) (fun h => ?_)
      | with_reducible refine Br.neS (fun h => ?_) (fun h => ?_)
      | with_reducible refine Br.nd (fun h => ?_) (fun h => ?_)
      | refine Ar.i64 (by omega) (by omega) ?_
      | refine Need.go (by first | omega | decide | (simp <;> omega) | fail) ?_
      | refine Need.go (by first | (simp [Value.oneCell'] <;> omega) | fail) ?_
      | refine Need.go ⟨rfl, by omega, getD_one rfl rfl⟩ ?_
      | refine Need.go ⟨rfl, by omega, fun _ _ _ _ => rfl⟩ ?_
      | refine Br.both (fun h => ?_) (fun h => ?_))
  all_goals (conv => whnf)
  all_goals (try simp only [Int.toNat_natCast] at *)
  any_goals
    (refine ret_pure (fun _ => ?_)
     have e : okCh c = false := okCh_mem (k := k) (by omega) (by simp only [memOk, Bool.and_eq_false_iff, decide_eq_false_iff_not]; omega)
     rw [e]; rfl)
  · refine loop_up 26 (fun j : Nat => j ≤ k ∧ ∀ i, i < j → ¬ (c.mem.getD i (0, 0)).1 = (c.mem.getD k (0, 0)).1) (fun j => k - j) (fun j => [(5, .v (.int .i64 j))]) (fun _ => []) (fun _ => []) 0 ⟨Nat.zero_le _, fun j h => absurd h (by omega)⟩ (by
      (conv => whnf)
      refine ⟨[some 0, some 1, some 2], by decide, ?_, ?_⟩
      all_goals repeat' (first | exact trivial | exact .inl ⟨rfl, rfl⟩ | rfl | exact .inr ⟨_, rfl, rfl, rfl⟩ | exact ⟨_, rfl, trivial⟩ | exact ⟨_, rfl, rfl⟩ | exact ⟨_, rfl, ⟨rfl, rfl, rfl⟩, fun _ _ _ _ => rfl⟩ | exact ⟨_, rfl, ⟨rfl, rfl, .inl rfl⟩, rfl⟩ | exact ⟨_, rfl, ⟨rfl, rfl, .inr rfl⟩, rfl⟩ | exact ⟨_, rfl, ⟨rfl, rfl, rfl, rfl, rfl⟩, rfl⟩ | refine ⟨_, rfl, rfl, ?_⟩ | refine ⟨_, rfl, ⟨rfl, rfl, rfl⟩, ?_⟩ | refine And.intro ?_ ?_)) (fun j hj => ?_)
    obtain ⟨hj, hd⟩ := hj
    repeat' ((conv => whnf); first
        | refine Need.go rfl ?_
        | refine QuiD.quiet (by kernel_rfl) ?_
        | refine draw_go tabOK (by kernel_rfl) ?_
        | refine Need.go ⟨rfl, rfl⟩ ?_
        | refine Need.go ⟨⟨rfl, rfl, rfl⟩, rfl⟩ ?_
        | with_reducible refine Br.dec (fun h => ?_) (fun h => ?_)
        | with_reducible refine Br.eqI (fun h => ?_) (fun h => ?_)
        | with_reducible refine Br.neI (fun h => ?_) (fun h => ?_)
        | with_reducible refine Br.eqS (fun h => ?_) (fun h => ?_)
        | with_reducible refine Br.neS (fun h => ?_) (fun h => ?_)
        | with_reducible refine Br.nd (fun h => ?_) (fun h => ?_)
        | refine Ar.i64 (by omega) (by omega) ?_
        | refine Need.go (by first | omega | decide | (simp <;> omega) | fail) ?_
        | refine Need.go (by first | (simp [Value.oneCell'] <;> omega) | fail) ?_
        | refine Need.go ⟨rfl, by omega, getD_one rfl rfl⟩ ?_
        | refine Need.go ⟨rfl, by omega, fun _ _ _ _ => rfl⟩ ?_
        | refine Br.both (fun h => ?_) (fun h => ?_))
    all_goals (conv => whnf)
    all_goals (try simp only [Int.toNat_natCast] at *)
    · rename_i hj1 hj2
      refine ret_pure (fun _ => ?_)
      have e : okCh c = false := okCh_mem (k := k) (by omega) (by simp only [memOk, Bool.and_eq_false_iff, decide_eq_false_iff_not]; exact .inr (.inr (.inl (by have := atM_dup (ms := c.mem) (j := j) (k := k) (by omega) (by omega) h; omega))))
      rw [e]; rfl
    · rename_i hn _
      refine ⟨j + 1, ⟨by omega, fun i hi => ?_⟩, by omega, ?_⟩
      · rcases Nat.lt_or_ge i j with e | e
        · exact hd i e
        · rw [show i = j by omega]; exact h
      · (conv => whnf)
        refine ⟨[some 0, some 1, some 2], by decide, ?_, ?_⟩
        all_goals repeat' (first | exact trivial | exact .inl ⟨rfl, rfl⟩ | rfl | exact .inr ⟨_, rfl, rfl, rfl⟩ | exact ⟨_, rfl, trivial⟩ | exact ⟨_, rfl, rfl⟩ | exact ⟨_, rfl, ⟨rfl, rfl, rfl⟩, fun _ _ _ _ => rfl⟩ | exact ⟨_, rfl, ⟨rfl, rfl, .inl rfl⟩, rfl⟩ | exact ⟨_, rfl, ⟨rfl, rfl, .inr rfl⟩, rfl⟩ | exact ⟨_, rfl, ⟨rfl, rfl, rfl, rfl, rfl⟩, rfl⟩ | refine ⟨_, rfl, rfl, ?_⟩ | refine ⟨_, rfl, ⟨rfl, rfl, rfl⟩, ?_⟩ | refine And.intro ?_ ?_)
    · have e := atM_self (ms := c.mem) (k := k) (by omega) (fun i hi => hd i (by omega))
      refine ⟨k + 1, ⟨by omega, by rw [memsOk_step, hs]; simp only [memOk, Bool.true_and, Bool.and_eq_true, decide_eq_true_eq]; omega⟩, by omega, ?_⟩
      (conv => whnf)
      refine ⟨[some 0, some 1], by decide, ?_, ?_⟩
      all_goals repeat' (first | exact trivial | exact .inl ⟨rfl, rfl⟩ | rfl | exact .inr ⟨_, rfl, rfl, rfl⟩ | exact ⟨_, rfl, trivial⟩ | exact ⟨_, rfl, rfl⟩ | exact ⟨_, rfl, ⟨rfl, rfl, rfl⟩, fun _ _ _ _ => rfl⟩ | exact ⟨_, rfl, ⟨rfl, rfl, .inl rfl⟩, rfl⟩ | exact ⟨_, rfl, ⟨rfl, rfl, .inr rfl⟩, rfl⟩ | exact ⟨_, rfl, ⟨rfl, rfl, rfl, rfl, rfl⟩, rfl⟩ | refine ⟨_, rfl, rfl, ?_⟩ | refine ⟨_, rfl, ⟨rfl, rfl, rfl⟩, ?_⟩ | refine And.intro ?_ ?_)
  all_goals
    have e := okCh_end (c := c) (by omega) (by omega) (by omega) (by omega) (by rw [show c.mem.length = k by omega]; exact hs)
  · repeat' ((conv => whnf); first
      | refine Need.go rfl ?_
      | refine QuiD.quiet (by kernel_rfl) ?_
      | refine draw_go tabOK (by kernel_rfl) ?_
      | refine Need.go ⟨rfl, rfl⟩ ?_
      | refine Need.go ⟨⟨rfl, rfl, rfl⟩, rfl⟩ ?_
      | with_reducible refine Br.dec (fun h => ?_) (fun h => ?_)
      | with_reducible refine Br.eqI (fun h => ?_) (fun h => ?_)
      | with_reducible refine Br.neI (fun h => ?_) (fun h => ?_)
      | with_reducible refine Br.eqS (fun h => ?_) (fun h => ?_)
      | with_reducible refine Br.neS (fun h => ?_) (fun h => ?_)
      | with_reducible refine Br.nd (fun h => ?_) (fun h => ?_)
      | refine Ar.i64 (by omega) (by omega) ?_
      | (refine call_mem (f := 65) (args := [chS c (.rs 0 _ _), _]) (V := .int .i64 (atM c.mem c.drain)) ?_ ?_; exact fun ρ w h => rat_any c _ _ w (sl_rs h (i := 0) rfl (Nat.le_refl _) h1 h2) hl)
      | (refine quiet_mem (f := 65) (args := [chS c (.rs 0 _ _), _]) (V := .int .i64 (atM c.mem c.drain)) ?_ ?_; exact fun ρ w h => rat_any c _ _ w (sl_rs h (i := 0) rfl (Nat.le_refl _) h1 h2) hl)
      | (refine seg_mem (f := 65) (args := [chS c (.rs 0 _ _), _]) (V := .int .i64 (atM c.mem c.drain)) ?_ ?_; exact fun ρ w h => rat_any c _ _ w (sl_rs h (i := 0) rfl (Nat.le_refl _) h1 h2) hl)
      | refine Need.go (by first | omega | decide | (simp <;> omega) | fail) ?_
      | refine Need.go (by first | (simp [Value.oneCell'] <;> omega) | fail) ?_
      | refine Need.go ⟨rfl, by omega, getD_one rfl rfl⟩ ?_
      | refine Need.go ⟨rfl, by omega, fun _ _ _ _ => rfl⟩ ?_
      | refine Br.both (fun h => ?_) (fun h => ?_))
    all_goals (conv => whnf)
    · refine ret_pure (fun _ => ?_)
      have e2 : (decide (c.drain = -1) || decide (0 ≤ atM c.mem c.drain)) = false := by simp only [Bool.or_eq_false_iff, decide_eq_false_iff_not]; omega
      rw [e, e2]; rfl
    · refine ret_pure (fun _ => ?_)
      have e2 : (decide (c.drain = -1) || decide (0 ≤ atM c.mem c.drain)) = true := by simp only [Bool.or_eq_true, decide_eq_true_eq]; have := atM_ge c.mem c.drain; omega
      rw [e, e2]; rfl
  · refine ret_pure (fun _ => ?_)
    have e2 : (decide (c.drain = -1) || decide (0 ≤ atM c.mem c.drain)) = true := by simp only [Bool.or_eq_true, decide_eq_true_eq]; omega
    rw [e, e2]; rfl
end Go.Proofs.Ytcogbepdjegheaa
