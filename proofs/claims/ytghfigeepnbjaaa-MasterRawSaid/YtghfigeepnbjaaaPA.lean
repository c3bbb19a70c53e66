/-
  Chains: the document's moves; Same. Chains: calls of the moves; the chapter's chain. Chains: what comes of a move may be. No condition.
-/
import Derived.Test.YtghfigeepnbjaaaP9
namespace Go.Proofs.Ytghfigeepnbjaaa
theorem leavesM_no {c : ChM} {n : Int} (h : ¬ leavesM c n = 0) : withoutM c n = (chZ, leavesM c n) ∧ drainM c n = (chZ, leavesM c n) := by
  unfold leavesM withoutM drainM at *
  split
  · rename_i hm
    rw [if_pos hm] at h
    split
    · exact ⟨rfl, rfl⟩
    · rename_i ha
      rw [if_neg ha] at h
      split
      · exact ⟨rfl, rfl⟩
      · rename_i h1
        rw [if_neg h1] at h
        exact absurd rfl h
  · exact ⟨rfl, rfl⟩
theorem leavesM_yes {c : ChM} {n : Int} (h : leavesM c n = 0) : mayMove c = true ∧ ¬ atM c.mem n < 0 ∧ ¬ (c.mem.length : Int) = 1 := by
  unfold leavesM at h
  split at h
  · rename_i hm
    split at h
    · omega
    · rename_i ha
      split at h
      · omega
      · rename_i h1
        exact ⟨hm, ha, h1⟩
  · omega
/-- All but a node. -/
def others (n : Int) (ms : List (Int × Int)) : List (Int × Int) := ms.filter fun m => !decide (m.1 = n)
theorem others_step (n : Int) (ms : List (Int × Int)) (k : Nat) (hk : k < ms.length) : others n (ms.take (k + 1)) = if (ms.getD k (0, 0)).1 = n then others n (ms.take k) else others n (ms.take k) ++ [ms.getD k (0, 0)] := by
  unfold others
  rw [List.take_add_one, List.filter_append]
  simp only [List.getElem?_eq_getElem hk, Option.toList_some, List.getD, Option.getD_some]
  split
  · rename_i h; simp [h]
  · rename_i h; simp [h]
theorem memsOk_at {c : ChM} {k : Nat} (h : memsOk c c.mem.length = true) (hk : k < c.mem.length) : atM c.mem (c.mem.getD k (0, 0)).1 = k := by
  have := List.all_eq_true.1 h k (List.mem_range.2 hk)
  simp only [memOk, Bool.and_eq_true, decide_eq_true_eq] at this
  exact this.2.2.1
theorem okCh_mems {c : ChM} (h : okCh c = true) : memsOk c c.mem.length = true := by
  unfold okCh at h
  simp only [Bool.and_eq_true] at h
  exact h.2.2.2.2.1
theorem others_erase {c : ChM} {n : Int} {k : Nat} (h : okCh c = true) (hk : atM c.mem n = k) : others n c.mem = c.mem.eraseIdx k := by
  have hm := okCh_mems h
  have hkl : k < c.mem.length := by have := atM_lt c.mem n; omega
  have hkn : (c.mem.getD k (0, 0)).1 = n := by
    unfold atM at hk
    split at hk
    · rename_i i hi
      rw [List.findIdx?_eq_some_iff_getElem] at hi
      obtain ⟨h1, h2, _⟩ := hi
      have : i = k := by omega
      subst this
      simpa [List.getD, h1] using h2
    · omega
  have hne : ∀ j, j < c.mem.length → j ≠ k → ¬ (c.mem.getD j (0, 0)).1 = n := fun j hj hjk e => by
    have := memsOk_at hm hj
    rw [e, hk] at this
    omega
  have key : ∀ (l : List (Int × Int)) (k : Nat), k < l.length → (l.getD k (0, 0)).1 = n → (∀ j, j < l.length → j ≠ k → ¬ (l.getD j (0, 0)).1 = n) → others n l = l.eraseIdx k := by
    intro l
    induction l with
    | nil => intro k hk; simp at hk
    | cons x xs ih =>
      intro k hk h1 h2
      cases k with
      | zero =>
        have hx : x.1 = n := by simpa using h1
        have hxs : ∀ y ∈ xs, ¬ y.1 = n := fun y hy => by
          obtain ⟨j, hj, rfl⟩ := List.getElem_of_mem hy
          have := h2 (j + 1) (by simpa using hj) (by omega)
          simpa [List.getD, hj] using this
        simp only [others, List.filter_cons, hx, decide_true, Bool.not_true, Bool.false_eq_true, if_false, List.eraseIdx_cons_zero]
        exact List.filter_eq_self.2 fun y hy => by simp [hxs y hy]
      | succ k =>
        have hx : ¬ x.1 = n := by simpa using h2 0 (by simp) (by omega)
        simp only [others, List.filter_cons, hx, decide_false, Bool.not_false, if_true, List.eraseIdx_cons_succ]
        congr 1
        exact ih k (by simpa using hk) (by simpa using h1) (fun j hj hjk => by simpa using h2 (j + 1) (by simpa using hj) (by omega))
  exact key c.mem k hkl hkn hne
set_option maxRecDepth 100000 in
set_option maxHeartbeats 1000000 in
theorem rwith_any (c : ChM) (p : Value) (n : Int) (w : World) (hp : ChSl w p c) (hl : c.mem.length ≤ 1000000) :
    Calls Try.prog 71 #[chV c p, .int .i64 n] w (OutCh w (withM c n)) := by
  obtain ⟨a, cap, rfl, h1, h2, hr⟩ := hp
  refine x_calls tabOK Try.func71 rfl [chS c (.rs 0 c.mem.length cap), .v (.int .i64 n)] _ _ rfl rfl (relR1 hr) ?_
  by_cases hok : okCh c = true
  · have hlen := okCh_len hok
    repeat' ((conv => whnf); first
        | refine CutN.plain ?_
        | with_reducible refine Br.tt ?_
        | with_reducible refine Br.ff ?_
        | with_reducible refine Br.nt ?_
        | with_reducible refine Br.nf ?_
        | with_reducible refine Br.eeI ?_
        | with_reducible refine Br.nnI ?_
        | refine Br.yes (by decide) ?_
        | refine Br.no (by decide) ?_
        | refine Need.go rfl ?_
        | refine QuiD.quiet (by kernel_rfl) ?_
        | refine IdxN.lit ?_
        | refine draw_go tabOK (by kernel_rfl) ?_
        | refine Need.go ⟨rfl, rfl⟩ ?_
        | refine Need.go ⟨⟨rfl, rfl, rfl⟩, rfl⟩ ?_
        | with_reducible refine Br.dec (fun h => ?_) (fun h => ?_)
        | with_reducible refine Br.eqI (fun h => ?_) (fun h => ?_)
        | with_reducible refine Br.neI (fun h => ?_) (fun h => ?_)
        | with_reducible refine Br.eqS (fun h => ?_) (fun h => ?_)
        | with_reducible refine Br.neS (fun h => ?_) (fun h => ?_)
        | with_reducible refine Br.nd (fun h => ?_) (fun h => ?_)
        | refine Ar.i64 (by omega) (by omega) ?_
        | (refine call_mem (f := 103) (args := [chS c (.rs 0 _ _)]) (V := .int .i64 0) ?_ ?_; exact fun ρ w h => (by have := rchCheck_any c _ w (sl_rs h (i := 0) rfl (Nat.le_refl _) h1 h2) hl; rw [hok] at this; exact this))
        | (refine quiet_mem (f := 103) (args := [chS c (.rs 0 _ _)]) (V := .int .i64 0) ?_ ?_; exact fun ρ w h => (by have := rchCheck_any c _ w (sl_rs h (i := 0) rfl (Nat.le_refl _) h1 h2) hl; rw [hok] at this; exact this))
        | (refine seg_mem (f := 103) (args := [chS c (.rs 0 _ _)]) (V := .int .i64 0) ?_ ?_; exact fun ρ w h => (by have := rchCheck_any c _ w (sl_rs h (i := 0) rfl (Nat.le_refl _) h1 h2) hl; rw [hok] at this; exact this))
        | (refine call_mem (f := 102) (args := [chS c (.rs 0 _ _), _]) (V := .int .i64 (atM c.mem n)) ?_ ?_; exact fun ρ w h => rat_any c _ n w (sl_rs h (i := 0) rfl (Nat.le_refl _) h1 h2) hl)
        | (refine quiet_mem (f := 102) (args := [chS c (.rs 0 _ _), _]) (V := .int .i64 (atM c.mem n)) ?_ ?_; exact fun ρ w h => rat_any c _ n w (sl_rs h (i := 0) rfl (Nat.le_refl _) h1 h2) hl)
        | (refine seg_mem (f := 102) (args := [chS c (.rs 0 _ _), _]) (V := .int .i64 (atM c.mem n)) ?_ ?_; exact fun ρ w h => rat_any c _ n w (sl_rs h (i := 0) rfl (Nat.le_refl _) h1 h2) hl)
        | refine Need.go ⟨rfl, by omega, memF_one _⟩ ?_
        | refine Need.go (by first | omega | decide | (simp <;> omega) | fail) ?_
        | refine Need.go (by first | (simp [Value.oneCell'] <;> omega) | fail) ?_
        | refine Need.go ⟨rfl, by omega, getD_one rfl rfl⟩ ?_
        | refine Need.go ⟨rfl, by omega, fun _ _ _ _ => rfl⟩ ?_
        | refine Br.both (fun h => ?_) (fun h => ?_))
    all_goals (conv => whnf)
    all_goals first
      | (rw [show withM c n = (chZ, 2) from by simp only [withM, mayMove, hok, Bool.true_and, Bool.not_eq_true', decide_eq_false_iff_not]; first | rw [if_neg (by omega)] | rw [if_pos (by omega), if_neg (by omega)]]
         exact fun ρ' w' hr => outCh_nil rfl (fr_none hr.at.fr))
      | (have hmv : mayMove c = true := mayMove_iff.2 ⟨hok, by assumption⟩
         first
         | (rw [show withM c n = (chZ, 62) from by simp only [withM, hmv, if_true]; rw [if_pos (by omega), if_pos (by omega)]]
            exact fun ρ' w' hr => outCh_nil rfl (fr_none hr.at.fr))
         | (rw [show withM c n = (⟨c.epoch + 1, c.mem ++ [(n, c.epoch + 1)], c.drain⟩, 0) from by simp only [withM, hmv, if_true]; rw [if_pos (by omega), if_neg (by omega)]]
            exact fun ρ' w' hr => ⟨(SV.os 5 _).den ρ', rfl, owns_congr (own_out (i := 5) hr rfl) (by simp) (memF_snoc c.mem n (c.epoch + 1)), fr_none hr.at.fr⟩))
  · have hok : okCh c = false := by simpa using hok
    repeat' ((conv => whnf); first
        | refine CutN.plain ?_
        | with_reducible refine Br.tt ?_
        | with_reducible refine Br.ff ?_
        | with_reducible refine Br.nt ?_
        | with_reducible refine Br.nf ?_
        | with_reducible refine Br.eeI ?_
        | with_reducible refine Br.nnI ?_
        | refine Br.yes (by decide) ?_
        | refine Br.no (by decide) ?_
        | refine Need.go rfl ?_
        | refine QuiD.quiet (by kernel_rfl) ?_
        | refine IdxN.lit ?_
        | refine draw_go tabOK (by kernel_rfl) ?_
        | refine Need.go ⟨rfl, rfl⟩ ?_
        | refine Need.go ⟨⟨rfl, rfl, rfl⟩, rfl⟩ ?_
        | with_reducible refine Br.dec (fun h => ?_) (fun h => ?_)
        | with_reducible refine Br.eqI (fun h => ?_) (fun h => ?_)
        | with_reducible refine Br.neI (fun h => ?_) (fun h => ?_)
        | with_reducible refine Br.eqS (fun h => ?_) (fun h => ?_)
        | with_reducible refine Br.neS (fun h => ?_) (fun h => ?_)
        | with_reducible refine Br.nd (fun h => ?_) (fun h => ?_)
        | refine Ar.i64 (by omega) (by omega) ?_
        | (refine call_mem (f := 103) (args := [chS c (.rs 0 _ _)]) (V := .int .i64 2) ?_ ?_; exact fun ρ w h => (by have := rchCheck_any c _ w (sl_rs h (i := 0) rfl (Nat.le_refl _) h1 h2) hl; rw [hok] at this; exact this))
        | (refine quiet_mem (f := 103) (args := [chS c (.rs 0 _ _)]) (V := .int .i64 2) ?_ ?_; exact fun ρ w h => (by have := rchCheck_any c _ w (sl_rs h (i := 0) rfl (Nat.le_refl _) h1 h2) hl; rw [hok] at this; exact this))
        | (refine seg_mem (f := 103) (args := [chS c (.rs 0 _ _)]) (V := .int .i64 2) ?_ ?_; exact fun ρ w h => (by have := rchCheck_any c _ w (sl_rs h (i := 0) rfl (Nat.le_refl _) h1 h2) hl; rw [hok] at this; exact this))
        | refine Need.go (by first | omega | decide | (simp <;> omega) | fail) ?_
        | refine Need.go (by first | (simp [Value.oneCell'] <;> omega) | fail) ?_
        | refine Need.go ⟨rfl, by omega, getD_one rfl rfl⟩ ?_
        | refine Need.go ⟨rfl, by omega, fun _ _ _ _ => rfl⟩ ?_
        | refine Br.both (fun h => ?_) (fun h => ?_))
    (conv => whnf)
    rw [show withM c n = (chZ, 2) from by simp [withM, mayMove, hok]]
    exact fun ρ' w' hr => outCh_nil rfl (fr_none hr.at.fr)
set_option maxRecDepth 100000 in
set_option maxHeartbeats 1000000 in
theorem rwithout_any (c : ChM) (p : Value) (n : Int) (w : World) (hp : ChSl w p c) (hl : c.mem.length ≤ 1000000) :
    Calls Try.prog 104 #[chV c p, .int .i64 n] w (OutCh w (withoutM c n)) := by
  obtain ⟨a, cap, rfl, h1, h2, hr⟩ := hp
  refine x_calls tabOK Try.func104 rfl [chS c (.rs 0 c.mem.length cap), .v (.int .i64 n)] _ _ rfl rfl (relR1 hr) ?_
  by_cases h0 : leavesM c n = 0
  · obtain ⟨hmv, ha, hone⟩ := leavesM_yes h0
    have hlen := okCh_len (mayMove_iff.1 hmv).1
    have he := (mayMove_iff.1 hmv).2
    repeat' ((conv => whnf); first
        | refine CutN.plain ?_
        | with_reducible refine Br.tt ?_
        | with_reducible refine Br.ff ?_
        | with_reducible refine Br.nt ?_
        | with_reducible refine Br.nf ?_
        | with_reducible refine Br.eeI ?_
        | with_reducible refine Br.nnI ?_
        | refine Br.yes (by decide) ?_
        | refine Br.no (by decide) ?_
        | refine Need.go rfl ?_
        | refine QuiD.quiet (by kernel_rfl) ?_
        | refine IdxN.lit ?_
        | refine draw_go tabOK (by kernel_rfl) ?_
        | refine Need.go ⟨rfl, rfl⟩ ?_
        | refine Need.go ⟨⟨rfl, rfl, rfl⟩, rfl⟩ ?_
        | with_reducible refine Br.dec (fun h => ?_) (fun h => ?_)
        | with_reducible refine Br.eqI (fun h => ?_) (fun h => ?_)
        | with_reducible refine Br.neI (fun h => ?_) (fun h => ?_)
        | with_reducible refine Br.eqS (fun h => ?_) (fun h => ?_)
        | with_reducible refine Br.neS (fun h => ?_) (fun h => ?_)
        | with_reducible refine Br.nd (fun h => ?_) (fun h => ?_)
        | refine Ar.i64 (by omega) (by omega) ?_
        | (refine call_mem (f := 106) (args := [chS c (.rs 0 _ _), _]) (V := .int .i64 0) ?_ ?_; exact fun ρ w h => (by have := leaves_any c _ n w (sl_rs h (i := 0) rfl (Nat.le_refl _) h1 h2) hl; rw [h0] at this; exact this))
        | (refine quiet_mem (f := 106) (args := [chS c (.rs 0 _ _), _]) (V := .int .i64 0) ?_ ?_; exact fun ρ w h => (by have := leaves_any c _ n w (sl_rs h (i := 0) rfl (Nat.le_refl _) h1 h2) hl; rw [h0] at this; exact this))
        | (refine seg_mem (f := 106) (args := [chS c (.rs 0 _ _), _]) (V := .int .i64 0) ?_ ?_; exact fun ρ w h => (by have := leaves_any c _ n w (sl_rs h (i := 0) rfl (Nat.le_refl _) h1 h2) hl; rw [h0] at this; exact this))
        | refine Need.go (by first | omega | decide | (simp <;> omega) | fail) ?_
        | refine Need.go (by first | (simp [Value.oneCell'] <;> omega) | fail) ?_
        | refine Need.go ⟨rfl, by omega, getD_one rfl rfl⟩ ?_
        | refine Need.go ⟨rfl, by omega, fun _ _ _ _ => rfl⟩ ?_
        | refine Br.both (fun h => ?_) (fun h => ?_))
    (conv => whnf)
    refine loop_up 22 (fun k : Nat => k ≤ c.mem.length) (fun k => c.mem.length - k) (fun k => [(8, .v (.int .i64 k))]) (fun k => [(3, .cells [(1, .os 4 (others n (c.mem.take k)).length)])]) (fun k => [.own 56 2 (others n (c.mem.take k)).length (memF (others n (c.mem.take k)))]) 0 (Nat.zero_le _) (by
      (conv => whnf)
      refine ⟨[some 0, some 1, some 2, some 3, none], by decide, ?_, ?_⟩
      all_goals repeat' (first | exact leT_junk rfl | refine And.intro ?_ ?_ | exact trivial | exact .inl ⟨rfl, rfl⟩ | rfl | exact .inr ⟨_, rfl, rfl, rfl⟩ | exact ⟨_, rfl, trivial⟩ | exact ⟨_, rfl, rfl⟩ | exact ⟨_, rfl, ⟨rfl, rfl, rfl⟩, fun _ _ _ _ => rfl⟩ | exact ⟨_, rfl, ⟨rfl, rfl, .inl rfl⟩, rfl⟩ | exact ⟨_, rfl, ⟨rfl, rfl, .inr rfl⟩, rfl⟩ | exact ⟨_, rfl, ⟨rfl, rfl, rfl, rfl, rfl⟩, rfl⟩ | exact ⟨_, rfl, ⟨rfl, rfl⟩, fun _ => Iff.rfl⟩ | refine ⟨_, rfl, rfl, ?_⟩ | refine ⟨_, rfl, ⟨rfl, rfl, rfl⟩, ?_⟩)) (fun k hk => ?_)
    generalize hms : others n (c.mem.take k) = ms
    have hml : ms.length ≤ 6 := by
      rw [← hms]
      exact Nat.le_trans (List.length_filter_le _ _) (by simp; omega)
    repeat' ((conv => whnf); first
        | refine CutN.plain ?_
        | refine Need.go rfl ?_
        | refine QuiD.quiet (by kernel_rfl) ?_
        | refine IdxN.lit ?_
        | refine draw_go tabOK (by kernel_rfl) ?_
        | refine Need.go ⟨rfl, rfl⟩ ?_
        | refine Need.go ⟨⟨rfl, rfl, rfl⟩, rfl⟩ ?_
        | with_reducible refine Br.dec (fun h => ?_) (fun h => ?_)
        | with_reducible refine Br.eqI (fun h => ?_) (fun h => ?_)
        | with_reducible refine Br.neI (fun h => ?_) (fun h => ?_)
        | with_reducible refine Br.eqS (fun h => ?_) (fun h => ?_)
        | with_reducible refine Br.neS (fun h => ?_) (fun h => ?_)
        | with_reducible refine Br.nd (fun h => ?_) (fun h => ?_)
        | refine Ar.i64 (by omega) (by omega) ?_
        | refine Need.go ⟨rfl, by omega, memF_one _⟩ ?_
        | refine Need.go (by first | omega | decide | (simp <;> omega) | fail) ?_
        | refine Need.go (by first | (simp [Value.oneCell'] <;> omega) | fail) ?_
        | refine Need.go ⟨rfl, by omega, getD_one rfl rfl⟩ ?_
        | refine Need.go ⟨rfl, by omega, fun _ _ _ _ => rfl⟩ ?_
        | refine Br.both (fun h => ?_) (fun h => ?_))
    all_goals (conv => whnf)
    · have h : ¬ (c.mem.getD k (0, 0)).1 = n := h
      have hst := others_step n c.mem k (by omega)
      rw [if_neg h, hms] at hst
      refine ⟨k + 1, by omega, by omega, ?_⟩
      rw [hst]
      simp only [List.length_append, List.length_cons, List.length_nil, Nat.zero_add]
      (conv => whnf)
      refine ⟨[some 0, some 1, some 2, some 3, some 6], by decide, ?_, ?_⟩
      all_goals repeat' (first | exact ⟨_, rfl, ⟨rfl, rfl, rfl⟩, memF_snoc ms (c.mem.getD k (0, 0)).1 (c.mem.getD k (0, 0)).2⟩ | exact leT_junk rfl | refine And.intro ?_ ?_ | exact trivial | exact .inl ⟨rfl, rfl⟩ | rfl | exact .inr ⟨_, rfl, rfl, rfl⟩ | exact ⟨_, rfl, trivial⟩ | exact ⟨_, rfl, rfl⟩ | exact ⟨_, rfl, ⟨rfl, rfl, rfl⟩, fun _ _ _ _ => rfl⟩ | exact ⟨_, rfl, ⟨rfl, rfl, .inl rfl⟩, rfl⟩ | exact ⟨_, rfl, ⟨rfl, rfl, .inr rfl⟩, rfl⟩ | exact ⟨_, rfl, ⟨rfl, rfl, rfl, rfl, rfl⟩, rfl⟩ | exact ⟨_, rfl, ⟨rfl, rfl⟩, fun _ => Iff.rfl⟩ | refine ⟨_, rfl, rfl, ?_⟩ | refine ⟨_, rfl, ⟨rfl, rfl, rfl⟩, ?_⟩)
    · have h : (c.mem.getD k (0, 0)).1 = n := h
      have hst := others_step n c.mem k (by omega)
      rw [if_pos h, hms] at hst
      refine ⟨k + 1, by omega, by omega, ?_⟩
      rw [hst]
      (conv => whnf)
      refine ⟨[some 0, some 1, some 2, some 3, some 4], by decide, ?_, ?_⟩
      all_goals repeat' (first | exact leT_junk rfl | refine And.intro ?_ ?_ | exact trivial | exact .inl ⟨rfl, rfl⟩ | rfl | exact .inr ⟨_, rfl, rfl, rfl⟩ | exact ⟨_, rfl, trivial⟩ | exact ⟨_, rfl, rfl⟩ | exact ⟨_, rfl, ⟨rfl, rfl, rfl⟩, fun _ _ _ _ => rfl⟩ | exact ⟨_, rfl, ⟨rfl, rfl, .inl rfl⟩, rfl⟩ | exact ⟨_, rfl, ⟨rfl, rfl, .inr rfl⟩, rfl⟩ | exact ⟨_, rfl, ⟨rfl, rfl, rfl, rfl, rfl⟩, rfl⟩ | exact ⟨_, rfl, ⟨rfl, rfl⟩, fun _ => Iff.rfl⟩ | refine ⟨_, rfl, rfl, ?_⟩ | refine ⟨_, rfl, ⟨rfl, rfl, rfl⟩, ?_⟩)
    all_goals (conv => whnf)
    all_goals
      obtain ⟨j, hj⟩ : ∃ j : Nat, atM c.mem n = j := ⟨(atM c.mem n).toNat, by omega⟩
      have hms : others n c.mem = ms := by rw [← hms, List.take_of_length_le (by omega)]
      have hme : ms = c.mem.eraseIdx j := by rw [← hms]; exact others_erase (mayMove_iff.1 hmv).1 hj
      rw [show withoutM c n = (⟨c.epoch + 1, c.mem.eraseIdx j, if c.drain = n then -1 else c.drain⟩, 0) from by simp only [withoutM, hmv, if_true]; rw [if_neg ha, if_neg hone, hj]; rfl, ← hme]
    · rw [if_pos h]
      exact fun ρ' w' hr => ⟨(SV.os 4 _).den ρ', rfl, own_out (i := 4) hr rfl, fr_none hr.at.fr⟩
    · rw [if_neg h]
      exact fun ρ' w' hr => ⟨(SV.os 4 _).den ρ', rfl, own_out (i := 4) hr rfl, fr_none hr.at.fr⟩
  · have e := (leavesM_no h0).1
    generalize her : leavesM c n = er at h0 e
    rw [e]
    repeat' ((conv => whnf); first
        | refine Br.yes (by simpa using h0) ?_
        | refine CutN.plain ?_
        | with_reducible refine Br.tt ?_
        | with_reducible refine Br.ff ?_
        | with_reducible refine Br.nt ?_
        | with_reducible refine Br.nf ?_
        | with_reducible refine Br.eeI ?_
        | with_reducible refine Br.nnI ?_
        | refine Br.yes (by decide) ?_
        | refine Br.no (by decide) ?_
        | refine Need.go rfl ?_
        | refine QuiD.quiet (by kernel_rfl) ?_
        | refine IdxN.lit ?_
        | refine draw_go tabOK (by kernel_rfl) ?_
        | refine Need.go ⟨rfl, rfl⟩ ?_
        | refine Need.go ⟨⟨rfl, rfl, rfl⟩, rfl⟩ ?_
        | with_reducible refine Br.dec (fun h => ?_) (fun h => ?_)
        | with_reducible refine Br.eqI (fun h => ?_) (fun h => ?_)
        | with_reducible refine Br.neI (fun h => ?_) (fun h => ?_)
        | with_reducible refine Br.eqS (fun h => ?_) (fun h => ?_)
        | with_reducible refine Br.neS (fun h => ?_) (fun h => ?_)
        | with_reducible refine Br.nd (fun h => ?_) (fun h => ?_)
        | refine Ar.i64 (by omega) (by omega) ?_
        | (refine call_mem (f := 106) (args := [chS c (.rs 0 _ _), _]) (V := .int .i64 er) ?_ ?_; exact fun ρ w h => (by have := leaves_any c _ n w (sl_rs h (i := 0) rfl (Nat.le_refl _) h1 h2) hl; rw [her] at this; exact this))
        | (refine quiet_mem (f := 106) (args := [chS c (.rs 0 _ _), _]) (V := .int .i64 er) ?_ ?_; exact fun ρ w h => (by have := leaves_any c _ n w (sl_rs h (i := 0) rfl (Nat.le_refl _) h1 h2) hl; rw [her] at this; exact this))
        | (refine seg_mem (f := 106) (args := [chS c (.rs 0 _ _), _]) (V := .int .i64 er) ?_ ?_; exact fun ρ w h => (by have := leaves_any c _ n w (sl_rs h (i := 0) rfl (Nat.le_refl _) h1 h2) hl; rw [her] at this; exact this))
        | refine Need.go (by first | omega | decide | (simp <;> omega) | fail) ?_
        | refine Need.go (by first | (simp [Value.oneCell'] <;> omega) | fail) ?_
        | refine Need.go ⟨rfl, by omega, getD_one rfl rfl⟩ ?_
        | refine Need.go ⟨rfl, by omega, fun _ _ _ _ => rfl⟩ ?_
        | refine Br.both (fun h => ?_) (fun h => ?_))
    (conv => whnf)
    exact fun ρ' w' hr => outCh_nil rfl (fr_none hr.at.fr)
end Go.Proofs.Ytghfigeepnbjaaa
namespace Go.Proofs.Ytghfigeepnbjaaa
theorem chWith_n {w0 : World} {U : Nat → Prop} {H : List HE} {K : SV → List HE → Prop} (c m : ChM) (n er : Int) (hm : withM c n = (m, er)) (q : SV) (hq : ∀ ρ w, HRel w0 U ρ H w → ChSl w (q.den ρ) c) (hl : c.mem.length ≤ 1000000)
    (hK : lenK H fun N => appK H (.own 56 2 m.mem.length (memF m.mem)) fun H' => K (.tup [chS m (.os N m.mem.length), .v (.int .i64 er)]) H') : CallN Try.prog w0 U 63 [chS c q, .v (.int .i64 n)] H K :=
  call_ownL 56 2 m.mem.length (memF m.mem) (fun N => .tup [chS m (.os N m.mem.length), .v (.int .i64 er)]) (fun v => .tuple #[chV m v, .int .i64 er]) (fun N ρ' v h => by subst h; rfl) (fun ρ w h => by have := with_any c (q.den ρ) n w (hq ρ w h) hl; rw [hm] at this; exact this) hK
theorem chWithout_n {w0 : World} {U : Nat → Prop} {H : List HE} {K : SV → List HE → Prop} (c m : ChM) (n er : Int) (hm : withoutM c n = (m, er)) (q : SV) (hq : ∀ ρ w, HRel w0 U ρ H w → ChSl w (q.den ρ) c) (hl : c.mem.length ≤ 1000000)
    (hK : lenK H fun N => appK H (.own 56 2 m.mem.length (memF m.mem)) fun H' => K (.tup [chS m (.os N m.mem.length), .v (.int .i64 er)]) H') : CallN Try.prog w0 U 99 [chS c q, .v (.int .i64 n)] H K :=
  call_ownL 56 2 m.mem.length (memF m.mem) (fun N => .tup [chS m (.os N m.mem.length), .v (.int .i64 er)]) (fun v => .tuple #[chV m v, .int .i64 er]) (fun N ρ' v h => by subst h; rfl) (fun ρ w h => by have := without_any c (q.den ρ) n w (hq ρ w h) hl; rw [hm] at this; exact this) hK
theorem rWith_n {w0 : World} {U : Nat → Prop} {H : List HE} {K : SV → List HE → Prop} (c m : ChM) (n er : Int) (hm : withM c n = (m, er)) (q : SV) (hq : ∀ ρ w, HRel w0 U ρ H w → ChSl w (q.den ρ) c) (hl : c.mem.length ≤ 1000000)
    (hK : lenK H fun N => appK H (.own 56 2 m.mem.length (memF m.mem)) fun H' => K (.tup [chS m (.os N m.mem.length), .v (.int .i64 er)]) H') : CallN Try.prog w0 U 71 [chS c q, .v (.int .i64 n)] H K :=
  call_ownL 56 2 m.mem.length (memF m.mem) (fun N => .tup [chS m (.os N m.mem.length), .v (.int .i64 er)]) (fun v => .tuple #[chV m v, .int .i64 er]) (fun N ρ' v h => by subst h; rfl) (fun ρ w h => by have := rwith_any c (q.den ρ) n w (hq ρ w h) hl; rw [hm] at this; exact this) hK
theorem rWithout_n {w0 : World} {U : Nat → Prop} {H : List HE} {K : SV → List HE → Prop} (c m : ChM) (n er : Int) (hm : withoutM c n = (m, er)) (q : SV) (hq : ∀ ρ w, HRel w0 U ρ H w → ChSl w (q.den ρ) c) (hl : c.mem.length ≤ 1000000)
    (hK : lenK H fun N => appK H (.own 56 2 m.mem.length (memF m.mem)) fun H' => K (.tup [chS m (.os N m.mem.length), .v (.int .i64 er)]) H') : CallN Try.prog w0 U 104 [chS c q, .v (.int .i64 n)] H K :=
  call_ownL 56 2 m.mem.length (memF m.mem) (fun N => .tup [chS m (.os N m.mem.length), .v (.int .i64 er)]) (fun v => .tuple #[chV m v, .int .i64 er]) (fun N ρ' v h => by subst h; rfl) (fun ρ w h => by have := rwithout_any c (q.den ρ) n w (hq ρ w h) hl; rw [hm] at this; exact this) hK
def cL : ChM := ⟨3, [(2, 1), (0, 3)], -1⟩
end Go.Proofs.Ytghfigeepnbjaaa
namespace Go.Proofs.Ytghfigeepnbjaaa
theorem nd_ok {c : ChM} (h : okCh c = true) {j : Nat} (hj : j < c.mem.length) : 0 ≤ (c.mem.getD j (0, 0)).1 ∧ (c.mem.getD j (0, 0)).1 < 6 ∧ atM c.mem (c.mem.getD j (0, 0)).1 = j ∧ 1 ≤ (c.mem.getD j (0, 0)).2 ∧ (c.mem.getD j (0, 0)).2 ≤ c.epoch := by
  have := List.all_eq_true.1 (okCh_mems h) j (List.mem_range.2 hj)
  simp only [memOk, Bool.and_eq_true, decide_eq_true_eq] at this
  exact this
theorem nd_inj {c : ChM} (h : okCh c = true) {i j : Nat} (hi : i < c.mem.length) (hj : j < c.mem.length) (he : (c.mem.getD i (0, 0)).1 = (c.mem.getD j (0, 0)).1) : i = j := by
  have h1 := (nd_ok h hi).2.2.1
  have h2 := (nd_ok h hj).2.2.1
  rw [he, h2] at h1
  omega
theorem atM_neg {ms : List (Int × Int)} {n : Int} (h : atM ms n < 0) : ∀ j, j < ms.length → ¬ (ms.getD j (0, 0)).1 = n := fun j hj e => by
  have hex : ∃ k, k < ms.length ∧ (ms.getD k (0, 0)).1 = n ∧ ∀ i, i < k → ¬ (ms.getD i (0, 0)).1 = n := by
    induction j using Nat.strongRecOn with
    | _ j ih =>
      by_cases hx : ∃ i, i < j ∧ (ms.getD i (0, 0)).1 = n
      · obtain ⟨i, hi, hin⟩ := hx
        exact ih i hi (by omega) hin
      · exact ⟨j, hj, e, fun i hi hin => hx ⟨i, hi, hin⟩⟩
  obtain ⟨k, hk, h1, h2⟩ := hex
  rw [atM_some hk h1 h2] at h
  omega
theorem atM_mem {ms : List (Int × Int)} {n : Int} {k : Nat} (h : atM ms n = k) : k < ms.length ∧ (ms.getD k (0, 0)).1 = n := by
  unfold atM at h
  split at h
  · rename_i i hi
    rw [List.findIdx?_eq_some_iff_getElem] at hi
    obtain ⟨h1, h2, _⟩ := hi
    have : i = k := by omega
    subst this
    exact ⟨h1, by simpa [List.getD, h1] using h2⟩
  · omega
theorem atM_has {ms : List (Int × Int)} {n : Int} {j : Nat} (hj : j < ms.length) (h : (ms.getD j (0, 0)).1 = n) : 0 ≤ atM ms n := by
  rcases Int.lt_or_le (atM ms n) 0 with h1 | h1
  · exact absurd h (atM_neg h1 j hj)
  · exact h1
theorem okCh_drain {c : ChM} (h : okCh c = true) : c.drain = -1 ∨ 0 ≤ atM c.mem c.drain := by
  unfold okCh at h
  simp only [Bool.and_eq_true, Bool.or_eq_true, decide_eq_true_eq] at h
  exact h.2.2.2.2.2
theorem okCh_mk {c : ChM} (h1 : 1 ≤ c.epoch) (h2 : c.epoch ≤ 1099511627776) (h3 : 1 ≤ c.mem.length) (h4 : c.mem.length ≤ 6)
    (hm : ∀ k, k < c.mem.length → 0 ≤ (c.mem.getD k (0, 0)).1 ∧ (c.mem.getD k (0, 0)).1 < 6 ∧ 1 ≤ (c.mem.getD k (0, 0)).2 ∧ (c.mem.getD k (0, 0)).2 ≤ c.epoch)
    (hi : ∀ i j, i < j → j < c.mem.length → ¬ (c.mem.getD i (0, 0)).1 = (c.mem.getD j (0, 0)).1) (hd : c.drain = -1 ∨ 0 ≤ atM c.mem c.drain) : okCh c = true := by
  have e : memsOk c c.mem.length = true := List.all_eq_true.2 fun k hk => by
    have hk := List.mem_range.1 hk
    obtain ⟨a1, a2, a3, a4⟩ := hm k hk
    have a5 := atM_self hk (fun j hj => hi j k hj hk)
    simp only [memOk, a5, Bool.and_eq_true, decide_eq_true_eq]
    exact ⟨a1, a2, trivial, a3, a4⟩
  unfold okCh
  simp only [e, Bool.and_eq_true, Bool.or_eq_true, decide_eq_true_eq]
  exact ⟨h1, h2, h3, h4, trivial, hd⟩
/-- Numbers that differ, all below one. -/
theorem nodup_le : ∀ (n : Nat) (l : List Int), l.Nodup → (∀ x ∈ l, 0 ≤ x ∧ x < n) → l.length ≤ n
  | 0, [], _, _ => Nat.le_refl _
  | 0, x :: xs, _, h => by have := h x (by simp); omega
  | n + 1, l, hn, h => by
    have h1 := nodup_le n (l.erase (n : Int)) (hn.erase _) (fun x hx => by
      have h2 := (hn.mem_erase_iff).1 hx
      have h3 := h x h2.2
      have : x ≠ (n : Int) := h2.1
      omega)
    rw [List.length_erase] at h1
    split at h1 <;> omega
theorem room {c : ChM} (h : okCh c = true) {m : Int} (h0 : 0 ≤ m) (h6 : m < 6) (hm : atM c.mem m < 0) : c.mem.length + 1 ≤ 6 := by
  have hn : (m :: c.mem.map (·.1)).Nodup := by
    rw [List.nodup_cons]
    refine ⟨fun hx => ?_, ?_⟩
    · obtain ⟨x, hx, e⟩ := List.mem_map.1 hx
      obtain ⟨j, hj, rfl⟩ := List.getElem_of_mem hx
      exact atM_neg hm j hj (by simpa [List.getD, hj] using e)
    · rw [List.nodup_iff_pairwise_ne, List.pairwise_iff_getElem]
      intro i j hi hj hij e
      simp only [List.length_map] at hi hj
      have := nd_inj h hi hj (by simpa [List.getD, hi, hj] using e)
      omega
  have := nodup_le 6 _ hn (fun x hx => by
    rcases List.mem_cons.1 hx with rfl | hx
    · exact ⟨h0, by omega⟩
    · obtain ⟨y, hy, rfl⟩ := List.mem_map.1 hx
      obtain ⟨j, hj, rfl⟩ := List.getElem_of_mem hy
      have := nd_ok h hj
      simp only [List.getD, List.getElem?_eq_getElem hj, Option.getD_some] at this
      exact ⟨this.1, by omega⟩)
  simpa using this
theorem snoc_lt (ms : List (Int × Int)) (x : Int × Int) {k : Nat} (hk : k < ms.length) : (ms ++ [x]).getD k (0, 0) = ms.getD k (0, 0) := by simp [List.getD, List.getElem?_append_left hk]
theorem snoc_eq (ms : List (Int × Int)) (x : Int × Int) : (ms ++ [x]).getD ms.length (0, 0) = x := by simp [List.getD]
theorem with_ok {c m1 : ChM} {m : Int} (hok : okCh c = true) (h : withM c m = (m1, 0)) :
    okCh m1 = true ∧ m1 = ⟨c.epoch + 1, c.mem ++ [(m, c.epoch + 1)], c.drain⟩ ∧ c.epoch < 1099511627776 ∧ 0 ≤ m ∧ atM c.mem m < 0 ∧ atM m1.mem m = c.mem.length := by
  have hlen := okCh_len hok
  unfold withM at h
  split at h
  · rename_i hmv
    have hne := (mayMove_iff.1 hmv).2
    split at h
    · rename_i hm
      split at h
      · cases h
      · rename_i hat
        cases h
        have hat : atM c.mem m < 0 := by omega
        have hr := room hok hm.1 hm.2 hat
        have hl : (c.mem ++ [(m, c.epoch + 1)]).length = c.mem.length + 1 := by simp
        have hself : atM (c.mem ++ [(m, c.epoch + 1)]) m = c.mem.length := atM_some (by omega) (by rw [snoc_eq]) (fun j hj => by rw [snoc_lt _ _ hj]; exact atM_neg hat j hj)
        refine ⟨okCh_mk (by simp; omega) (by simp; omega) (by simp) (by simp; omega) (fun k hk => ?_) (fun i j hij hj => ?_) ?_, rfl, by omega, hm.1, hat, hself⟩
        · simp only [hl] at hk
          rcases Nat.lt_or_ge k c.mem.length with h1 | h1
          · rw [snoc_lt _ _ h1]
            have := nd_ok hok h1
            exact ⟨this.1, this.2.1, this.2.2.2.1, by simp only; omega⟩
          · rw [show k = c.mem.length by omega, snoc_eq]
            exact ⟨hm.1, hm.2, by simp only; omega, by simp⟩
        · simp only [hl] at hj
          have hi : i < c.mem.length := by omega
          rw [snoc_lt _ _ hi]
          rcases Nat.lt_or_ge j c.mem.length with h1 | h1
          · rw [snoc_lt _ _ h1]
            exact fun e => by have := nd_inj hok hi h1 e; omega
          · rw [show j = c.mem.length by omega, snoc_eq]
            exact atM_neg hat i hi
        · rcases okCh_drain hok with hd | hd
          · exact .inl hd
          · right
            obtain ⟨k, hk⟩ : ∃ k : Nat, atM c.mem c.drain = k := ⟨(atM c.mem c.drain).toNat, by omega⟩
            obtain ⟨h1, h2⟩ := atM_mem hk
            exact atM_has (j := k) (by simp; omega) (by simp only; rw [snoc_lt _ _ h1]; exact h2)
    · cases h
  · cases h
theorem erase_get (ms : List (Int × Int)) (k r : Nat) : (ms.eraseIdx k).getD r (0, 0) = if r < k then ms.getD r (0, 0) else ms.getD (r + 1) (0, 0) := by
  simp only [List.getD, List.getElem?_eraseIdx]
  split <;> rfl
theorem without_ok {c m2 : ChM} {m : Int} (hok : okCh c = true) (h : withoutM c m = (m2, 0)) : okCh m2 = true ∧ m2.epoch = c.epoch + 1 ∧ m2.mem.length = c.mem.length - 1 ∧ 1 < c.mem.length ∧ atM m2.mem m < 0 := by
  have hlen := okCh_len hok
  unfold withoutM at h
  split at h
  · rename_i hmv
    have hne := (mayMove_iff.1 hmv).2
    split at h
    · cases h
    · rename_i ha
      split at h
      · cases h
      · rename_i hone
        cases h
        obtain ⟨k, hk⟩ : ∃ k : Nat, atM c.mem m = k := ⟨(atM c.mem m).toNat, by omega⟩
        obtain ⟨hkl, hkn⟩ := atM_mem hk
        rw [hk, Int.toNat_natCast]
        have hl : (c.mem.eraseIdx k).length = c.mem.length - 1 := by simp [List.length_eraseIdx, hkl]
        have idx : ∀ r, r < c.mem.length - 1 → ∃ j, j < c.mem.length ∧ j ≠ k ∧ (c.mem.eraseIdx k).getD r (0, 0) = c.mem.getD j (0, 0) ∧ j = if r < k then r else r + 1 := fun r hr => by
          by_cases hrk : r < k
          · exact ⟨r, by omega, by omega, by rw [erase_get, if_pos hrk], by rw [if_pos hrk]⟩
          · exact ⟨r + 1, by omega, by omega, by rw [erase_get, if_neg hrk], by rw [if_neg hrk]⟩
        have hneg : atM (c.mem.eraseIdx k) m < 0 := by
          rw [atM_none (fun r hr => by
            obtain ⟨j, h1, h2, h3, _⟩ := idx r (by omega)
            rw [h3, ← hkn]
            exact fun e => h2 (nd_inj hok h1 hkl e))]
          omega
        refine ⟨okCh_mk (by simp only; omega) (by simp only; omega) (by simp only; omega) (by simp only; omega) (fun r hr => ?_) (fun i j hij hj => ?_) ?_, rfl, hl, by omega, hneg⟩
        · obtain ⟨j, h1, h2, h3, _⟩ := idx r (by simp only [hl] at hr; exact hr)
          simp only [h3]
          have := nd_ok hok h1
          exact ⟨this.1, this.2.1, this.2.2.2.1, by omega⟩
        · simp only [hl] at hj
          obtain ⟨a, a1, a2, a3, a4⟩ := idx i (by omega)
          obtain ⟨b, b1, b2, b3, b4⟩ := idx j (by omega)
          simp only [a3, b3]
          exact fun e => by
            have := nd_inj hok a1 b1 e
            rw [a4, b4] at this
            split at this <;> split at this <;> omega
        · simp only
          split
          · exact .inl rfl
          · rename_i hdm
            rcases okCh_drain hok with hd | hd
            · exact .inl hd
            · right
              obtain ⟨j, hj⟩ : ∃ j : Nat, atM c.mem c.drain = j := ⟨(atM c.mem c.drain).toNat, by omega⟩
              obtain ⟨h1, h2⟩ := atM_mem hj
              have hjk : j ≠ k := fun e => hdm (by rw [← h2, e, hkn])
              by_cases hlt : j < k
              · exact atM_has (j := j) (by omega) (by rw [erase_get, if_pos hlt]; exact h2)
              · exact atM_has (j := j - 1) (by omega) (by rw [erase_get, if_neg (by omega), show j - 1 + 1 = j by omega]; exact h2)
  · cases h
end Go.Proofs.Ytghfigeepnbjaaa
