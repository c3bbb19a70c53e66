/-
  Chains: the document's moves; Same. No condition.
-/
import Derived.Test.YtcogbepdjegheaaCh7
namespace Go.Proofs.Ytcogbepdjegheaa
theorem leavesM_no {c : ChM} {n : Int} (h : ¬ leavesM c n = 0) : withoutM c n = (chZ, leavesM c n) ∧ drainM c n = (chZ, leavesM c n) := by
  unfold leavesM withoutM drainM at *
  split
  · rename_i hm
    rw [if_pos hm] at h
    split
    · exact ⟨rfl, rfl⟩
    · rename_i ha
      rw [if_neg ha] at h
      split
      · exact ⟨rfl, rfl⟩
      · rename_i h1
        rw [if_neg h1] at h
        exact absurd rfl h
  · exact ⟨rfl, rfl⟩
theorem leavesM_yes {c : ChM} {n : Int} (h : leavesM c n = 0) : mayMove c = true ∧ ¬ atM c.mem n < 0 ∧ ¬ (c.mem.length : Int) = 1 := by
  unfold leavesM at h
  split at h
  · rename_i hm
    split at h
    · omega
    · rename_i ha
      split at h
      · omega
      · rename_i h1
        exact ⟨hm, ha, h1⟩
  · omega
/-- All but a node. -/
def others (n : Int) (ms : List (Int × Int)) : List (Int × Int) := ms.filter fun m => !decide (m.1 = n)
theorem others_step (n : Int) (ms : List (Int × Int)) (k : Nat) (hk : k < ms.length) : others n (ms.take (k + 1)) = if (ms.getD k (0, 0)).1 = n then others n (ms.take k) else others n (ms.take k) ++ [ms.getD k (0, 0)] := by
  unfold others
  rw [List.take_add_one, List.filter_append]
  simp only [List.getElem?_eq_getElem hk, Option.toList_some, List.getD, Option.getD_some]
  split
  · rename_i h; simp [h]
  · rename_i h; simp [h]
theorem memsOk_at {c : ChM} {k : Nat} (h : memsOk c c.mem.length = true) (hk : k < c.mem.length) : atM c.mem (c.mem.getD k (0, 0)).1 = k := by
  have := List.all_eq_true.1 h k (List.mem_range.2 hk)
  simp only [memOk, Bool.and_eq_true, decide_eq_true_eq] at this
  exact this.2.2.1
theorem okCh_mems {c : ChM} (h : okCh c = true) : memsOk c c.mem.length = true := by
  unfold okCh at h
  simp only [Bool.and_eq_true] at h
  exact h.2.2.2.2.1
theorem others_erase {c : ChM} {n : Int} {k : Nat} (h : okCh c = true) (hk : atM c.mem n = k) : others n c.mem = c.mem.eraseIdx k := by
  have hm := okCh_mems h
  have hkl : k < c.mem.length := by have := atM_lt c.mem n; omega
  have hkn : (c.mem.getD k (0, 0)).1 = n := by
    unfold atM at hk
    split at hk
    · rename_i i hi
      rw [List.findIdx?_eq_some_iff_getElem] at hi
      obtain ⟨h1, h2, _⟩ := hi
      have : i = k := by omega
      subst this
      simpa [List.getD, h1] using h2
    · omega
  have hne : ∀ j, j < c.mem.length → j ≠ k → ¬ (c.mem.getD j (0, 0)).1 = n := fun j hj hjk e => by
    have := memsOk_at hm hj
    rw [e, hk] at this
    omega
  have key : ∀ (l : List (Int × Int)) (k : Nat), k < l.length → (l.getD k (0, 0)).1 = n → (∀ j, j < l.length → j ≠ k → ¬ (l.getD j (0, 0)).1 = n) → others n l = l.eraseIdx k := by
    intro l
    induction l with
    | nil => intro k hk; simp at hk
    | cons x xs ih =>
      intro k hk h1 h2
      cases k with
      | zero =>
        have hx : x.1 = n := by simpa using h1
        have hxs : ∀ y ∈ xs, ¬ y.1 = n := fun y hy => by
          obtain ⟨j, hj, rfl⟩ := List.getElem_of_mem hy
          have := h2 (j + 1) (by simpa using hj) (by omega)
          simpa [List.getD, hj] using this
        simp only [others, List.filter_cons, hx, decide_true, Bool.not_true, Bool.false_eq_true, if_false, List.eraseIdx_cons_zero]
        exact List.filter_eq_self.2 fun y hy => by simp [hxs y hy]
      | succ k =>
        have hx : ¬ x.1 = n := by simpa using h2 0 (by simp) (by omega)
        simp only [others, List.filter_cons, hx, decide_false, Bool.not_false, if_true, List.eraseIdx_cons_succ]
        congr 1
        exact ih k (by simpa using hk) (by simpa using h1) (fun j hj hjk => by simpa using h2 (j + 1) (by simpa using hj) (by omega))
  exact key c.mem k hkl hkn hne
set_option maxRecDepth 100000 in
set_option maxHeartbeats 1000000 in
theorem rwith_any (c : ChM) (p : Value) (n : Int) (w : World) (hp : ChSl w p c) (hl : c.mem.length ≤ 1000000) :
    Calls Try.prog 34 #[chV c p, .int .i64 n] w (OutCh w (withM c n)) := by
  obtain ⟨a, cap, rfl, h1, h2, hr⟩ := hp
  refine x_calls tabOK Try.func34 rfl [chS c (.rs 0 c.mem.length cap), .v (.int .i64 n)] _ _ rfl rfl (relR1 hr) ?_
  by_cases hok : okCh c = true
  · have hlen := okCh_len hok
    repeat' ((conv => whnf); first
        | with_reducible refine Br.tt ?_
        | with_reducible refine Br.ff ?_
        | with_reducible refine Br.nt ?_
        | with_reducible refine Br.nf ?_
        | with_reducible refine Br.eeI ?_
        | with_reducible refine Br.nnI ?_
        | refine Br.yes (by decide) ?_
        | refine Br.no (by decide) ?_
        | refine Need.go rfl ?_
        | refine QuiD.quiet (by kernel_rfl) ?_
        | refine draw_go tabOK (by kernel_rfl) ?_
        | refine Need.go ⟨rfl, rfl⟩ ?_
        | refine Need.go ⟨⟨rfl, rfl, rfl⟩, rfl⟩ ?_
        | with_reducible refine Br.dec (fun h => ?_) (fun h => ?_)
        | with_reducible refine Br.eqI (fun h => ?_) (fun h => ?_)
        | with_reducible refine Br.neI (fun h => ?_) (fun h => ?_)
        | with_reducible refine Br.eqS (fun h => ?_) (fun h => ?_)
        | with_reducible refine Br.neS (fun h => ?_) (fun h => ?_)
        | with_reducible refine Br.nd (fun h => ?_) (fun h => ?_)
        | refine Ar.i64 (by omega) (by omega) ?_
        | (refine call_mem (f := 47) (args := [chS c (.rs 0 _ _)]) (V := .int .i64 0) ?_ ?_; exact fun ρ w h => (by have := rchCheck_any c _ w (sl_rs h (i := 0) rfl (Nat.le_refl _) h1 h2) hl; rw [hok] at this; exact this))
        | (refine quiet_mem (f := 47) (args := [chS c (.rs 0 _ _)]) (V := .int .i64 0) ?_ ?_; exact fun ρ w h => (by have := rchCheck_any c _ w (sl_rs h (i := 0) rfl (Nat.le_refl _) h1 h2) hl; rw [hok] at this; exact this))
        | (refine seg_mem (f := 47) (args := [chS c (.rs 0 _ _)]) (V := .int .i64 0) ?_ ?_; exact fun ρ w h => (by have := rchCheck_any c _ w (sl_rs h (i := 0) rfl (Nat.le_refl _) h1 h2) hl; rw [hok] at this; exact this))
        | (refine call_mem (f := 65) (args := [chS c (.rs 0 _ _), _]) (V := .int .i64 (atM c.mem n)) ?_ ?_; exact fun ρ w h => rat_any c _ n w (sl_rs h (i := 0) rfl (Nat.le_refl _) h1 h2) hl)
        | (refine quiet_mem (f := 65) (args := [chS c (.rs 0 _ _), _]) (V := .int .i64 (atM c.mem n)) ?_ ?_; exact fun ρ w h => rat_any c _ n w (sl_rs h (i := 0) rfl (Nat.le_refl _) h1 h2) hl)
        | (refine seg_mem (f := 65) (args := [chS c (.rs 0 _ _), _]) (V := .int .i64 (atM c.mem n)) ?_ ?_; exact fun ρ w h => rat_any c _ n w (sl_rs h (i := 0) rfl (Nat.le_refl _) h1 h2) hl)
        | refine Need.go ⟨rfl, by omega, memF_one _⟩ ?_
        | refine Need.go (by first | omega | decide | (simp <;> omega) | fail) ?_
        | refine Need.go (by first | (simp [Value.oneCell'] <;> omega) | fail) ?_
        | refine Need.go ⟨rfl, by omega, getD_one rfl rfl⟩ ?_
        | refine Need.go ⟨rfl, by omega, fun _ _ _ _ => rfl⟩ ?_
        | refine Br.both (fun h => ?_) (fun h => ?_))
    all_goals (conv => whnf)
    all_goals first
      | (rw [show withM c n = (chZ, 2) from by simp only [withM, mayMove, hok, Bool.true_and, Bool.not_eq_true', decide_eq_false_iff_not]; first | rw [if_neg (by omega)] | rw [if_pos (by omega), if_neg (by omega)]]
         exact fun ρ' w' hr => outCh_nil rfl (fr_none hr.at.fr))
      | (have hmv : mayMove c = true := mayMove_iff.2 ⟨hok, by assumption⟩
         first
         | (rw [show withM c n = (chZ, 62) from by simp only [withM, hmv, if_true]; rw [if_pos (by omega), if_pos (by omega)]]
            exact fun ρ' w' hr => outCh_nil rfl (fr_none hr.at.fr))
         | (rw [show withM c n = (⟨c.epoch + 1, c.mem ++ [(n, c.epoch + 1)], c.drain⟩, 0) from by simp only [withM, hmv, if_true]; rw [if_pos (by omega), if_neg (by omega)]]
            exact fun ρ' w' hr => ⟨(SV.os 5 _).den ρ', rfl, owns_congr (own_out (i := 5) hr rfl) (by simp) (memF_snoc c.mem n (c.epoch + 1)), fr_none hr.at.fr⟩))
  · have hok : okCh c = false := by simpa using hok
    repeat' ((conv => whnf); first
        | with_reducible refine Br.tt ?_
        | with_reducible refine Br.ff ?_
        | with_reducible refine Br.nt ?_
        | with_reducible refine Br.nf ?_
        | with_reducible refine Br.eeI ?_
        | with_reducible refine Br.nnI ?_
        | refine Br.yes (by decide) ?_
        | refine Br.no (by decide) ?_
        | refine Need.go rfl ?_
        | refine QuiD.quiet (by kernel_rfl) ?_
        | refine draw_go tabOK (by kernel_rfl) ?_
        | refine Need.go ⟨rfl, rfl⟩ ?_
        | refine Need.go ⟨⟨rfl, rfl, rfl⟩, rfl⟩ ?_
        | with_reducible refine Br.dec (fun h => ?_) (fun h => ?_)
        | with_reducible refine Br.eqI (fun h => ?_) (fun h => ?_)
        | with_reducible refine Br.neI (fun h => ?_) (fun h => ?_)
        | with_reducible refine Br.eqS (fun h => ?_) (fun h => ?_)
        | with_reducible refine Br.neS (fun h => ?_) (fun h => ?_)
        | with_reducible refine Br.nd (fun h => ?_) (fun h => ?_)
        | refine Ar.i64 (by omega) (by omega) ?_
        | (refine call_mem (f := 47) (args := [chS c (.rs 0 _ _)]) (V := .int .i64 2) ?_ ?_; exact fun ρ w h => (by have := rchCheck_any c _ w (sl_rs h (i := 0) rfl (Nat.le_refl _) h1 h2) hl; rw [hok] at this; exact this))
        | (refine quiet_mem (f := 47) (args := [chS c (.rs 0 _ _)]) (V := .int .i64 2) ?_ ?_; exact fun ρ w h => (by have := rchCheck_any c _ w (sl_rs h (i := 0) rfl (Nat.le_refl _) h1 h2) hl; rw [hok] at this; exact this))
        | (refine seg_mem (f := 47) (args := [chS c (.rs 0 _ _)]) (V := .int .i64 2) ?_ ?_; exact fun ρ w h => (by have := rchCheck_any c _ w (sl_rs h (i := 0) rfl (Nat.le_refl _) h1 h2) hl; rw [hok] at this; exact this))
        | refine Need.go (by first | omega | decide | (simp <;> omega) | fail) ?_
        | refine Need.go (by first | (simp [Value.oneCell'] <;> omega) | fail) ?_
        | refine Need.go ⟨rfl, by omega, getD_one rfl rfl⟩ ?_
        | refine Need.go ⟨rfl, by omega, fun _ _ _ _ => rfl⟩ ?_
        | refine Br.both (fun h => ?_) (fun h => ?_))
    (conv => whnf)
    rw [show withM c n = (chZ, 2) from by simp [withM, mayMove, hok]]
    exact fun ρ' w' hr => outCh_nil rfl (fr_none hr.at.fr)
set_option maxRecDepth 100000 in
set_option maxHeartbeats 1000000 in
theorem rdrain_any (c : ChM) (p : Value) (n : Int) (w : World) (hp : ChSl w p c) (hl : c.mem.length ≤ 1000000) :
    Calls Try.prog 38 #[chV c p, .int .i64 n] w (OutCh w (drainM c n)) := by
  obtain ⟨a, cap, rfl, h1, h2, hr⟩ := hp
  refine x_calls tabOK Try.func38 rfl [chS c (.rs 0 c.mem.length cap), .v (.int .i64 n)] _ _ rfl rfl (relR1 hr) ?_
  by_cases h0 : leavesM c n = 0
  · obtain ⟨hmv, ha, hone⟩ := leavesM_yes h0
    have hlen := okCh_len (mayMove_iff.1 hmv).1
    have he := (mayMove_iff.1 hmv).2
    repeat' ((conv => whnf); first
        | with_reducible refine Br.tt ?_
        | with_reducible refine Br.ff ?_
        | with_reducible refine Br.nt ?_
        | with_reducible refine Br.nf ?_
        | with_reducible refine Br.eeI ?_
        | with_reducible refine Br.nnI ?_
        | refine Br.yes (by decide) ?_
        | refine Br.no (by decide) ?_
        | refine Need.go rfl ?_
        | refine QuiD.quiet (by kernel_rfl) ?_
        | refine draw_go tabOK (by kernel_rfl) ?_
        | refine Need.go ⟨rfl, rfl⟩ ?_
        | refine Need.go ⟨⟨rfl, rfl, rfl⟩, rfl⟩ ?_
        | with_reducible refine Br.dec (fun h => ?_) (fun h => ?_)
        | with_reducible refine Br.eqI (fun h => ?_) (fun h => ?_)
        | with_reducible refine Br.neI (fun h => ?_) (fun h => ?_)
        | with_reducible refine Br.eqS (fun h => ?_) (fun h => ?_)
        | with_reducible refine Br.neS (fun h => ?_) (fun h => ?_)
        | with_reducible refine Br.nd (fun h => ?_) (fun h => ?_)
        | refine Ar.i64 (by omega) (by omega) ?_
        | (refine call_mem (f := 68) (args := [chS c (.rs 0 _ _), _]) (V := .int .i64 0) ?_ ?_; exact fun ρ w h => (by have := leaves_any c _ n w (sl_rs h (i := 0) rfl (Nat.le_refl _) h1 h2) hl; rw [h0] at this; exact this))
        | (refine quiet_mem (f := 68) (args := [chS c (.rs 0 _ _), _]) (V := .int .i64 0) ?_ ?_; exact fun ρ w h => (by have := leaves_any c _ n w (sl_rs h (i := 0) rfl (Nat.le_refl _) h1 h2) hl; rw [h0] at this; exact this))
        | (refine seg_mem (f := 68) (args := [chS c (.rs 0 _ _), _]) (V := .int .i64 0) ?_ ?_; exact fun ρ w h => (by have := leaves_any c _ n w (sl_rs h (i := 0) rfl (Nat.le_refl _) h1 h2) hl; rw [h0] at this; exact this))
        | refine Need.go ⟨rfl, by omega, memF_one _⟩ ?_
        | refine Need.go (by first | omega | decide | (simp <;> omega) | fail) ?_
        | refine Need.go (by first | (simp [Value.oneCell'] <;> omega) | fail) ?_
        | refine Need.go ⟨rfl, by omega, getD_one rfl rfl⟩ ?_
        | refine Need.go ⟨rfl, by omega, fun _ _ _ _ => rfl⟩ ?_
        | refine Br.both (fun h => ?_) (fun h => ?_))
    all_goals (conv => whnf)
    · rw [show drainM c n = (chZ, 62) from by simp only [drainM, hmv, if_true]; rw [if_neg ha, if_neg hone, if_neg h]]
      exact fun ρ' w' hr => outCh_nil rfl (fr_none hr.at.fr)
    · rw [show drainM c n = (⟨c.epoch + 1, c.mem, n⟩, 0) from by simp only [drainM, hmv, if_true]; rw [if_neg ha, if_neg hone, if_pos h]]
      exact fun ρ' w' hr => ⟨(SV.os 3 _).den ρ', rfl, own_out (i := 3) hr rfl, fr_none hr.at.fr⟩
  · have e := (leavesM_no h0).2
    generalize her : leavesM c n = er at h0 e
    rw [e]
    repeat' ((conv => whnf); first
        | refine Br.yes (by simpa using h0) ?_
        | with_reducible refine Br.tt ?_
        | with_reducible refine Br.ff ?_
        | with_reducible refine Br.nt ?_
        | with_reducible refine Br.nf ?_
        | with_reducible refine Br.eeI ?_
        | with_reducible refine Br.nnI ?_
        | refine Br.yes (by decide) ?_
        | refine Br.no (by decide) ?_
        | refine Need.go rfl ?_
        | refine QuiD.quiet (by kernel_rfl) ?_
        | refine draw_go tabOK (by kernel_rfl) ?_
        | refine Need.go ⟨rfl, rfl⟩ ?_
        | refine Need.go ⟨⟨rfl, rfl, rfl⟩, rfl⟩ ?_
        | with_reducible refine Br.dec (fun h => ?_) (fun h => ?_)
        | with_reducible refine Br.eqI (fun h => ?_) (fun h => ?_)
        | with_reducible refine Br.neI (fun h => ?_) (fun h => ?_)
        | with_reducible refine Br.eqS (fun h => ?_) (fun h => ?_)
        | with_reducible refine Br.neS (fun h => ?_) (fun h => ?_)
        | with_reducible refine Br.nd (fun h => ?_) (fun h => ?_)
        | refine Ar.i64 (by omega) (by omega) ?_
        | (refine call_mem (f := 68) (args := [chS c (.rs 0 _ _), _]) (V := .int .i64 er) ?_ ?_; exact fun ρ w h => (by have := leaves_any c _ n w (sl_rs h (i := 0) rfl (Nat.le_refl _) h1 h2) hl; rw [her] at this; exact this))
        | (refine quiet_mem (f := 68) (args := [chS c (.rs 0 _ _), _]) (V := .int .i64 er) ?_ ?_; exact fun ρ w h => (by have := leaves_any c _ n w (sl_rs h (i := 0) rfl (Nat.le_refl _) h1 h2) hl; rw [her] at this; exact this))
        | (refine seg_mem (f := 68) (args := [chS c (.rs 0 _ _), _]) (V := .int .i64 er) ?_ ?_; exact fun ρ w h => (by have := leaves_any c _ n w (sl_rs h (i := 0) rfl (Nat.le_refl _) h1 h2) hl; rw [her] at this; exact this))
        | refine Need.go (by first | omega | decide | (simp <;> omega) | fail) ?_
        | refine Need.go (by first | (simp [Value.oneCell'] <;> omega) | fail) ?_
        | refine Need.go ⟨rfl, by omega, getD_one rfl rfl⟩ ?_
        | refine Need.go ⟨rfl, by omega, fun _ _ _ _ => rfl⟩ ?_
        | refine Br.both (fun h => ?_) (fun h => ?_))
    (conv => whnf)
    exact fun ρ' w' hr => outCh_nil rfl (fr_none hr.at.fr)
set_option maxRecDepth 100000 in
set_option maxHeartbeats 1000000 in
theorem rwithout_any (c : ChM) (p : Value) (n : Int) (w : World) (hp : ChSl w p c) (hl : c.mem.length ≤ 1000000) :
    Calls Try.prog 36 #[chV c p, .int .i64 n] w (OutCh w (withoutM c n)) := by
  obtain ⟨a, cap, rfl, h1, h2, hr⟩ := hp
  refine x_calls tabOK Try.func36 rfl [chS c (.rs 0 c.mem.length cap), .v (.int .i64 n)] _ _ rfl rfl (relR1 hr) ?_
  by_cases h0 : leavesM c n = 0
  · obtain ⟨hmv, ha, hone⟩ := leavesM_yes h0
    have hlen := okCh_len (mayMove_iff.1 hmv).1
    have he := (mayMove_iff.1 hmv).2
    repeat' ((conv => whnf); first
        | with_reducible refine Br.tt ?_
        | with_reducible refine Br.ff ?_
        | with_reducible refine Br.nt ?_
        | with_reducible refine Br.nf ?_
        | with_reducible refine Br.eeI ?_
        | with_reducible refine Br.nnI ?_
        | refine Br.yes (by decide) ?_
        | refine Br.no (by decide) ?_
        | refine Need.go rfl ?_
        | refine QuiD.quiet (by kernel_rfl) ?_
        | refine draw_go tabOK (by kernel_rfl) ?_
        | refine Need.go ⟨rfl, rfl⟩ ?_
        | refine Need.go ⟨⟨rfl, rfl, rfl⟩, rfl⟩ ?_
        | with_reducible refine Br.dec (fun h => ?_) (fun h => ?_)
        | with_reducible refine Br.eqI (fun h => ?_) (fun h => ?_)
        | with_reducible refine Br.neI (fun h => ?_) (fun h => ?_)
        | with_reducible refine Br.eqS (fun h => ?_) (fun h => ?_)
        | with_reducible refine Br.neS (fun h => ?_) (fun h => ?_)
        | with_reducible refine Br.nd (fun h => ?_) (fun h => ?_)
        | refine Ar.i64 (by omega) (by omega) ?_
        | (refine call_mem (f := 68) (args := [chS c (.rs 0 _ _), _]) (V := .int .i64 0) ?_ ?_; exact fun ρ w h => (by have := leaves_any c _ n w (sl_rs h (i := 0) rfl (Nat.le_refl _) h1 h2) hl; rw [h0] at this; exact this))
        | (refine quiet_mem (f := 68) (args := [chS c (.rs 0 _ _), _]) (V := .int .i64 0) ?_ ?_; exact fun ρ w h => (by have := leaves_any c _ n w (sl_rs h (i := 0) rfl (Nat.le_refl _) h1 h2) hl; rw [h0] at this; exact this))
        | (refine seg_mem (f := 68) (args := [chS c (.rs 0 _ _), _]) (V := .int .i64 0) ?_ ?_; exact fun ρ w h => (by have := leaves_any c _ n w (sl_rs h (i := 0) rfl (Nat.le_refl _) h1 h2) hl; rw [h0] at this; exact this))
        | refine Need.go (by first | omega | decide | (simp <;> omega) | fail) ?_
        | refine Need.go (by first | (simp [Value.oneCell'] <;> omega) | fail) ?_
        | refine Need.go ⟨rfl, by omega, getD_one rfl rfl⟩ ?_
        | refine Need.go ⟨rfl, by omega, fun _ _ _ _ => rfl⟩ ?_
        | refine Br.both (fun h => ?_) (fun h => ?_))
    (conv => whnf)
    refine loop_up 22 (fun k : Nat => k ≤ c.mem.length) (fun k => c.mem.length - k) (fun k => [(8, .v (.int .i64 k))]) (fun k => [(3, .cells [(1, .os 4 (others n (c.mem.take k)).length)])]) (fun k => [.own 70 2 (others n (c.mem.take k)).length (memF (others n (c.mem.take k)))]) 0 (Nat.zero_le _) (by
      (conv => whnf)
      refine ⟨[some 0, some 1, some 2, some 3, none], by decide, ?_, ?_⟩
      all_goals repeat' (first | exact trivial | exact .inl ⟨rfl, rfl⟩ | rfl | exact .inr ⟨_, rfl, rfl, rfl⟩ | exact ⟨_, rfl, trivial⟩ | exact ⟨_, rfl, rfl⟩ | exact ⟨_, rfl, ⟨rfl, rfl, rfl⟩, fun _ _ _ _ => rfl⟩ | exact ⟨_, rfl, ⟨rfl, rfl, .inl rfl⟩, rfl⟩ | exact ⟨_, rfl, ⟨rfl, rfl, .inr rfl⟩, rfl⟩ | exact ⟨_, rfl, ⟨rfl, rfl, rfl, rfl, rfl⟩, rfl⟩ | refine ⟨_, rfl, rfl, ?_⟩ | refine ⟨_, rfl, ⟨rfl, rfl, rfl⟩, ?_⟩ | refine And.intro ?_ ?_)) (fun k hk => ?_)
    generalize hms : others n (c.mem.take k) = ms
    have hml : ms.length ≤ 6 := by
      rw [← hms]
      exact Nat.le_trans (List.length_filter_le _ _) (by simp; omega)
    repeat' ((conv => whnf); first
        | refine Need.go rfl ?_
        | refine QuiD.quiet (by kernel_rfl) ?_
        | refine draw_go tabOK (by kernel_rfl) ?_
        | refine Need.go ⟨rfl, rfl⟩ ?_
        | refine Need.go ⟨⟨rfl, rfl, rfl⟩, rfl⟩ ?_
        | with_reducible refine Br.dec (fun h => ?_) (fun h => ?_)
        | with_reducible refine Br.eqI (fun h => ?_) (fun h => ?_)
        | with_reducible refine Br.neI (fun h => ?_) (fun h => ?_)
        | with_reducible refine Br.eqS (fun h => ?_) (fun h => ?_)
        | with_reducible refine Br.neS (fun h => ?_) (fun h => ?_)
        | with_reducible refine Br.nd (fun h => ?_) (fun h => ?_)
        | refine Ar.i64 (by omega) (by omega) ?_
        | refine Need.go ⟨rfl, by omega, memF_one _⟩ ?_
        | refine Need.go (by first | omega | decide | (simp <;> omega) | fail) ?_
        | refine Need.go (by first | (simp [Value.oneCell'] <;> omega) | fail) ?_
        | refine Need.go ⟨rfl, by omega, getD_one rfl rfl⟩ ?_
        | refine Need.go ⟨rfl, by omega, fun _ _ _ _ => rfl⟩ ?_
        | refine Br.both (fun h => ?_) (fun h => ?_))
    all_goals (conv => whnf)
    · have h : ¬ (c.mem.getD k (0, 0)).1 = n := h
      have hst := others_step n c.mem k (by omega)
      rw [if_neg h, hms] at hst
      refine ⟨k + 1, by omega, by omega, ?_⟩
      rw [hst]
      simp only [List.length_append, List.length_cons, List.length_nil, Nat.zero_add]
      (conv => whnf)
      refine ⟨[some 0, some 1, some 2, some 3, some 6], by decide, ?_, ?_⟩
      all_goals repeat' (first | exact ⟨_, rfl, ⟨rfl, rfl, rfl⟩, memF_snoc ms (c.mem.getD k (0, 0)).1 (c.mem.getD k (0, 0)).2⟩ | exact trivial | exact .inl ⟨rfl, rfl⟩ | rfl | exact .inr ⟨_, rfl, rfl, rfl⟩ | exact ⟨_, rfl, trivial⟩ | exact ⟨_, rfl, rfl⟩ | exact ⟨_, rfl, ⟨rfl, rfl, rfl⟩, fun _ _ _ _ => rfl⟩ | exact ⟨_, rfl, ⟨rfl, rfl, .inl rfl⟩, rfl⟩ | exact ⟨_, rfl, ⟨rfl, rfl, .inr rfl⟩, rfl⟩ | exact ⟨_, rfl, ⟨rfl, rfl, rfl, rfl, rfl⟩, rfl⟩ | refine ⟨_, rfl, rfl, ?_⟩ | refine ⟨_, rfl, ⟨rfl, rfl, rfl⟩, ?_⟩ | refine And.intro ?_ ?_)
    · have h : (c.mem.getD k (0, 0)).1 = n := h
      have hst := others_step n c.mem k (by omega)
      rw [if_pos h, hms] at hst
      refine ⟨k + 1, by omega, by omega, ?_⟩
      rw [hst]
      (conv => whnf)
      refine ⟨[some 0, some 1, some 2, some 3, some 4], by decide, ?_, ?_⟩
      all_goals repeat' (first | exact trivial | exact .inl ⟨rfl, rfl⟩ | rfl | exact .inr ⟨_, rfl, rfl, rfl⟩ | exact ⟨_, rfl, trivial⟩ | exact ⟨_, rfl, rfl⟩ | exact ⟨_, rfl, ⟨rfl, rfl, rfl⟩, fun _ _ _ _ => rfl⟩ | exact ⟨_, rfl, ⟨rfl, rfl, .inl rfl⟩, rfl⟩ | exact ⟨_, rfl, ⟨rfl, rfl, .inr rfl⟩, rfl⟩ | exact ⟨_, rfl, ⟨rfl, rfl, rfl, rfl, rfl⟩, rfl⟩ | refine ⟨_, rfl, rfl, ?_⟩ | refine ⟨_, rfl, ⟨rfl, rfl, rfl⟩, ?_⟩ | refine And.intro ?_ ?_)
    all_goals (conv => whnf)
    all_goals
      obtain ⟨j, hj⟩ : ∃ j : Nat, atM c.mem n = j := ⟨(atM c.mem n).toNat, by omega⟩
      have hms : others n c.mem = ms := by rw [← hms, List.take_of_length_le (by omega)]
      have hme : ms = c.mem.eraseIdx j := by rw [← hms]; exact others_erase (mayMove_iff.1 hmv).1 hj
      rw [show withoutM c n = (⟨c.epoch + 1, c.mem.eraseIdx j, if c.drain = n then -1 else c.drain⟩, 0) from by simp only [withoutM, hmv, if_true]; rw [if_neg ha, if_neg hone, hj]; rfl, ← hme]
    · rw [if_pos h]
      exact fun ρ' w' hr => ⟨(SV.os 4 _).den ρ', rfl, own_out (i := 4) hr rfl, fr_none hr.at.fr⟩
    · rw [if_neg h]
      exact fun ρ' w' hr => ⟨(SV.os 4 _).den ρ', rfl, own_out (i := 4) hr rfl, fr_none hr.at.fr⟩
  · have e := (leavesM_no h0).1
    generalize her : leavesM c n = er at h0 e
    rw [e]
    repeat' ((conv => whnf); first
        | refine Br.yes (by simpa using h0) ?_
        | with_reducible refine Br.tt ?_
        | with_reducible refine Br.ff ?_
        | with_reducible refine Br.nt ?_
        | with_reducible refine Br.nf ?_
        | with_reducible refine Br.eeI ?_
        | with_reducible refine Br.nnI ?_
        | refine Br.yes (by decide) ?_
        | refine Br.no (by decide) ?_
        | refine Need.go rfl ?_
        | refine QuiD.quiet (by kernel_rfl) ?_
        | refine draw_go tabOK (by kernel_rfl) ?_
        | refine Need.go ⟨rfl, rfl⟩ ?_
        | refine Need.go ⟨⟨rfl, rfl, rfl⟩, rfl⟩ ?_
        | with_reducible refine Br.dec (fun h => ?_) (fun h => ?_)
        | with_reducible refine Br.eqI (fun h => ?_) (fun h => ?_)
        | with_reducible refine Br.neI (fun h => ?_) (fun h => ?_)
        | with_reducible refine Br.eqS (fun h => ?_) (fun h => ?_)
        | with_reducible refine Br.neS (fun h => ?_) (fun h => ?_)
        | with_reducible refine Br.nd (fun h => ?_) (fun h => ?_)
        | refine Ar.i64 (by omega) (by omega) ?_
        | (refine call_mem (f := 68) (args := [chS c (.rs 0 _ _), _]) (V := .int .i64 er) ?_ ?_; exact fun ρ w h => (by have := leaves_any c _ n w (sl_rs h (i := 0) rfl (Nat.le_refl _) h1 h2) hl; rw [her] at this; exact this))
        | (refine quiet_mem (f := 68) (args := [chS c (.rs 0 _ _), _]) (V := .int .i64 er) ?_ ?_; exact fun ρ w h => (by have := leaves_any c _ n w (sl_rs h (i := 0) rfl (Nat.le_refl _) h1 h2) hl; rw [her] at this; exact this))
        | (refine seg_mem (f := 68) (args := [chS c (.rs 0 _ _), _]) (V := .int .i64 er) ?_ ?_; exact fun ρ w h => (by have := leaves_any c _ n w (sl_rs h (i := 0) rfl (Nat.le_refl _) h1 h2) hl; rw [her] at this; exact this))
        | refine Need.go (by first | omega | decide | (simp <;> omega) | fail) ?_
        | refine Need.go (by first | (simp [Value.oneCell'] <;> omega) | fail) ?_
        | refine Need.go ⟨rfl, by omega, getD_one rfl rfl⟩ ?_
        | refine Need.go ⟨rfl, by omega, fun _ _ _ _ => rfl⟩ ?_
        | refine Br.both (fun h => ?_) (fun h => ?_))
    (conv => whnf)
    exact fun ρ' w' hr => outCh_nil rfl (fr_none hr.at.fr)
set_option maxRecDepth 100000 in
set_option maxHeartbeats 1000000 in
theorem chSame_any (a b : ChM) (p q : Value) (w : World) (hp : ChSl w p a) (hq : ChSl w q b) (hl : a.mem.length ≤ 1000000) :
    Calls Try.prog 43 #[chV a p, chV b q] w fun e w' => e = .returned (.bool (sameCh a b)) ∧ w.grownBy w' none := by
  obtain ⟨d, cap, rfl, h1, h2, hr⟩ := hp
  obtain ⟨d2, cap2, rfl, h3, h4, hr2⟩ := hq
  refine x_calls tabOK Try.func43 rfl [chS a (.rs 0 a.mem.length cap), chS b (.rs 1 b.mem.length cap2)] _ _ rfl rfl (relR2 hr hr2) ?_
  repeat' ((conv => whnf); first
      | refine Need.go rfl ?_
      | refine QuiD.quiet (by kernel_rfl) ?_
      | refine draw_go tabOK (by kernel_rfl) ?_
      | refine Need.go ⟨rfl, rfl⟩ ?_
      | refine Need.go ⟨⟨rfl, rfl, rfl⟩, rfl⟩ ?_
      | with_reducible refine Br.dec (fun h => ?_) (fun h => ?_)
      | with_reducible refine Br.eqI (fun h => ?_) (fun h => ?_)
      | with_reducible refine Br.neI (fun h => ?_) (fun h => ?_)
      | with_reducible refine Br.eqS (fun h => ?_) (fun h => ?_)
      | with_reducible refine Br.neS (fun h => ?_) (fun h => ?_)
      | with_reducible refine Br.nd (fun h => ?_) (fun h => ?_)
      | refine Ar.i64 (by omega) (by omega) ?_
      | (refine call_mem (f := 69) (args := [.rs 0 _ _, .rs 1 _ _]) (V := .bool (a.mem == b.mem)) ?_ ?_; exact fun ρ w h => equalM_any _ _ _ _ w (sl_rs h (i := 0) rfl (Nat.le_refl _) h1 h2) (sl_rs h (i := 1) rfl (Nat.le_refl _) h3 h4) hl)
      | (refine quiet_mem (f := 69) (args := [.rs 0 _ _, .rs 1 _ _]) (V := .bool (a.mem == b.mem)) ?_ ?_; exact fun ρ w h => equalM_any _ _ _ _ w (sl_rs h (i := 0) rfl (Nat.le_refl _) h1 h2) (sl_rs h (i := 1) rfl (Nat.le_refl _) h3 h4) hl)
      | (refine seg_mem (f := 69) (args := [.rs 0 _ _, .rs 1 _ _]) (V := .bool (a.mem == b.mem)) ?_ ?_; exact fun ρ w h => equalM_any _ _ _ _ w (sl_rs h (i := 0) rfl (Nat.le_refl _) h1 h2) (sl_rs h (i := 1) rfl (Nat.le_refl _) h3 h4) hl)
      | refine Need.go (by first | omega | decide | (simp <;> omega) | fail) ?_
      | refine Need.go (by first | (simp [Value.oneCell'] <;> omega) | fail) ?_
      | refine Need.go ⟨rfl, by omega, getD_one rfl rfl⟩ ?_
      | refine Need.go ⟨rfl, by omega, fun _ _ _ _ => rfl⟩ ?_
      | refine Br.both (fun h => ?_) (fun h => ?_))
  all_goals (conv => whnf)
  all_goals
    refine ret_pure (fun _ => ?_)
    simp_all [SV.den, sameCh]
theorem rsameCh_ne {a b : ChM} (h : a.mem ≠ b.mem) : sameCh a b = false := by simp [sameCh, h]
set_option maxRecDepth 100000 in
set_option maxHeartbeats 1000000 in
theorem rchSame_any (a b : ChM) (p q : Value) (w : World) (hp : ChSl w p a) (hq : ChSl w q b) (hl : a.mem.length ≤ 1000000) :
    Calls Try.prog 39 #[chV a p, chV b q] w fun e w' => e = .returned (.bool (sameCh a b)) ∧ w.grownBy w' none := by
  obtain ⟨d, cap, rfl, h1, h2, hr⟩ := hp
  obtain ⟨d2, cap2, rfl, h3, h4, hr2⟩ := hq
  refine x_calls tabOK Try.func39 rfl [chS a (.rs 0 a.mem.length cap), chS b (.rs 1 b.mem.length cap2)] _ _ rfl rfl (relR2 hr hr2) ?_
  repeat' ((conv => whnf); first
      | refine Need.go rfl ?_
      | refine QuiD.quiet (by kernel_rfl) ?_
      | refine draw_go tabOK (by kernel_rfl) ?_
      | refine Need.go ⟨rfl, rfl⟩ ?_
      | refine Need.go ⟨⟨rfl, rfl, rfl⟩, rfl⟩ ?_
      | with_reducible refine Br.dec (fun h => ?_) (fun h => ?_)
      | with_reducible refine Br.eqI (fun h => ?_) (fun h => ?_)
      | with_reducible refine Br.neI (fun h => ?_) (fun h => ?_)
      | with_reducible refine Br.eqS (fun h => ?_) (fun h => ?_)
      | with_reducible refine Br.neS (fun h => ?_) (fun h => ?_)
      | with_reducible refine Br.nd (fun h => ?_) (fun h => ?_)
      | refine Ar.i64 (by omega) (by omega) ?_
      | refine Need.go (by first | omega | decide | (simp <;> omega) | fail) ?_
      | refine Need.go (by first | (simp [Value.oneCell'] <;> omega) | fail) ?_
      | refine Need.go ⟨rfl, by omega, getD_one rfl rfl⟩ ?_
      | refine Need.go ⟨rfl, by omega, fun _ _ _ _ => rfl⟩ ?_
      | refine Br.both (fun h => ?_) (fun h => ?_))
  all_goals (conv => whnf)
  any_goals (refine ret_pure (fun _ => ?_); first | (rw [rsameCh_ne (fun e => h (by rw [e]))]; rfl) | simp_all [SV.den, sameCh])
  · have hl2 : a.mem.length = b.mem.length := by omega
    refine loop_up 6 (fun k : Nat => k ≤ a.mem.length ∧ ∀ j, j < k → a.mem.getD j (0, 0) = b.mem.getD j (0, 0)) (fun k => a.mem.length - k) (fun k => [(5, .v (.int .i64 k))]) (fun k => []) (fun k => []) 0 ⟨by omega, fun j h => absurd h (by omega)⟩ (by
      (conv => whnf)
      refine ⟨[some 0, some 1, some 2, some 3], by decide, ?_, ?_⟩
      all_goals repeat' (first | exact trivial | exact .inl ⟨rfl, rfl⟩ | rfl | exact .inr ⟨_, rfl, rfl, rfl⟩ | exact ⟨_, rfl, trivial⟩ | exact ⟨_, rfl, rfl⟩ | exact ⟨_, rfl, ⟨rfl, rfl, rfl⟩, fun _ _ _ _ => rfl⟩ | exact ⟨_, rfl, ⟨rfl, rfl, .inl rfl⟩, rfl⟩ | exact ⟨_, rfl, ⟨rfl, rfl, .inr rfl⟩, rfl⟩ | exact ⟨_, rfl, ⟨rfl, rfl, rfl, rfl, rfl⟩, rfl⟩ | refine ⟨_, rfl, rfl, ?_⟩ | refine ⟨_, rfl, ⟨rfl, rfl, rfl⟩, ?_⟩ | refine And.intro ?_ ?_)) (fun k hk => ?_)
    obtain ⟨hk, hs⟩ := hk
    repeat' ((conv => whnf); first
        | refine Need.go rfl ?_
        | refine QuiD.quiet (by kernel_rfl) ?_
        | refine draw_go tabOK (by kernel_rfl) ?_
        | refine Need.go ⟨rfl, rfl⟩ ?_
        | refine Need.go ⟨⟨rfl, rfl, rfl⟩, rfl⟩ ?_
        | with_reducible refine Br.dec (fun h => ?_) (fun h => ?_)
        | with_reducible refine Br.eqI (fun h => ?_) (fun h => ?_)
        | with_reducible refine Br.neI (fun h => ?_) (fun h => ?_)
        | with_reducible refine Br.eqS (fun h => ?_) (fun h => ?_)
        | with_reducible refine Br.neS (fun h => ?_) (fun h => ?_)
        | with_reducible refine Br.nd (fun h => ?_) (fun h => ?_)
        | refine Ar.i64 (by omega) (by omega) ?_
        | refine Need.go (by first | omega | decide | (simp <;> omega) | fail) ?_
        | refine Need.go (by first | (simp [Value.oneCell'] <;> omega) | fail) ?_
        | refine Need.go ⟨rfl, by omega, getD_one rfl rfl⟩ ?_
        | refine Need.go ⟨rfl, by omega, fun _ _ _ _ => rfl⟩ ?_
        | refine Br.both (fun h => ?_) (fun h => ?_))
    all_goals (conv => whnf)
    · refine ret_pure (fun _ => ?_)
      rw [rsameCh_ne (fun e => by rw [e] at h; simp at h)]
      rfl
    · have hk2 : k < a.mem.length := by omega
      refine ⟨k + 1, ⟨by omega, fun j hj => ?_⟩, by omega, ?_⟩
      · rcases Nat.lt_or_ge j k with e | e
        · exact hs j e
        · have : j = k := by omega
          subst this
          simp only [Int.toNat_natCast, Bool.not_eq_false', Bool.and_eq_true, beq_iff_eq, and_true] at h
          exact Prod.ext h.1 h.2
      · (conv => whnf)
        refine ⟨[some 0, some 1, some 2, some 3], by decide, ?_, ?_⟩
        all_goals repeat' (first | exact trivial | exact .inl ⟨rfl, rfl⟩ | rfl | exact .inr ⟨_, rfl, rfl, rfl⟩ | exact ⟨_, rfl, trivial⟩ | exact ⟨_, rfl, rfl⟩ | exact ⟨_, rfl, ⟨rfl, rfl, rfl⟩, fun _ _ _ _ => rfl⟩ | exact ⟨_, rfl, ⟨rfl, rfl, .inl rfl⟩, rfl⟩ | exact ⟨_, rfl, ⟨rfl, rfl, .inr rfl⟩, rfl⟩ | exact ⟨_, rfl, ⟨rfl, rfl, rfl, rfl, rfl⟩, rfl⟩ | refine ⟨_, rfl, rfl, ?_⟩ | refine ⟨_, rfl, ⟨rfl, rfl, rfl⟩, ?_⟩ | refine And.intro ?_ ?_)
    · have e : a.mem = b.mem := mem_ext hl2 (fun j hj => hs j (by omega))
      refine ret_pure (fun _ => ?_)
      simp_all [SV.den, sameCh]
end Go.Proofs.Ytcogbepdjegheaa
