/-
  Chains: the document's. No condition.
-/
import Derived.Test.YtcogbepdjegheaaCh6

namespace Go.Proofs.Ytcogbepdjegheaa
def stepM (c : ChM) (n b : Int) : Int := if okCh c = true ∧ 0 ≤ atM c.mem n ∧ 0 ≤ atM c.mem n + b ∧ atM c.mem n + b < c.mem.length then (c.mem.getD (atM c.mem n + b).toNat (0, 0)).1 else -1
theorem stepM_next (c : ChM) (n : Int) : stepM c n 1 = nextM c n := by
  unfold stepM nextM memberM
  split
  · rename_i h
    rw [if_neg (by omega), if_pos ⟨h.1, by omega, h.2.2.2⟩]
  · rename_i h
    split
    · rfl
    · rw [if_neg (fun h' => h ⟨h'.1, by omega, h'.2.1, h'.2.2⟩)]
theorem stepM_prev (c : ChM) (n : Int) : stepM c n (-1) = prevM c n := by
  unfold stepM prevM memberM
  rw [show atM c.mem n + -1 = atM c.mem n - 1 by omega]
  split
  · rename_i h
    rw [if_pos ⟨h.1, h.2.2.1, h.2.2.2⟩]
  · rename_i h
    rw [if_neg (fun h' => h ⟨h'.1, by omega, h'.2.1, h'.2.2⟩)]
set_option maxRecDepth 100000 in
set_option maxHeartbeats 1000000 in
theorem rstep_any (c : ChM) (p : Value) (n b : Int) (w : World) (hp : ChSl w p c) (hl : c.mem.length ≤ 1000000) (hb : -1000 ≤ b ∧ b ≤ 1000) :
    Calls Try.prog 72 #[chV c p, .int .i64 n, .int .i64 b] w fun e w' => e = .returned (.int .i64 (stepM c n b)) ∧ w.grownBy w' none := by
  obtain ⟨a, cap, rfl, h1, h2, hr⟩ := hp
  have hlt := atM_lt c.mem n
  have hge := atM_ge c.mem n
  refine x_calls tabOK Try.func72 rfl [chS c (.rs 0 c.mem.length cap), .v (.int .i64 n), .v (.int .i64 b)] _ _ rfl rfl (relR1 hr) ?_
  repeat' ((conv => whnf); first
      | refine Need.go rfl ?_
      | refine QuiD.quiet (by kernel_rfl) ?_
      | refine draw_go tabOK (by kernel_rfl) ?_
      | refine Need.go ⟨rfl, rfl⟩ ?_
      | refine Need.go ⟨⟨rfl, rfl, rfl⟩, rfl⟩ ?_
      | with_reducible refine Br.dec (fun h => ?_) (fun h => ?_)
      | with_reducible refine Br.eqI (fun h => ?_) (fun h => ?_)
      | with_reducible refine Br.neI (fun h => ?_) (fun h => ?_)
      | with_reducible refine Br.eqS (fun h => ?_) (fun h => ?_)
      | with_reducible refine Br.neS (fun h => ?_) (fun h => ?_)
      | with_reducible refine Br.nd (fun h => ?_) (fun h => ?_)
      | refine Ar.i64 (by omega) (by omega) ?_
      | (refine call_mem (f := 47) (args := [chS c (.rs 0 _ _)]) (V := .int .i64 (if okCh c then 0 else 2)) ?_ ?_; exact fun ρ w h => rchCheck_any c _ w (sl_rs h (i := 0) rfl (Nat.le_refl _) h1 h2) hl)
      | (refine quiet_mem (f := 47) (args := [chS c (.rs 0 _ _)]) (V := .int .i64 (if okCh c then 0 else 2)) ?_ ?_; exact fun ρ w h => rchCheck_any c _ w (sl_rs h (i := 0) rfl (Nat.le_refl _) h1 h2) hl)
      | (refine seg_mem (f := 47) (args := [chS c (.rs 0 _ _)]) (V := .int .i64 (if okCh c then 0 else 2)) ?_ ?_; exact fun ρ w h => rchCheck_any c _ w (sl_rs h (i := 0) rfl (Nat.le_refl _) h1 h2) hl)
      | (refine call_mem (f := 65) (args := [chS c (.rs 0 _ _), _]) (V := .int .i64 (atM c.mem n)) ?_ ?_; exact fun ρ w h => rat_any c _ n w (sl_rs h (i := 0) rfl (Nat.le_refl _) h1 h2) hl)
      | (refine quiet_mem (f := 65) (args := [chS c (.rs 0 _ _), _]) (V := .int .i64 (atM c.mem n)) ?_ ?_; exact fun ρ w h => rat_any c _ n w (sl_rs h (i := 0) rfl (Nat.le_refl _) h1 h2) hl)
      | (refine seg_mem (f := 65) (args := [chS c (.rs 0 _ _), _]) (V := .int .i64 (atM c.mem n)) ?_ ?_; exact fun ρ w h => rat_any c _ n w (sl_rs h (i := 0) rfl (Nat.le_refl _) h1 h2) hl)
      | refine Need.go (by first | omega | decide | (simp <;> omega) | fail) ?_
      | refine Need.go (by first | (simp [Value.oneCell'] <;> omega) | fail) ?_
      | refine Need.go ⟨rfl, by omega, getD_one rfl rfl⟩ ?_
      | refine Need.go ⟨rfl, by omega, fun _ _ _ _ => rfl⟩ ?_
      | refine Br.both (fun h => ?_) (fun h => ?_))
  all_goals (conv => whnf)
  all_goals (try have ok := errC_true ‹_›)
  all_goals (try have ok := errC_false ‹_›)
  all_goals first
    | (refine ret_pure (fun _ => ?_)
       have e : stepM c n b = -1 := if_neg (by rw [ok]; omega)
       rw [e]; rfl)
    | (refine ret_pure (fun _ => ?_)
       have e : stepM c n b = (c.mem.getD (atM c.mem n + b).toNat (0, 0)).1 := if_pos ⟨ok, by omega, by omega, by omega⟩
       rw [e]; rfl)
    | (refine ret_pure (fun _ => ?_)
       have e : stepM c n b = -1 := if_neg (by rw [ok]; simp)
       rw [e]; rfl)
set_option maxRecDepth 100000 in
set_option maxHeartbeats 1000000 in
theorem rends_any (c : ChM) (p : Value) (w : World) (hp : ChSl w p c) (hl : c.mem.length ≤ 1000000) :
    Calls Try.prog 70 #[chV c p] w fun e w' => e = .returned (.tuple #[.int .i64 (memberM c 0), .int .i64 (memberM c (c.mem.length - 1))]) ∧ w.grownBy w' none := by
  obtain ⟨a, cap, rfl, h1, h2, hr⟩ := hp
  refine x_calls tabOK Try.func70 rfl [chS c (.rs 0 c.mem.length cap)] _ _ rfl rfl (relR1 hr) ?_
  by_cases hok : okCh c = true
  · have hlen := okCh_len hok
    repeat' ((conv => whnf); first
        | with_reducible refine Br.tt ?_
        | with_reducible refine Br.ff ?_
        | with_reducible refine Br.nt ?_
        | with_reducible refine Br.nf ?_
        | with_reducible refine Br.eeI ?_
        | with_reducible refine Br.nnI ?_
        | refine Br.yes (by decide) ?_
        | refine Br.no (by decide) ?_
        | refine Need.go rfl ?_
        | refine QuiD.quiet (by kernel_rfl) ?_
        | refine draw_go tabOK (by kernel_rfl) ?_
        | refine Need.go ⟨rfl, rfl⟩ ?_
        | refine Need.go ⟨⟨rfl, rfl, rfl⟩, rfl⟩ ?_
        | with_reducible refine Br.dec (fun h => ?_) (fun h => ?_)
        | with_reducible refine Br.eqI (fun h => ?_) (fun h => ?_)
        | with_reducible refine Br.neI (fun h => ?_) (fun h => ?_)
        | with_reducible refine Br.eqS (fun h => ?_) (fun h => ?_)
        | with_reducible refine Br.neS (fun h => ?_) (fun h => ?_)
        | with_reducible refine Br.nd (fun h => ?_) (fun h => ?_)
        | refine Ar.i64 (by omega) (by omega) ?_
        | (refine call_mem (f := 47) (args := [chS c (.rs 0 _ _)]) (V := .int .i64 0) ?_ ?_; exact fun ρ w h => (by have := rchCheck_any c _ w (sl_rs h (i := 0) rfl (Nat.le_refl _) h1 h2) hl; rw [hok] at this; exact this))
        | (refine quiet_mem (f := 47) (args := [chS c (.rs 0 _ _)]) (V := .int .i64 0) ?_ ?_; exact fun ρ w h => (by have := rchCheck_any c _ w (sl_rs h (i := 0) rfl (Nat.le_refl _) h1 h2) hl; rw [hok] at this; exact this))
        | (refine seg_mem (f := 47) (args := [chS c (.rs 0 _ _)]) (V := .int .i64 0) ?_ ?_; exact fun ρ w h => (by have := rchCheck_any c _ w (sl_rs h (i := 0) rfl (Nat.le_refl _) h1 h2) hl; rw [hok] at this; exact this))
        | refine Need.go (by first | omega | decide | (simp <;> omega) | fail) ?_
        | refine Need.go (by first | (simp [Value.oneCell'] <;> omega) | fail) ?_
        | refine Need.go ⟨rfl, by omega, getD_one rfl rfl⟩ ?_
        | refine Need.go ⟨rfl, by omega, fun _ _ _ _ => rfl⟩ ?_
        | refine Br.both (fun h => ?_) (fun h => ?_))
    (conv => whnf)
    refine ret_pure (fun _ => ?_)
    rw [show memberM c 0 = (c.mem.getD (0 : Int).toNat (0, 0)).1 from if_pos ⟨hok, by omega, by omega⟩, show memberM c (c.mem.length - 1) = (c.mem.getD ((c.mem.length : Int) - 1).toNat (0, 0)).1 from if_pos ⟨hok, by omega, by omega⟩]
    rfl
  · have hok' : okCh c = false := by simpa using hok
    repeat' ((conv => whnf); first
        | with_reducible refine Br.tt ?_
        | with_reducible refine Br.ff ?_
        | with_reducible refine Br.nt ?_
        | with_reducible refine Br.nf ?_
        | with_reducible refine Br.eeI ?_
        | with_reducible refine Br.nnI ?_
        | refine Br.yes (by decide) ?_
        | refine Br.no (by decide) ?_
        | refine Need.go rfl ?_
        | refine QuiD.quiet (by kernel_rfl) ?_
        | refine draw_go tabOK (by kernel_rfl) ?_
        | refine Need.go ⟨rfl, rfl⟩ ?_
        | refine Need.go ⟨⟨rfl, rfl, rfl⟩, rfl⟩ ?_
        | with_reducible refine Br.dec (fun h => ?_) (fun h => ?_)
        | with_reducible refine Br.eqI (fun h => ?_) (fun h => ?_)
        | with_reducible refine Br.neI (fun h => ?_) (fun h => ?_)
        | with_reducible refine Br.eqS (fun h => ?_) (fun h => ?_)
        | with_reducible refine Br.neS (fun h => ?_) (fun h => ?_)
        | with_reducible refine Br.nd (fun h => ?_) (fun h => ?_)
        | refine Ar.i64 (by omega) (by omega) ?_
        | (refine call_mem (f := 47) (args := [chS c (.rs 0 _ _)]) (V := .int .i64 2) ?_ ?_; exact fun ρ w h => (by have := rchCheck_any c _ w (sl_rs h (i := 0) rfl (Nat.le_refl _) h1 h2) hl; rw [hok'] at this; exact this))
        | (refine quiet_mem (f := 47) (args := [chS c (.rs 0 _ _)]) (V := .int .i64 2) ?_ ?_; exact fun ρ w h => (by have := rchCheck_any c _ w (sl_rs h (i := 0) rfl (Nat.le_refl _) h1 h2) hl; rw [hok'] at this; exact this))
        | (refine seg_mem (f := 47) (args := [chS c (.rs 0 _ _)]) (V := .int .i64 2) ?_ ?_; exact fun ρ w h => (by have := rchCheck_any c _ w (sl_rs h (i := 0) rfl (Nat.le_refl _) h1 h2) hl; rw [hok'] at this; exact this))
        | refine Need.go (by first | omega | decide | (simp <;> omega) | fail) ?_
        | refine Need.go (by first | (simp [Value.oneCell'] <;> omega) | fail) ?_
        | refine Need.go ⟨rfl, by omega, getD_one rfl rfl⟩ ?_
        | refine Need.go ⟨rfl, by omega, fun _ _ _ _ => rfl⟩ ?_
        | refine Br.both (fun h => ?_) (fun h => ?_))
    (conv => whnf)
    refine ret_pure (fun _ => ?_)
    rw [show memberM c 0 = -1 from if_neg (by simp [hok]), show memberM c (c.mem.length - 1) = -1 from if_neg (by simp [hok])]
    rfl
set_option maxRecDepth 100000 in
set_option maxHeartbeats 1000000 in
theorem rsince_any (c : ChM) (p : Value) (n : Int) (w : World) (hp : ChSl w p c) (hl : c.mem.length ≤ 1000000) :
    Calls Try.prog 71 #[chV c p, .int .i64 n] w fun e w' => e = .returned (.tuple #[.int .i64 (sinceM c n).1, .bool (sinceM c n).2]) ∧ w.grownBy w' none := by
  obtain ⟨a, cap, rfl, h1, h2, hr⟩ := hp
  have hlt := atM_lt c.mem n
  refine x_calls tabOK Try.func71 rfl [chS c (.rs 0 c.mem.length cap), .v (.int .i64 n)] _ _ rfl rfl (relR1 hr) ?_
  repeat' ((conv => whnf); first
      | refine Need.go rfl ?_
      | refine QuiD.quiet (by kernel_rfl) ?_
      | refine draw_go tabOK (by kernel_rfl) ?_
      | refine Need.go ⟨rfl, rfl⟩ ?_
      | refine Need.go ⟨⟨rfl, rfl, rfl⟩, rfl⟩ ?_
      | with_reducible refine Br.dec (fun h => ?_) (fun h => ?_)
      | with_reducible refine Br.eqI (fun h => ?_) (fun h => ?_)
      | with_reducible refine Br.neI (fun h => ?_) (fun h => ?_)
      | with_reducible refine Br.eqS (fun h => ?_) (fun h => ?_)
      | with_reducible refine Br.neS (fun h => ?_) (fun h => ?_)
      | with_reducible refine Br.nd (fun h => ?_) (fun h => ?_)
      | refine Ar.i64 (by omega) (by omega) ?_
      | (refine call_mem (f := 47) (args := [chS c (.rs 0 _ _)]) (V := .int .i64 (if okCh c then 0 else 2)) ?_ ?_; exact fun ρ w h => rchCheck_any c _ w (sl_rs h (i := 0) rfl (Nat.le_refl _) h1 h2) hl)
      | (refine quiet_mem (f := 47) (args := [chS c (.rs 0 _ _)]) (V := .int .i64 (if okCh c then 0 else 2)) ?_ ?_; exact fun ρ w h => rchCheck_any c _ w (sl_rs h (i := 0) rfl (Nat.le_refl _) h1 h2) hl)
      | (refine seg_mem (f := 47) (args := [chS c (.rs 0 _ _)]) (V := .int .i64 (if okCh c then 0 else 2)) ?_ ?_; exact fun ρ w h => rchCheck_any c _ w (sl_rs h (i := 0) rfl (Nat.le_refl _) h1 h2) hl)
      | (refine call_mem (f := 65) (args := [chS c (.rs 0 _ _), _]) (V := .int .i64 (atM c.mem n)) ?_ ?_; exact fun ρ w h => rat_any c _ n w (sl_rs h (i := 0) rfl (Nat.le_refl _) h1 h2) hl)
      | (refine quiet_mem (f := 65) (args := [chS c (.rs 0 _ _), _]) (V := .int .i64 (atM c.mem n)) ?_ ?_; exact fun ρ w h => rat_any c _ n w (sl_rs h (i := 0) rfl (Nat.le_refl _) h1 h2) hl)
      | (refine seg_mem (f := 65) (args := [chS c (.rs 0 _ _), _]) (V := .int .i64 (atM c.mem n)) ?_ ?_; exact fun ρ w h => rat_any c _ n w (sl_rs h (i := 0) rfl (Nat.le_refl _) h1 h2) hl)
      | refine Need.go (by first | omega | decide | (simp <;> omega) | fail) ?_
      | refine Need.go (by first | (simp [Value.oneCell'] <;> omega) | fail) ?_
      | refine Need.go ⟨rfl, by omega, getD_one rfl rfl⟩ ?_
      | refine Need.go ⟨rfl, by omega, fun _ _ _ _ => rfl⟩ ?_
      | refine Br.both (fun h => ?_) (fun h => ?_))
  all_goals (conv => whnf)
  all_goals (try have ok := errC_true ‹_›)
  all_goals (try have ok := errC_false ‹_›)
  all_goals first
    | (refine ret_pure (fun _ => ?_)
       have e : sinceM c n = (0, false) := if_neg (by rw [ok]; omega)
       rw [e]; rfl)
    | (refine ret_pure (fun _ => ?_)
       have e : sinceM c n = ((c.mem.getD (atM c.mem n).toNat (0, 0)).2, true) := if_pos ⟨ok, by omega⟩
       rw [e]; rfl)
    | (refine ret_pure (fun _ => ?_)
       have e : sinceM c n = (0, false) := if_neg (by rw [ok]; simp)
       rw [e]; rfl)
def leavesM (c : ChM) (n : Int) : Int := if mayMove c then (if atM c.mem n < 0 then 4 else if (c.mem.length : Int) = 1 then 72 else 0) else 2
set_option maxRecDepth 100000 in
set_option maxHeartbeats 1000000 in
theorem leaves_any (c : ChM) (p : Value) (n : Int) (w : World) (hp : ChSl w p c) (hl : c.mem.length ≤ 1000000) :
    Calls Try.prog 68 #[chV c p, .int .i64 n] w fun e w' => e = .returned (.int .i64 (leavesM c n)) ∧ w.grownBy w' none := by
  obtain ⟨a, cap, rfl, h1, h2, hr⟩ := hp
  have hlt := atM_lt c.mem n
  refine x_calls tabOK Try.func68 rfl [chS c (.rs 0 c.mem.length cap), .v (.int .i64 n)] _ _ rfl rfl (relR1 hr) ?_
  repeat' ((conv => whnf); first
      | refine Need.go rfl ?_
      | refine QuiD.quiet (by kernel_rfl) ?_
      | refine draw_go tabOK (by kernel_rfl) ?_
      | refine Need.go ⟨rfl, rfl⟩ ?_
      | refine Need.go ⟨⟨rfl, rfl, rfl⟩, rfl⟩ ?_
      | with_reducible refine Br.dec (fun h => ?_) (fun h => ?_)
      | with_reducible refine Br.eqI (fun h => ?_) (fun h => ?_)
      | with_reducible refine Br.neI (fun h => ?_) (fun h => ?_)
      | with_reducible refine Br.eqS (fun h => ?_) (fun h => ?_)
      | with_reducible refine Br.neS (fun h => ?_) (fun h => ?_)
      | with_reducible refine Br.nd (fun h => ?_) (fun h => ?_)
      | refine Ar.i64 (by omega) (by omega) ?_
      | (refine call_mem (f := 47) (args := [chS c (.rs 0 _ _)]) (V := .int .i64 (if okCh c then 0 else 2)) ?_ ?_; exact fun ρ w h => rchCheck_any c _ w (sl_rs h (i := 0) rfl (Nat.le_refl _) h1 h2) hl)
      | (refine quiet_mem (f := 47) (args := [chS c (.rs 0 _ _)]) (V := .int .i64 (if okCh c then 0 else 2)) ?_ ?_; exact fun ρ w h => rchCheck_any c _ w (sl_rs h (i := 0) rfl (Nat.le_refl _) h1 h2) hl)
      | (refine seg_mem (f := 47) (args := [chS c (.rs 0 _ _)]) (V := .int .i64 (if okCh c then 0 else 2)) ?_ ?_; exact fun ρ w h => rchCheck_any c _ w (sl_rs h (i := 0) rfl (Nat.le_refl _) h1 h2) hl)
      | (refine call_mem (f := 65) (args := [chS c (.rs 0 _ _), _]) (V := .int .i64 (atM c.mem n)) ?_ ?_; exact fun ρ w h => rat_any c _ n w (sl_rs h (i := 0) rfl (Nat.le_refl _) h1 h2) hl)
      | (refine quiet_mem (f := 65) (args := [chS c (.rs 0 _ _), _]) (V := .int .i64 (atM c.mem n)) ?_ ?_; exact fun ρ w h => rat_any c _ n w (sl_rs h (i := 0) rfl (Nat.le_refl _) h1 h2) hl)
      | (refine seg_mem (f := 65) (args := [chS c (.rs 0 _ _), _]) (V := .int .i64 (atM c.mem n)) ?_ ?_; exact fun ρ w h => rat_any c _ n w (sl_rs h (i := 0) rfl (Nat.le_refl _) h1 h2) hl)
      | refine Need.go (by first | omega | decide | (simp <;> omega) | fail) ?_
      | refine Need.go (by first | (simp [Value.oneCell'] <;> omega) | fail) ?_
      | refine Need.go ⟨rfl, by omega, getD_one rfl rfl⟩ ?_
      | refine Need.go ⟨rfl, by omega, fun _ _ _ _ => rfl⟩ ?_
      | refine Br.both (fun h => ?_) (fun h => ?_))
  all_goals (conv => whnf)
  all_goals (try have ok := errC_true ‹_›)
  all_goals (try have ok := errC_false ‹_›)
  all_goals refine ret_pure (fun _ => ?_)
  all_goals (try have hlen := okCh_len ok)
  all_goals first
    | (have e : leavesM c n = 2 := (by simp [leavesM, mayMove, *]); rw [e]; rfl)
    | (have hmv : mayMove c = true := mayMove_iff.2 ⟨ok, by assumption⟩
       first
       | (have e : leavesM c n = 4 := (by simp only [leavesM, hmv, if_true]; rw [if_pos (by omega)]); rw [e]; rfl)
       | (have e : leavesM c n = 72 := (by simp only [leavesM, hmv, if_true]; rw [if_neg (by omega), if_pos (by omega)]); rw [e]; rfl)
       | (have e : leavesM c n = 0 := (by simp only [leavesM, hmv, if_true]; rw [if_neg (by omega), if_neg (by omega)]); rw [e]; rfl))
end Go.Proofs.Ytcogbepdjegheaa
