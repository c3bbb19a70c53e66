/-
  The walk of ChainsMove. No condition.
-/
import Derived.Test.YtcogbepdjegheaaCh9
import Derived.Test.YtcogbepdjegheaaRowsIn
namespace Go.Proofs.Ytcogbepdjegheaa.lawChainsMove
open Go.Proofs.Ytcogbepdjegheaa Go.RowKit
theorem withM_len (c : ChM) (n : Int) : (withM c n).1.mem.length ≤ c.mem.length + 1 := by
  unfold withM
  repeat' split
  all_goals simp [chZ]
theorem withoutM_len (c : ChM) (n : Int) : (withoutM c n).1.mem.length ≤ c.mem.length + 1 := by
  unfold withoutM
  repeat' split
  all_goals simp [chZ, List.length_eraseIdx]
  all_goals (repeat' split) <;> omega
theorem drainM_len (c : ChM) (n : Int) : (drainM c n).1.mem.length ≤ c.mem.length + 1 := by
  unfold drainM
  repeat' split
  all_goals simp [chZ]
def wipeF (ms : List (Int × Int)) (j : Nat) : Nat → Nat → Value := fun r c => if r < j then (if c = 0 then .int .i64 99 else .int .i64 0) else memF ms r c
theorem wipe_zero (ms : List (Int × Int)) {n : Nat} : ∀ r c, r < n → c < 2 → memF ms r c = wipeF ms 0 r c := fun r c _ _ => by simp [wipeF]
theorem wipe_step (ms : List (Int × Int)) (j : Nat) {n : Nat} : ∀ r c, r < n → c < 2 → updR (wipeF ms j) (j : Int).toNat 0 [.int .i64 99, .int .i64 0] r c = wipeF ms (j + 1) r c := by
  intro r c _ hc
  rw [Int.toNat_natCast]
  by_cases hr : r = j
  · subst hr
    rcases c with _ | _ | c
    · rw [updR_in (j := 0) (by simp)]
      simp [wipeF]
    · rw [show (0 + 1 : Nat) = 0 + 1 from rfl, updR_in (c := 0) (j := 1) (by simp)]
      simp [wipeF]
    · omega
  · rw [updR_out (.inl hr)]
    have e : r < j ↔ r < j + 1 := by omega
    unfold wipeF
    by_cases h : r < j
    · rw [if_pos h, if_pos (e.1 h)]
    · rw [if_neg h, if_neg (fun h' => h (e.2 h'))]
theorem sameCh_refl' (c : ChM) : sameCh c c = true := by simp [sameCh]
set_option maxRecDepth 100000 in
set_option maxHeartbeats 4000000 in
theorem core (c : ChM) (p : Value) (n : Int) (w : World) (hp : ChSl w p c) :
    Calls Try.prog 8 #[chV c p, .int .i64 n] w fun e w' => e = .returned (.bool true) ∧ w.grownBy w' none := by
  obtain ⟨a, cap, rfl, h1, h2, hr⟩ := hp
  refine x_calls tabOK Try.func8 rfl [chS c (.rs 0 c.mem.length cap), .v (.int .i64 n)] _ _ rfl rfl (relR1 hr) ?_
  repeat' ((conv => whnf); first
      | refine Need.go rfl ?_
      | refine QuiD.quiet (by kernel_rfl) ?_
      | refine draw_go tabOK (by kernel_rfl) ?_
      | refine Need.go ⟨rfl, rfl⟩ ?_
      | with_reducible refine Br.dec (fun h => ?_) (fun h => ?_)
      | with_reducible refine Br.eqI (fun h => ?_) (fun h => ?_)
      | with_reducible refine Br.neI (fun h => ?_) (fun h => ?_)
      | with_reducible refine Br.eqS (fun h => ?_) (fun h => ?_)
      | with_reducible refine Br.neS (fun h => ?_) (fun h => ?_)
      | with_reducible refine Br.nd (fun h => ?_) (fun h => ?_)
      | refine Ar.i64 (by omega) (by omega) ?_
      | refine call_inlineL (f := 31) Try.func31 rfl ?_
      | (refine call_mem (f := 32) (args := []) (V := .bool true) ?_ ?_; exact fun ρ w h => linked_any w)
      | (refine quiet_mem (f := 32) (args := []) (V := .bool true) ?_ ?_; exact fun ρ w h => linked_any w)
      | (refine seg_mem (f := 32) (args := []) (V := .bool true) ?_ ?_; exact fun ρ w h => linked_any w)
      | refine Need.go ⟨rfl, by omega, memF_one _⟩ ?_
      | refine Need.go (by first | omega | decide | (simp <;> omega) | fail) ?_
      | refine Need.go (by first | (simp [Value.oneCell'] <;> omega) | fail) ?_
      | refine Need.go ⟨rfl, by omega, getD_one rfl rfl⟩ ?_
      | refine Need.go ⟨rfl, by omega, fun _ _ _ _ => rfl⟩ ?_
      | refine Br.both (fun h => ?_) (fun h => ?_))
  all_goals (conv => whnf)
  · exact ret_pure (fun _ => rfl)
  have hl12 : c.mem.length ≤ 12 := by omega
  refine loop_up 7 (fun k : Int => -1 ≤ k ∧ k ≤ 8) (fun k => (8 - k).toNat) (fun k => [(6, .v (.int .i64 k))]) (fun _ => []) (fun _ => []) (-1) ⟨by omega, by omega⟩ (by
    (conv => whnf)
    refine ⟨[some 0, some 1, some 2, some 3, some 4], by decide, ?_, ?_⟩
    all_goals repeat' (first | exact trivial | exact .inl ⟨rfl, rfl⟩ | rfl | exact .inr ⟨_, rfl, rfl, rfl⟩ | exact ⟨_, rfl, trivial⟩ | exact ⟨_, rfl, rfl⟩ | exact ⟨_, rfl, ⟨rfl, rfl, rfl⟩, fun _ _ _ _ => rfl⟩ | refine ⟨_, rfl, rfl, ?_⟩ | refine ⟨_, rfl, ⟨rfl, rfl, rfl⟩, ?_⟩ | refine And.intro ?_ ?_)) (fun k hk => ?_)
  obtain ⟨hk0, hk8⟩ := hk
  iterate 10 (all_goals (conv => whnf); all_goals first | with_reducible refine Br.dec (fun h => ?_) (fun h => ?_) | with_reducible refine Br.eqI (fun h => ?_) (fun h => ?_) | refine Need.go rfl ?_ | refine QuiD.quiet (by kernel_rfl) ?_ | skip)
  · generalize g1 : withM c n = r1
    generalize g2 : withoutM c n = r2
    generalize g3 : drainM c n = r3
    obtain ⟨m1, e1⟩ := r1
    obtain ⟨m2, e2⟩ := r2
    obtain ⟨m3, e3⟩ := r3
    have l1 : m1.mem.length ≤ 13 := by have := withM_len c n; rw [g1] at this; simp only at this; omega
    have l2 : m2.mem.length ≤ 13 := by have := withoutM_len c n; rw [g2] at this; simp only at this; omega
    have l3 : m3.mem.length ≤ 13 := by have := drainM_len c n; rw [g3] at this; simp only at this; omega
    repeat' ((conv => whnf); first
        | with_reducible refine Br.tt ?_
        | with_reducible refine Br.ff ?_
        | with_reducible refine Br.nt ?_
        | with_reducible refine Br.nf ?_
        | with_reducible refine Br.eeI ?_
        | with_reducible refine Br.nnI ?_
        | refine Br.yes (by decide) ?_
        | refine Br.no (by decide) ?_
        | refine Need.go rfl ?_
        | refine QuiD.quiet (by kernel_rfl) ?_
        | refine draw_go tabOK (by kernel_rfl) ?_
        | refine Need.go ⟨rfl, rfl⟩ ?_
        | with_reducible refine Br.dec (fun h => ?_) (fun h => ?_)
        | with_reducible refine Br.eqI (fun h => ?_) (fun h => ?_)
        | with_reducible refine Br.neI (fun h => ?_) (fun h => ?_)
        | with_reducible refine Br.eqS (fun h => ?_) (fun h => ?_)
        | with_reducible refine Br.neS (fun h => ?_) (fun h => ?_)
        | with_reducible refine Br.nd (fun h => ?_) (fun h => ?_)
        | refine Ar.i64 (by omega) (by omega) ?_
        | (refine chWith_n c m1 n e1 g1 (.os 4 c.mem.length) ?_ (by omega) ?_; exact fun ρ w h => sl_os h (i := 4) rfl)
        | (refine rWith_n c m1 n e1 g1 (.rs 0 c.mem.length cap) ?_ (by omega) ?_; exact fun ρ w h => sl_rs h (i := 0) rfl (Nat.le_refl _) h1 h2)
        | (refine chWithout_n c m2 n e2 g2 (.os 4 c.mem.length) ?_ (by omega) ?_; exact fun ρ w h => sl_os h (i := 4) rfl)
        | (refine rWithout_n c m2 n e2 g2 (.rs 0 c.mem.length cap) ?_ (by omega) ?_; exact fun ρ w h => sl_rs h (i := 0) rfl (Nat.le_refl _) h1 h2)
        | (refine chDrain_n c m3 n e3 g3 (.os 4 c.mem.length) ?_ (by omega) ?_; exact fun ρ w h => sl_os h (i := 4) rfl)
        | (refine rDrain_n c m3 n e3 g3 (.rs 0 c.mem.length cap) ?_ (by omega) ?_; exact fun ρ w h => sl_rs h (i := 0) rfl (Nat.le_refl _) h1 h2)
        | (refine call_mem (f := 39) (args := [chS m1 (.os 5 _), chS m1 (.os 7 _)]) (V := .bool true) ?_ ?_; exact fun ρ w h => (by have := rchSame_any m1 m1 _ _ w (sl_os h (i := 5) rfl) (sl_os h (i := 7) rfl) (by omega); rw [sameCh_refl'] at this; exact this))
        | (refine quiet_mem (f := 39) (args := [chS m1 (.os 5 _), chS m1 (.os 7 _)]) (V := .bool true) ?_ ?_; exact fun ρ w h => (by have := rchSame_any m1 m1 _ _ w (sl_os h (i := 5) rfl) (sl_os h (i := 7) rfl) (by omega); rw [sameCh_refl'] at this; exact this))
        | (refine seg_mem (f := 39) (args := [chS m1 (.os 5 _), chS m1 (.os 7 _)]) (V := .bool true) ?_ ?_; exact fun ρ w h => (by have := rchSame_any m1 m1 _ _ w (sl_os h (i := 5) rfl) (sl_os h (i := 7) rfl) (by omega); rw [sameCh_refl'] at this; exact this))
        | (refine call_mem (f := 39) (args := [chS m2 (.os 9 _), chS m2 (.os 11 _)]) (V := .bool true) ?_ ?_; exact fun ρ w h => (by have := rchSame_any m2 m2 _ _ w (sl_os h (i := 9) rfl) (sl_os h (i := 11) rfl) (by omega); rw [sameCh_refl'] at this; exact this))
        | (refine quiet_mem (f := 39) (args := [chS m2 (.os 9 _), chS m2 (.os 11 _)]) (V := .bool true) ?_ ?_; exact fun ρ w h => (by have := rchSame_any m2 m2 _ _ w (sl_os h (i := 9) rfl) (sl_os h (i := 11) rfl) (by omega); rw [sameCh_refl'] at this; exact this))
        | (refine seg_mem (f := 39) (args := [chS m2 (.os 9 _), chS m2 (.os 11 _)]) (V := .bool true) ?_ ?_; exact fun ρ w h => (by have := rchSame_any m2 m2 _ _ w (sl_os h (i := 9) rfl) (sl_os h (i := 11) rfl) (by omega); rw [sameCh_refl'] at this; exact this))
        | (refine call_mem (f := 39) (args := [chS m3 (.os 13 _), chS m3 (.os 15 _)]) (V := .bool true) ?_ ?_; exact fun ρ w h => (by have := rchSame_any m3 m3 _ _ w (sl_os h (i := 13) rfl) (sl_os h (i := 15) rfl) (by omega); rw [sameCh_refl'] at this; exact this))
        | (refine quiet_mem (f := 39) (args := [chS m3 (.os 13 _), chS m3 (.os 15 _)]) (V := .bool true) ?_ ?_; exact fun ρ w h => (by have := rchSame_any m3 m3 _ _ w (sl_os h (i := 13) rfl) (sl_os h (i := 15) rfl) (by omega); rw [sameCh_refl'] at this; exact this))
        | (refine seg_mem (f := 39) (args := [chS m3 (.os 13 _), chS m3 (.os 15 _)]) (V := .bool true) ?_ ?_; exact fun ρ w h => (by have := rchSame_any m3 m3 _ _ w (sl_os h (i := 13) rfl) (sl_os h (i := 15) rfl) (by omega); rw [sameCh_refl'] at this; exact this))
        | refine Need.go (by first | omega | decide | (simp <;> omega) | fail) ?_
        | refine Need.go (by first | (simp [Value.oneCell'] <;> omega) | fail) ?_
        | refine Need.go ⟨rfl, by omega, getD_one rfl rfl⟩ ?_
        | refine Need.go ⟨rfl, by omega, fun _ _ _ _ => rfl⟩ ?_
        | refine Br.both (fun h => ?_) (fun h => ?_))
    (conv => whnf)
    refine loop_up 21 (fun j : Nat => j ≤ m3.mem.length) (fun j => m3.mem.length - j) (fun j => [(20, .v (.int .i64 j))]) (fun j => [(13, .ent (.own 70 2 m3.mem.length (wipeF m3.mem j)))]) (fun _ => []) 0 (Nat.zero_le _) (by
      (conv => whnf)
      refine ⟨[some 0, some 1, some 2, some 3, some 4, some 5, some 6, some 7, some 8, some 9, some 10, some 11, some 12, some 13, some 14, some 15, some 16], by decide, ?_, ?_⟩
      all_goals repeat' (first | exact ⟨_, rfl, ⟨rfl, rfl, rfl⟩, wipe_zero m3.mem⟩ | exact trivial | exact .inl ⟨rfl, rfl⟩ | rfl | exact .inr ⟨_, rfl, rfl, rfl⟩ | exact ⟨_, rfl, trivial⟩ | exact ⟨_, rfl, rfl⟩ | exact ⟨_, rfl, ⟨rfl, rfl, rfl⟩, fun _ _ _ _ => rfl⟩ | refine ⟨_, rfl, rfl, ?_⟩ | refine ⟨_, rfl, ⟨rfl, rfl, rfl⟩, ?_⟩ | refine And.intro ?_ ?_)) (fun j hj => ?_)
    repeat' ((conv => whnf); first
        | with_reducible refine Br.tt ?_
        | with_reducible refine Br.ff ?_
        | with_reducible refine Br.nt ?_
        | with_reducible refine Br.nf ?_
        | with_reducible refine Br.eeI ?_
        | with_reducible refine Br.nnI ?_
        | refine Br.yes (by decide) ?_
        | refine Br.no (by decide) ?_
        | refine Need.go rfl ?_
        | refine QuiD.quiet (by kernel_rfl) ?_
        | refine draw_go tabOK (by kernel_rfl) ?_
        | refine Need.go ⟨rfl, rfl⟩ ?_
        | with_reducible refine Br.dec (fun h => ?_) (fun h => ?_)
        | with_reducible refine Br.eqI (fun h => ?_) (fun h => ?_)
        | with_reducible refine Br.neI (fun h => ?_) (fun h => ?_)
        | with_reducible refine Br.eqS (fun h => ?_) (fun h => ?_)
        | with_reducible refine Br.neS (fun h => ?_) (fun h => ?_)
        | with_reducible refine Br.nd (fun h => ?_) (fun h => ?_)
        | refine Ar.i64 (by omega) (by omega) ?_
        | (refine call_mem (f := 39) (args := [chS c (.os 4 _), chS c (.rs 0 _ _)]) (V := .bool true) ?_ ?_; exact fun ρ w h => (by have := rchSame_any c c _ _ w (sl_os h (i := 4) rfl) (sl_rs h (i := 0) rfl (Nat.le_refl _) h1 h2) (by omega); rw [sameCh_refl'] at this; exact this))
        | (refine quiet_mem (f := 39) (args := [chS c (.os 4 _), chS c (.rs 0 _ _)]) (V := .bool true) ?_ ?_; exact fun ρ w h => (by have := rchSame_any c c _ _ w (sl_os h (i := 4) rfl) (sl_rs h (i := 0) rfl (Nat.le_refl _) h1 h2) (by omega); rw [sameCh_refl'] at this; exact this))
        | (refine seg_mem (f := 39) (args := [chS c (.os 4 _), chS c (.rs 0 _ _)]) (V := .bool true) ?_ ?_; exact fun ρ w h => (by have := rchSame_any c c _ _ w (sl_os h (i := 4) rfl) (sl_rs h (i := 0) rfl (Nat.le_refl _) h1 h2) (by omega); rw [sameCh_refl'] at this; exact this))
        | refine Need.go (by first | omega | decide | (simp <;> omega) | fail) ?_
        | refine Need.go (by first | (simp [Value.oneCell'] <;> omega) | fail) ?_
        | refine Need.go ⟨rfl, by omega, getD_one rfl rfl⟩ ?_
        | refine Need.go ⟨rfl, by omega, fun _ _ _ _ => rfl⟩ ?_
        | refine Br.both (fun h => ?_) (fun h => ?_))
    all_goals (conv => whnf)
    · refine ⟨j + 1, by omega, by omega, ?_⟩
      (conv => whnf)
      refine ⟨[some 0, some 1, some 2, some 3, some 4, some 5, some 6, some 7, some 8, some 9, some 10, some 11, some 12, some 13, some 14, some 15, some 16], by decide, ?_, ?_⟩
      all_goals repeat' (first | exact ⟨_, rfl, ⟨rfl, rfl, rfl⟩, wipe_step m3.mem j⟩ | exact trivial | exact .inl ⟨rfl, rfl⟩ | rfl | exact .inr ⟨_, rfl, rfl, rfl⟩ | exact ⟨_, rfl, trivial⟩ | exact ⟨_, rfl, rfl⟩ | exact ⟨_, rfl, ⟨rfl, rfl, rfl⟩, fun _ _ _ _ => rfl⟩ | refine ⟨_, rfl, rfl, ?_⟩ | refine ⟨_, rfl, ⟨rfl, rfl, rfl⟩, ?_⟩ | refine And.intro ?_ ?_)
    · refine ⟨k + 1, ⟨by omega, by omega⟩, by omega, ?_⟩
      (conv => whnf)
      refine ⟨[some 0, some 1, some 2, some 3, some 4], by decide, ?_, ?_⟩
      all_goals repeat' (first | exact trivial | exact .inl ⟨rfl, rfl⟩ | rfl | exact .inr ⟨_, rfl, rfl, rfl⟩ | exact ⟨_, rfl, trivial⟩ | exact ⟨_, rfl, rfl⟩ | exact ⟨_, rfl, ⟨rfl, rfl, rfl⟩, fun _ _ _ _ => rfl⟩ | refine ⟨_, rfl, rfl, ?_⟩ | refine ⟨_, rfl, ⟨rfl, rfl, rfl⟩, ?_⟩ | refine And.intro ?_ ?_)
  · generalize g1 : withM c k = r1
    generalize g2 : withoutM c k = r2
    generalize g3 : drainM c k = r3
    obtain ⟨m1, e1⟩ := r1
    obtain ⟨m2, e2⟩ := r2
    obtain ⟨m3, e3⟩ := r3
    have l1 : m1.mem.length ≤ 13 := by have := withM_len c k; rw [g1] at this; simp only at this; omega
    have l2 : m2.mem.length ≤ 13 := by have := withoutM_len c k; rw [g2] at this; simp only at this; omega
    have l3 : m3.mem.length ≤ 13 := by have := drainM_len c k; rw [g3] at this; simp only at this; omega
    repeat' ((conv => whnf); first
        | with_reducible refine Br.tt ?_
        | with_reducible refine Br.ff ?_
        | with_reducible refine Br.nt ?_
        | with_reducible refine Br.nf ?_
        | with_reducible refine Br.eeI ?_
        | with_reducible refine Br.nnI ?_
        | refine Br.yes (by decide) ?_
        | refine Br.no (by decide) ?_
        | refine Need.go rfl ?_
        | refine QuiD.quiet (by kernel_rfl) ?_
        | refine draw_go tabOK (by kernel_rfl) ?_
        | refine Need.go ⟨rfl, rfl⟩ ?_
        | with_reducible refine Br.dec (fun h => ?_) (fun h => ?_)
        | with_reducible refine Br.eqI (fun h => ?_) (fun h => ?_)
        | with_reducible refine Br.neI (fun h => ?_) (fun h => ?_)
        | with_reducible refine Br.eqS (fun h => ?_) (fun h => ?_)
        | with_reducible refine Br.neS (fun h => ?_) (fun h => ?_)
        | with_reducible refine Br.nd (fun h => ?_) (fun h => ?_)
        | refine Ar.i64 (by omega) (by omega) ?_
        | (refine chWith_n c m1 k e1 g1 (.os 4 c.mem.length) ?_ (by omega) ?_; exact fun ρ w h => sl_os h (i := 4) rfl)
        | (refine rWith_n c m1 k e1 g1 (.rs 0 c.mem.length cap) ?_ (by omega) ?_; exact fun ρ w h => sl_rs h (i := 0) rfl (Nat.le_refl _) h1 h2)
        | (refine chWithout_n c m2 k e2 g2 (.os 4 c.mem.length) ?_ (by omega) ?_; exact fun ρ w h => sl_os h (i := 4) rfl)
        | (refine rWithout_n c m2 k e2 g2 (.rs 0 c.mem.length cap) ?_ (by omega) ?_; exact fun ρ w h => sl_rs h (i := 0) rfl (Nat.le_refl _) h1 h2)
        | (refine chDrain_n c m3 k e3 g3 (.os 4 c.mem.length) ?_ (by omega) ?_; exact fun ρ w h => sl_os h (i := 4) rfl)
        | (refine rDrain_n c m3 k e3 g3 (.rs 0 c.mem.length cap) ?_ (by omega) ?_; exact fun ρ w h => sl_rs h (i := 0) rfl (Nat.le_refl _) h1 h2)
        | (refine call_mem (f := 39) (args := [chS m1 (.os 5 _), chS m1 (.os 7 _)]) (V := .bool true) ?_ ?_; exact fun ρ w h => (by have := rchSame_any m1 m1 _ _ w (sl_os h (i := 5) rfl) (sl_os h (i := 7) rfl) (by omega); rw [sameCh_refl'] at this; exact this))
        | (refine quiet_mem (f := 39) (args := [chS m1 (.os 5 _), chS m1 (.os 7 _)]) (V := .bool true) ?_ ?_; exact fun ρ w h => (by have := rchSame_any m1 m1 _ _ w (sl_os h (i := 5) rfl) (sl_os h (i := 7) rfl) (by omega); rw [sameCh_refl'] at this; exact this))
        | (refine seg_mem (f := 39) (args := [chS m1 (.os 5 _), chS m1 (.os 7 _)]) (V := .bool true) ?_ ?_; exact fun ρ w h => (by have := rchSame_any m1 m1 _ _ w (sl_os h (i := 5) rfl) (sl_os h (i := 7) rfl) (by omega); rw [sameCh_refl'] at this; exact this))
        | (refine call_mem (f := 39) (args := [chS m2 (.os 9 _), chS m2 (.os 11 _)]) (V := .bool true) ?_ ?_; exact fun ρ w h => (by have := rchSame_any m2 m2 _ _ w (sl_os h (i := 9) rfl) (sl_os h (i := 11) rfl) (by omega); rw [sameCh_refl'] at this; exact this))
        | (refine quiet_mem (f := 39) (args := [chS m2 (.os 9 _), chS m2 (.os 11 _)]) (V := .bool true) ?_ ?_; exact fun ρ w h => (by have := rchSame_any m2 m2 _ _ w (sl_os h (i := 9) rfl) (sl_os h (i := 11) rfl) (by omega); rw [sameCh_refl'] at this; exact this))
        | (refine seg_mem (f := 39) (args := [chS m2 (.os 9 _), chS m2 (.os 11 _)]) (V := .bool true) ?_ ?_; exact fun ρ w h => (by have := rchSame_any m2 m2 _ _ w (sl_os h (i := 9) rfl) (sl_os h (i := 11) rfl) (by omega); rw [sameCh_refl'] at this; exact this))
        | (refine call_mem (f := 39) (args := [chS m3 (.os 13 _), chS m3 (.os 15 _)]) (V := .bool true) ?_ ?_; exact fun ρ w h => (by have := rchSame_any m3 m3 _ _ w (sl_os h (i := 13) rfl) (sl_os h (i := 15) rfl) (by omega); rw [sameCh_refl'] at this; exact this))
        | (refine quiet_mem (f := 39) (args := [chS m3 (.os 13 _), chS m3 (.os 15 _)]) (V := .bool true) ?_ ?_; exact fun ρ w h => (by have := rchSame_any m3 m3 _ _ w (sl_os h (i := 13) rfl) (sl_os h (i := 15) rfl) (by omega); rw [sameCh_refl'] at this; exact this))
        | (refine seg_mem (f := 39) (args := [chS m3 (.os 13 _), chS m3 (.os 15 _)]) (V := .bool true) ?_ ?_; exact fun ρ w h => (by have := rchSame_any m3 m3 _ _ w (sl_os h (i := 13) rfl) (sl_os h (i := 15) rfl) (by omega); rw [sameCh_refl'] at this; exact this))
        | refine Need.go (by first | omega | decide | (simp <;> omega) | fail) ?_
        | refine Need.go (by first | (simp [Value.oneCell'] <;> omega) | fail) ?_
        | refine Need.go ⟨rfl, by omega, getD_one rfl rfl⟩ ?_
        | refine Need.go ⟨rfl, by omega, fun _ _ _ _ => rfl⟩ ?_
        | refine Br.both (fun h => ?_) (fun h => ?_))
    (conv => whnf)
    refine loop_up 21 (fun j : Nat => j ≤ m3.mem.length) (fun j => m3.mem.length - j) (fun j => [(20, .v (.int .i64 j))]) (fun j => [(13, .ent (.own 70 2 m3.mem.length (wipeF m3.mem j)))]) (fun _ => []) 0 (Nat.zero_le _) (by
      (conv => whnf)
      refine ⟨[some 0, some 1, some 2, some 3, some 4, some 5, some 6, some 7, some 8, some 9, some 10, some 11, some 12, some 13, some 14, some 15, some 16], by decide, ?_, ?_⟩
      all_goals repeat' (first | exact ⟨_, rfl, ⟨rfl, rfl, rfl⟩, wipe_zero m3.mem⟩ | exact trivial | exact .inl ⟨rfl, rfl⟩ | rfl | exact .inr ⟨_, rfl, rfl, rfl⟩ | exact ⟨_, rfl, trivial⟩ | exact ⟨_, rfl, rfl⟩ | exact ⟨_, rfl, ⟨rfl, rfl, rfl⟩, fun _ _ _ _ => rfl⟩ | refine ⟨_, rfl, rfl, ?_⟩ | refine ⟨_, rfl, ⟨rfl, rfl, rfl⟩, ?_⟩ | refine And.intro ?_ ?_)) (fun j hj => ?_)
    repeat' ((conv => whnf); first
        | with_reducible refine Br.tt ?_
        | with_reducible refine Br.ff ?_
        | with_reducible refine Br.nt ?_
        | with_reducible refine Br.nf ?_
        | with_reducible refine Br.eeI ?_
        | with_reducible refine Br.nnI ?_
        | refine Br.yes (by decide) ?_
        | refine Br.no (by decide) ?_
        | refine Need.go rfl ?_
        | refine QuiD.quiet (by kernel_rfl) ?_
        | refine draw_go tabOK (by kernel_rfl) ?_
        | refine Need.go ⟨rfl, rfl⟩ ?_
        | with_reducible refine Br.dec (fun h => ?_) (fun h => ?_)
        | with_reducible refine Br.eqI (fun h => ?_) (fun h => ?_)
        | with_reducible refine Br.neI (fun h => ?_) (fun h => ?_)
        | with_reducible refine Br.eqS (fun h => ?_) (fun h => ?_)
        | with_reducible refine Br.neS (fun h => ?_) (fun h => ?_)
        | with_reducible refine Br.nd (fun h => ?_) (fun h => ?_)
        | refine Ar.i64 (by omega) (by omega) ?_
        | (refine call_mem (f := 39) (args := [chS c (.os 4 _), chS c (.rs 0 _ _)]) (V := .bool true) ?_ ?_; exact fun ρ w h => (by have := rchSame_any c c _ _ w (sl_os h (i := 4) rfl) (sl_rs h (i := 0) rfl (Nat.le_refl _) h1 h2) (by omega); rw [sameCh_refl'] at this; exact this))
        | (refine quiet_mem (f := 39) (args := [chS c (.os 4 _), chS c (.rs 0 _ _)]) (V := .bool true) ?_ ?_; exact fun ρ w h => (by have := rchSame_any c c _ _ w (sl_os h (i := 4) rfl) (sl_rs h (i := 0) rfl (Nat.le_refl _) h1 h2) (by omega); rw [sameCh_refl'] at this; exact this))
        | (refine seg_mem (f := 39) (args := [chS c (.os 4 _), chS c (.rs 0 _ _)]) (V := .bool true) ?_ ?_; exact fun ρ w h => (by have := rchSame_any c c _ _ w (sl_os h (i := 4) rfl) (sl_rs h (i := 0) rfl (Nat.le_refl _) h1 h2) (by omega); rw [sameCh_refl'] at this; exact this))
        | refine Need.go (by first | omega | decide | (simp <;> omega) | fail) ?_
        | refine Need.go (by first | (simp [Value.oneCell'] <;> omega) | fail) ?_
        | refine Need.go ⟨rfl, by omega, getD_one rfl rfl⟩ ?_
        | refine Need.go ⟨rfl, by omega, fun _ _ _ _ => rfl⟩ ?_
        | refine Br.both (fun h => ?_) (fun h => ?_))
    all_goals (conv => whnf)
    · refine ⟨j + 1, by omega, by omega, ?_⟩
      (conv => whnf)
      refine ⟨[some 0, some 1, some 2, some 3, some 4, some 5, some 6, some 7, some 8, some 9, some 10, some 11, some 12, some 13, some 14, some 15, some 16], by decide, ?_, ?_⟩
      all_goals repeat' (first | exact ⟨_, rfl, ⟨rfl, rfl, rfl⟩, wipe_step m3.mem j⟩ | exact trivial | exact .inl ⟨rfl, rfl⟩ | rfl | exact .inr ⟨_, rfl, rfl, rfl⟩ | exact ⟨_, rfl, trivial⟩ | exact ⟨_, rfl, rfl⟩ | exact ⟨_, rfl, ⟨rfl, rfl, rfl⟩, fun _ _ _ _ => rfl⟩ | refine ⟨_, rfl, rfl, ?_⟩ | refine ⟨_, rfl, ⟨rfl, rfl, rfl⟩, ?_⟩ | refine And.intro ?_ ?_)
    · refine ⟨k + 1, ⟨by omega, by omega⟩, by omega, ?_⟩
      (conv => whnf)
      refine ⟨[some 0, some 1, some 2, some 3, some 4], by decide, ?_, ?_⟩
      all_goals repeat' (first | exact trivial | exact .inl ⟨rfl, rfl⟩ | rfl | exact .inr ⟨_, rfl, rfl, rfl⟩ | exact ⟨_, rfl, trivial⟩ | exact ⟨_, rfl, rfl⟩ | exact ⟨_, rfl, ⟨rfl, rfl, rfl⟩, fun _ _ _ _ => rfl⟩ | refine ⟨_, rfl, rfl, ?_⟩ | refine ⟨_, rfl, ⟨rfl, rfl, rfl⟩, ?_⟩ | refine And.intro ?_ ?_)
  · repeat' ((conv => whnf); first
      | refine Need.go rfl ?_
      | refine QuiD.quiet (by kernel_rfl) ?_
      | refine draw_go tabOK (by kernel_rfl) ?_
      | refine Need.go ⟨rfl, rfl⟩ ?_
      | with_reducible refine Br.dec (fun h => ?_) (fun h => ?_)
      | with_reducible refine Br.eqI (fun h => ?_) (fun h => ?_)
      | with_reducible refine Br.neI (fun h => ?_) (fun h => ?_)
      | with_reducible refine Br.eqS (fun h => ?_) (fun h => ?_)
      | with_reducible refine Br.neS (fun h => ?_) (fun h => ?_)
      | with_reducible refine Br.nd (fun h => ?_) (fun h => ?_)
      | refine Ar.i64 (by omega) (by omega) ?_
      | (refine call_mem (f := 32) (args := []) (V := .bool true) ?_ ?_; exact fun ρ w h => linked_any w)
      | (refine quiet_mem (f := 32) (args := []) (V := .bool true) ?_ ?_; exact fun ρ w h => linked_any w)
      | (refine seg_mem (f := 32) (args := []) (V := .bool true) ?_ ?_; exact fun ρ w h => linked_any w)
      | refine Need.go (by first | omega | decide | (simp <;> omega) | fail) ?_
      | refine Need.go (by first | (simp [Value.oneCell'] <;> omega) | fail) ?_
      | refine Need.go ⟨rfl, by omega, getD_one rfl rfl⟩ ?_
      | refine Need.go ⟨rfl, by omega, fun _ _ _ _ => rfl⟩ ?_
      | refine Br.both (fun h => ?_) (fun h => ?_))
    (conv => whnf)
    exact ret_pure (fun _ => rfl)
theorem walk (w : World) (n0 : Int) (_ : (Lit.int .i64 n0).wf = true) (a : Option Addr) (n c : Nat) (hn : n ≤ c) (hc : c ≤ maxLen) (hr : RowsAt [intL .i64, intL .i64] w a n) (n2 : Int) (_ : (Lit.int .i64 n2).wf = true) (n3 : Int) (_ : (Lit.int .i64 n3).wf = true) :
    Calls Try.prog 8 #[.agg #[.int .i64 n0, .slice a n c, .int .i64 n2], .int .i64 n3] w fun e w' => e = .returned (.bool true) ∧ Below w.heap.size w w' := by
  obtain ⟨zs, rfl, hz⟩ := rows_mems hr
  exact (core ⟨n0, zs, n2⟩ _ n3 w ⟨a, c, rfl, hn, hc, hz⟩).mono fun _ _ ⟨h, k⟩ => ⟨h, below_of_only k⟩
end Go.Proofs.Ytcogbepdjegheaa.lawChainsMove
