/-
  The walk of ChainsEnds. No condition.
-/
import Derived.Test.YtcogbepdjegheaaCh10
import Derived.Test.YtcogbepdjegheaaRowsIn
namespace Go.Proofs.Ytcogbepdjegheaa.lawChainsEnds
open Go.Proofs.Ytcogbepdjegheaa Go.RowKit
theorem withM_len (c : ChM) (n : Int) : (withM c n).1.mem.length ≤ c.mem.length + 1 := by
  unfold withM
  repeat' split
  all_goals simp [chZ]
theorem withoutM_len (c : ChM) (n : Int) : (withoutM c n).1.mem.length ≤ c.mem.length + 1 := by
  unfold withoutM
  repeat' split
  all_goals simp [chZ, List.length_eraseIdx]
  all_goals (repeat' split) <;> omega
theorem drainM_len (c : ChM) (n : Int) : (drainM c n).1.mem.length ≤ c.mem.length + 1 := by
  unfold drainM
  repeat' split
  all_goals simp [chZ]
def kV (c : ChM) (j : Nat) : Int := if j < c.mem.length then (c.mem.getD j (0, 0)).1 else -1
def lastV (c : ChM) (j : Nat) : Int := if j = 0 then -1 else (c.mem.getD (j - 1) (0, 0)).1
theorem k_zero {c : ChM} (h : okCh c = true) : memberM c 0 = kV c 0 := by
  have := okCh_len h
  unfold memberM kV
  rw [if_pos ⟨h, by omega, by omega⟩, if_pos (by omega)]
  rfl
theorem prev_k {c : ChM} (h : okCh c = true) {j : Nat} (hj : j < c.mem.length) : prevM c (kV c j) = lastV c j := by
  unfold prevM kV lastV memberM
  rw [if_pos hj, (nd_ok h hj).2.2.1]
  by_cases h0 : j = 0
  · subst h0
    rw [if_neg (by omega), if_pos rfl]
  · rw [if_pos ⟨h, by omega, by omega⟩, if_neg h0, show ((j : Int) - 1).toNat = j - 1 by omega]
theorem next_k {c : ChM} (h : okCh c = true) {j : Nat} (hj : j < c.mem.length) : nextM c (kV c j) = kV c (j + 1) := by
  unfold nextM kV memberM
  rw [if_pos hj, (nd_ok h hj).2.2.1, if_neg (by omega)]
  by_cases h1 : j + 1 < c.mem.length
  · rw [if_pos ⟨h, by omega, by omega⟩, if_pos h1, show ((j : Int) + 1).toNat = j + 1 by omega]
  · rw [if_neg (by omega), if_neg h1]
theorem k_lt {c : ChM} (h : okCh c = true) {j : Nat} (hj : j < c.mem.length) : 0 ≤ kV c j ∧ kV c j = lastV c (j + 1) := by
  unfold kV lastV
  rw [if_pos hj, if_neg (by omega)]
  exact ⟨(nd_ok h hj).1, rfl⟩
theorem tail_last {c : ChM} (h : okCh c = true) : memberM c (c.mem.length - 1) = lastV c c.mem.length := by
  have := okCh_len h
  unfold memberM lastV
  rw [if_pos ⟨h, by omega, by omega⟩, if_neg (by omega), show ((c.mem.length : Int) - 1).toNat = c.mem.length - 1 by omega]
set_option maxRecDepth 100000 in
set_option maxHeartbeats 4000000 in
theorem core (c : ChM) (p : Value) (n : Int) (w : World) (hp : ChSl w p c) :
    Calls Try.prog 9 #[chV c p, .int .i64 n] w fun e w' => e = .returned (.bool true) ∧ w.grownBy w' none := by
  obtain ⟨a, cap, rfl, h1, h2, hr⟩ := hp
  refine x_calls tabOK Try.func9 rfl [chS c (.rs 0 c.mem.length cap), .v (.int .i64 n)] _ _ rfl rfl (relR1 hr) ?_
  repeat' ((conv => whnf); first
      | refine Need.go rfl ?_
      | refine QuiD.quiet (by kernel_rfl) ?_
      | refine draw_go tabOK (by kernel_rfl) ?_
      | refine Need.go ⟨rfl, rfl⟩ ?_
      | with_reducible refine Br.dec (fun h => ?_) (fun h => ?_)
      | with_reducible refine Br.eqI (fun h => ?_) (fun h => ?_)
      | with_reducible refine Br.neI (fun h => ?_) (fun h => ?_)
      | with_reducible refine Br.eqS (fun h => ?_) (fun h => ?_)
      | with_reducible refine Br.neS (fun h => ?_) (fun h => ?_)
      | with_reducible refine Br.nd (fun h => ?_) (fun h => ?_)
      | refine Ar.i64 (by omega) (by omega) ?_
      | refine call_inlineL (f := 31) Try.func31 rfl ?_
      | (refine call_mem (f := 32) (args := []) (V := .bool true) ?_ ?_; exact fun ρ w h => linked_any w)
      | (refine quiet_mem (f := 32) (args := []) (V := .bool true) ?_ ?_; exact fun ρ w h => linked_any w)
      | (refine seg_mem (f := 32) (args := []) (V := .bool true) ?_ ?_; exact fun ρ w h => linked_any w)
      | (refine call_mem (f := 28) (args := [chS c (.rs 0 _ _)]) (V := .int .i64 (if okCh c then 0 else 2)) ?_ ?_; exact fun ρ w h => chCheck_any c _ w (sl_rs h (i := 0) rfl (Nat.le_refl _) h1 h2) (by omega))
      | (refine quiet_mem (f := 28) (args := [chS c (.rs 0 _ _)]) (V := .int .i64 (if okCh c then 0 else 2)) ?_ ?_; exact fun ρ w h => chCheck_any c _ w (sl_rs h (i := 0) rfl (Nat.le_refl _) h1 h2) (by omega))
      | (refine seg_mem (f := 28) (args := [chS c (.rs 0 _ _)]) (V := .int .i64 (if okCh c then 0 else 2)) ?_ ?_; exact fun ρ w h => chCheck_any c _ w (sl_rs h (i := 0) rfl (Nat.le_refl _) h1 h2) (by omega))
      | (refine call_mem (f := 29) (args := [chS c (.rs 0 _ _)]) (V := .int .i64 (memberM c 0)) ?_ ?_; exact fun ρ w h => head_any c _ w (sl_rs h (i := 0) rfl (Nat.le_refl _) h1 h2) (by omega))
      | (refine quiet_mem (f := 29) (args := [chS c (.rs 0 _ _)]) (V := .int .i64 (memberM c 0)) ?_ ?_; exact fun ρ w h => head_any c _ w (sl_rs h (i := 0) rfl (Nat.le_refl _) h1 h2) (by omega))
      | (refine seg_mem (f := 29) (args := [chS c (.rs 0 _ _)]) (V := .int .i64 (memberM c 0)) ?_ ?_; exact fun ρ w h => head_any c _ w (sl_rs h (i := 0) rfl (Nat.le_refl _) h1 h2) (by omega))
      | refine Need.go (by first | omega | decide | (simp <;> omega) | fail) ?_
      | refine Need.go (by first | (simp [Value.oneCell'] <;> omega) | fail) ?_
      | refine Need.go ⟨rfl, by omega, getD_one rfl rfl⟩ ?_
      | refine Need.go ⟨rfl, by omega, fun _ _ _ _ => rfl⟩ ?_
      | refine Br.both (fun h => ?_) (fun h => ?_))
  all_goals (conv => whnf)
  any_goals exact ret_pure (fun _ => rfl)
  have hok : okCh c = true := errC_true ‹_›
  have hlen := okCh_len hok
  refine loop_up 20 (fun j : Nat => j ≤ c.mem.length) (fun j => c.mem.length - j) (fun j => [(5, .v (.int .i64 j)), (6, .v (.int .i64 (lastV c j))), (7, .v (.int .i64 (kV c j)))]) (fun _ => []) (fun _ => []) 0 (by omega) (by
    (conv => whnf)
    refine ⟨[some 0, some 1, some 2], by decide, ?_, ?_⟩
    all_goals repeat' (first | (show SV.v _ = SV.v _; rw [k_zero hok]) | exact trivial | exact .inl ⟨rfl, rfl⟩ | rfl | exact .inr ⟨_, rfl, rfl, rfl⟩ | exact ⟨_, rfl, trivial⟩ | exact ⟨_, rfl, rfl⟩ | exact ⟨_, rfl, ⟨rfl, rfl, rfl⟩, fun _ _ _ _ => rfl⟩ | refine ⟨_, rfl, rfl, ?_⟩ | refine ⟨_, rfl, ⟨rfl, rfl, rfl⟩, ?_⟩ | refine And.intro ?_ ?_)) (fun j hj => ?_)
  rcases Nat.lt_or_ge j c.mem.length with hjl | hjl
  · obtain ⟨hk0, hk1⟩ := k_lt hok hjl
    repeat' ((conv => whnf); first
        | (exfalso; omega)
        | with_reducible refine Br.tt ?_
        | with_reducible refine Br.ff ?_
        | with_reducible refine Br.nt ?_
        | with_reducible refine Br.nf ?_
        | with_reducible refine Br.eeI ?_
        | with_reducible refine Br.nnI ?_
        | refine Br.yes (by decide) ?_
        | refine Br.no (by decide) ?_
        | refine Need.go rfl ?_
        | refine QuiD.quiet (by kernel_rfl) ?_
        | refine draw_go tabOK (by kernel_rfl) ?_
        | refine Need.go ⟨rfl, rfl⟩ ?_
        | with_reducible refine Br.dec (fun h => ?_) (fun h => ?_)
        | with_reducible refine Br.eqI (fun h => ?_) (fun h => ?_)
        | with_reducible refine Br.neI (fun h => ?_) (fun h => ?_)
        | with_reducible refine Br.eqS (fun h => ?_) (fun h => ?_)
        | with_reducible refine Br.neS (fun h => ?_) (fun h => ?_)
        | with_reducible refine Br.nd (fun h => ?_) (fun h => ?_)
        | refine Ar.i64 (by omega) (by omega) ?_
        | (refine call_mem (f := 41) (args := [chS c (.rs 0 _ _), _]) (V := .int .i64 (lastV c j)) ?_ ?_; exact fun ρ w h => (by have := prev_any c _ (kV c j) w (sl_rs h (i := 0) rfl (Nat.le_refl _) h1 h2) (by omega); rw [prev_k hok hjl] at this; exact this))
        | (refine quiet_mem (f := 41) (args := [chS c (.rs 0 _ _), _]) (V := .int .i64 (lastV c j)) ?_ ?_; exact fun ρ w h => (by have := prev_any c _ (kV c j) w (sl_rs h (i := 0) rfl (Nat.le_refl _) h1 h2) (by omega); rw [prev_k hok hjl] at this; exact this))
        | (refine seg_mem (f := 41) (args := [chS c (.rs 0 _ _), _]) (V := .int .i64 (lastV c j)) ?_ ?_; exact fun ρ w h => (by have := prev_any c _ (kV c j) w (sl_rs h (i := 0) rfl (Nat.le_refl _) h1 h2) (by omega); rw [prev_k hok hjl] at this; exact this))
        | (refine call_mem (f := 40) (args := [chS c (.rs 0 _ _), _]) (V := .int .i64 (kV c (j + 1))) ?_ ?_; exact fun ρ w h => (by have := next_any c _ (kV c j) w (sl_rs h (i := 0) rfl (Nat.le_refl _) h1 h2) (by omega); rw [next_k hok hjl] at this; exact this))
        | (refine quiet_mem (f := 40) (args := [chS c (.rs 0 _ _), _]) (V := .int .i64 (kV c (j + 1))) ?_ ?_; exact fun ρ w h => (by have := next_any c _ (kV c j) w (sl_rs h (i := 0) rfl (Nat.le_refl _) h1 h2) (by omega); rw [next_k hok hjl] at this; exact this))
        | (refine seg_mem (f := 40) (args := [chS c (.rs 0 _ _), _]) (V := .int .i64 (kV c (j + 1))) ?_ ?_; exact fun ρ w h => (by have := next_any c _ (kV c j) w (sl_rs h (i := 0) rfl (Nat.le_refl _) h1 h2) (by omega); rw [next_k hok hjl] at this; exact this))
        | refine Need.go (by first | omega | decide | (simp <;> omega) | fail) ?_
        | refine Need.go (by first | (simp [Value.oneCell'] <;> omega) | fail) ?_
        | refine Need.go ⟨rfl, by omega, getD_one rfl rfl⟩ ?_
        | refine Need.go ⟨rfl, by omega, fun _ _ _ _ => rfl⟩ ?_
        | refine Br.both (fun h => ?_) (fun h => ?_))
    (conv => whnf)
    refine ⟨j + 1, by omega, by omega, ?_⟩
    (conv => whnf)
    refine ⟨[some 0, some 1, some 2], by decide, ?_, ?_⟩
    all_goals repeat' (first | (show SV.v _ = SV.v _; rw [hk1]) | exact trivial | exact .inl ⟨rfl, rfl⟩ | rfl | exact .inr ⟨_, rfl, rfl, rfl⟩ | exact ⟨_, rfl, trivial⟩ | exact ⟨_, rfl, rfl⟩ | exact ⟨_, rfl, ⟨rfl, rfl, rfl⟩, fun _ _ _ _ => rfl⟩ | refine ⟨_, rfl, rfl, ?_⟩ | refine ⟨_, rfl, ⟨rfl, rfl, rfl⟩, ?_⟩ | refine And.intro ?_ ?_)
  · obtain rfl : j = c.mem.length := by omega
    have hkv : kV c c.mem.length = -1 := if_neg (by omega)
    repeat' ((conv => whnf); first
        | (exfalso; omega)
        | with_reducible refine Br.tt ?_
        | with_reducible refine Br.ff ?_
        | with_reducible refine Br.nt ?_
        | with_reducible refine Br.nf ?_
        | with_reducible refine Br.eeI ?_
        | with_reducible refine Br.nnI ?_
        | refine Br.yes (by decide) ?_
        | refine Br.no (by decide) ?_
        | refine Need.go rfl ?_
        | refine QuiD.quiet (by kernel_rfl) ?_
        | refine draw_go tabOK (by kernel_rfl) ?_
        | refine Need.go ⟨rfl, rfl⟩ ?_
        | with_reducible refine Br.dec (fun h => ?_) (fun h => ?_)
        | with_reducible refine Br.eqI (fun h => ?_) (fun h => ?_)
        | with_reducible refine Br.neI (fun h => ?_) (fun h => ?_)
        | with_reducible refine Br.eqS (fun h => ?_) (fun h => ?_)
        | with_reducible refine Br.neS (fun h => ?_) (fun h => ?_)
        | with_reducible refine Br.nd (fun h => ?_) (fun h => ?_)
        | refine Ar.i64 (by omega) (by omega) ?_
        | (refine call_mem (f := 30) (args := [chS c (.rs 0 _ _)]) (V := .int .i64 (lastV c c.mem.length)) ?_ ?_; exact fun ρ w h => (by have := tail_any c _ w (sl_rs h (i := 0) rfl (Nat.le_refl _) h1 h2) (by omega); rw [tail_last hok] at this; exact this))
        | (refine quiet_mem (f := 30) (args := [chS c (.rs 0 _ _)]) (V := .int .i64 (lastV c c.mem.length)) ?_ ?_; exact fun ρ w h => (by have := tail_any c _ w (sl_rs h (i := 0) rfl (Nat.le_refl _) h1 h2) (by omega); rw [tail_last hok] at this; exact this))
        | (refine seg_mem (f := 30) (args := [chS c (.rs 0 _ _)]) (V := .int .i64 (lastV c c.mem.length)) ?_ ?_; exact fun ρ w h => (by have := tail_any c _ w (sl_rs h (i := 0) rfl (Nat.le_refl _) h1 h2) (by omega); rw [tail_last hok] at this; exact this))
        | refine Need.go (by first | omega | decide | (simp <;> omega) | fail) ?_
        | refine Need.go (by first | (simp [Value.oneCell'] <;> omega) | fail) ?_
        | refine Need.go ⟨rfl, by omega, getD_one rfl rfl⟩ ?_
        | refine Need.go ⟨rfl, by omega, fun _ _ _ _ => rfl⟩ ?_
        | refine Br.both (fun h => ?_) (fun h => ?_))
    (conv => whnf)
    generalize bitI (fun _ x y => x &&& y) .i64 n 7 = m
    generalize g1 : withM c m = r1
    generalize g2 : withoutM c m = r2
    generalize g3 : drainM c m = r3
    obtain ⟨m1, e1⟩ := r1
    obtain ⟨m2, e2⟩ := r2
    obtain ⟨m3, e3⟩ := r3
    have l1 : m1.mem.length ≤ 13 := by have := withM_len c m; rw [g1] at this; simp only at this; omega
    have l2 : m2.mem.length ≤ 13 := by have := withoutM_len c m; rw [g2] at this; simp only at this; omega
    have l3 : m3.mem.length ≤ 13 := by have := drainM_len c m; rw [g3] at this; simp only at this; omega
    have F2 : e2 = 0 → okCh m2 = true ∧ m2.epoch = c.epoch + 1 ∧ (m2.mem.length : Int) = c.mem.length - 1 := fun h => by
      subst h
      obtain ⟨a, b, d, e, _⟩ := without_ok hok g2
      exact ⟨a, b, by omega⟩
    have F3 : e3 = 0 → okCh m3 = true ∧ m3.drain = m ∧ m3.epoch = c.epoch + 1 := fun h => by
      subst h
      exact drain_ok hok g3
    by_cases he1 : e1 = 0
    · subst he1
      generalize g4 : withoutM m1 m = r4
      obtain ⟨m4, e4⟩ := r4
      have l4 : m4.mem.length ≤ 14 := by have := withoutM_len m1 m; rw [g4] at this; simp only at this; omega
      obtain ⟨w1, w2, w3, w4, w5, w6⟩ := with_ok hok g1
      have we : m1.epoch = c.epoch + 1 := by rw [w2]
      have F4 : m1.epoch < 1099511627776 → e4 = 0 ∧ sameCh ⟨c.epoch, m4.mem, m4.drain⟩ c = true := fun h => by
        have := without_with hok g1 h
        rw [g4] at this
        cases this
        exact ⟨rfl, by simp [sameCh]⟩
      repeat' ((conv => whnf); first
          | (exfalso; omega)
          | with_reducible refine Br.tt ?_
          | with_reducible refine Br.ff ?_
          | with_reducible refine Br.nt ?_
          | with_reducible refine Br.nf ?_
          | with_reducible refine Br.eeI ?_
          | with_reducible refine Br.nnI ?_
          | refine Br.yes (by decide) ?_
          | refine Br.no (by decide) ?_
          | refine Need.go rfl ?_
          | refine QuiD.quiet (by kernel_rfl) ?_
          | refine draw_go tabOK (by kernel_rfl) ?_
          | refine Need.go ⟨rfl, rfl⟩ ?_
          | with_reducible refine Br.dec (fun h => ?_) (fun h => ?_)
          | with_reducible refine Br.eqI (fun h => ?_) (fun h => ?_)
          | with_reducible refine Br.neI (fun h => ?_) (fun h => ?_)
          | with_reducible refine Br.eqS (fun h => ?_) (fun h => ?_)
          | with_reducible refine Br.neS (fun h => ?_) (fun h => ?_)
          | with_reducible refine Br.nd (fun h => ?_) (fun h => ?_)
          | refine Ar.i64 (by omega) (by omega) ?_
          | (refine chWith_n c m1 m 0 g1 (.rs 0 c.mem.length cap) ?_ (by omega) ?_; exact fun ρ w h => sl_rs h (i := 0) rfl (Nat.le_refl _) h1 h2)
          | (refine chWithout_n m1 m4 m e4 g4 (.os 3 m1.mem.length) ?_ (by omega) ?_; exact fun ρ w h => sl_os h (i := 3) rfl)
          | (refine call_mem (f := 42) (args := [chS m1 (.os 3 _), _]) (V := .tuple #[.int .i64 (c.epoch + 1), .bool true]) ?_ ?_; exact fun ρ w h => (by have := since_any m1 _ m w (sl_os h (i := 3) rfl) (by omega); rw [since_with hok g1] at this; exact this))
          | (refine quiet_mem (f := 42) (args := [chS m1 (.os 3 _), _]) (V := .tuple #[.int .i64 (c.epoch + 1), .bool true]) ?_ ?_; exact fun ρ w h => (by have := since_any m1 _ m w (sl_os h (i := 3) rfl) (by omega); rw [since_with hok g1] at this; exact this))
          | (refine seg_mem (f := 42) (args := [chS m1 (.os 3 _), _]) (V := .tuple #[.int .i64 (c.epoch + 1), .bool true]) ?_ ?_; exact fun ρ w h => (by have := since_any m1 _ m w (sl_os h (i := 3) rfl) (by omega); rw [since_with hok g1] at this; exact this))
          | (refine call_mem (f := 28) (args := [chS m1 (.os 3 _)]) (V := .int .i64 0) ?_ ?_; exact fun ρ w h => (by have := chCheck_any m1 _ w (sl_os h (i := 3) rfl) (by omega); rw [w1] at this; exact this))
          | (refine quiet_mem (f := 28) (args := [chS m1 (.os 3 _)]) (V := .int .i64 0) ?_ ?_; exact fun ρ w h => (by have := chCheck_any m1 _ w (sl_os h (i := 3) rfl) (by omega); rw [w1] at this; exact this))
          | (refine seg_mem (f := 28) (args := [chS m1 (.os 3 _)]) (V := .int .i64 0) ?_ ?_; exact fun ρ w h => (by have := chCheck_any m1 _ w (sl_os h (i := 3) rfl) (by omega); rw [w1] at this; exact this))
          | (refine call_mem (f := 30) (args := [chS m1 (.os 3 _)]) (V := .int .i64 m) ?_ ?_; exact fun ρ w h => (by have := tail_any m1 _ w (sl_os h (i := 3) rfl) (by omega); rw [tail_with hok g1] at this; exact this))
          | (refine quiet_mem (f := 30) (args := [chS m1 (.os 3 _)]) (V := .int .i64 m) ?_ ?_; exact fun ρ w h => (by have := tail_any m1 _ w (sl_os h (i := 3) rfl) (by omega); rw [tail_with hok g1] at this; exact this))
          | (refine seg_mem (f := 30) (args := [chS m1 (.os 3 _)]) (V := .int .i64 m) ?_ ?_; exact fun ρ w h => (by have := tail_any m1 _ w (sl_os h (i := 3) rfl) (by omega); rw [tail_with hok g1] at this; exact this))
          | (refine call_mem (f := 43) (args := [chS ⟨c.epoch, m4.mem, m4.drain⟩ (.os 5 _), chS c (.rs 0 _ _)]) (V := .bool (sameCh ⟨c.epoch, m4.mem, m4.drain⟩ c)) ?_ ?_; exact fun ρ w h => chSame_any ⟨c.epoch, m4.mem, m4.drain⟩ c _ _ w (sl_os h (i := 5) rfl) (sl_rs h (i := 0) rfl (Nat.le_refl _) h1 h2) (by simp only; omega))
          | (refine quiet_mem (f := 43) (args := [chS ⟨c.epoch, m4.mem, m4.drain⟩ (.os 5 _), chS c (.rs 0 _ _)]) (V := .bool (sameCh ⟨c.epoch, m4.mem, m4.drain⟩ c)) ?_ ?_; exact fun ρ w h => chSame_any ⟨c.epoch, m4.mem, m4.drain⟩ c _ _ w (sl_os h (i := 5) rfl) (sl_rs h (i := 0) rfl (Nat.le_refl _) h1 h2) (by simp only; omega))
          | (refine seg_mem (f := 43) (args := [chS ⟨c.epoch, m4.mem, m4.drain⟩ (.os 5 _), chS c (.rs 0 _ _)]) (V := .bool (sameCh ⟨c.epoch, m4.mem, m4.drain⟩ c)) ?_ ?_; exact fun ρ w h => chSame_any ⟨c.epoch, m4.mem, m4.drain⟩ c _ _ w (sl_os h (i := 5) rfl) (sl_rs h (i := 0) rfl (Nat.le_refl _) h1 h2) (by simp only; omega))
          | (refine chWithout_n c m2 m e2 g2 (.rs 0 c.mem.length cap) ?_ (by omega) ?_; exact fun ρ w h => sl_rs h (i := 0) rfl (Nat.le_refl _) h1 h2)
          | (refine chDrain_n c m3 m e3 g3 (.rs 0 c.mem.length cap) ?_ (by omega) ?_; exact fun ρ w h => sl_rs h (i := 0) rfl (Nat.le_refl _) h1 h2)
          | (refine call_mem (f := 28) (args := [chS m2 (.os 7 _)]) (V := errC (okCh m2)) ?_ ?_; exact fun ρ w h => chCheck_any m2 _ w (sl_os h (i := 7) rfl) (by omega))
          | (refine quiet_mem (f := 28) (args := [chS m2 (.os 7 _)]) (V := errC (okCh m2)) ?_ ?_; exact fun ρ w h => chCheck_any m2 _ w (sl_os h (i := 7) rfl) (by omega))
          | (refine seg_mem (f := 28) (args := [chS m2 (.os 7 _)]) (V := errC (okCh m2)) ?_ ?_; exact fun ρ w h => chCheck_any m2 _ w (sl_os h (i := 7) rfl) (by omega))
          | (refine call_mem (f := 28) (args := [chS m3 (.os 9 _)]) (V := errC (okCh m3)) ?_ ?_; exact fun ρ w h => chCheck_any m3 _ w (sl_os h (i := 9) rfl) (by omega))
          | (refine quiet_mem (f := 28) (args := [chS m3 (.os 9 _)]) (V := errC (okCh m3)) ?_ ?_; exact fun ρ w h => chCheck_any m3 _ w (sl_os h (i := 9) rfl) (by omega))
          | (refine seg_mem (f := 28) (args := [chS m3 (.os 9 _)]) (V := errC (okCh m3)) ?_ ?_; exact fun ρ w h => chCheck_any m3 _ w (sl_os h (i := 9) rfl) (by omega))
          | (refine call_mem (f := 42) (args := [chS m2 (.os 7 _), _]) (V := .tuple #[.int .i64 (sinceM m2 m).1, .bool false]) ?_ ?_; exact fun ρ w h => (by have := since_any m2 _ m w (sl_os h (i := 7) rfl) (by omega); rw [since_without hok g2] at this; exact this))
          | (refine quiet_mem (f := 42) (args := [chS m2 (.os 7 _), _]) (V := .tuple #[.int .i64 (sinceM m2 m).1, .bool false]) ?_ ?_; exact fun ρ w h => (by have := since_any m2 _ m w (sl_os h (i := 7) rfl) (by omega); rw [since_without hok g2] at this; exact this))
          | (refine seg_mem (f := 42) (args := [chS m2 (.os 7 _), _]) (V := .tuple #[.int .i64 (sinceM m2 m).1, .bool false]) ?_ ?_; exact fun ρ w h => (by have := since_any m2 _ m w (sl_os h (i := 7) rfl) (by omega); rw [since_without hok g2] at this; exact this))
          | (refine call_mem (f := 32) (args := []) (V := .bool true) ?_ ?_; exact fun ρ w h => linked_any w)
          | (refine quiet_mem (f := 32) (args := []) (V := .bool true) ?_ ?_; exact fun ρ w h => linked_any w)
          | (refine seg_mem (f := 32) (args := []) (V := .bool true) ?_ ?_; exact fun ρ w h => linked_any w)
          | refine Need.go (by first | omega | decide | (simp <;> omega) | fail) ?_
          | refine Need.go (by first | (simp [Value.oneCell'] <;> omega) | fail) ?_
          | refine Need.go ⟨rfl, by omega, getD_one rfl rfl⟩ ?_
          | refine Need.go ⟨rfl, by omega, fun _ _ _ _ => rfl⟩ ?_
          | refine Br.both (fun h => ?_) (fun h => ?_))
      all_goals (conv => whnf)
      all_goals first | exact ret_pure (fun _ => rfl) | skip
      all_goals exfalso
      all_goals clear g1 g2 g3 hr
      all_goals first | omega | (have := F2 ‹e2 = 0›; omega) | (have := F3 ‹e3 = 0›; omega) | exact h (if_pos (F2 ‹e2 = 0›).1) | exact h (if_pos (F3 ‹e3 = 0›).1) | exact absurd h (by rw [(F4 ‹_›).2]; decide)
    · repeat' ((conv => whnf); first
        | refine Br.no (by simpa using he1) ?_
        | with_reducible refine Br.tt ?_
        | with_reducible refine Br.ff ?_
        | with_reducible refine Br.nt ?_
        | with_reducible refine Br.nf ?_
        | with_reducible refine Br.eeI ?_
        | with_reducible refine Br.nnI ?_
        | refine Br.yes (by decide) ?_
        | refine Br.no (by decide) ?_
        | refine Need.go rfl ?_
        | refine QuiD.quiet (by kernel_rfl) ?_
        | refine draw_go tabOK (by kernel_rfl) ?_
        | refine Need.go ⟨rfl, rfl⟩ ?_
        | with_reducible refine Br.dec (fun h => ?_) (fun h => ?_)
        | with_reducible refine Br.eqI (fun h => ?_) (fun h => ?_)
        | with_reducible refine Br.neI (fun h => ?_) (fun h => ?_)
        | with_reducible refine Br.eqS (fun h => ?_) (fun h => ?_)
        | with_reducible refine Br.neS (fun h => ?_) (fun h => ?_)
        | with_reducible refine Br.nd (fun h => ?_) (fun h => ?_)
        | refine Ar.i64 (by omega) (by omega) ?_
        | (refine chWith_n c m1 m e1 g1 (.rs 0 c.mem.length cap) ?_ (by omega) ?_; exact fun ρ w h => sl_rs h (i := 0) rfl (Nat.le_refl _) h1 h2)
        | (refine chWithout_n c m2 m e2 g2 (.rs 0 c.mem.length cap) ?_ (by omega) ?_; exact fun ρ w h => sl_rs h (i := 0) rfl (Nat.le_refl _) h1 h2)
        | (refine chDrain_n c m3 m e3 g3 (.rs 0 c.mem.length cap) ?_ (by omega) ?_; exact fun ρ w h => sl_rs h (i := 0) rfl (Nat.le_refl _) h1 h2)
        | (refine call_mem (f := 28) (args := [chS m2 (.os 5 _)]) (V := errC (okCh m2)) ?_ ?_; exact fun ρ w h => chCheck_any m2 _ w (sl_os h (i := 5) rfl) (by omega))
        | (refine quiet_mem (f := 28) (args := [chS m2 (.os 5 _)]) (V := errC (okCh m2)) ?_ ?_; exact fun ρ w h => chCheck_any m2 _ w (sl_os h (i := 5) rfl) (by omega))
        | (refine seg_mem (f := 28) (args := [chS m2 (.os 5 _)]) (V := errC (okCh m2)) ?_ ?_; exact fun ρ w h => chCheck_any m2 _ w (sl_os h (i := 5) rfl) (by omega))
        | (refine call_mem (f := 28) (args := [chS m3 (.os 7 _)]) (V := errC (okCh m3)) ?_ ?_; exact fun ρ w h => chCheck_any m3 _ w (sl_os h (i := 7) rfl) (by omega))
        | (refine quiet_mem (f := 28) (args := [chS m3 (.os 7 _)]) (V := errC (okCh m3)) ?_ ?_; exact fun ρ w h => chCheck_any m3 _ w (sl_os h (i := 7) rfl) (by omega))
        | (refine seg_mem (f := 28) (args := [chS m3 (.os 7 _)]) (V := errC (okCh m3)) ?_ ?_; exact fun ρ w h => chCheck_any m3 _ w (sl_os h (i := 7) rfl) (by omega))
        | (refine call_mem (f := 42) (args := [chS m2 (.os 5 _), _]) (V := .tuple #[.int .i64 (sinceM m2 m).1, .bool false]) ?_ ?_; exact fun ρ w h => (by have := since_any m2 _ m w (sl_os h (i := 5) rfl) (by omega); rw [since_without hok g2] at this; exact this))
        | (refine quiet_mem (f := 42) (args := [chS m2 (.os 5 _), _]) (V := .tuple #[.int .i64 (sinceM m2 m).1, .bool false]) ?_ ?_; exact fun ρ w h => (by have := since_any m2 _ m w (sl_os h (i := 5) rfl) (by omega); rw [since_without hok g2] at this; exact this))
        | (refine seg_mem (f := 42) (args := [chS m2 (.os 5 _), _]) (V := .tuple #[.int .i64 (sinceM m2 m).1, .bool false]) ?_ ?_; exact fun ρ w h => (by have := since_any m2 _ m w (sl_os h (i := 5) rfl) (by omega); rw [since_without hok g2] at this; exact this))
        | (refine call_mem (f := 32) (args := []) (V := .bool true) ?_ ?_; exact fun ρ w h => linked_any w)
        | (refine quiet_mem (f := 32) (args := []) (V := .bool true) ?_ ?_; exact fun ρ w h => linked_any w)
        | (refine seg_mem (f := 32) (args := []) (V := .bool true) ?_ ?_; exact fun ρ w h => linked_any w)
        | refine Need.go (by first | omega | decide | (simp <;> omega) | fail) ?_
        | refine Need.go (by first | (simp [Value.oneCell'] <;> omega) | fail) ?_
        | refine Need.go ⟨rfl, by omega, getD_one rfl rfl⟩ ?_
        | refine Need.go ⟨rfl, by omega, fun _ _ _ _ => rfl⟩ ?_
        | refine Br.both (fun h => ?_) (fun h => ?_))
      all_goals (conv => whnf)
      all_goals first | exact ret_pure (fun _ => rfl) | skip
      all_goals exfalso
      all_goals clear g1 g2 g3 hr
      all_goals first | omega | (have := F2 ‹e2 = 0›; omega) | (have := F3 ‹e3 = 0›; omega) | exact h (if_pos (F2 ‹e2 = 0›).1) | exact h (if_pos (F3 ‹e3 = 0›).1)
theorem walk (w : World) (n0 : Int) (_ : (Lit.int .i64 n0).wf = true) (a : Option Addr) (n c : Nat) (hn : n ≤ c) (hc : c ≤ maxLen) (hr : RowsAt [intL .i64, intL .i64] w a n) (n2 : Int) (_ : (Lit.int .i64 n2).wf = true) (n3 : Int) (_ : (Lit.int .i64 n3).wf = true) :
    Calls Try.prog 9 #[.agg #[.int .i64 n0, .slice a n c, .int .i64 n2], .int .i64 n3] w fun e w' => e = .returned (.bool true) ∧ Below w.heap.size w w' := by
  obtain ⟨zs, rfl, hz⟩ := rows_mems hr
  exact (core ⟨n0, zs, n2⟩ _ n3 w ⟨a, c, rfl, hn, hc, hz⟩).mono fun _ _ ⟨h, k⟩ => ⟨h, below_of_only k⟩
end Go.Proofs.Ytcogbepdjegheaa.lawChainsEnds
