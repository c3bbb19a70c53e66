/-
  Chains: the program's Put, and the document's. No condition.
-/
import Derived.Test.YtcogbepdjegheaaCh4
import Derived.Test.YtcogbepdjegheaaCh3
import Derived.Test.YtcogbepdjegheaaCodecUnint
namespace Go.Proofs.Ytcogbepdjegheaa
open Go.RowKit
theorem leV_S {σ : List (Option Nat)} {a b : List UInt8} (h : b = a) : leV σ (.v (S a)) (.v (S b)) := by
  subst h
  exact .inl ⟨rfl, rfl⟩
theorem intB_len (n : Int) : (intB n).length ≤ 9 := by
  unfold intB
  split
  · simp
  · have := (numL_len (n + 1).toNat (by omega)).2; omega
def bodyB (ms : List (Int × Int)) : Nat → List UInt8
  | 0 => []
  | k + 1 => bodyB ms k ++ (intB (ms.getD k (0, 0)).1 ++ intB (ms.getD k (0, 0)).2)
theorem bodyB_len (ms : List (Int × Int)) (k : Nat) : (bodyB ms k).length ≤ 18 * k := by
  induction k with
  | zero => simp [bodyB]
  | succ k ih =>
    have h1 := intB_len (ms.getD k (0, 0)).1
    have h2 := intB_len (ms.getD k (0, 0)).2
    simp only [bodyB, List.length_append]
    omega
def headB (c : ChM) : List UInt8 := intB c.epoch ++ intB c.mem.length
theorem headB_len (c : ChM) : (headB c).length ≤ 18 := by
  have h1 := intB_len c.epoch
  have h2 := intB_len c.mem.length
  simp only [headB, List.length_append]
  omega
/-- A chain's bytes. -/
def putM (c : ChM) : List UInt8 × Int := if okCh c then (headB c ++ bodyB c.mem c.mem.length ++ intB c.drain, 0) else ([], 2)
set_option maxRecDepth 100000 in
set_option maxHeartbeats 1000000 in
theorem put_any (c : ChM) (p : Value) (w : World) (hp : ChSl w p c) (hl : c.mem.length ≤ 1000000) :
    Calls Try.prog 45 #[chV c p] w fun e w' => e = .returned (.tuple #[S (putM c).1, .int .i64 (putM c).2]) ∧ w.grownBy w' none := by
  obtain ⟨a, cap, rfl, h1, h2, hr⟩ := hp
  have i1 := intB_len c.epoch
  have i2 := intB_len c.mem.length
  refine x_calls tabOK Try.func45 rfl [chS c (.rs 0 c.mem.length cap)] _ _ rfl rfl (relR1 hr) ?_
  repeat' ((conv => whnf); first
      | refine Need.go rfl ?_
      | refine QuiD.quiet (by kernel_rfl) ?_
      | refine draw_go tabOK (by kernel_rfl) ?_
      | refine Need.go ⟨rfl, rfl⟩ ?_
      | with_reducible refine Br.dec (fun h => ?_) (fun h => ?_)
      | with_reducible refine Br.eqI (fun h => ?_) (fun h => ?_)
      | with_reducible refine Br.neI (fun h => ?_) (fun h => ?_)
      | with_reducible refine Br.eqS (fun h => ?_) (fun h => ?_)
      | with_reducible refine Br.neS (fun h => ?_) (fun h => ?_)
      | with_reducible refine Br.nd (fun h => ?_) (fun h => ?_)
      | refine Ar.i64 (by omega) (by omega) ?_
      | (refine call_mem (f := 28) (args := [chS c (.rs 0 _ _)]) (V := errC (okCh c)) ?_ ?_; exact fun ρ w h => chCheck_any c _ w (sl_rs h (i := 0) rfl (Nat.le_refl _) h1 h2) hl)
      | (refine quiet_mem (f := 28) (args := [chS c (.rs 0 _ _)]) (V := errC (okCh c)) ?_ ?_; exact fun ρ w h => chCheck_any c _ w (sl_rs h (i := 0) rfl (Nat.le_refl _) h1 h2) hl)
      | (refine seg_mem (f := 28) (args := [chS c (.rs 0 _ _)]) (V := errC (okCh c)) ?_ ?_; exact fun ρ w h => chCheck_any c _ w (sl_rs h (i := 0) rfl (Nat.le_refl _) h1 h2) hl)
      | (refine call_mem (f := 73) (args := [.v (.int .i64 c.epoch)]) (V := S (intB c.epoch)) ?_ ?_; exact fun ρ w h => int_any _ w)
      | (refine quiet_mem (f := 73) (args := [.v (.int .i64 c.epoch)]) (V := S (intB c.epoch)) ?_ ?_; exact fun ρ w h => int_any _ w)
      | (refine seg_mem (f := 73) (args := [.v (.int .i64 c.epoch)]) (V := S (intB c.epoch)) ?_ ?_; exact fun ρ w h => int_any _ w)
      | (refine call_mem (f := 73) (args := [.v (.int .i64 c.mem.length)]) (V := S (intB c.mem.length)) ?_ ?_; exact fun ρ w h => int_any _ w)
      | (refine quiet_mem (f := 73) (args := [.v (.int .i64 c.mem.length)]) (V := S (intB c.mem.length)) ?_ ?_; exact fun ρ w h => int_any _ w)
      | (refine seg_mem (f := 73) (args := [.v (.int .i64 c.mem.length)]) (V := S (intB c.mem.length)) ?_ ?_; exact fun ρ w h => int_any _ w)
      | refine Need.go (by first | omega | decide | (simp <;> omega) | fail) ?_
      | refine Need.go (by first | (simp [Value.oneCell'] <;> omega) | fail) ?_
      | refine Need.go ⟨rfl, by omega, getD_one rfl rfl⟩ ?_
      | refine Need.go ⟨rfl, by omega, fun _ _ _ _ => rfl⟩ ?_
      | refine Br.both (fun h => ?_) (fun h => ?_))
  all_goals (conv => whnf)
  · have ok := errC_false ‹_›
    refine ret_pure (fun _ => ?_)
    simp only [putM, ok, if_false, Bool.false_eq_true]
    rfl
  have ok := errC_true ‹_›
  refine loop_up 25 (fun k : Nat => k ≤ c.mem.length) (fun k => c.mem.length - k) (fun k => [(5, .v (S (headB c ++ bodyB c.mem k))), (7, .junk), (24, .v (.int .i64 k))]) (fun _ => []) (fun _ => []) 0 (Nat.zero_le _) (by
    (conv => whnf)
    refine ⟨[some 0, some 1], by decide, ?_, ?_⟩
    all_goals repeat' (first | exact leV_S (a := headB c) (b := headB c ++ []) (List.append_nil _) | exact trivial | exact .inl ⟨rfl, rfl⟩ | rfl | exact .inr ⟨_, rfl, rfl, rfl⟩ | exact ⟨_, rfl, trivial⟩ | exact ⟨_, rfl, rfl⟩ | exact ⟨_, rfl, ⟨rfl, rfl, rfl⟩, fun _ _ _ _ => rfl⟩ | refine ⟨_, rfl, rfl, ?_⟩ | refine ⟨_, rfl, ⟨rfl, rfl, rfl⟩, ?_⟩ | refine And.intro ?_ ?_)) (fun k hk => ?_)
  have i3 := headB_len c
  have i4 := bodyB_len c.mem k
  have i5 := intB_len (c.mem.getD k (0, 0)).1
  have i6 := intB_len (c.mem.getD k (0, 0)).2
  have i7 := intB_len c.drain
  repeat' ((conv => whnf); first
      | refine Need.go rfl ?_
      | refine QuiD.quiet (by kernel_rfl) ?_
      | refine draw_go tabOK (by kernel_rfl) ?_
      | refine Need.go ⟨rfl, rfl⟩ ?_
      | with_reducible refine Br.dec (fun h => ?_) (fun h => ?_)
      | with_reducible refine Br.eqI (fun h => ?_) (fun h => ?_)
      | with_reducible refine Br.neI (fun h => ?_) (fun h => ?_)
      | with_reducible refine Br.eqS (fun h => ?_) (fun h => ?_)
      | with_reducible refine Br.neS (fun h => ?_) (fun h => ?_)
      | with_reducible refine Br.nd (fun h => ?_) (fun h => ?_)
      | refine Ar.i64 (by omega) (by omega) ?_
      | (refine call_mem (f := 73) (args := [.v (.int .i64 c.drain)]) (V := S (intB c.drain)) ?_ ?_; exact fun ρ w h => int_any _ w)
      | (refine quiet_mem (f := 73) (args := [.v (.int .i64 c.drain)]) (V := S (intB c.drain)) ?_ ?_; exact fun ρ w h => int_any _ w)
      | (refine seg_mem (f := 73) (args := [.v (.int .i64 c.drain)]) (V := S (intB c.drain)) ?_ ?_; exact fun ρ w h => int_any _ w)
      | (refine call_mem (f := 73) (args := [.v (.int .i64 (c.mem.getD k (0, 0)).1)]) (V := S (intB (c.mem.getD k (0, 0)).1)) ?_ ?_; exact fun ρ w h => int_any _ w)
      | (refine quiet_mem (f := 73) (args := [.v (.int .i64 (c.mem.getD k (0, 0)).1)]) (V := S (intB (c.mem.getD k (0, 0)).1)) ?_ ?_; exact fun ρ w h => int_any _ w)
      | (refine seg_mem (f := 73) (args := [.v (.int .i64 (c.mem.getD k (0, 0)).1)]) (V := S (intB (c.mem.getD k (0, 0)).1)) ?_ ?_; exact fun ρ w h => int_any _ w)
      | (refine call_mem (f := 73) (args := [.v (.int .i64 (c.mem.getD k (0, 0)).2)]) (V := S (intB (c.mem.getD k (0, 0)).2)) ?_ ?_; exact fun ρ w h => int_any _ w)
      | (refine quiet_mem (f := 73) (args := [.v (.int .i64 (c.mem.getD k (0, 0)).2)]) (V := S (intB (c.mem.getD k (0, 0)).2)) ?_ ?_; exact fun ρ w h => int_any _ w)
      | (refine seg_mem (f := 73) (args := [.v (.int .i64 (c.mem.getD k (0, 0)).2)]) (V := S (intB (c.mem.getD k (0, 0)).2)) ?_ ?_; exact fun ρ w h => int_any _ w)
      | (refine Need.go (by simp only [List.length_append]; omega) ?_)
      | refine Need.go (by first | omega | decide | (simp <;> omega) | fail) ?_
      | refine Need.go (by first | (simp [Value.oneCell'] <;> omega) | fail) ?_
      | refine Need.go ⟨rfl, by omega, getD_one rfl rfl⟩ ?_
      | refine Need.go ⟨rfl, by omega, fun _ _ _ _ => rfl⟩ ?_
      | refine Br.both (fun h => ?_) (fun h => ?_))
  all_goals (conv => whnf)
  · refine ⟨k + 1, by omega, by omega, ?_⟩
    (conv => whnf)
    refine ⟨[some 0, some 1], by decide, ?_, ?_⟩
    all_goals repeat' (first | exact leV_S (a := headB c ++ bodyB c.mem k ++ (intB (c.mem.getD k (0, 0)).1 ++ intB (c.mem.getD k (0, 0)).2)) (b := headB c ++ (bodyB c.mem k ++ (intB (c.mem.getD k (0, 0)).1 ++ intB (c.mem.getD k (0, 0)).2))) (List.append_assoc _ _ _).symm | exact trivial | exact .inl ⟨rfl, rfl⟩ | rfl | exact .inr ⟨_, rfl, rfl, rfl⟩ | exact ⟨_, rfl, trivial⟩ | exact ⟨_, rfl, rfl⟩ | exact ⟨_, rfl, ⟨rfl, rfl, rfl⟩, fun _ _ _ _ => rfl⟩ | refine ⟨_, rfl, rfl, ?_⟩ | refine ⟨_, rfl, ⟨rfl, rfl, rfl⟩, ?_⟩ | refine And.intro ?_ ?_)
  · refine ret_pure (fun _ => ?_)
    obtain rfl : k = c.mem.length := by omega
    simp only [putM, ok, if_true]
    rfl
set_option maxRecDepth 100000 in
set_option maxHeartbeats 1000000 in
theorem rput_any (c : ChM) (p : Value) (w : World) (hp : ChSl w p c) (hl : c.mem.length ≤ 1000000) :
    Calls Try.prog 46 #[chV c p] w fun e w' => e = .returned (.tuple #[S (putM c).1, .int .i64 (putM c).2]) ∧ w.grownBy w' none := by
  obtain ⟨a, cap, rfl, h1, h2, hr⟩ := hp
  have i1 := intB_len c.epoch
  have i2 := intB_len c.mem.length
  refine x_calls tabOK Try.func46 rfl [chS c (.rs 0 c.mem.length cap)] _ _ rfl rfl (relR1 hr) ?_
  repeat' ((conv => whnf); first
      | refine Need.go rfl ?_
      | refine QuiD.quiet (by kernel_rfl) ?_
      | refine draw_go tabOK (by kernel_rfl) ?_
      | refine Need.go ⟨rfl, rfl⟩ ?_
      | with_reducible refine Br.dec (fun h => ?_) (fun h => ?_)
      | with_reducible refine Br.eqI (fun h => ?_) (fun h => ?_)
      | with_reducible refine Br.neI (fun h => ?_) (fun h => ?_)
      | with_reducible refine Br.eqS (fun h => ?_) (fun h => ?_)
      | with_reducible refine Br.neS (fun h => ?_) (fun h => ?_)
      | with_reducible refine Br.nd (fun h => ?_) (fun h => ?_)
      | refine Ar.i64 (by omega) (by omega) ?_
      | (refine call_mem (f := 47) (args := [chS c (.rs 0 _ _)]) (V := errC (okCh c)) ?_ ?_; exact fun ρ w h => rchCheck_any c _ w (sl_rs h (i := 0) rfl (Nat.le_refl _) h1 h2) hl)
      | (refine quiet_mem (f := 47) (args := [chS c (.rs 0 _ _)]) (V := errC (okCh c)) ?_ ?_; exact fun ρ w h => rchCheck_any c _ w (sl_rs h (i := 0) rfl (Nat.le_refl _) h1 h2) hl)
      | (refine seg_mem (f := 47) (args := [chS c (.rs 0 _ _)]) (V := errC (okCh c)) ?_ ?_; exact fun ρ w h => rchCheck_any c _ w (sl_rs h (i := 0) rfl (Nat.le_refl _) h1 h2) hl)
      | (refine call_mem (f := 74) (args := [.v (.int .i64 c.epoch)]) (V := S (intB c.epoch)) ?_ ?_; exact fun ρ w h => rint_any _ w)
      | (refine quiet_mem (f := 74) (args := [.v (.int .i64 c.epoch)]) (V := S (intB c.epoch)) ?_ ?_; exact fun ρ w h => rint_any _ w)
      | (refine seg_mem (f := 74) (args := [.v (.int .i64 c.epoch)]) (V := S (intB c.epoch)) ?_ ?_; exact fun ρ w h => rint_any _ w)
      | (refine call_mem (f := 74) (args := [.v (.int .i64 c.mem.length)]) (V := S (intB c.mem.length)) ?_ ?_; exact fun ρ w h => rint_any _ w)
      | (refine quiet_mem (f := 74) (args := [.v (.int .i64 c.mem.length)]) (V := S (intB c.mem.length)) ?_ ?_; exact fun ρ w h => rint_any _ w)
      | (refine seg_mem (f := 74) (args := [.v (.int .i64 c.mem.length)]) (V := S (intB c.mem.length)) ?_ ?_; exact fun ρ w h => rint_any _ w)
      | refine Need.go (by first | omega | decide | (simp <;> omega) | fail) ?_
      | refine Need.go (by first | (simp [Value.oneCell'] <;> omega) | fail) ?_
      | refine Need.go ⟨rfl, by omega, getD_one rfl rfl⟩ ?_
      | refine Need.go ⟨rfl, by omega, fun _ _ _ _ => rfl⟩ ?_
      | refine Br.both (fun h => ?_) (fun h => ?_))
  all_goals (conv => whnf)
  · have ok := errC_false ‹_›
    refine ret_pure (fun _ => ?_)
    simp only [putM, ok, if_false, Bool.false_eq_true]
    rfl
  have ok := errC_true ‹_›
  refine loop_up 17 (fun k : Nat => k ≤ c.mem.length) (fun k => c.mem.length - k) (fun k => [(4, .v (S (headB c ++ bodyB c.mem k))), (5, .v (.int .i64 k))]) (fun _ => []) (fun _ => []) 0 (Nat.zero_le _) (by
    (conv => whnf)
    refine ⟨[some 0, some 1], by decide, ?_, ?_⟩
    all_goals repeat' (first | exact leV_S (a := headB c) (b := headB c ++ []) (List.append_nil _) | exact trivial | exact .inl ⟨rfl, rfl⟩ | rfl | exact .inr ⟨_, rfl, rfl, rfl⟩ | exact ⟨_, rfl, trivial⟩ | exact ⟨_, rfl, rfl⟩ | exact ⟨_, rfl, ⟨rfl, rfl, rfl⟩, fun _ _ _ _ => rfl⟩ | refine ⟨_, rfl, rfl, ?_⟩ | refine ⟨_, rfl, ⟨rfl, rfl, rfl⟩, ?_⟩ | refine And.intro ?_ ?_)) (fun k hk => ?_)
  have i3 := headB_len c
  have i4 := bodyB_len c.mem k
  have i5 := intB_len (c.mem.getD k (0, 0)).1
  have i6 := intB_len (c.mem.getD k (0, 0)).2
  have i7 := intB_len c.drain
  repeat' ((conv => whnf); first
      | refine Need.go rfl ?_
      | refine QuiD.quiet (by kernel_rfl) ?_
      | refine draw_go tabOK (by kernel_rfl) ?_
      | refine Need.go ⟨rfl, rfl⟩ ?_
      | with_reducible refine Br.dec (fun h => ?_) (fun h => ?_)
      | with_reducible refine Br.eqI (fun h => ?_) (fun h => ?_)
      | with_reducible refine Br.neI (fun h => ?_) (fun h => ?_)
      | with_reducible refine Br.eqS (fun h => ?_) (fun h => ?_)
      | with_reducible refine Br.neS (fun h => ?_) (fun h => ?_)
      | with_reducible refine Br.nd (fun h => ?_) (fun h => ?_)
      | refine Ar.i64 (by omega) (by omega) ?_
      | (refine call_mem (f := 74) (args := [.v (.int .i64 c.drain)]) (V := S (intB c.drain)) ?_ ?_; exact fun ρ w h => rint_any _ w)
      | (refine quiet_mem (f := 74) (args := [.v (.int .i64 c.drain)]) (V := S (intB c.drain)) ?_ ?_; exact fun ρ w h => rint_any _ w)
      | (refine seg_mem (f := 74) (args := [.v (.int .i64 c.drain)]) (V := S (intB c.drain)) ?_ ?_; exact fun ρ w h => rint_any _ w)
      | (refine call_mem (f := 74) (args := [.v (.int .i64 (c.mem.getD k (0, 0)).1)]) (V := S (intB (c.mem.getD k (0, 0)).1)) ?_ ?_; exact fun ρ w h => rint_any _ w)
      | (refine quiet_mem (f := 74) (args := [.v (.int .i64 (c.mem.getD k (0, 0)).1)]) (V := S (intB (c.mem.getD k (0, 0)).1)) ?_ ?_; exact fun ρ w h => rint_any _ w)
      | (refine seg_mem (f := 74) (args := [.v (.int .i64 (c.mem.getD k (0, 0)).1)]) (V := S (intB (c.mem.getD k (0, 0)).1)) ?_ ?_; exact fun ρ w h => rint_any _ w)
      | (refine call_mem (f := 74) (args := [.v (.int .i64 (c.mem.getD k (0, 0)).2)]) (V := S (intB (c.mem.getD k (0, 0)).2)) ?_ ?_; exact fun ρ w h => rint_any _ w)
      | (refine quiet_mem (f := 74) (args := [.v (.int .i64 (c.mem.getD k (0, 0)).2)]) (V := S (intB (c.mem.getD k (0, 0)).2)) ?_ ?_; exact fun ρ w h => rint_any _ w)
      | (refine seg_mem (f := 74) (args := [.v (.int .i64 (c.mem.getD k (0, 0)).2)]) (V := S (intB (c.mem.getD k (0, 0)).2)) ?_ ?_; exact fun ρ w h => rint_any _ w)
      | (refine Need.go (by simp only [List.length_append]; omega) ?_)
      | refine Need.go (by first | omega | decide | (simp <;> omega) | fail) ?_
      | refine Need.go (by first | (simp [Value.oneCell'] <;> omega) | fail) ?_
      | refine Need.go ⟨rfl, by omega, getD_one rfl rfl⟩ ?_
      | refine Need.go ⟨rfl, by omega, fun _ _ _ _ => rfl⟩ ?_
      | refine Br.both (fun h => ?_) (fun h => ?_))
  all_goals (conv => whnf)
  · refine ⟨k + 1, by omega, by omega, ?_⟩
    (conv => whnf)
    refine ⟨[some 0, some 1], by decide, ?_, ?_⟩
    all_goals repeat' (first | exact leV_S (a := headB c ++ bodyB c.mem k ++ intB (c.mem.getD k (0, 0)).1 ++ intB (c.mem.getD k (0, 0)).2) (b := headB c ++ (bodyB c.mem k ++ (intB (c.mem.getD k (0, 0)).1 ++ intB (c.mem.getD k (0, 0)).2))) (by simp only [List.append_assoc]) | exact trivial | exact .inl ⟨rfl, rfl⟩ | rfl | exact .inr ⟨_, rfl, rfl, rfl⟩ | exact ⟨_, rfl, trivial⟩ | exact ⟨_, rfl, rfl⟩ | exact ⟨_, rfl, ⟨rfl, rfl, rfl⟩, fun _ _ _ _ => rfl⟩ | refine ⟨_, rfl, rfl, ?_⟩ | refine ⟨_, rfl, ⟨rfl, rfl, rfl⟩, ?_⟩ | refine And.intro ?_ ?_)
  · refine ret_pure (fun _ => ?_)
    obtain rfl : k = c.mem.length := by omega
    simp only [putM, ok, if_true]
    rfl
end Go.Proofs.Ytcogbepdjegheaa
