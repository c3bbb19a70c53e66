/-
  The setups: Check of the document's. No condition.
-/
import Derived.Test.YtcogbepdjegheaaSetups2
namespace Go.Proofs.Ytcogbepdjegheaa

def winB (n lo hi : Int) : Bool := decide (lo ≤ n) && decide (n ≤ hi)
def preB (c : CfgM) : Bool := winB c.nodes 1 6 && (winB c.chain 1 c.nodes && (winB c.clients 1 6 && winB c.quanta.length 1 4))
def sufB (c : CfgM) : Bool := winB c.queue 1 16 && (winB c.window 1 16 && (winB c.reads 1 16 && (winB c.link 4 64 && (winB c.patience 4 64 && (winB c.timeout 4 64 && (winB c.budget 0 16 && winB c.refill 1 1099511627776))))))
def okM (c : CfgM) : Bool := preB c && ((c.quanta.all fun n => winB n 96 65536) && sufB c)
def pkB (c : CfgM) (k : Nat) : Bool := preB c && (c.quanta.take k).all fun n => winB n 96 65536
theorem pkB_zero (c : CfgM) : pkB c 0 = preB c := by simp [pkB]
theorem pkB_step (c : CfgM) (k : Nat) (hk : k < c.quanta.length) : pkB c (k + 1) = (pkB c k && winB (c.quanta.getD k 0) 96 65536) := by
  rw [pkB, pkB, List.take_add_one, List.all_append, Bool.and_assoc]
  simp [hk, List.getD]
theorem okM_at (c : CfgM) (k : Nat) (hk : k = c.quanta.length) : okM c = (pkB c k && sufB c) := by
  subst hk
  rw [pkB, List.take_length, okM, Bool.and_assoc]
theorem within_win (n lo hi : Int) (w : World) : Calls Try.prog 55 #[.int .i64 n, .int .i64 lo, .int .i64 hi] w fun e w' => e = .returned (.bool (winB n lo hi)) ∧ w.grownBy w' none := within_any n lo hi w
set_option maxRecDepth 100000 in
set_option maxHeartbeats 4000000 in
theorem rcheck_any (c : CfgM) (p : Value) (w : World) (hp : SliceV w p 1 c.quanta.length (intsF c.quanta)) (hl : c.quanta.length ≤ 1000000) :
    Calls Try.prog 18 #[cfgV c p] w fun e w' => e = .returned (.int .i64 (if okM c then 0 else 2)) ∧ w.grownBy w' none := by
  obtain ⟨a, cap, rfl, h1, h2, hr⟩ := hp
  refine x_calls tabOK Try.func18 rfl [cfgS c (.rs 0 c.quanta.length cap)] _ _ rfl rfl (relR1 hr) ?_
  repeat' ((conv => whnf); first
      | refine Need.go rfl ?_
      | refine QuiD.quiet (by kernel_rfl) ?_
      | refine draw_go tabOK (by kernel_rfl) ?_
      | refine Need.go ⟨rfl, rfl⟩ ?_
      | refine Need.go ⟨⟨rfl, rfl, rfl⟩, rfl⟩ ?_
      | with_reducible refine Br.dec (fun h => ?_) (fun h => ?_)
      | with_reducible refine Br.eqI (fun h => ?_) (fun h => ?_)
      | with_reducible refine Br.neI (fun h => ?_) (fun h => ?_)
      | with_reducible refine Br.eqS (fun h => ?_) (fun h => ?_)
      | with_reducible refine Br.neS (fun h => ?_) (fun h => ?_)
      | with_reducible refine Br.nd (fun h => ?_) (fun h => ?_)
      | refine Ar.i64 (by omega) (by omega) ?_
      | refine call_pure (fun _ => rfl) (within_win _ _ _) ?_
      | refine quiet_pure (fun _ => rfl) (within_win _ _ _) ?_
      | refine Need.go (by first | omega | decide | (simp <;> omega) | fail) ?_
      | refine Need.go (by first | (simp [Value.oneCell'] <;> omega) | fail) ?_
      | refine Need.go ⟨rfl, by omega, getD_one rfl rfl⟩ ?_
      | refine Need.go ⟨rfl, by omega, fun _ _ _ _ => rfl⟩ ?_
      | refine Br.both (fun h => ?_) (fun h => ?_))
  all_goals (conv => whnf)
  all_goals refine loop_up 5 (fun k : Nat => k ≤ c.quanta.length) (fun k => c.quanta.length - k) (fun k => [(3, .v (.bool (pkB c k))), (4, .v (.int .i64 k))]) (fun _ => []) (fun _ => []) 0 (Nat.zero_le _) (by
    (conv => whnf)
    refine ⟨[some 0, some 1], by decide, ?_, ?_⟩
    all_goals repeat' (first | (show (_ : Bool) = _; simp_all [preB, pkB_zero]) | exact trivial | exact .inl ⟨rfl, rfl⟩ | rfl | exact .inr ⟨_, rfl, rfl, rfl⟩ | exact ⟨_, rfl, trivial⟩ | exact ⟨_, rfl, rfl⟩ | exact ⟨_, rfl, ⟨rfl, rfl, rfl⟩, fun _ _ _ _ => rfl⟩ | exact ⟨_, rfl, ⟨rfl, rfl, .inl rfl⟩, rfl⟩ | exact ⟨_, rfl, ⟨rfl, rfl, .inr rfl⟩, rfl⟩ | exact ⟨_, rfl, ⟨rfl, rfl, rfl, rfl, rfl⟩, rfl⟩ | refine ⟨_, rfl, rfl, ?_⟩ | refine ⟨_, rfl, ⟨rfl, rfl, rfl⟩, ?_⟩ | refine And.intro ?_ ?_)) (fun k hk => ?_)
  all_goals repeat' ((conv => whnf); first
      | refine Need.go rfl ?_
      | refine QuiD.quiet (by kernel_rfl) ?_
      | refine draw_go tabOK (by kernel_rfl) ?_
      | refine Need.go ⟨rfl, rfl⟩ ?_
      | refine Need.go ⟨⟨rfl, rfl, rfl⟩, rfl⟩ ?_
      | with_reducible refine Br.dec (fun h => ?_) (fun h => ?_)
      | with_reducible refine Br.eqI (fun h => ?_) (fun h => ?_)
      | with_reducible refine Br.neI (fun h => ?_) (fun h => ?_)
      | with_reducible refine Br.eqS (fun h => ?_) (fun h => ?_)
      | with_reducible refine Br.neS (fun h => ?_) (fun h => ?_)
      | with_reducible refine Br.nd (fun h => ?_) (fun h => ?_)
      | refine Ar.i64 (by omega) (by omega) ?_
      | refine call_pure (fun _ => rfl) (within_win _ _ _) ?_
      | refine quiet_pure (fun _ => rfl) (within_win _ _ _) ?_
      | refine Need.go (by first | omega | decide | (simp <;> omega) | fail) ?_
      | refine Need.go (by first | (simp [Value.oneCell'] <;> omega) | fail) ?_
      | refine Need.go ⟨rfl, by omega, getD_one rfl rfl⟩ ?_
      | refine Need.go ⟨rfl, by omega, fun _ _ _ _ => rfl⟩ ?_
      | refine Br.both (fun h => ?_) (fun h => ?_))
  all_goals (conv => whnf)
  all_goals first
    | (refine ret_pure (fun _ => ?_)
       have e := okM_at c k (by omega)
       simp_all [sufB, SV.den])
    | (refine ⟨k + 1, by omega, by omega, ?_⟩
       (conv => whnf)
       refine ⟨[some 0, some 1], by decide, ?_, ?_⟩
       all_goals repeat' (first | (have e := pkB_step c k (by omega); show (_ : Bool) = _; simp_all) | exact trivial | exact .inl ⟨rfl, rfl⟩ | rfl | exact .inr ⟨_, rfl, rfl, rfl⟩ | exact ⟨_, rfl, trivial⟩ | exact ⟨_, rfl, rfl⟩ | exact ⟨_, rfl, ⟨rfl, rfl, rfl⟩, fun _ _ _ _ => rfl⟩ | exact ⟨_, rfl, ⟨rfl, rfl, .inl rfl⟩, rfl⟩ | exact ⟨_, rfl, ⟨rfl, rfl, .inr rfl⟩, rfl⟩ | exact ⟨_, rfl, ⟨rfl, rfl, rfl, rfl, rfl⟩, rfl⟩ | refine ⟨_, rfl, rfl, ?_⟩ | refine ⟨_, rfl, ⟨rfl, rfl, rfl⟩, ?_⟩ | refine And.intro ?_ ?_))
end Go.Proofs.Ytcogbepdjegheaa
