/-
  The document's shots: Check, Find, cells, Look, Same. The document's shots: cells, Look, Same. No condition.
-/
import Derived.Test.YtfkbodonidkpoaaSh6
import Derived.Test.YtfkbodonidkpoaaRef2
import Derived.Test.YtfkbodonidkpoaaP6
namespace Go.Proofs.Ytfkbodonidkpoaa
open Go.RowKit
section
variable {w0 : World} {U : Nat → Prop}
theorem rwithin_any (n a b : Int) (w : World) : Calls Try.prog 105 #[.int .i64 n, .int .i64 a, .int .i64 b] w fun e w' => e = .returned (.bool (decide (a ≤ n ∧ n ≤ b))) ∧ w.grownBy w' none := by
  refine x_calls tabOK Try.func105 rfl [.v (.int .i64 n), .v (.int .i64 a), .v (.int .i64 b)] [] noLoc rfl rfl (rel0 w) ?_
  by_cases h1 : a ≤ n
  · repeat' ((conv => whnf); first | refine Need.go rfl ?_ | (with_reducible refine Br.dec (fun h => ?_) (fun h => ?_); first | (rotate_left; exfalso; omega; clear h) | (exfalso; omega; clear h) | skip))
    all_goals (conv => whnf)
    refine ret_pure (fun _ => ?_)
    by_cases h2 : n ≤ b
    · simp [SV.den, h1, h2]
    · simp [SV.den, h1, h2]
  · repeat' ((conv => whnf); first | refine Need.go rfl ?_ | (with_reducible refine Br.dec (fun h => ?_) (fun h => ?_); first | (rotate_left; exfalso; omega; clear h) | (exfalso; omega; clear h) | skip))
    all_goals (conv => whnf)
    refine ret_pure (fun _ => ?_)
    simp [SV.den, h1]
theorem rwithin_q {H : List HE} {K : SV → Prop} (n a b : Int) (hK : K (.v (.bool (decide (a ≤ n ∧ n ≤ b))))) : CallQ Try.prog w0 U 105 [.v (.int .i64 n), .v (.int .i64 a), .v (.int .i64 b)] H K :=
  quiet_mem (fun ρ w h => rwithin_any n a b w) hK
theorem rwithin_n {H : List HE} {K : SV → List HE → Prop} (n a b : Int) (hK : K (.v (.bool (decide (a ≤ n ∧ n ≤ b)))) H) : CallN Try.prog w0 U 105 [.v (.int .i64 n), .v (.int .i64 a), .v (.int .i64 b)] H K :=
  call_mem (fun ρ w h => rwithin_any n a b w) hK
end
def okI (s : ShM) : Bool := decide (0 ≤ s.index ∧ s.index ≤ 4096)
def okC' (s : ShM) (k : Nat) : Bool := okI s && allTo (okCell s.index s.cells) k
def okL' (s : ShM) (k : Nat) : Bool := okC' s s.cells.length && allTo (okLast s.index s.lasts) k
theorem okC_no {s : ShM} {k : Nat} (h : okC' s k = false) : okC' s (k + 1) = false := by unfold okC' at h ⊢; rw [allTo_succ, ← Bool.and_assoc, h]; rfl
theorem okL_no {s : ShM} {k : Nat} (h : okL' s k = false) : okL' s (k + 1) = false := by unfold okL' at h ⊢; rw [allTo_succ, ← Bool.and_assoc, h]; rfl
theorem okC_yes {s : ShM} {k : Nat} (h : okC' s k = true) : okC' s (k + 1) = okCell s.index s.cells k := by unfold okC' at h ⊢; rw [allTo_succ, ← Bool.and_assoc, h, Bool.true_and]
theorem okL_yes {s : ShM} {k : Nat} (h : okL' s k = true) : okL' s (k + 1) = okLast s.index s.lasts k := by unfold okL' at h ⊢; rw [allTo_succ, ← Bool.and_assoc, h, Bool.true_and]
theorem chk_okL (s : ShM) : chkS s = okL' s s.lasts.length := by
  unfold chkS okL' okC' okI
  rw [Bool.eq_iff_iff]
  simp only [Bool.and_eq_true, decide_eq_true_eq]
  exact ⟨fun ⟨⟨a, b⟩, c, d⟩ => ⟨⟨⟨a, b⟩, c⟩, d⟩, fun ⟨⟨⟨a, b⟩, c⟩, d⟩ => ⟨⟨a, b⟩, c, d⟩⟩
theorem okCell_is {n : Int} {l : List KC} {j : Nat} (h : CellI n (l.getD (j + 1) celZ)) : okCell n l (j + 1) = Op.bytesLess (l.getD j celZ).1 (l.getD (j + 1) celZ).1 := by
  rw [Bool.eq_iff_iff, okCell_iff, Nat.add_sub_cancel]
  exact ⟨fun h' => h'.1.elim (fun e => absurd e (Nat.succ_ne_zero j)) id, fun h' => ⟨.inr h', h⟩⟩
theorem okLast_is {n : Int} {l : List LaM} {j : Nat} (h : LastI n (l.getD (j + 1) laZ)) : okLast n l (j + 1) = decide ((l.getD j laZ).client < (l.getD (j + 1) laZ).client) := by
  rw [Bool.eq_iff_iff, okLast_iff, Nat.add_sub_cancel, decide_eq_true_iff]
  exact ⟨fun h' => h'.1.elim (fun e => absurd e (Nat.succ_ne_zero j)) id, fun h' => ⟨.inr h', h⟩⟩
set_option maxRecDepth 100000 in
set_option maxHeartbeats 8000000 in
theorem rshCheck_any (s : ShM) (p q : Value) (w : World) (hp : CelSl w p s) (hq : LasSl w q s) (hs : SmallS s) :
    Calls Try.prog 52 #[shV s p q] w fun e w' => e = .returned (.int .i64 (erI (chkS s))) ∧ w.grownBy w' none := by
  obtain ⟨a, cap, rfl, h1, h2, hr⟩ := hp
  obtain ⟨a2, cap2, rfl, h3, h4, hr2⟩ := hq
  have hc := hs.c
  have hl := hs.l
  refine x_calls tabOK Try.func52 rfl [shS s (.rs 0 s.cells.length cap) (.rs 1 s.lasts.length cap2)] _ _ rfl rfl (relR2 hr hr2) ?_
  repeat' ((conv => whnf); first | refine CutN.plain ?_ | refine Need.go rfl ?_ | refine rwithin_n _ _ _ ?_)
  all_goals (conv => whnf)
  refine loop_up 11 (fun k : Nat => k ≤ s.cells.length) (fun k => s.cells.length - k) (fun k => [(3, .v (.bool (okC' s k))), (4, .v (.int .i64 k)), (5, .junk)]) (fun _ => []) (fun _ => []) 0 (Nat.zero_le _) (by
    (conv => whnf)
    refine ⟨[some 0, some 1, some 2], by decide, ?_, ?_⟩
    all_goals repeat' (first | exact (show decide (0 ≤ s.index ∧ s.index ≤ 4096) = okC' s 0 by unfold okC' okI; rw [allTo_zero, Bool.and_true]) | exact leT_junk rfl | refine And.intro ?_ ?_ | exact trivial | exact .inl ⟨rfl, rfl⟩ | rfl | exact .inr ⟨_, rfl, rfl, rfl⟩ | exact ⟨_, rfl, trivial⟩ | exact ⟨_, rfl, rfl⟩ | exact ⟨_, rfl, ⟨rfl, rfl, rfl⟩, fun _ _ _ _ => rfl⟩ | exact ⟨_, rfl, ⟨rfl, rfl, .inl rfl⟩, rfl⟩ | exact ⟨_, rfl, ⟨rfl, rfl, .inr rfl⟩, rfl⟩ | exact ⟨_, rfl, ⟨rfl, rfl, rfl, rfl, rfl⟩, rfl⟩ | exact ⟨_, rfl, ⟨rfl, rfl⟩, fun _ => Iff.rfl⟩ | refine ⟨_, rfl, rfl, ?_⟩)) (fun k hk => ?_)
  by_cases hlt : k < s.cells.length
  · rcases hb : okC' s k with _ | _
    · repeat' ((conv => whnf); first | refine CutN.plain ?_ | with_reducible refine Br.ff ?_ | refine Need.go rfl ?_ | refine QuiD.quiet (by kernel_rfl) ?_ | (with_reducible refine Br.dec (fun h => ?_) (fun h => ?_); first | (rotate_left; exfalso; omega; clear h) | (exfalso; omega; clear h) | skip) | refine Ar.i64 (by omega) (by omega) ?_ | refine Need.go (by first | omega | decide | (simp <;> omega) | fail) ?_)
      all_goals (conv => whnf)
      refine ⟨k + 1, by omega, by omega, ?_⟩
      rw [okC_no hb]
      (conv => whnf)
      refine ⟨[some 0, some 1, some 2], by decide, ?_, ?_⟩
      all_goals repeat' (first | exact leT_junk rfl | refine And.intro ?_ ?_ | exact trivial | exact .inl ⟨rfl, rfl⟩ | rfl | exact .inr ⟨_, rfl, rfl, rfl⟩ | exact ⟨_, rfl, trivial⟩ | exact ⟨_, rfl, rfl⟩ | exact ⟨_, rfl, ⟨rfl, rfl, rfl⟩, fun _ _ _ _ => rfl⟩ | exact ⟨_, rfl, ⟨rfl, rfl, .inl rfl⟩, rfl⟩ | exact ⟨_, rfl, ⟨rfl, rfl, .inr rfl⟩, rfl⟩ | exact ⟨_, rfl, ⟨rfl, rfl, rfl, rfl, rfl⟩, rfl⟩ | exact ⟨_, rfl, ⟨rfl, rfl⟩, fun _ => Iff.rfl⟩ | refine ⟨_, rfl, rfl, ?_⟩)
    have hy := okC_yes hb
    rcases k with _ | j
    · repeat' ((conv => whnf); first | refine CutN.plain ?_ | with_reducible refine Br.tt ?_ | refine Br.yes (by decide) ?_ | refine Need.go rfl ?_ | refine QuiD.quiet (by kernel_rfl) ?_ | (with_reducible refine Br.dec (fun h => ?_) (fun h => ?_); first | (rotate_left; exfalso; omega; clear h) | (exfalso; omega; clear h) | skip) | refine Ar.i64 (by omega) (by omega) ?_ | refine rwithin_q _ _ _ ?_ | refine Need.go (by first | omega | decide | (simp <;> omega) | fail) ?_)
      all_goals (conv => whnf)
      all_goals (try simp only [natPred, Int.toNat_natCast] at *)
      all_goals first
        | (refine ⟨0 + 1, by omega, by omega, ?_⟩
           rw [hy, okCell_no fun hi => by have := hi.k1; have := hi.k16; have := hi.v64; have := hi.n1; have := hi.nn; omega]
           (conv => whnf)
           refine ⟨[some 0, some 1, some 2], by decide, ?_, ?_⟩
           all_goals repeat' (first | exact leT_junk rfl | refine And.intro ?_ ?_ | exact trivial | exact .inl ⟨rfl, rfl⟩ | rfl | exact .inr ⟨_, rfl, rfl, rfl⟩ | exact ⟨_, rfl, trivial⟩ | exact ⟨_, rfl, rfl⟩ | exact ⟨_, rfl, ⟨rfl, rfl, rfl⟩, fun _ _ _ _ => rfl⟩ | exact ⟨_, rfl, ⟨rfl, rfl, .inl rfl⟩, rfl⟩ | exact ⟨_, rfl, ⟨rfl, rfl, .inr rfl⟩, rfl⟩ | exact ⟨_, rfl, ⟨rfl, rfl, rfl, rfl, rfl⟩, rfl⟩ | exact ⟨_, rfl, ⟨rfl, rfl⟩, fun _ => Iff.rfl⟩ | refine ⟨_, rfl, rfl, ?_⟩)
           done)
        | (refine ⟨0 + 1, by omega, by omega, ?_⟩
           rw [hy, okCell_0 ⟨by omega, by omega, by omega, by omega, by omega⟩]
           (conv => whnf)
           refine ⟨[some 0, some 1, some 2], by decide, ?_, ?_⟩
           all_goals repeat' (first | exact leT_junk rfl | refine And.intro ?_ ?_ | exact trivial | exact .inl ⟨rfl, rfl⟩ | rfl | exact .inr ⟨_, rfl, rfl, rfl⟩ | exact ⟨_, rfl, trivial⟩ | exact ⟨_, rfl, rfl⟩ | exact ⟨_, rfl, ⟨rfl, rfl, rfl⟩, fun _ _ _ _ => rfl⟩ | exact ⟨_, rfl, ⟨rfl, rfl, .inl rfl⟩, rfl⟩ | exact ⟨_, rfl, ⟨rfl, rfl, .inr rfl⟩, rfl⟩ | exact ⟨_, rfl, ⟨rfl, rfl, rfl, rfl, rfl⟩, rfl⟩ | exact ⟨_, rfl, ⟨rfl, rfl⟩, fun _ => Iff.rfl⟩ | refine ⟨_, rfl, rfl, ?_⟩)
           done)
        | fail
    · repeat' ((conv => whnf); first | refine CutN.plain ?_ | with_reducible refine Br.tt ?_ | refine Need.go rfl ?_ | refine QuiD.quiet (by kernel_rfl) ?_ | (with_reducible refine Br.dec (fun h => ?_) (fun h => ?_); first | (rotate_left; exfalso; omega; clear h) | (exfalso; omega; clear h) | skip) | (with_reducible refine Br.eqI (fun h => ?_) (fun h => ?_); first | (rotate_left; exfalso; omega; clear h) | (exfalso; omega; clear h) | skip) | refine Ar.i64 (by omega) (by omega) ?_ | refine rwithin_q _ _ _ ?_ | refine Need.go (by first | omega | decide | (simp <;> omega) | fail) ?_)
      all_goals (conv => whnf)
      all_goals (try simp only [natPred, Int.toNat_natCast] at *)
      all_goals first
        | (refine ⟨j + 1 + 1, by omega, by omega, ?_⟩
           rw [hy, okCell_no fun hi => by have := hi.k1; have := hi.k16; have := hi.v64; have := hi.n1; have := hi.nn; omega]
           (conv => whnf)
           refine ⟨[some 0, some 1, some 2], by decide, ?_, ?_⟩
           all_goals repeat' (first | exact leT_junk rfl | refine And.intro ?_ ?_ | exact trivial | exact .inl ⟨rfl, rfl⟩ | rfl | exact .inr ⟨_, rfl, rfl, rfl⟩ | exact ⟨_, rfl, trivial⟩ | exact ⟨_, rfl, rfl⟩ | exact ⟨_, rfl, ⟨rfl, rfl, rfl⟩, fun _ _ _ _ => rfl⟩ | exact ⟨_, rfl, ⟨rfl, rfl, .inl rfl⟩, rfl⟩ | exact ⟨_, rfl, ⟨rfl, rfl, .inr rfl⟩, rfl⟩ | exact ⟨_, rfl, ⟨rfl, rfl, rfl, rfl, rfl⟩, rfl⟩ | exact ⟨_, rfl, ⟨rfl, rfl⟩, fun _ => Iff.rfl⟩ | refine ⟨_, rfl, rfl, ?_⟩)
           done)
        | (refine ⟨j + 1 + 1, by omega, by omega, ?_⟩
           rw [hy, okCell_is ⟨by omega, by omega, by omega, by omega, by omega⟩]
           (conv => whnf)
           refine ⟨[some 0, some 1, some 2], by decide, ?_, ?_⟩
           all_goals repeat' (first | exact (show Op.bytesLess _ _ = Op.bytesLess _ _ by rw [natPred]) | exact leT_junk rfl | refine And.intro ?_ ?_ | exact trivial | exact .inl ⟨rfl, rfl⟩ | rfl | exact .inr ⟨_, rfl, rfl, rfl⟩ | exact ⟨_, rfl, trivial⟩ | exact ⟨_, rfl, rfl⟩ | exact ⟨_, rfl, ⟨rfl, rfl, rfl⟩, fun _ _ _ _ => rfl⟩ | exact ⟨_, rfl, ⟨rfl, rfl, .inl rfl⟩, rfl⟩ | exact ⟨_, rfl, ⟨rfl, rfl, .inr rfl⟩, rfl⟩ | exact ⟨_, rfl, ⟨rfl, rfl, rfl, rfl, rfl⟩, rfl⟩ | exact ⟨_, rfl, ⟨rfl, rfl⟩, fun _ => Iff.rfl⟩ | refine ⟨_, rfl, rfl, ?_⟩)
           done)
        | fail
  obtain rfl : k = s.cells.length := by omega
  repeat' ((conv => whnf); first | refine CutN.plain ?_ | refine Need.go rfl ?_ | (with_reducible refine Br.dec (fun h => ?_) (fun h => ?_); first | (rotate_left; exfalso; omega; clear h) | (exfalso; omega; clear h) | skip))
  all_goals (conv => whnf)
  refine loop_up 59 (fun k : Nat => k ≤ s.lasts.length) (fun k => s.lasts.length - k) (fun k => [(3, .v (.bool (okL' s k))), (6, .v (.int .i64 k)), (7, .junk)]) (fun _ => []) (fun _ => []) 0 (Nat.zero_le _) (by
    (conv => whnf)
    refine ⟨[some 0, some 1, some 2], by decide, ?_, ?_⟩
    all_goals repeat' (first | exact (show okC' s s.cells.length = okL' s 0 by unfold okL'; rw [allTo_zero, Bool.and_true]) | exact leT_junk rfl | refine And.intro ?_ ?_ | exact trivial | exact .inl ⟨rfl, rfl⟩ | rfl | exact .inr ⟨_, rfl, rfl, rfl⟩ | exact ⟨_, rfl, trivial⟩ | exact ⟨_, rfl, rfl⟩ | exact ⟨_, rfl, ⟨rfl, rfl, rfl⟩, fun _ _ _ _ => rfl⟩ | exact ⟨_, rfl, ⟨rfl, rfl, .inl rfl⟩, rfl⟩ | exact ⟨_, rfl, ⟨rfl, rfl, .inr rfl⟩, rfl⟩ | exact ⟨_, rfl, ⟨rfl, rfl, rfl, rfl, rfl⟩, rfl⟩ | exact ⟨_, rfl, ⟨rfl, rfl⟩, fun _ => Iff.rfl⟩ | refine ⟨_, rfl, rfl, ?_⟩)) (fun k hk => ?_)
  by_cases hlt : k < s.lasts.length
  · rcases hb : okL' s k with _ | _
    · repeat' ((conv => whnf); first | refine CutN.plain ?_ | with_reducible refine Br.ff ?_ | refine Need.go rfl ?_ | refine QuiD.quiet (by kernel_rfl) ?_ | (with_reducible refine Br.dec (fun h => ?_) (fun h => ?_); first | (rotate_left; exfalso; omega; clear h) | (exfalso; omega; clear h) | skip) | refine Ar.i64 (by omega) (by omega) ?_ | refine Need.go (by first | omega | decide | (simp <;> omega) | fail) ?_)
      all_goals (conv => whnf)
      refine ⟨k + 1, by omega, by omega, ?_⟩
      rw [okL_no hb]
      (conv => whnf)
      refine ⟨[some 0, some 1, some 2], by decide, ?_, ?_⟩
      all_goals repeat' (first | exact leT_junk rfl | refine And.intro ?_ ?_ | exact trivial | exact .inl ⟨rfl, rfl⟩ | rfl | exact .inr ⟨_, rfl, rfl, rfl⟩ | exact ⟨_, rfl, trivial⟩ | exact ⟨_, rfl, rfl⟩ | exact ⟨_, rfl, ⟨rfl, rfl, rfl⟩, fun _ _ _ _ => rfl⟩ | exact ⟨_, rfl, ⟨rfl, rfl, .inl rfl⟩, rfl⟩ | exact ⟨_, rfl, ⟨rfl, rfl, .inr rfl⟩, rfl⟩ | exact ⟨_, rfl, ⟨rfl, rfl, rfl, rfl, rfl⟩, rfl⟩ | exact ⟨_, rfl, ⟨rfl, rfl⟩, fun _ => Iff.rfl⟩ | refine ⟨_, rfl, rfl, ?_⟩)
    have hy := okL_yes hb
    rcases k with _ | j
    · repeat' ((conv => whnf); first | refine CutN.plain ?_ | with_reducible refine Br.tt ?_ | refine Br.yes (by decide) ?_ | refine Need.go rfl ?_ | refine QuiD.quiet (by kernel_rfl) ?_ | (with_reducible refine Br.dec (fun h => ?_) (fun h => ?_); first | (rotate_left; exfalso; omega; clear h) | (exfalso; omega; clear h) | skip) | refine Ar.i64 (by omega) (by omega) ?_ | refine rwithin_q _ _ _ ?_ | refine Need.go (by first | omega | decide | (simp <;> omega) | fail) ?_)
      all_goals (conv => whnf)
      all_goals (try simp only [natPred, Int.toNat_natCast] at *)
      all_goals first
        | (refine ⟨0 + 1, by omega, by omega, ?_⟩
           rw [hy, okLast_no fun hi => by obtain ⟨_, _, _, _, _, _, _, _, _, _, _⟩ := hi; omega]
           (conv => whnf)
           refine ⟨[some 0, some 1, some 2], by decide, ?_, ?_⟩
           all_goals repeat' (first | exact leT_junk rfl | refine And.intro ?_ ?_ | exact trivial | exact .inl ⟨rfl, rfl⟩ | rfl | exact .inr ⟨_, rfl, rfl, rfl⟩ | exact ⟨_, rfl, trivial⟩ | exact ⟨_, rfl, rfl⟩ | exact ⟨_, rfl, ⟨rfl, rfl, rfl⟩, fun _ _ _ _ => rfl⟩ | exact ⟨_, rfl, ⟨rfl, rfl, .inl rfl⟩, rfl⟩ | exact ⟨_, rfl, ⟨rfl, rfl, .inr rfl⟩, rfl⟩ | exact ⟨_, rfl, ⟨rfl, rfl, rfl, rfl, rfl⟩, rfl⟩ | exact ⟨_, rfl, ⟨rfl, rfl⟩, fun _ => Iff.rfl⟩ | refine ⟨_, rfl, rfl, ?_⟩)
           done)
        | (refine ⟨0 + 1, by omega, by omega, ?_⟩
           rw [hy, okLast_0 ⟨by omega, by omega, by omega, by omega, by omega, by omega, by omega, by omega, by omega, by omega, by omega⟩]
           (conv => whnf)
           refine ⟨[some 0, some 1, some 2], by decide, ?_, ?_⟩
           all_goals repeat' (first | exact leT_junk rfl | refine And.intro ?_ ?_ | exact trivial | exact .inl ⟨rfl, rfl⟩ | rfl | exact .inr ⟨_, rfl, rfl, rfl⟩ | exact ⟨_, rfl, trivial⟩ | exact ⟨_, rfl, rfl⟩ | exact ⟨_, rfl, ⟨rfl, rfl, rfl⟩, fun _ _ _ _ => rfl⟩ | exact ⟨_, rfl, ⟨rfl, rfl, .inl rfl⟩, rfl⟩ | exact ⟨_, rfl, ⟨rfl, rfl, .inr rfl⟩, rfl⟩ | exact ⟨_, rfl, ⟨rfl, rfl, rfl, rfl, rfl⟩, rfl⟩ | exact ⟨_, rfl, ⟨rfl, rfl⟩, fun _ => Iff.rfl⟩ | refine ⟨_, rfl, rfl, ?_⟩)
           done)
        | fail
    · repeat' ((conv => whnf); first | refine CutN.plain ?_ | with_reducible refine Br.tt ?_ | refine Need.go rfl ?_ | refine QuiD.quiet (by kernel_rfl) ?_ | (with_reducible refine Br.dec (fun h => ?_) (fun h => ?_); first | (rotate_left; exfalso; omega; clear h) | (exfalso; omega; clear h) | skip) | (with_reducible refine Br.eqI (fun h => ?_) (fun h => ?_); first | (rotate_left; exfalso; omega; clear h) | (exfalso; omega; clear h) | skip) | refine Ar.i64 (by omega) (by omega) ?_ | refine rwithin_q _ _ _ ?_ | refine Need.go (by first | omega | decide | (simp <;> omega) | fail) ?_)
      all_goals (conv => whnf)
      all_goals (try simp only [natPred, Int.toNat_natCast] at *)
      all_goals first
        | (refine ⟨j + 1 + 1, by omega, by omega, ?_⟩
           rw [hy, okLast_no fun hi => by obtain ⟨_, _, _, _, _, _, _, _, _, _, _⟩ := hi; omega]
           (conv => whnf)
           refine ⟨[some 0, some 1, some 2], by decide, ?_, ?_⟩
           all_goals repeat' (first | exact leT_junk rfl | refine And.intro ?_ ?_ | exact trivial | exact .inl ⟨rfl, rfl⟩ | rfl | exact .inr ⟨_, rfl, rfl, rfl⟩ | exact ⟨_, rfl, trivial⟩ | exact ⟨_, rfl, rfl⟩ | exact ⟨_, rfl, ⟨rfl, rfl, rfl⟩, fun _ _ _ _ => rfl⟩ | exact ⟨_, rfl, ⟨rfl, rfl, .inl rfl⟩, rfl⟩ | exact ⟨_, rfl, ⟨rfl, rfl, .inr rfl⟩, rfl⟩ | exact ⟨_, rfl, ⟨rfl, rfl, rfl, rfl, rfl⟩, rfl⟩ | exact ⟨_, rfl, ⟨rfl, rfl⟩, fun _ => Iff.rfl⟩ | refine ⟨_, rfl, rfl, ?_⟩)
           done)
        | (refine ⟨j + 1 + 1, by omega, by omega, ?_⟩
           rw [hy, okLast_is ⟨by omega, by omega, by omega, by omega, by omega, by omega, by omega, by omega, by omega, by omega, by omega⟩]
           (conv => whnf)
           refine ⟨[some 0, some 1, some 2], by decide, ?_, ?_⟩
           all_goals repeat' (first | exact leT_junk rfl | refine And.intro ?_ ?_ | exact trivial | exact .inl ⟨rfl, rfl⟩ | rfl | exact .inr ⟨_, rfl, rfl, rfl⟩ | exact ⟨_, rfl, trivial⟩ | exact ⟨_, rfl, rfl⟩ | exact ⟨_, rfl, ⟨rfl, rfl, rfl⟩, fun _ _ _ _ => rfl⟩ | exact ⟨_, rfl, ⟨rfl, rfl, .inl rfl⟩, rfl⟩ | exact ⟨_, rfl, ⟨rfl, rfl, .inr rfl⟩, rfl⟩ | exact ⟨_, rfl, ⟨rfl, rfl, rfl, rfl, rfl⟩, rfl⟩ | exact ⟨_, rfl, ⟨rfl, rfl⟩, fun _ => Iff.rfl⟩ | refine ⟨_, rfl, rfl, ?_⟩)
           done)
        | fail
  obtain rfl : k = s.lasts.length := by omega
  rw [chk_okL]
  rcases hb : okL' s s.lasts.length with _ | _
  · repeat' ((conv => whnf); first | refine CutN.plain ?_ | with_reducible refine Br.nf ?_ | refine Need.go rfl ?_ | (with_reducible refine Br.dec (fun h => ?_) (fun h => ?_); first | (rotate_left; exfalso; omega; clear h) | (exfalso; omega; clear h) | skip))
    all_goals (conv => whnf)
    exact ret_pure (fun _ => rfl)
  · repeat' ((conv => whnf); first | refine CutN.plain ?_ | with_reducible refine Br.nt ?_ | refine Need.go rfl ?_ | (with_reducible refine Br.dec (fun h => ?_) (fun h => ?_); first | (rotate_left; exfalso; omega; clear h) | (exfalso; omega; clear h) | skip))
    all_goals (conv => whnf)
    exact ret_pure (fun _ => rfl)
set_option maxRecDepth 100000 in
set_option maxHeartbeats 4000000 in
theorem rshFind_any (s : ShM) (c : Int) (p q : Value) (w : World) (hp : CelSl w p s) (hq : LasSl w q s) (hs : SmallS s) :
    Calls Try.prog 56 #[shV s p q, .int .i64 c] w fun e w' => e = .returned (.tuple #[laV' ((findS s c).getD laZ), .bool (findS s c).isSome]) ∧ w.grownBy w' none := by
  obtain ⟨a, cap, rfl, h1, h2, hr⟩ := hp
  obtain ⟨a2, cap2, rfl, h3, h4, hr2⟩ := hq
  have hl := hs.l
  refine x_calls tabOK Try.func56 rfl [shS s (.rs 0 s.cells.length cap) (.rs 1 s.lasts.length cap2), .v (.int .i64 c)] _ _ rfl rfl (relR2 hr hr2) ?_
  repeat' ((conv => whnf); first | refine CutN.plain ?_ | refine Need.go rfl ?_)
  all_goals (conv => whnf)
  refine loop_up 7 (fun k : Nat => k ≤ s.lasts.length ∧ findS s c = if chkS s then findL (s.lasts.drop k) c else none) (fun k => s.lasts.length - k) (fun k => [(6, .v (.int .i64 k))]) (fun _ => []) (fun _ => []) 0 ⟨Nat.zero_le _, rfl⟩ (by
    (conv => whnf)
    refine ⟨[some 0, some 1, some 2, some 3], by decide, ?_, ?_⟩
    all_goals repeat' (first | exact leT_junk rfl | refine And.intro ?_ ?_ | exact trivial | exact .inl ⟨rfl, rfl⟩ | rfl | exact .inr ⟨_, rfl, rfl, rfl⟩ | exact ⟨_, rfl, trivial⟩ | exact ⟨_, rfl, rfl⟩ | exact ⟨_, rfl, ⟨rfl, rfl, rfl⟩, fun _ _ _ _ => rfl⟩ | exact ⟨_, rfl, ⟨rfl, rfl, .inl rfl⟩, rfl⟩ | exact ⟨_, rfl, ⟨rfl, rfl, .inr rfl⟩, rfl⟩ | exact ⟨_, rfl, ⟨rfl, rfl, rfl, rfl, rfl⟩, rfl⟩ | exact ⟨_, rfl, ⟨rfl, rfl⟩, fun _ => Iff.rfl⟩ | refine ⟨_, rfl, rfl, ?_⟩)) (fun k hk => ?_)
  obtain ⟨hk, hf⟩ := hk
  by_cases hlt : k < s.lasts.length
  · have hd : s.lasts.drop k = s.lasts.getD k laZ :: s.lasts.drop (k + 1) := by
      rw [List.drop_eq_getElem_cons hlt]
      simp [List.getD, List.getElem?_eq_getElem hlt]
    rw [hd, findL] at hf
    by_cases hcl : (s.lasts.getD k laZ).client = c
    · rw [if_pos hcl] at hf
      rcases hck : chkS s with _ | _
      · rw [hck] at hf
        simp only [Bool.false_eq_true, if_false] at hf
        repeat' ((conv => whnf); first | refine Br.eqI (a := (s.lasts.getD (Int.toNat (k : Int)) laZ).client) (fun h => ?_) (fun h => absurd hcl h) | refine CutN.plain ?_ | refine Br.no (by decide) ?_ | refine Need.go rfl ?_ | (with_reducible refine Br.dec (fun h => ?_) (fun h => ?_); first | (rotate_left; exfalso; omega; clear h) | (exfalso; omega; clear h) | skip) | refine Ar.i64 (by omega) (by omega) ?_ | (refine call_mem (f := 52) (args := [shS s (.rs 0 s.cells.length cap) (.rs 1 s.lasts.length cap2)]) (V := .int .i64 2) ?_ ?_; exact fun ρ w h => (by have := rshCheck_any s _ _ w (sl_rs h (i := 0) rfl (Nat.le_refl _) h1 h2) (sl_rs h (i := 1) rfl (Nat.le_refl _) h3 h4) hs; rw [hck] at this; exact this)) | refine Need.go (by first | omega | decide | (simp <;> omega) | fail) ?_)
        all_goals (conv => whnf)
        refine ⟨k + 1, ⟨by omega, by rw [hf]; simp⟩, by omega, ?_⟩
        (conv => whnf)
        refine ⟨[some 0, some 1, some 2, some 3], by decide, ?_, ?_⟩
        all_goals repeat' (first | exact leT_junk rfl | refine And.intro ?_ ?_ | exact trivial | exact .inl ⟨rfl, rfl⟩ | rfl | exact .inr ⟨_, rfl, rfl, rfl⟩ | exact ⟨_, rfl, trivial⟩ | exact ⟨_, rfl, rfl⟩ | exact ⟨_, rfl, ⟨rfl, rfl, rfl⟩, fun _ _ _ _ => rfl⟩ | exact ⟨_, rfl, ⟨rfl, rfl, .inl rfl⟩, rfl⟩ | exact ⟨_, rfl, ⟨rfl, rfl, .inr rfl⟩, rfl⟩ | exact ⟨_, rfl, ⟨rfl, rfl, rfl, rfl, rfl⟩, rfl⟩ | exact ⟨_, rfl, ⟨rfl, rfl⟩, fun _ => Iff.rfl⟩ | refine ⟨_, rfl, rfl, ?_⟩)
      · rw [hck, if_pos rfl] at hf
        repeat' ((conv => whnf); first | refine Br.eqI (a := (s.lasts.getD (Int.toNat (k : Int)) laZ).client) (fun h => ?_) (fun h => absurd hcl h) | refine CutN.plain ?_ | with_reducible refine Br.eeI ?_ | refine Need.go rfl ?_ | (with_reducible refine Br.dec (fun h => ?_) (fun h => ?_); first | (rotate_left; exfalso; omega; clear h) | (exfalso; omega; clear h) | skip) | (refine call_mem (f := 52) (args := [shS s (.rs 0 s.cells.length cap) (.rs 1 s.lasts.length cap2)]) (V := .int .i64 0) ?_ ?_; exact fun ρ w h => (by have := rshCheck_any s _ _ w (sl_rs h (i := 0) rfl (Nat.le_refl _) h1 h2) (sl_rs h (i := 1) rfl (Nat.le_refl _) h3 h4) hs; rw [hck] at this; exact this)) | refine Need.go (by first | omega | decide | (simp <;> omega) | fail) ?_)
        all_goals (conv => whnf)
        rw [hf]
        exact ret_pure (fun _ => rfl)
    · rw [if_neg hcl] at hf
      repeat' ((conv => whnf); first | refine Br.eqI (a := (s.lasts.getD (Int.toNat (k : Int)) laZ).client) (fun h => absurd h hcl) (fun h => ?_) | refine CutN.plain ?_ | refine Need.go rfl ?_ | (with_reducible refine Br.dec (fun h => ?_) (fun h => ?_); first | (rotate_left; exfalso; omega; clear h) | (exfalso; omega; clear h) | skip) | refine Ar.i64 (by omega) (by omega) ?_ | refine Need.go (by first | omega | decide | (simp <;> omega) | fail) ?_)
      all_goals (conv => whnf)
      refine ⟨k + 1, ⟨by omega, hf⟩, by omega, ?_⟩
      (conv => whnf)
      refine ⟨[some 0, some 1, some 2, some 3], by decide, ?_, ?_⟩
      all_goals repeat' (first | exact leT_junk rfl | refine And.intro ?_ ?_ | exact trivial | exact .inl ⟨rfl, rfl⟩ | rfl | exact .inr ⟨_, rfl, rfl, rfl⟩ | exact ⟨_, rfl, trivial⟩ | exact ⟨_, rfl, rfl⟩ | exact ⟨_, rfl, ⟨rfl, rfl, rfl⟩, fun _ _ _ _ => rfl⟩ | exact ⟨_, rfl, ⟨rfl, rfl, .inl rfl⟩, rfl⟩ | exact ⟨_, rfl, ⟨rfl, rfl, .inr rfl⟩, rfl⟩ | exact ⟨_, rfl, ⟨rfl, rfl, rfl, rfl, rfl⟩, rfl⟩ | exact ⟨_, rfl, ⟨rfl, rfl⟩, fun _ => Iff.rfl⟩ | refine ⟨_, rfl, rfl, ?_⟩)
  · rw [List.drop_eq_nil_of_le (by omega)] at hf
    have hf : findS s c = none := by rw [hf]; split <;> rfl
    rw [hf]
    repeat' ((conv => whnf); first | refine CutN.plain ?_ | refine Need.go rfl ?_ | (with_reducible refine Br.dec (fun h => ?_) (fun h => ?_); first | (rotate_left; exfalso; omega; clear h) | (exfalso; omega; clear h) | skip))
    all_goals (conv => whnf)
    exact ret_pure (fun _ => rfl)
end Go.Proofs.Ytfkbodonidkpoaa
namespace Go.Proofs.Ytfkbodonidkpoaa
open Go.RowKit
theorem celF_one' {f g : Nat → Nat → Value} {k : Nat} (h : ∀ c, c < 3 → g 0 c = f k c) : ∀ r c, r < k + 1 → c < 3 → rowsApp k f g r c = f r c := rowsApp_one (fun _ _ _ _ => rfl) h
set_option maxRecDepth 100000 in
set_option maxHeartbeats 4000000 in
theorem rcells_any (s : ShM) (p q : Value) (w : World) (hp : CelSl w p s) (hq : LasSl w q s) (hs : SmallS s) :
    Calls Try.prog 73 #[shV s p q] w fun e w' => ∃ v, e = .returned v ∧ w'.ownsRow w.heap.size 129 3 v s.cells.length (cellsF 3 (celF s.cells) s.cells.length) ∧ w.grownBy w' none := by
  obtain ⟨a, cap, rfl, h1, h2, hr⟩ := hp
  obtain ⟨a2, cap2, rfl, h3, h4, hr2⟩ := hq
  have hc := hs.c
  refine x_calls tabOK Try.func73 rfl [shS s (.rs 0 s.cells.length cap) (.rs 1 s.lasts.length cap2)] _ _ rfl rfl (relR2 hr hr2) ?_
  repeat' ((conv => whnf); first | refine CutN.plain ?_ | refine Need.go rfl ?_)
  all_goals (conv => whnf)
  refine loop_up 5 (fun k : Nat => k ≤ s.cells.length) (fun k => s.cells.length - k) (fun k => [(3, .os 3 k), (4, .v (.int .i64 k))]) (fun _ => []) (fun k => [.own 129 3 k (celF s.cells)]) 0 (Nat.zero_le _) (by
    (conv => whnf)
    refine ⟨[some 0, some 1, some 2, none], by decide, ?_, ?_⟩
    all_goals repeat' (first | exact leT_junk rfl | refine And.intro ?_ ?_ | exact trivial | exact .inl ⟨rfl, rfl⟩ | rfl | exact .inr ⟨_, rfl, rfl, rfl⟩ | exact ⟨_, rfl, trivial⟩ | exact ⟨_, rfl, rfl⟩ | exact ⟨_, rfl, ⟨rfl, rfl, rfl⟩, fun _ _ _ _ => rfl⟩ | exact ⟨_, rfl, ⟨rfl, rfl, .inl rfl⟩, rfl⟩ | exact ⟨_, rfl, ⟨rfl, rfl, .inr rfl⟩, rfl⟩ | exact ⟨_, rfl, ⟨rfl, rfl, rfl, rfl, rfl⟩, rfl⟩ | exact ⟨_, rfl, ⟨rfl, rfl⟩, fun _ => Iff.rfl⟩ | refine ⟨_, rfl, rfl, ?_⟩)) (fun k hk => ?_)
  by_cases hlt : k < s.cells.length
  · repeat' ((conv => whnf); first | refine CutN.plain ?_ | refine Need.go rfl ?_ | (with_reducible refine Br.dec (fun h => ?_) (fun h => ?_); first | (rotate_left; exfalso; omega; clear h) | (exfalso; omega; clear h) | skip) | refine Ar.i64 (by omega) (by omega) ?_ | refine Need.go (by first | omega | decide | (simp <;> omega) | fail) ?_ | refine Need.go ⟨rfl, by omega, getD_one rfl rfl⟩ ?_)
    all_goals (conv => whnf)
    refine ⟨k + 1, by omega, by omega, ?_⟩
    (conv => whnf)
    refine ⟨[some 0, some 1, some 2, some 5], by decide, ?_, ?_⟩
    all_goals repeat' (first | exact ⟨_, rfl, ⟨rfl, rfl, rfl⟩, celF_one' (fun c hc => by rcases c with _ | _ | _ | c <;> first | rfl | omega)⟩ | exact leT_junk rfl | refine And.intro ?_ ?_ | exact trivial | exact .inl ⟨rfl, rfl⟩ | rfl | exact .inr ⟨_, rfl, rfl, rfl⟩ | exact ⟨_, rfl, trivial⟩ | exact ⟨_, rfl, rfl⟩ | exact ⟨_, rfl, ⟨rfl, rfl, rfl⟩, fun _ _ _ _ => rfl⟩ | exact ⟨_, rfl, ⟨rfl, rfl, .inl rfl⟩, rfl⟩ | exact ⟨_, rfl, ⟨rfl, rfl, .inr rfl⟩, rfl⟩ | exact ⟨_, rfl, ⟨rfl, rfl, rfl, rfl, rfl⟩, rfl⟩ | exact ⟨_, rfl, ⟨rfl, rfl⟩, fun _ => Iff.rfl⟩ | refine ⟨_, rfl, rfl, ?_⟩)
  · obtain rfl : k = s.cells.length := by omega
    repeat' ((conv => whnf); first | refine CutN.plain ?_ | refine Need.go rfl ?_ | (with_reducible refine Br.dec (fun h => ?_) (fun h => ?_); first | (rotate_left; exfalso; omega; clear h) | (exfalso; omega; clear h) | skip))
    all_goals (conv => whnf)
    exact fun ρ' w' hr => ⟨(SV.os 3 _).den ρ', rfl, own_out (i := 3) hr rfl, fr_none hr.at.fr⟩
theorem rcells_n {w0 : World} {U : Nat → Prop} {H : List HE} {K : SV → List HE → Prop} (s : ShM) (p q : SV) (hp : ∀ ρ w, HRel w0 U ρ H w → CelSl w (p.den ρ) s) (hq : ∀ ρ w, HRel w0 U ρ H w → LasSl w (q.den ρ) s) (hs : SmallS s)
    (hK : lenK H fun N => appK H (.own 129 3 s.cells.length (celF s.cells)) fun H' => K (.os N s.cells.length) H') : CallN Try.prog w0 U 73 [shS s p q] H K :=
  call_ownL 129 3 s.cells.length (celF s.cells) (fun N => .os N s.cells.length) (fun v => v) (fun N ρ' v h => by subst h; rfl) (fun ρ w h => rcells_any s (p.den ρ) (q.den ρ) w (hp ρ w h) (hq ρ w h) hs) hK
theorem rcells_s {w0 : World} {U : Nat → Prop} {H : List HE} {nb N : Nat} {K : SV → Option HE → Prop} (s : ShM) (p q : SV) (hp : ∀ ρ w, HRel w0 U ρ H w → CelSl w (p.den ρ) s) (hq : ∀ ρ w, HRel w0 U ρ H w → LasSl w (q.den ρ) s) (hs : SmallS s)
    (hK : K (.os N s.cells.length) (some (.own 129 3 s.cells.length (celF s.cells)))) : CallS Try.prog w0 U nb 73 [shS s p q] H N K :=
  seg_own 129 3 s.cells.length (celF s.cells) (.os N s.cells.length) (fun v => v) (fun ρ' v h => by subst h; rfl) (fun ρ w h => rcells_any s (p.den ρ) (q.den ρ) w (hp ρ w h) (hq ρ w h) hs) hK
set_option maxRecDepth 100000 in
set_option maxHeartbeats 4000000 in
theorem rshLook_any (s : ShM) (key : List UInt8) (p q : Value) (w : World) (hp : CelSl w p s) (hq : LasSl w q s) (hs : SmallS s) :
    Calls Try.prog 54 #[shV s p q, S key] w fun e w' => e = .returned (resV (lookS s key)) ∧ w.grownBy w' none := by
  obtain ⟨a, cap, rfl, h1, h2, hr⟩ := hp
  obtain ⟨a2, cap2, rfl, h3, h4, hr2⟩ := hq
  have hc := hs.c
  refine x_calls tabOK Try.func54 rfl [shS s (.rs 0 s.cells.length cap) (.rs 1 s.lasts.length cap2), .v (S key)] _ _ rfl rfl (relR2 hr hr2) ?_
  rcases hck : chkS s with _ | _
  · repeat' ((conv => whnf); first | refine CutN.plain ?_ | refine Br.yes (by decide) ?_ | refine Need.go rfl ?_ | (refine call_mem (f := 52) (args := [shS s (.rs 0 s.cells.length cap) (.rs 1 s.lasts.length cap2)]) (V := .int .i64 2) ?_ ?_; exact fun ρ w h => (by have := rshCheck_any s _ _ w (sl_rs h (i := 0) rfl (Nat.le_refl _) h1 h2) (sl_rs h (i := 1) rfl (Nat.le_refl _) h3 h4) hs; rw [hck] at this; exact this)))
    all_goals (conv => whnf)
    refine ret_pure (fun _ => ?_)
    unfold lookS
    rw [hck]
    rfl
  · repeat' ((conv => whnf); first | refine CutN.plain ?_ | with_reducible refine Br.nnI ?_ | refine Need.go rfl ?_ | refine draw_go tabOK (by kernel_rfl) ?_ | (refine call_mem (f := 52) (args := [shS s (.rs 0 s.cells.length cap) (.rs 1 s.lasts.length cap2)]) (V := .int .i64 0) ?_ ?_; exact fun ρ w h => (by have := rshCheck_any s _ _ w (sl_rs h (i := 0) rfl (Nat.le_refl _) h1 h2) (sl_rs h (i := 1) rfl (Nat.le_refl _) h3 h4) hs; rw [hck] at this; exact this)) | (refine rcells_s s (.rs 0 s.cells.length cap) (.rs 1 s.lasts.length cap2) ?_ ?_ hs ?_; exact fun ρ w h => sl_rs h (i := 0) rfl (Nat.le_refl _) h1 h2; exact fun ρ w h => sl_rs h (i := 1) rfl (Nat.le_refl _) h3 h4) | (refine call_sp (f := 106) (refLook10 s.cells (by omega) key s.index) [4] (by decide) rfl ⟨rfl, trivial⟩ rfl ?_; rintro s H1 ⟨rfl, rfl⟩))
    all_goals (conv => whnf)
    refine ret_pure (fun _ => ?_)
    unfold lookS
    rw [hck, if_pos rfl]
    rfl
def sameShB (s t : ShM) : Bool := decide (s = t)
theorem list_ext_getD {α : Type} {d : α} {xs ys : List α} (hl : xs.length = ys.length) (h : ∀ j, j < xs.length → xs.getD j d = ys.getD j d) : xs = ys := by
  apply List.ext_getElem hl
  intro j h1 h2
  have := h j h1
  simpa [List.getD, h1, h2] using this
theorem KC_ext {a b : KC} (h1 : a.1 = b.1) (h2 : a.2.1 = b.2.1) (h3 : a.2.2 = b.2.2) : a = b := Prod.ext h1 (Prod.ext h2 h3)
theorem LaM_ext {a b : LaM} (h1 : a.client = b.client) (h2 : a.seq = b.seq) (h3 : a.res.code = b.res.code) (h4 : a.res.value = b.res.value) (h5 : a.res.version = b.res.version) (h6 : a.res.pos = b.res.pos) : a = b := by
  obtain ⟨_, _, _, _, _, _⟩ := a
  obtain ⟨_, _, _, _, _, _⟩ := b
  simp only at h1 h2 h3 h4 h5 h6
  subst h1 h2 h3 h4 h5 h6
  rfl
end Go.Proofs.Ytfkbodonidkpoaa
