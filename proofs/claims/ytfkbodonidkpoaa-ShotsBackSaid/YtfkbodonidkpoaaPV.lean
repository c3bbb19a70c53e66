/-
  The document's shots: Check, Find, cells, Look, Same. The document's shots: cells, Look, Same. No condition.
-/
import Derived.Test.YtfkbodonidkpoaaSh6
import Derived.Test.YtfkbodonidkpoaaRef2
import Derived.Test.YtfkbodonidkpoaaP6
namespace Go.Proofs.Ytfkbodonidkpoaa
open Go.RowKit
section
variable {w0 : World} {U : Nat → Prop}
theorem rwithin_any (n a b : Int) (w : World) : Calls Try.prog 105 #[.int .i64 n, .int .i64 a, .int .i64 b] w fun e w' => e = .returned (.bool (decide (a ≤ n ∧ n ≤ b))) ∧ w.grownBy w' none := by
  refine x_calls tabOK Try.func105 rfl [.v (.int .i64 n), .v (.int .i64 a), .v (.int .i64 b)] [] noLoc rfl rfl (rel0 w) ?_
  by_cases h1 : a ≤ n
  · repeat' ((conv => whnf); first | refine Need.go rfl ?_ | (with_reducible refine Br.dec (fun h => ?_) (fun h => ?_); first | (rotate_left; exfalso; omega; clear h) | (exfalso; omega; clear h) | skip))
    all_goals (conv => whnf)
    refine ret_pure (fun _ => ?_)
    by_cases h2 : n ≤ b
    · simp [SV.den, h1, h2]
    · simp [SV.den, h1, h2]
  · repeat' ((conv => whnf); first | refine Need.go rfl ?_ | (with_reducible refine Br.dec (fun h => ?_) (fun h => ?_); first | (rotate_left; exfalso; omega; clear h) | (exfalso; omega; clear h) | skip))
    all_goals (conv => whnf)
    refine ret_pure (fun _ => ?_)
    simp [SV.den, h1]
theorem rwithin_q {H : List HE} {K : SV → Prop} (n a b : Int) (hK : K (.v (.bool (decide (a ≤ n ∧ n ≤ b))))) : CallQ Try.prog w0 U 105 [.v (.int .i64 n), .v (.int .i64 a), .v (.int .i64 b)] H K :=
  quiet_mem (fun ρ w h => rwithin_any n a b w) hK
theorem rwithin_n {H : List HE} {K : SV → List HE → Prop} (n a b : Int) (hK : K (.v (.bool (decide (a ≤ n ∧ n ≤ b)))) H) : CallN Try.prog w0 U 105 [.v (.int .i64 n), .v (.int .i64 a), .v (.int .i64 b)] H K :=
  call_mem (fun ρ w h => rwithin_any n a b w) hK
end
def okI (s : ShM) : Bool := decide (0 ≤ s.index ∧ s.index ≤ 4096)
def okC' (s : ShM) (k : Nat) : Bool := okI s && allTo (okCell s.index s.cells) k
def okL' (s : ShM) (k : Nat) : Bool := okC' s s.cells.length && allTo (okLast s.index s.lasts) k
theorem okC_no {s : ShM} {k : Nat} (h : okC' s k = false) : okC' s (k + 1) = false := by unfold okC' at h ⊢; rw [allTo_succ, ← Bool.and_assoc, h]; rfl
theorem okL_no {s : ShM} {k : Nat} (h : okL' s k = false) : okL' s (k + 1) = false := by unfold okL' at h ⊢; rw [allTo_succ, ← Bool.and_assoc, h]; rfl
theorem okC_yes {s : ShM} {k : Nat} (h : okC' s k = true) : okC' s (k + 1) = okCell s.index s.cells k := by unfold okC' at h ⊢; rw [allTo_succ, ← Bool.and_assoc, h, Bool.true_and]
theorem okL_yes {s : ShM} {k : Nat} (h : okL' s k = true) : okL' s (k + 1) = okLast s.index s.lasts k := by unfold okL' at h ⊢; rw [allTo_succ, ← Bool.and_assoc, h, Bool.true_and]
theorem chk_okL (s : ShM) : chkS s = okL' s s.lasts.length := by
  unfold chkS okL' okC' okI
  rw [Bool.eq_iff_iff]
  simp only [Bool.and_eq_true, decide_eq_true_eq]
  exact ⟨fun ⟨⟨a, b⟩, c, d⟩ => ⟨⟨⟨a, b⟩, c⟩, d⟩, fun ⟨⟨⟨a, b⟩, c⟩, d⟩ => ⟨⟨a, b⟩, c, d⟩⟩
theorem okCell_is {n : Int} {l : List KC} {j : Nat} (h : CellI n (l.getD (j + 1) celZ)) : okCell n l (j + 1) = Op.bytesLess (l.getD j celZ).1 (l.getD (j + 1) celZ).1 := by
  rw [Bool.eq_iff_iff, okCell_iff, Nat.add_sub_cancel]
  exact ⟨fun h' => h'.1.elim (fun e => absurd e (Nat.succ_ne_zero j)) id, fun h' => ⟨.inr h', h⟩⟩
theorem okLast_is {n : Int} {l : List LaM} {j : Nat} (h : LastI n (l.getD (j + 1) laZ)) : okLast n l (j + 1) = decide ((l.getD j laZ).client < (l.getD (j + 1) laZ).client) := by
  rw [Bool.eq_iff_iff, okLast_iff, Nat.add_sub_cancel, decide_eq_true_iff]
  exact ⟨fun h' => h'.1.elim (fun e => absurd e (Nat.succ_ne_zero j)) id, fun h' => ⟨.inr h', h⟩⟩
set_option maxRecDepth 100000 in
set_option maxHeartbeats 8000000 in
theorem rshCheck_any (s : ShM) (p q : Value) (w : World) (hp : CelSl w p s) (hq : LasSl w q s) (hs : SmallS s) :
    Calls Try.prog 52 #[shV s p q] w fun e w' => e = .returned (.int .i64 (erI (chkS s))) ∧ w.grownBy w' none := by
  obtain ⟨a, cap, rfl, h1, h2, hr⟩ := hp
  obtain ⟨a2, cap2, rfl, h3, h4, hr2⟩ := hq
  have hc := hs.c
  have hl := hs.l
  refine x_calls tabOK Try.func52 rfl [shS s (.rs 0 s.cells.length cap) (.rs 1 s.lasts.length cap2)] _ _ rfl rfl (relR2 hr hr2) ?_
  repeat' ((conv => whnf); first | refine CutN.plain ?_ | refine Need.go rfl ?_ | refine rwithin_n _ _ _ ?_)
  all_goals (conv => whnf)
  refine loop_up 11 (fun k : Nat => k ≤ s.cells.length) (fun k => s.cells.length - k) (fun k => [(3, .v (.bool (okC' s k))), (4, .v (.int .i64 k)), (5, .junk)]) (fun _ => []) (fun _ => []) 0 (Nat.zero_le _) (by
    (conv => whnf)
    refine ⟨[some 0, some 1, some 2], by decide, ?_, ?_⟩
    all_goals repeat' (first | exact (show decide (0 ≤ s.index ∧ s.index ≤ 4096) = okC' s 0 by unfold okC' okI; rw [allTo_zero, Bool.and_true]) | exact leT_junk rfl | refine And.intro ?_ ?_ | exact trivial | exact .inl ⟨rfl, rfl⟩ | rfl | exact .inr ⟨_, rfl, rfl, rfl⟩ | exact ⟨_, rfl, trivial⟩ | exact ⟨_, rfl, rfl⟩ | exact ⟨_, rfl, ⟨rfl, rfl, rfl⟩, fun _ _ _ _ => rfl⟩ | exact ⟨_, rfl, ⟨rfl, rfl, .inl rfl⟩, rfl⟩ | exact ⟨_, rfl, ⟨rfl, rfl, .inr rfl⟩, rfl⟩ | exact ⟨_, rfl, ⟨rfl, rfl, rfl, rfl, rfl⟩, rfl⟩ | exact ⟨_, rfl, ⟨rfl, rfl⟩, fun _ => Iff.rfl⟩ | refine ⟨_, rfl, rfl, ?_⟩)) (fun k hk => ?_)
  by_cases hlt : k < s.cells.length
  · rcases hb : okC' s k with _ | _
    · repeat' ((conv => whnf); first | refine CutN.plain ?_ | with_reducible refine Br.ff ?_ | refine Need.go rfl ?_ | refine QuiD.quiet (by kernel_rfl) ?_ | (with_reducible refine Br.dec (fun h => ?_) (fun h => ?_); first | (rotate_left; exfalso; omega; clear h) | (exfalso; omega; clear h) | skip) | refine Ar.i64 (by omega) (by omega) ?_ | refine Need.go (by first | omega | decide | (simp <;> omega) | fail) ?_)
      all_goals (conv => whnf)
      refine ⟨k + 1, by omega, by omega, ?_⟩
      rw [okC_no hb]
      (conv => whnf)
      refine ⟨[some 0, some 1, some 2], by decide, ?_, ?_⟩
      all_goals repeat' (first | exact leT_junk rfl | refine And.intro ?_ ?_ | exact trivial | exact .inl ⟨rfl, rfl⟩ | rfl | exact .inr ⟨_, rfl, rfl, rfl⟩ | exact ⟨_, rfl, trivial⟩ | exact ⟨_, rfl, rfl⟩ | exact ⟨_, rfl, ⟨rfl, rfl, rfl⟩, fun _ _ _ _ => rfl⟩ | exact ⟨_, rfl, ⟨rfl, rfl, .inl rfl⟩, rfl⟩ | exact ⟨_, rfl, ⟨rfl, rfl, .inr rfl⟩, rfl⟩ | exact ⟨_, rfl, ⟨rfl, rfl, rfl, rfl, rfl⟩, rfl⟩ | exact ⟨_, rfl, ⟨rfl, rfl⟩, fun _ => Iff.rfl⟩ | refine ⟨_, rfl, rfl, ?_⟩)
    have hy := okC_yes hb
    rcases k with _ | j
    · repeat' ((conv => whnf); first | refine CutN.plain ?_ | with_reducible refine Br.tt ?_ | refine Br.yes (by decide) ?_ | refine Need.go rfl ?_ | refine QuiD.quiet (by kernel_rfl) ?_ | (with_reducible refine Br.dec (fun h => ?_) (fun h => ?_); first | (rotate_left; exfalso; omega; clear h) | (exfalso; omega; clear h) | skip) | refine Ar.i64 (by omega) (by omega) ?_ | refine rwithin_q _ _ _ ?_ | refine Need.go (by first | omega | decide | (simp <;> omega) | fail) ?_)
      all_goals (conv => whnf)
      all_goals (try simp only [natPred, Int.toNat_natCast] at *)
      all_goals first
        | (refine ⟨0 + 1, by omega, by omega, ?_⟩
           rw [hy, okCell_no fun hi => by have := hi.k1; have := hi.k16; have := hi.v64; have := hi.n1; have := hi.nn; omega]
           (conv => whnf)
           refine ⟨[some 0, some 1, some 2], by decide, ?_, ?_⟩
           all_goals repeat' (first | exact leT_junk rfl | refine And.intro ?_ ?_ | exact trivial | exact .inl ⟨rfl, rfl⟩ | rfl | exact .inr ⟨_, rfl, rfl, rfl⟩ | exact ⟨_, rfl, trivial⟩ | exact ⟨_, rfl, rfl⟩ | exact ⟨_, rfl, ⟨rfl, rfl, rfl⟩, fun _ _ _ _ => rfl⟩ | exact ⟨_, rfl, ⟨rfl, rfl, .inl rfl⟩, rfl⟩ | exact ⟨_, rfl, ⟨rfl, rfl, .inr rfl⟩, rfl⟩ | exact ⟨_, rfl, ⟨rfl, rfl, rfl, rfl, rfl⟩, rfl⟩ | exact ⟨_, rfl, ⟨rfl, rfl⟩, fun _ => Iff.rfl⟩ | refine ⟨_, rfl, rfl, ?_⟩)
           done)
        | (refine ⟨0 + 1, by omega, by omega, ?_⟩
           rw [hy, okCell_0 ⟨by omega, by omega, by omega, by omega, by omega⟩]
           (conv => whnf)
           refine ⟨[some 0, some 1, some 2], by decide, ?_, ?_⟩
           all_goals repeat' (first | exact leT_junk rfl | refine And.intro ?_ ?_ | exact trivial | exact .inl ⟨rfl, rfl⟩ | rfl | exact .inr ⟨_, rfl, rfl, rfl⟩ | exact ⟨_, rfl, trivial⟩ | exact ⟨_, rfl, rfl⟩ | exact ⟨_, rfl, ⟨rfl, rfl, rfl⟩, fun _ _ _ _ => rfl⟩ | exact ⟨_, rfl, ⟨rfl, rfl, .inl rfl⟩, rfl⟩ | exact ⟨_, rfl, ⟨rfl, rfl, .inr rfl⟩, rfl⟩ | exact ⟨_, rfl, ⟨rfl, rfl, rfl, rfl, rfl⟩, rfl⟩ | exact ⟨_, rfl, ⟨rfl, rfl⟩, fun _ => Iff.rfl⟩ | refine ⟨_, rfl, rfl, ?_⟩)
           done)
        | fail
    · repeat' ((conv => whnf); first | refine CutN.plain ?_ | with_reducible refine Br.tt ?_ | refine Need.go rfl ?_ | refine QuiD.quiet (by kernel_rfl) ?_ | (with_reducible refine Br.dec (fun h => ?_) (fun h => ?_); first | (rotate_left; exfalso; omega; clear h) | (exfalso; omega; clear h) | skip) | (with_reducible refine Br.eqI (fun h => ?_) (fun h => ?_); first | (rotate_left; exfalso; omega; clear h) | (exfalso; omega; clear h) | skip) | refine Ar.i64 (by omega) (by omega) ?_ | refine rwithin_q _ _ _ ?_ | refine Need.go (by first | omega | decide | (simp <;> omega) | fail) ?_)
      all_goals (conv => whnf)
      all_goals (try simp only [natPred, Int.toNat_natCast] at *)
      all_goals first
        | (refine ⟨j + 1 + 1, by omega, by omega, ?_⟩
           rw [hy, okCell_no fun hi => by have := hi.k1; have := hi.k16; have := hi.v64; have := hi.n1; have := hi.nn; omega]
           (conv => whnf)
           refine ⟨[some 0, some 1, some 2], by decide, ?_, ?_⟩
           all_goals repeat' (first | exact leT_junk rfl | refine And.intro ?_ ?_ | exact trivial | exact .inl ⟨rfl, rfl⟩ | rfl | exact .inr ⟨_, rfl, rfl, rfl⟩ | exact ⟨_, rfl, trivial⟩ | exact ⟨_, rfl, rfl⟩ | exact ⟨_, rfl, ⟨rfl, rfl, rfl⟩, fun _ _ _ _ => rfl⟩ | exact ⟨_, rfl, ⟨rfl, rfl, .inl rfl⟩, rfl⟩ | exact ⟨_, rfl, ⟨rfl, rfl, .inr rfl⟩, rfl⟩ | exact ⟨_, rfl, ⟨rfl, rfl, rfl, rfl, rfl⟩, rfl⟩ | exact ⟨_, rfl, ⟨rfl, rfl⟩, fun _ => Iff.rfl⟩ | refine ⟨_, rfl, rfl, ?_⟩)
           done)
        | (refine ⟨j + 1 + 1, by omega, by omega, ?_⟩
           rw [hy, okCell_is ⟨by omega, by omega, by omega, by omega, by omega⟩]
           (conv => whnf)
           refine ⟨[some 0, some 1, some 2], by decide, ?_, ?_⟩
           all_goals repeat' (first | exact (show Op.bytesLess _ _ = Op.bytesLess _ _ by rw [natPred]) | exact leT_junk rfl | refine And.intro ?_ ?_ | exact trivial | exact .inl ⟨rfl, rfl⟩ | rfl | exact .inr ⟨_, rfl, rfl, rfl⟩ | exact ⟨_, rfl, trivial⟩ | exact ⟨_, rfl, rfl⟩ | exact ⟨_, rfl, ⟨rfl, rfl, rfl⟩, fun _ _ _ _ => rfl⟩ | exact ⟨_, rfl, ⟨rfl, rfl, .inl rfl⟩, rfl⟩ | exact ⟨_, rfl, ⟨rfl, rfl, .inr rfl⟩, rfl⟩ | exact ⟨_, rfl, ⟨rfl, rfl, rfl, rfl, rfl⟩, rfl⟩ | exact ⟨_, rfl, ⟨rfl, rfl⟩, fun _ => Iff.rfl⟩ | refine ⟨_, rfl, rfl, ?_⟩)
           done)
        | fail
  obtain rfl : k = s.cells.length := by omega
  repeat' ((conv => whnf); first | refine CutN.plain ?_ | refine Need.go rfl ?_ | (with_reducible refine Br.dec (fun h => ?_) (fun h => ?_); first | (rotate_left; exfalso; omega; clear h) | (exfalso; omega; clear h) | skip))
  all_goals (conv => whnf)
  refine loop_up 59 (fun k : Nat => k ≤ s.lasts.length) (fun k => s.lasts.length - k) (fun k => [(3, .v (.bool (okL' s k))), (6, .v (.int .i64 k)), (7, .junk)]) (fun _ => []) (fun _ => []) 0 (Nat.zero_le _) (by
    (conv => whnf)
    refine ⟨[some 0, some 1, some 2], by decide, ?_, ?_⟩
    all_goals repeat' (first | exact (show okC' s s.cells.length = okL' s 0 by unfold okL'; rw [allTo_zero, Bool.and_true]) | exact leT_junk rfl | refine And.intro ?_ ?_ | exact trivial | exact .inl ⟨rfl, rfl⟩ | rfl | exact .inr ⟨_, rfl, rfl, rfl⟩ | exact ⟨_, rfl, trivial⟩ | exact ⟨_, rfl, rfl⟩ | exact ⟨_, rfl, ⟨rfl, rfl, rfl⟩, fun _ _ _ _ => rfl⟩ | exact ⟨_, rfl, ⟨rfl, rfl, .inl rfl⟩, rfl⟩ | exact ⟨_, rfl, ⟨rfl, rfl, .inr rfl⟩, rfl⟩ | exact ⟨_, rfl, ⟨rfl, rfl, rfl, rfl, rfl⟩, rfl⟩ | exact ⟨_, rfl, ⟨rfl, rfl⟩, fun _ => Iff.rfl⟩ | refine ⟨_, rfl, rfl, ?_⟩)) (fun k hk => ?_)
  by_cases hlt : k < s.lasts.length
  · rcases hb : okL' s k with _ | _
    · repeat' ((conv => whnf); first | refine CutN.plain ?_ | with_reducible refine Br.ff ?_ | refine Need.go rfl ?_ | refine QuiD.quiet (by kernel_rfl) ?_ | (with_reducible refine Br.dec (fun h => ?_) (fun h => ?_); first | (rotate_left; exfalso; omega; clear h) | (exfalso; omega; clear h) | skip) | refine Ar.i64 (by omega) (by omega) ?_ | refine Need.go (by first | omega | decide | (simp <;> omega) | fail) ?_)
      all_goals (conv => whnf)
      refine ⟨k + 1, by omega, by omega, ?_⟩
      rw [okL_no hb]
      (conv => whnf)
      refine ⟨[some 0, some 1, some 2], by decide, ?_, ?_⟩
      all_goals repeat' (first | exact leT_junk rfl | refine And.intro ?_ ?_ | exact trivial | exact .inl ⟨rfl, rfl⟩ | rfl | exact .inr ⟨_, rfl, rfl, rfl⟩ | exact ⟨_, rfl, trivial⟩ | exact ⟨_, rfl, rfl⟩ | exact ⟨_, rfl, ⟨rfl, rfl, rfl⟩, fun _ _ _ _ => rfl⟩ | exact ⟨_, rfl, ⟨rfl, rfl, .inl rfl⟩, rfl⟩ | exact ⟨_, rfl, ⟨rfl, rfl, .inr rfl⟩, rfl⟩ | exact ⟨_, rfl, ⟨rfl, rfl, rfl, rfl, rfl⟩, rfl⟩ | exact ⟨_, rfl, ⟨rfl, rfl⟩, fun _ => Iff.rfl⟩ | refine ⟨_, rfl, rfl, ?_⟩)
    have hy := okL_yes hb
    rcases k with _ | j
    · repeat' ((conv => whnf); first | refine CutN.plain ?_ | with_reducible refine Br.tt ?_ | refine Br.yes (by decide) ?_ | refine Need.go rfl ?_ | refine QuiD.quiet (by kernel_rfl) ?_ | (with_reducible refine Br.dec (fun h => ?_) (fun h => ?_); first | (rotate_left; exfalso; omega; clear h) | (exfalso; omega; clear h) | skip) | refine Ar.i64 (by omega) (by omega) ?_ | refine rwithin_q _ _ _ ?_ | refine Need.go (by first | omega | decide | (simp <;> omega) | fail) ?_)
      all_goals (conv => whnf)
      all_goals (try simp only [natPred, Int.toNat_natCast] at *)
      all_goals first
        | (refine ⟨0 + 1, by omega, by omega, ?_⟩
           rw [hy, okLast_no fun hi => by obtain ⟨_, _, _, _, _, _, _, _, _, _, _⟩ := hi; omega]
           (conv => whnf)
           refine ⟨[some 0, some 1, some 2], by decide, ?_, ?_⟩
           all_goals repeat' (first | exact leT_junk rfl | refine And.intro ?_ ?_ | exact trivial | exact .inl ⟨rfl, rfl⟩ | rfl | exact .inr ⟨_, rfl, rfl, rfl⟩ | exact ⟨_, rfl, trivial⟩ | exact ⟨_, rfl, rfl⟩ | exact ⟨_, rfl, ⟨rfl, rfl, rfl⟩, fun _ _ _ _ => rfl⟩ | exact ⟨_, rfl, ⟨rfl, rfl, .inl rfl⟩, rfl⟩ | exact ⟨_, rfl, ⟨rfl, rfl, .inr rfl⟩, rfl⟩ | exact ⟨_, rfl, ⟨rfl, rfl, rfl, rfl, rfl⟩, rfl⟩ | exact ⟨_, rfl, ⟨rfl, rfl⟩, fun _ => Iff.rfl⟩ | refine ⟨_, rfl, rfl, ?_⟩)
           done)
        | (refine ⟨0 + 1, by omega, by omega, ?_⟩
           rw [hy, okLast_0 ⟨by omega, by omega, by omega, by omega, by omega, by omega, by omega, by omega, by omega, by omega, by omega⟩]
           (conv => whnf)
           refine ⟨[some 0, some 1, some 2], by decide, ?_, ?_⟩
           all_goals repeat' (first | exact leT_junk rfl | refine And.intro ?_ ?_ | exact trivial | exact .inl ⟨rfl, rfl⟩ | rfl | exact .inr ⟨_, rfl, rfl, rfl⟩ | exact ⟨_, rfl, trivial⟩ | exact ⟨_, rfl, rfl⟩ | exact ⟨_, rfl, ⟨rfl, rfl, rfl⟩, fun _ _ _ _ => rfl⟩ | exact ⟨_, rfl, ⟨rfl, rfl, .inl rfl⟩, rfl⟩ | exact ⟨_, rfl, ⟨rfl, rfl, .inr rfl⟩, rfl⟩ | exact ⟨_, rfl, ⟨rfl, rfl, rfl, rfl, rfl⟩, rfl⟩ | exact ⟨_, rfl, ⟨rfl, rfl⟩, fun _ => Iff.rfl⟩ | refine ⟨_, rfl, rfl, ?_⟩)
           done)
        | fail
    · repeat' ((conv => whnf); first | refine CutN.plain ?_ | with_reducible refine Br.tt ?_ | refine Need.go rfl ?_ | refine QuiD.quiet (by kernel_rfl) ?_ | (with_reducible refine Br.dec (fun h => ?_) (fun h => ?_); first | (rotate_left; exfalso; omega; clear h) | (exfalso; omega; clear h) | skip) | (with_reducible refine Br.eqI (fun h => ?_) (fun h => ?_); first | (rotate_left; exfalso; omega; clear h) | (exfalso; omega; clear h) | skip) | refine Ar.i64 (by omega) (by omega) ?_ | refine rwithin_q _ _ _ ?_ | refine Need.go (by first | omega | decide | (simp <;> omega) | fail) ?_)
      all_goals (conv => whnf)
      all_goals (try simp only [natPred, Int.toNat_natCast] at *)
      all_goals first
        | (refine ⟨j + 1 + 1, by omega, by omega, ?_⟩
           rw [hy, okLast_no fun hi => by obtain ⟨_, _, _, _, _, _, _, _, _, _, _⟩ := hi; omega]
           (conv => whnf)
           refine ⟨[some 0, some 1, some 2], by decide, ?_, ?_⟩
           all_goals repeat' (first | exact leT_junk rfl | refine And.intro ?_ ?_ | exact trivial | exact .inl ⟨rfl, rfl⟩ | rfl | exact .inr ⟨_, rfl, rfl, rfl⟩ | exact ⟨_, rfl, trivial⟩ | exact ⟨_, rfl, rfl⟩ | exact ⟨_, rfl, ⟨rfl, rfl, rfl⟩, fun _ _ _ _ => rfl⟩ | exact ⟨_, rfl, ⟨rfl, rfl, .inl rfl⟩, rfl⟩ | exact ⟨_, rfl, ⟨rfl, rfl, .inr rfl⟩, rfl⟩ | exact ⟨_, rfl, ⟨rfl, rfl, rfl, rfl, rfl⟩, rfl⟩ | exact ⟨_, rfl, ⟨rfl, rfl⟩, fun _ => Iff.rfl⟩ | refine ⟨_, rfl, rfl, ?_⟩)
           done)
        | (refine ⟨j + 1 + 1, by omega, by omega, ?_⟩
           rw [hy, okLast_is ⟨by omega, by omega, by omega, by omega, by omega, by omega, by omega, by omega, by omega, by omega, by omega⟩]
           (conv => whnf)
           refine ⟨[some 0, some 1, some 2], by decide, ?_, ?_⟩
           all_goals repeat' (first | exact leT_junk rfl | refine And.intro ?_ ?_ | exact trivial | exact .inl ⟨rfl, rfl⟩ | rfl | exact .inr ⟨_, rfl, rfl, rfl⟩ | exact ⟨_, rfl, trivial⟩ | exact ⟨_, rfl, rfl⟩ | exact ⟨_, rfl, ⟨rfl, rfl, rfl⟩, fun _ _ _ _ => rfl⟩ | exact ⟨_, rfl, ⟨rfl, rfl, .inl rfl⟩, rfl⟩ | exact ⟨_, rfl, ⟨rfl, rfl, .inr rfl⟩, rfl⟩ | exact ⟨_, rfl, ⟨rfl, rfl, rfl, rfl, rfl⟩, rfl⟩ | exact ⟨_, rfl, ⟨rfl, rfl⟩, fun _ => Iff.rfl⟩ | refine ⟨_, rfl, rfl, ?_⟩)
           done)
        | fail
  obtain rfl : k = s.lasts.length := by omega
  rw [chk_okL]
  rcases hb : okL' s s.lasts.length with _ | _
  · repeat' ((conv => whnf); first | refine CutN.plain ?_ | with_reducible refine Br.nf ?_ | refine Need.go rfl ?_ | (with_reducible refine Br.dec (fun h => ?_) (fun h => ?_); first | (rotate_left; exfalso; omega; clear h) | (exfalso; omega; clear h) | skip))
    all_goals (conv => whnf)
    exact ret_pure (fun _ => rfl)
  · repeat' ((conv => whnf); first | refine CutN.plain ?_ | with_reducible refine Br.nt ?_ | refine Need.go rfl ?_ | (with_reducible refine Br.dec (fun h => ?_) (fun h => ?_); first | (rotate_left; exfalso; omega; clear h) | (exfalso; omega; clear h) | skip))
    all_goals (conv => whnf)
    exact ret_pure (fun _ => rfl)
end Go.Proofs.Ytfkbodonidkpoaa
namespace Go.Proofs.Ytfkbodonidkpoaa
open Go.RowKit
theorem celF_one' {f g : Nat → Nat → Value} {k : Nat} (h : ∀ c, c < 3 → g 0 c = f k c) : ∀ r c, r < k + 1 → c < 3 → rowsApp k f g r c = f r c := rowsApp_one (fun _ _ _ _ => rfl) h
def sameShB (s t : ShM) : Bool := decide (s = t)
theorem list_ext_getD {α : Type} {d : α} {xs ys : List α} (hl : xs.length = ys.length) (h : ∀ j, j < xs.length → xs.getD j d = ys.getD j d) : xs = ys := by
  apply List.ext_getElem hl
  intro j h1 h2
  have := h j h1
  simpa [List.getD, h1, h2] using this
theorem KC_ext {a b : KC} (h1 : a.1 = b.1) (h2 : a.2.1 = b.2.1) (h3 : a.2.2 = b.2.2) : a = b := Prod.ext h1 (Prod.ext h2 h3)
theorem LaM_ext {a b : LaM} (h1 : a.client = b.client) (h2 : a.seq = b.seq) (h3 : a.res.code = b.res.code) (h4 : a.res.value = b.res.value) (h5 : a.res.version = b.res.version) (h6 : a.res.pos = b.res.pos) : a = b := by
  obtain ⟨_, _, _, _, _, _⟩ := a
  obtain ⟨_, _, _, _, _, _⟩ := b
  simp only at h1 h2 h3 h4 h5 h6
  subst h1 h2 h3 h4 h5 h6
  rfl
end Go.Proofs.Ytfkbodonidkpoaa
