/-
  The document's links: Double, Pairs. No condition.
-/
import Derived.Test.YtfniieigeofbdaaLr3
import Derived.Test.YtfniieigeofbdaaLk8
namespace Go.Proofs.Ytfniieigeofbdaa
/-- A row of pairs that have mail, so far. -/
def rowM (L : List MailM) (f n : Nat) : List (Int × Int) := ((List.range n).filter fun t : Nat => decide (0 < (listM L (f : Int) (t : Int)).length)).map fun t : Nat => ((f : Int), (t : Int))
def preM (L : List MailM) (f : Nat) : List (Int × Int) := (List.range f).flatMap fun f => rowM L f 38
theorem preM_all (L : List MailM) : preM L 38 = pairsM L := rfl
theorem preM_succ (L : List MailM) (f : Nat) : preM L (f + 1) = preM L f ++ rowM L f 38 := by
  unfold preM
  rw [List.range_succ, List.flatMap_append]
  simp
theorem rowM_succ (L : List MailM) (f n : Nat) : rowM L f (n + 1) = if 0 < (listM L (f : Int) (n : Int)).length then rowM L f n ++ [((f : Int), (n : Int))] else rowM L f n := by
  unfold rowM
  rw [List.range_succ, List.filter_append]
  by_cases h : 0 < (listM L (f : Int) (n : Int)).length
  · rw [if_pos h]
    have : List.filter (fun t : Nat => decide (0 < (listM L (f : Int) (t : Int)).length)) [n] = [n] := by simp [h]
    rw [this, List.map_append]
    rfl
  · rw [if_neg h]
    have : List.filter (fun t : Nat => decide (0 < (listM L (f : Int) (t : Int)).length)) [n] = [] := by simp [h]
    rw [this, List.append_nil]
theorem rowM_len (L : List MailM) (f n : Nat) : (rowM L f n).length ≤ n := by
  unfold rowM
  rw [List.length_map]
  have := List.length_filter_le (fun t : Nat => decide (0 < (listM L (f : Int) (t : Int)).length)) (List.range n)
  rwa [List.length_range] at this
theorem preM_len (L : List MailM) : ∀ f, (preM L f).length ≤ 38 * f
  | 0 => Nat.le_refl _
  | f + 1 => by
    have h1 := preM_len L f
    have h2 := rowM_len L f 38
    rw [preM_succ, List.length_append]
    omega
section
variable (cap : Int) (L : List MailM) (hL : L.length ≤ 99999)
include hL
set_option maxRecDepth 100000 in
set_option maxHeartbeats 4000000 in
theorem rlPairs : Spec Try.prog 60 [.p 0 0] (rlH cap L) fun s H1 => s = .os 2 (pairsM L).length ∧ H1 = rlH cap L ++ [twoE (pairsM L)] := by
  refine spec_x Try.func60 rfl 2 rfl rfl fun w0 U => ?_
  repeat' ((conv => whnf); first
      | refine CutN.plain ?_
      | with_reducible refine Br.tt ?_
      | with_reducible refine Br.ff ?_
      | with_reducible refine Br.nt ?_
      | with_reducible refine Br.nf ?_
      | with_reducible refine Br.eeI ?_
      | with_reducible refine Br.nnI ?_
      | refine Br.yes (by decide) ?_
      | refine Br.no (by decide) ?_
      | refine AppN.own ?_
      | refine Need.go rfl ?_
      | refine QuiD.quiet (by kernel_rfl) ?_
      | refine IdxN.lit ?_
      | refine draw_go tabOK (by kernel_rfl) ?_
      | refine Need.go ⟨rfl, rfl⟩ ?_
      | refine Need.go ⟨⟨rfl, rfl, rfl⟩, rfl⟩ ?_
      | (with_reducible refine Br.dec (fun h => ?_) (fun h => ?_); first | (rotate_left; exfalso; omega; clear h) | (exfalso; omega; clear h) | skip)
      | (with_reducible refine Br.eqI (fun h => ?_) (fun h => ?_); first | (rotate_left; exfalso; omega; clear h) | (exfalso; omega; clear h) | skip)
      | (with_reducible refine Br.neI (fun h => ?_) (fun h => ?_); first | (rotate_left; exfalso; omega; clear h) | (exfalso; omega; clear h) | skip)
      | (with_reducible refine Br.eqS (fun h => ?_) (fun h => ?_); first | (rotate_left; exfalso; omega; clear h) | (exfalso; omega; clear h) | skip)
      | (with_reducible refine Br.neS (fun h => ?_) (fun h => ?_); first | (rotate_left; exfalso; omega; clear h) | (exfalso; omega; clear h) | skip)
      | (with_reducible refine Br.nd (fun h => ?_) (fun h => ?_); first | (rotate_left; exfalso; omega; clear h) | (exfalso; omega; clear h) | skip)
      | refine Ar.i64 (by omega) (by omega) ?_
      | refine Need.go (by first | omega | decide | (simp <;> omega) | fail) ?_
      | refine Need.go (by first | (simp [Value.oneCell'] <;> omega) | fail) ?_
      | refine Need.go ⟨rfl, by omega, getD_one rfl rfl⟩ ?_
      | refine Need.go ⟨rfl, by omega, fun _ _ _ _ => rfl⟩ ?_
      | refine Br.both (fun h => ?_) (fun h => ?_))
  all_goals (conv => whnf)
  refine loop_up 6 (fun f : Nat => f ≤ 38) (fun f => 38 - f) (fun f => [(3, .os 2 (preM L f).length), (4, .v (.int .i64 f)), (5, .junk)]) (fun _ => []) (fun f => [twoE (preM L f)]) 0 (Nat.zero_le _) (by
    (conv => whnf)
    refine ⟨[some 0, some 1, none], by decide, ?_, ?_⟩
    all_goals repeat' (first | exact .inr ⟨_, rfl, rfl, rfl⟩ | exact leT_junk rfl | refine And.intro ?_ ?_ | exact trivial | exact .inl ⟨rfl, rfl⟩ | rfl | exact .inr ⟨_, rfl, rfl, rfl⟩ | exact ⟨_, rfl, trivial⟩ | exact ⟨_, rfl, rfl⟩ | exact ⟨_, rfl, ⟨rfl, rfl, rfl⟩, fun _ _ _ _ => rfl⟩ | exact ⟨_, rfl, ⟨rfl, rfl, .inl rfl⟩, rfl⟩ | exact ⟨_, rfl, ⟨rfl, rfl, .inr rfl⟩, rfl⟩ | exact ⟨_, rfl, ⟨rfl, rfl, rfl, rfl, rfl⟩, rfl⟩ | exact ⟨_, rfl, ⟨rfl, rfl⟩, fun _ => Iff.rfl⟩ | refine ⟨_, rfl, rfl, ?_⟩ | refine ⟨_, rfl, ⟨rfl, rfl, rfl⟩, ?_⟩)) (fun f hf => ?_)
  have hpl := preM_len L f
  by_cases hlt : f < 38
  · repeat' ((conv => whnf); first
      | refine CutN.plain ?_
      | with_reducible refine Br.tt ?_
      | with_reducible refine Br.ff ?_
      | with_reducible refine Br.nt ?_
      | with_reducible refine Br.nf ?_
      | with_reducible refine Br.eeI ?_
      | with_reducible refine Br.nnI ?_
      | refine Br.yes (by decide) ?_
      | refine Br.no (by decide) ?_
      | refine AppN.own ?_
      | refine Need.go rfl ?_
      | refine QuiD.quiet (by kernel_rfl) ?_
      | refine IdxN.lit ?_
      | refine draw_go tabOK (by kernel_rfl) ?_
      | refine Need.go ⟨rfl, rfl⟩ ?_
      | refine Need.go ⟨⟨rfl, rfl, rfl⟩, rfl⟩ ?_
      | (with_reducible refine Br.dec (fun h => ?_) (fun h => ?_); first | (rotate_left; exfalso; omega; clear h) | (exfalso; omega; clear h) | skip)
      | (with_reducible refine Br.eqI (fun h => ?_) (fun h => ?_); first | (rotate_left; exfalso; omega; clear h) | (exfalso; omega; clear h) | skip)
      | (with_reducible refine Br.neI (fun h => ?_) (fun h => ?_); first | (rotate_left; exfalso; omega; clear h) | (exfalso; omega; clear h) | skip)
      | (with_reducible refine Br.eqS (fun h => ?_) (fun h => ?_); first | (rotate_left; exfalso; omega; clear h) | (exfalso; omega; clear h) | skip)
      | (with_reducible refine Br.neS (fun h => ?_) (fun h => ?_); first | (rotate_left; exfalso; omega; clear h) | (exfalso; omega; clear h) | skip)
      | (with_reducible refine Br.nd (fun h => ?_) (fun h => ?_); first | (rotate_left; exfalso; omega; clear h) | (exfalso; omega; clear h) | skip)
      | refine Ar.i64 (by omega) (by omega) ?_
      | refine Need.go (by first | omega | decide | (simp <;> omega) | fail) ?_
      | refine Need.go (by first | (simp [Value.oneCell'] <;> omega) | fail) ?_
      | refine Need.go ⟨rfl, by omega, getD_one rfl rfl⟩ ?_
      | refine Need.go ⟨rfl, by omega, fun _ _ _ _ => rfl⟩ ?_
      | refine Br.both (fun h => ?_) (fun h => ?_))
    all_goals (conv => whnf)
    refine loop_up 10 (fun t : Nat => t ≤ 38) (fun t => 38 - t) (fun t => [(3, .os 3 (preM L f ++ rowM L f t).length), (5, .v (.int .i64 t))]) (fun _ => [(2, .ent .none)]) (fun t => [twoE (preM L f ++ rowM L f t)]) 0 (Nat.zero_le _) (by
      have e0 : preM L f ++ rowM L f 0 = preM L f := List.append_nil _
      rw [e0]
      (conv => whnf)
      refine ⟨[some 0, some 1, none, some 2], by decide, ?_, ?_⟩
      all_goals repeat' (first | exact leT_junk rfl | refine And.intro ?_ ?_ | exact trivial | exact .inl ⟨rfl, rfl⟩ | rfl | exact .inr ⟨_, rfl, rfl, rfl⟩ | exact ⟨_, rfl, trivial⟩ | exact ⟨_, rfl, rfl⟩ | exact ⟨_, rfl, ⟨rfl, rfl, rfl⟩, fun _ _ _ _ => rfl⟩ | exact ⟨_, rfl, ⟨rfl, rfl, .inl rfl⟩, rfl⟩ | exact ⟨_, rfl, ⟨rfl, rfl, .inr rfl⟩, rfl⟩ | exact ⟨_, rfl, ⟨rfl, rfl, rfl, rfl, rfl⟩, rfl⟩ | exact ⟨_, rfl, ⟨rfl, rfl⟩, fun _ => Iff.rfl⟩ | refine ⟨_, rfl, rfl, ?_⟩ | refine ⟨_, rfl, ⟨rfl, rfl, rfl⟩, ?_⟩)) (fun t ht => ?_)
    have hrl := rowM_len L f t
    by_cases hlt2 : t < 38
    · have hs := rowM_succ L f t
      obtain ⟨D, hD⟩ : ∃ D, preM L f ++ rowM L f t = D := ⟨_, rfl⟩
      have hDl : D.length ≤ 1500 := by rw [← hD, List.length_append]; omega
      rw [hD]
      by_cases h0 : 0 < (listM L (f : Int) (t : Int)).length
      · rw [if_pos h0] at hs
        have hs' : preM L f ++ rowM L f (t + 1) = D ++ [((f : Int), (t : Int))] := by rw [hs, ← List.append_assoc, hD]
        repeat' ((conv => whnf); first
            | refine CutN.plain ?_
            | with_reducible refine Br.tt ?_
            | with_reducible refine Br.ff ?_
            | with_reducible refine Br.nt ?_
            | with_reducible refine Br.nf ?_
            | with_reducible refine Br.eeI ?_
            | with_reducible refine Br.nnI ?_
            | refine Br.yes (by decide) ?_
            | refine Br.no (by decide) ?_
            | refine AppN.own ?_
            | refine Need.go rfl ?_
            | refine QuiD.quiet (by kernel_rfl) ?_
            | refine IdxN.lit ?_
            | refine draw_go tabOK (by kernel_rfl) ?_
            | refine Need.go ⟨rfl, rfl⟩ ?_
            | refine Need.go ⟨⟨rfl, rfl, rfl⟩, rfl⟩ ?_
            | (with_reducible refine Br.dec (fun h => ?_) (fun h => ?_); first | (rotate_left; exfalso; omega; clear h) | (exfalso; omega; clear h) | skip)
            | (with_reducible refine Br.eqI (fun h => ?_) (fun h => ?_); first | (rotate_left; exfalso; omega; clear h) | (exfalso; omega; clear h) | skip)
            | (with_reducible refine Br.neI (fun h => ?_) (fun h => ?_); first | (rotate_left; exfalso; omega; clear h) | (exfalso; omega; clear h) | skip)
            | (with_reducible refine Br.eqS (fun h => ?_) (fun h => ?_); first | (rotate_left; exfalso; omega; clear h) | (exfalso; omega; clear h) | skip)
            | (with_reducible refine Br.neS (fun h => ?_) (fun h => ?_); first | (rotate_left; exfalso; omega; clear h) | (exfalso; omega; clear h) | skip)
            | (with_reducible refine Br.nd (fun h => ?_) (fun h => ?_); first | (rotate_left; exfalso; omega; clear h) | (exfalso; omega; clear h) | skip)
            | refine Ar.i64 (by omega) (by omega) ?_
            | (refine call_sp (f := 57) (rlList cap L (by omega) f t) [0, 1] (by decide) rfl ⟨rfl, rfl, trivial⟩ rfl ?_; rintro s H1 ⟨rfl, rfl⟩)
            | refine Need.go ⟨rfl, rfl, rfl, by omega, (Nat.mul_le_mul_right _ (show D.length + 1 ≤ 1000000 by omega)).trans (by decide)⟩ ?_
            | refine Need.go (by first | omega | decide | (simp <;> omega) | fail) ?_
            | refine Need.go (by first | (simp [Value.oneCell'] <;> omega) | fail) ?_
            | refine Need.go ⟨rfl, by omega, getD_one rfl rfl⟩ ?_
            | refine Need.go ⟨rfl, by omega, fun _ _ _ _ => rfl⟩ ?_
            | refine Br.both (fun h => ?_) (fun h => ?_))
        all_goals (conv => whnf)
        all_goals first
          | (exfalso; omega)
          | (refine ⟨t + 1, by omega, by omega, ?_⟩
             (conv => whnf)
             rw [hs']
             refine ⟨[some 0, some 1, none, some 6], by decide, ?_, ?_⟩
             all_goals repeat' (first | exact .inl ⟨rfl, congrArg (SV.os 6) List.length_append⟩ | exact ⟨_, rfl, ⟨rfl, rfl, by simp⟩, fun r c hr hc => rowsF_snoc twoC (0, 0) 2 D ((f : Int), (t : Int)) r c (by simpa using hr) hc⟩ | exact leT_junk rfl | refine And.intro ?_ ?_ | exact trivial | exact .inl ⟨rfl, rfl⟩ | rfl | exact .inr ⟨_, rfl, rfl, rfl⟩ | exact ⟨_, rfl, trivial⟩ | exact ⟨_, rfl, rfl⟩ | exact ⟨_, rfl, ⟨rfl, rfl, rfl⟩, fun _ _ _ _ => rfl⟩ | exact ⟨_, rfl, ⟨rfl, rfl, .inl rfl⟩, rfl⟩ | exact ⟨_, rfl, ⟨rfl, rfl, .inr rfl⟩, rfl⟩ | exact ⟨_, rfl, ⟨rfl, rfl, rfl, rfl, rfl⟩, rfl⟩ | exact ⟨_, rfl, ⟨rfl, rfl⟩, fun _ => Iff.rfl⟩ | refine ⟨_, rfl, rfl, ?_⟩ | refine ⟨_, rfl, ⟨rfl, rfl, rfl⟩, ?_⟩))
      · rw [if_neg h0] at hs
        have hs' : preM L f ++ rowM L f (t + 1) = D := by rw [hs, hD]
        repeat' ((conv => whnf); first
            | refine CutN.plain ?_
            | with_reducible refine Br.tt ?_
            | with_reducible refine Br.ff ?_
            | with_reducible refine Br.nt ?_
            | with_reducible refine Br.nf ?_
            | with_reducible refine Br.eeI ?_
            | with_reducible refine Br.nnI ?_
            | refine Br.yes (by decide) ?_
            | refine Br.no (by decide) ?_
            | refine AppN.own ?_
            | refine Need.go rfl ?_
            | refine QuiD.quiet (by kernel_rfl) ?_
            | refine IdxN.lit ?_
            | refine draw_go tabOK (by kernel_rfl) ?_
            | refine Need.go ⟨rfl, rfl⟩ ?_
            | refine Need.go ⟨⟨rfl, rfl, rfl⟩, rfl⟩ ?_
            | (with_reducible refine Br.dec (fun h => ?_) (fun h => ?_); first | (rotate_left; exfalso; omega; clear h) | (exfalso; omega; clear h) | skip)
            | (with_reducible refine Br.eqI (fun h => ?_) (fun h => ?_); first | (rotate_left; exfalso; omega; clear h) | (exfalso; omega; clear h) | skip)
            | (with_reducible refine Br.neI (fun h => ?_) (fun h => ?_); first | (rotate_left; exfalso; omega; clear h) | (exfalso; omega; clear h) | skip)
            | (with_reducible refine Br.eqS (fun h => ?_) (fun h => ?_); first | (rotate_left; exfalso; omega; clear h) | (exfalso; omega; clear h) | skip)
            | (with_reducible refine Br.neS (fun h => ?_) (fun h => ?_); first | (rotate_left; exfalso; omega; clear h) | (exfalso; omega; clear h) | skip)
            | (with_reducible refine Br.nd (fun h => ?_) (fun h => ?_); first | (rotate_left; exfalso; omega; clear h) | (exfalso; omega; clear h) | skip)
            | refine Ar.i64 (by omega) (by omega) ?_
            | (refine call_sp (f := 57) (rlList cap L (by omega) f t) [0, 1] (by decide) rfl ⟨rfl, rfl, trivial⟩ rfl ?_; rintro s H1 ⟨rfl, rfl⟩)
            | refine Need.go (by first | omega | decide | (simp <;> omega) | fail) ?_
            | refine Need.go (by first | (simp [Value.oneCell'] <;> omega) | fail) ?_
            | refine Need.go ⟨rfl, by omega, getD_one rfl rfl⟩ ?_
            | refine Need.go ⟨rfl, by omega, fun _ _ _ _ => rfl⟩ ?_
            | refine Br.both (fun h => ?_) (fun h => ?_))
        all_goals (conv => whnf)
        all_goals first
          | (exfalso; omega)
          | (refine ⟨t + 1, by omega, by omega, ?_⟩
             (conv => whnf)
             rw [hs']
             refine ⟨[some 0, some 1, none, some 3], by decide, ?_, ?_⟩
             all_goals repeat' (first | exact leT_junk rfl | refine And.intro ?_ ?_ | exact trivial | exact .inl ⟨rfl, rfl⟩ | rfl | exact .inr ⟨_, rfl, rfl, rfl⟩ | exact ⟨_, rfl, trivial⟩ | exact ⟨_, rfl, rfl⟩ | exact ⟨_, rfl, ⟨rfl, rfl, rfl⟩, fun _ _ _ _ => rfl⟩ | exact ⟨_, rfl, ⟨rfl, rfl, .inl rfl⟩, rfl⟩ | exact ⟨_, rfl, ⟨rfl, rfl, .inr rfl⟩, rfl⟩ | exact ⟨_, rfl, ⟨rfl, rfl, rfl, rfl, rfl⟩, rfl⟩ | exact ⟨_, rfl, ⟨rfl, rfl⟩, fun _ => Iff.rfl⟩ | refine ⟨_, rfl, rfl, ?_⟩ | refine ⟨_, rfl, ⟨rfl, rfl, rfl⟩, ?_⟩))
    · obtain rfl : t = 38 := by omega
      have hs := preM_succ L f
      rw [← hs]
      repeat' ((conv => whnf); first
          | refine CutN.plain ?_
          | with_reducible refine Br.tt ?_
          | with_reducible refine Br.ff ?_
          | with_reducible refine Br.nt ?_
          | with_reducible refine Br.nf ?_
          | with_reducible refine Br.eeI ?_
          | with_reducible refine Br.nnI ?_
          | refine Br.yes (by decide) ?_
          | refine Br.no (by decide) ?_
          | refine AppN.own ?_
          | refine Need.go rfl ?_
          | refine QuiD.quiet (by kernel_rfl) ?_
          | refine IdxN.lit ?_
          | refine draw_go tabOK (by kernel_rfl) ?_
          | refine Need.go ⟨rfl, rfl⟩ ?_
          | refine Need.go ⟨⟨rfl, rfl, rfl⟩, rfl⟩ ?_
          | (with_reducible refine Br.dec (fun h => ?_) (fun h => ?_); first | (rotate_left; exfalso; omega; clear h) | (exfalso; omega; clear h) | skip)
          | (with_reducible refine Br.eqI (fun h => ?_) (fun h => ?_); first | (rotate_left; exfalso; omega; clear h) | (exfalso; omega; clear h) | skip)
          | (with_reducible refine Br.neI (fun h => ?_) (fun h => ?_); first | (rotate_left; exfalso; omega; clear h) | (exfalso; omega; clear h) | skip)
          | (with_reducible refine Br.eqS (fun h => ?_) (fun h => ?_); first | (rotate_left; exfalso; omega; clear h) | (exfalso; omega; clear h) | skip)
          | (with_reducible refine Br.neS (fun h => ?_) (fun h => ?_); first | (rotate_left; exfalso; omega; clear h) | (exfalso; omega; clear h) | skip)
          | (with_reducible refine Br.nd (fun h => ?_) (fun h => ?_); first | (rotate_left; exfalso; omega; clear h) | (exfalso; omega; clear h) | skip)
          | refine Ar.i64 (by omega) (by omega) ?_
          | refine Need.go (by first | omega | decide | (simp <;> omega) | fail) ?_
          | refine Need.go (by first | (simp [Value.oneCell'] <;> omega) | fail) ?_
          | refine Need.go ⟨rfl, by omega, getD_one rfl rfl⟩ ?_
          | refine Need.go ⟨rfl, by omega, fun _ _ _ _ => rfl⟩ ?_
          | refine Br.both (fun h => ?_) (fun h => ?_))
      all_goals (conv => whnf)
      refine ⟨f + 1, by omega, by omega, ?_⟩
      (conv => whnf)
      refine ⟨[some 0, some 1, some 3], by decide, ?_, ?_⟩
      all_goals repeat' (first | exact leT_junk rfl | refine And.intro ?_ ?_ | exact trivial | exact .inl ⟨rfl, rfl⟩ | rfl | exact .inr ⟨_, rfl, rfl, rfl⟩ | exact ⟨_, rfl, trivial⟩ | exact ⟨_, rfl, rfl⟩ | exact ⟨_, rfl, ⟨rfl, rfl, rfl⟩, fun _ _ _ _ => rfl⟩ | exact ⟨_, rfl, ⟨rfl, rfl, .inl rfl⟩, rfl⟩ | exact ⟨_, rfl, ⟨rfl, rfl, .inr rfl⟩, rfl⟩ | exact ⟨_, rfl, ⟨rfl, rfl, rfl, rfl, rfl⟩, rfl⟩ | exact ⟨_, rfl, ⟨rfl, rfl⟩, fun _ => Iff.rfl⟩ | refine ⟨_, rfl, rfl, ?_⟩ | refine ⟨_, rfl, ⟨rfl, rfl, rfl⟩, ?_⟩)
  · obtain rfl : f = 38 := by omega
    rw [preM_all]
    repeat' ((conv => whnf); first
        | refine CutN.plain ?_
        | with_reducible refine Br.tt ?_
        | with_reducible refine Br.ff ?_
        | with_reducible refine Br.nt ?_
        | with_reducible refine Br.nf ?_
        | with_reducible refine Br.eeI ?_
        | with_reducible refine Br.nnI ?_
        | refine Br.yes (by decide) ?_
        | refine Br.no (by decide) ?_
        | refine AppN.own ?_
        | refine Need.go rfl ?_
        | refine QuiD.quiet (by kernel_rfl) ?_
        | refine IdxN.lit ?_
        | refine draw_go tabOK (by kernel_rfl) ?_
        | refine Need.go ⟨rfl, rfl⟩ ?_
        | refine Need.go ⟨⟨rfl, rfl, rfl⟩, rfl⟩ ?_
        | (with_reducible refine Br.dec (fun h => ?_) (fun h => ?_); first | (rotate_left; exfalso; omega; clear h) | (exfalso; omega; clear h) | skip)
        | (with_reducible refine Br.eqI (fun h => ?_) (fun h => ?_); first | (rotate_left; exfalso; omega; clear h) | (exfalso; omega; clear h) | skip)
        | (with_reducible refine Br.neI (fun h => ?_) (fun h => ?_); first | (rotate_left; exfalso; omega; clear h) | (exfalso; omega; clear h) | skip)
        | (with_reducible refine Br.eqS (fun h => ?_) (fun h => ?_); first | (rotate_left; exfalso; omega; clear h) | (exfalso; omega; clear h) | skip)
        | (with_reducible refine Br.neS (fun h => ?_) (fun h => ?_); first | (rotate_left; exfalso; omega; clear h) | (exfalso; omega; clear h) | skip)
        | (with_reducible refine Br.nd (fun h => ?_) (fun h => ?_); first | (rotate_left; exfalso; omega; clear h) | (exfalso; omega; clear h) | skip)
        | refine Ar.i64 (by omega) (by omega) ?_
        | refine Need.go (by first | omega | decide | (simp <;> omega) | fail) ?_
        | refine Need.go (by first | (simp [Value.oneCell'] <;> omega) | fail) ?_
        | refine Need.go ⟨rfl, by omega, getD_one rfl rfl⟩ ?_
        | refine Need.go ⟨rfl, by omega, fun _ _ _ _ => rfl⟩ ?_
        | refine Br.both (fun h => ?_) (fun h => ?_))
    all_goals (conv => whnf)
    refine ⟨_, _, ⟨rfl, rfl⟩, by simp, trivial, ⟨[some 0, some 1, some 2], ⟨by decide, rfl⟩, ?_, ?_⟩⟩
    all_goals repeat' (first | exact leT_junk rfl | refine And.intro ?_ ?_ | exact trivial | exact .inl ⟨rfl, rfl⟩ | rfl | exact .inr ⟨_, rfl, rfl, rfl⟩ | exact ⟨_, rfl, trivial⟩ | exact ⟨_, rfl, rfl⟩ | exact ⟨_, rfl, ⟨rfl, rfl, rfl⟩, fun _ _ _ _ => rfl⟩ | exact ⟨_, rfl, ⟨rfl, rfl, .inl rfl⟩, rfl⟩ | exact ⟨_, rfl, ⟨rfl, rfl, .inr rfl⟩, rfl⟩ | exact ⟨_, rfl, ⟨rfl, rfl, rfl, rfl, rfl⟩, rfl⟩ | exact ⟨_, rfl, ⟨rfl, rfl⟩, fun _ => Iff.rfl⟩ | refine ⟨_, rfl, rfl, ?_⟩ | refine ⟨_, rfl, ⟨rfl, rfl, rfl⟩, ?_⟩)
set_option maxRecDepth 100000 in
set_option maxHeartbeats 4000000 in
theorem rlDouble_no (f t i : Int) {L' : List MailM} {er : Int} (hm : doubleM cap L f t i = (L', er)) (h0 : ¬ er = 0) :
    Spec Try.prog 34 [.p 0 0, .v (.int .i64 f), .v (.int .i64 t), .v (.int .i64 i)] (rlH cap L) fun s H1 => s = .v (.int .i64 er) ∧ H1 = rlH cap L := by
  refine spec_x Try.func34 rfl 2 rfl rfl fun w0 U => ?_
  by_cases hi : 0 ≤ i ∧ i < (listM L f t).length
  · rw [doubleM, if_pos hi] at hm
    repeat' ((conv => whnf); first
        | refine CutN.plain ?_
        | with_reducible refine Br.tt ?_
        | with_reducible refine Br.ff ?_
        | with_reducible refine Br.nt ?_
        | with_reducible refine Br.nf ?_
        | with_reducible refine Br.eeI ?_
        | with_reducible refine Br.nnI ?_
        | refine Br.yes (by decide) ?_
        | refine Br.no (by decide) ?_
        | refine AppN.own ?_
        | refine Need.go rfl ?_
        | refine QuiD.quiet (by kernel_rfl) ?_
        | refine IdxN.lit ?_
        | refine draw_go tabOK (by kernel_rfl) ?_
        | refine Need.go ⟨rfl, rfl⟩ ?_
        | refine Need.go ⟨⟨rfl, rfl, rfl⟩, rfl⟩ ?_
        | (with_reducible refine Br.dec (fun h => ?_) (fun h => ?_); first | (rotate_left; exfalso; omega; clear h) | (exfalso; omega; clear h) | skip)
        | (with_reducible refine Br.eqI (fun h => ?_) (fun h => ?_); first | (rotate_left; exfalso; omega; clear h) | (exfalso; omega; clear h) | skip)
        | (with_reducible refine Br.neI (fun h => ?_) (fun h => ?_); first | (rotate_left; exfalso; omega; clear h) | (exfalso; omega; clear h) | skip)
        | (with_reducible refine Br.eqS (fun h => ?_) (fun h => ?_); first | (rotate_left; exfalso; omega; clear h) | (exfalso; omega; clear h) | skip)
        | (with_reducible refine Br.neS (fun h => ?_) (fun h => ?_); first | (rotate_left; exfalso; omega; clear h) | (exfalso; omega; clear h) | skip)
        | (with_reducible refine Br.nd (fun h => ?_) (fun h => ?_); first | (rotate_left; exfalso; omega; clear h) | (exfalso; omega; clear h) | skip)
        | refine Ar.i64 (by omega) (by omega) ?_
        | (refine call_sp (f := 57) (rlList cap L (by omega) f t) [0, 1] (by decide) rfl ⟨rfl, rfl, trivial⟩ rfl ?_; rintro s H1 ⟨rfl, rfl⟩)
        | (refine call_sp (f := 36) (rlSend_no cap L hL f t _ hm h0) [0, 1] (by decide) rfl ⟨rfl, rfl, trivial⟩ rfl ?_; rintro s H1 ⟨rfl, rfl⟩)
        | refine Need.go (by first | omega | decide | (simp <;> omega) | fail) ?_
        | refine Need.go (by first | (simp [Value.oneCell'] <;> omega) | fail) ?_
        | refine Need.go ⟨rfl, by omega, getD_one rfl rfl⟩ ?_
        | refine Need.go ⟨rfl, by omega, fun _ _ _ _ => rfl⟩ ?_
        | refine Br.both (fun h => ?_) (fun h => ?_))
    all_goals (conv => whnf)
    refine ⟨_, _, ⟨rfl, rfl⟩, by simp, trivial, ⟨[some 0, some 1], ⟨by decide, rfl⟩, ?_, ?_⟩⟩
    all_goals repeat' (first | exact leT_junk rfl | refine And.intro ?_ ?_ | exact trivial | exact .inl ⟨rfl, rfl⟩ | rfl | exact .inr ⟨_, rfl, rfl, rfl⟩ | exact ⟨_, rfl, trivial⟩ | exact ⟨_, rfl, rfl⟩ | exact ⟨_, rfl, ⟨rfl, rfl, rfl⟩, fun _ _ _ _ => rfl⟩ | exact ⟨_, rfl, ⟨rfl, rfl, .inl rfl⟩, rfl⟩ | exact ⟨_, rfl, ⟨rfl, rfl, .inr rfl⟩, rfl⟩ | exact ⟨_, rfl, ⟨rfl, rfl, rfl, rfl, rfl⟩, rfl⟩ | exact ⟨_, rfl, ⟨rfl, rfl⟩, fun _ => Iff.rfl⟩ | refine ⟨_, rfl, rfl, ?_⟩ | refine ⟨_, rfl, ⟨rfl, rfl, rfl⟩, ?_⟩)
  · rw [doubleM, if_neg hi] at hm
    cases hm
    repeat' ((conv => whnf); first
        | refine CutN.plain ?_
        | with_reducible refine Br.tt ?_
        | with_reducible refine Br.ff ?_
        | with_reducible refine Br.nt ?_
        | with_reducible refine Br.nf ?_
        | with_reducible refine Br.eeI ?_
        | with_reducible refine Br.nnI ?_
        | refine Br.yes (by decide) ?_
        | refine Br.no (by decide) ?_
        | refine AppN.own ?_
        | refine Need.go rfl ?_
        | refine QuiD.quiet (by kernel_rfl) ?_
        | refine IdxN.lit ?_
        | refine draw_go tabOK (by kernel_rfl) ?_
        | refine Need.go ⟨rfl, rfl⟩ ?_
        | refine Need.go ⟨⟨rfl, rfl, rfl⟩, rfl⟩ ?_
        | (with_reducible refine Br.dec (fun h => ?_) (fun h => ?_); first | (rotate_left; exfalso; omega; clear h) | (exfalso; omega; clear h) | skip)
        | (with_reducible refine Br.eqI (fun h => ?_) (fun h => ?_); first | (rotate_left; exfalso; omega; clear h) | (exfalso; omega; clear h) | skip)
        | (with_reducible refine Br.neI (fun h => ?_) (fun h => ?_); first | (rotate_left; exfalso; omega; clear h) | (exfalso; omega; clear h) | skip)
        | (with_reducible refine Br.eqS (fun h => ?_) (fun h => ?_); first | (rotate_left; exfalso; omega; clear h) | (exfalso; omega; clear h) | skip)
        | (with_reducible refine Br.neS (fun h => ?_) (fun h => ?_); first | (rotate_left; exfalso; omega; clear h) | (exfalso; omega; clear h) | skip)
        | (with_reducible refine Br.nd (fun h => ?_) (fun h => ?_); first | (rotate_left; exfalso; omega; clear h) | (exfalso; omega; clear h) | skip)
        | refine Ar.i64 (by omega) (by omega) ?_
        | (refine call_sp (f := 57) (rlList cap L (by omega) f t) [0, 1] (by decide) rfl ⟨rfl, rfl, trivial⟩ rfl ?_; rintro s H1 ⟨rfl, rfl⟩)
        | refine Need.go (by first | omega | decide | (simp <;> omega) | fail) ?_
        | refine Need.go (by first | (simp [Value.oneCell'] <;> omega) | fail) ?_
        | refine Need.go ⟨rfl, by omega, getD_one rfl rfl⟩ ?_
        | refine Need.go ⟨rfl, by omega, fun _ _ _ _ => rfl⟩ ?_
        | refine Br.both (fun h => ?_) (fun h => ?_))
    all_goals (conv => whnf)
    all_goals
      refine ⟨_, _, ⟨rfl, rfl⟩, by simp, trivial, ⟨[some 0, some 1], ⟨by decide, rfl⟩, ?_, ?_⟩⟩
      all_goals repeat' (first | exact leT_junk rfl | refine And.intro ?_ ?_ | exact trivial | exact .inl ⟨rfl, rfl⟩ | rfl | exact .inr ⟨_, rfl, rfl, rfl⟩ | exact ⟨_, rfl, trivial⟩ | exact ⟨_, rfl, rfl⟩ | exact ⟨_, rfl, ⟨rfl, rfl, rfl⟩, fun _ _ _ _ => rfl⟩ | exact ⟨_, rfl, ⟨rfl, rfl, .inl rfl⟩, rfl⟩ | exact ⟨_, rfl, ⟨rfl, rfl, .inr rfl⟩, rfl⟩ | exact ⟨_, rfl, ⟨rfl, rfl, rfl, rfl, rfl⟩, rfl⟩ | exact ⟨_, rfl, ⟨rfl, rfl⟩, fun _ => Iff.rfl⟩ | refine ⟨_, rfl, rfl, ?_⟩ | refine ⟨_, rfl, ⟨rfl, rfl, rfl⟩, ?_⟩)
set_option maxRecDepth 100000 in
set_option maxHeartbeats 4000000 in
theorem rlDouble_yes (f t i : Int) {L' : List MailM} (hm : doubleM cap L f t i = (L', 0)) :
    Spec Try.prog 34 [.p 0 0, .v (.int .i64 f), .v (.int .i64 t), .v (.int .i64 i)] (rlH cap L) fun s H1 => s = .v (.int .i64 0) ∧ H1 = rlHp cap L' := by
  refine spec_x Try.func34 rfl 2 rfl rfl fun w0 U => ?_
  by_cases hi : 0 ≤ i ∧ i < (listM L f t).length
  · rw [doubleM, if_pos hi] at hm
    repeat' ((conv => whnf); first
        | refine CutN.plain ?_
        | with_reducible refine Br.tt ?_
        | with_reducible refine Br.ff ?_
        | with_reducible refine Br.nt ?_
        | with_reducible refine Br.nf ?_
        | with_reducible refine Br.eeI ?_
        | with_reducible refine Br.nnI ?_
        | refine Br.yes (by decide) ?_
        | refine Br.no (by decide) ?_
        | refine AppN.own ?_
        | refine Need.go rfl ?_
        | refine QuiD.quiet (by kernel_rfl) ?_
        | refine IdxN.lit ?_
        | refine draw_go tabOK (by kernel_rfl) ?_
        | refine Need.go ⟨rfl, rfl⟩ ?_
        | refine Need.go ⟨⟨rfl, rfl, rfl⟩, rfl⟩ ?_
        | (with_reducible refine Br.dec (fun h => ?_) (fun h => ?_); first | (rotate_left; exfalso; omega; clear h) | (exfalso; omega; clear h) | skip)
        | (with_reducible refine Br.eqI (fun h => ?_) (fun h => ?_); first | (rotate_left; exfalso; omega; clear h) | (exfalso; omega; clear h) | skip)
        | (with_reducible refine Br.neI (fun h => ?_) (fun h => ?_); first | (rotate_left; exfalso; omega; clear h) | (exfalso; omega; clear h) | skip)
        | (with_reducible refine Br.eqS (fun h => ?_) (fun h => ?_); first | (rotate_left; exfalso; omega; clear h) | (exfalso; omega; clear h) | skip)
        | (with_reducible refine Br.neS (fun h => ?_) (fun h => ?_); first | (rotate_left; exfalso; omega; clear h) | (exfalso; omega; clear h) | skip)
        | (with_reducible refine Br.nd (fun h => ?_) (fun h => ?_); first | (rotate_left; exfalso; omega; clear h) | (exfalso; omega; clear h) | skip)
        | refine Ar.i64 (by omega) (by omega) ?_
        | (refine call_sp (f := 57) (rlList cap L (by omega) f t) [0, 1] (by decide) rfl ⟨rfl, rfl, trivial⟩ rfl ?_; rintro s H1 ⟨rfl, rfl⟩)
        | (refine call_sp (f := 36) (rlSend_yes cap L hL f t _ hm) [0, 1] (by decide) rfl ⟨rfl, rfl, trivial⟩ rfl ?_; rintro s H1 ⟨rfl, rfl⟩)
        | refine Need.go (by first | omega | decide | (simp <;> omega) | fail) ?_
        | refine Need.go (by first | (simp [Value.oneCell'] <;> omega) | fail) ?_
        | refine Need.go ⟨rfl, by omega, getD_one rfl rfl⟩ ?_
        | refine Need.go ⟨rfl, by omega, fun _ _ _ _ => rfl⟩ ?_
        | refine Br.both (fun h => ?_) (fun h => ?_))
    all_goals (conv => whnf)
    refine ⟨_, _, ⟨rfl, rfl⟩, by simp, trivial, ⟨[some 0, some 1, some 3], ⟨by decide, rfl⟩, ?_, ?_⟩⟩
    all_goals repeat' (first | exact leT_junk rfl | refine And.intro ?_ ?_ | exact trivial | exact .inl ⟨rfl, rfl⟩ | rfl | exact .inr ⟨_, rfl, rfl, rfl⟩ | exact ⟨_, rfl, trivial⟩ | exact ⟨_, rfl, rfl⟩ | exact ⟨_, rfl, ⟨rfl, rfl, rfl⟩, fun _ _ _ _ => rfl⟩ | exact ⟨_, rfl, ⟨rfl, rfl, .inl rfl⟩, rfl⟩ | exact ⟨_, rfl, ⟨rfl, rfl, .inr rfl⟩, rfl⟩ | exact ⟨_, rfl, ⟨rfl, rfl, rfl, rfl, rfl⟩, rfl⟩ | exact ⟨_, rfl, ⟨rfl, rfl⟩, fun _ => Iff.rfl⟩ | refine ⟨_, rfl, rfl, ?_⟩ | refine ⟨_, rfl, ⟨rfl, rfl, rfl⟩, ?_⟩)
  · rw [doubleM, if_neg hi] at hm
    injection hm with _ h
    cases h
end
end Go.Proofs.Ytfniieigeofbdaa
