/-
  The master: Chain, Whole, Suspect, Drain, Join. No condition.
-/
import Derived.Test.YtghfigeepnbjaaaMas2
namespace Go.Proofs.Ytghfigeepnbjaaa
open Go.RowKit
set_option maxRecDepth 100000 in
set_option maxHeartbeats 1000000 in
theorem masChain (m : MasM) (hm : m.ok) : Spec Try.prog 19 [.p 0 0] (masH m) fun s H1 => s = .agg [.v (.int .i64 m.ch.epoch), .os 2 m.ch.mem.length, .v (.int .i64 m.ch.drain)] ∧ H1 = masH m ++ [memE m.ch] := by
  have hn := hm.nodes
  refine spec_x Try.func19 rfl 2 rfl rfl fun w0 U => ?_
  have hl := okCh_len hm.ch
  repeat' ((conv => whnf); first | refine CutN.plain ?_ | with_reducible refine Br.nf ?_ | refine Need.go rfl ?_ | (with_reducible refine Br.nd (fun h => ?_) (fun h => ?_) <;> first | (exfalso; omega) | skip) | refine call_inlineL (f := 62) Try.func62 rfl ?_ | refine call_inlineL (f := 54) Try.func54 rfl ?_ | refine Need.go ⟨rfl, Nat.le_refl _, memF_one _⟩ ?_ | refine Need.go (by first | omega | decide | (simp <;> omega) | fail) ?_)
  all_goals (conv => whnf)
  refine ⟨_, _, ⟨rfl, rfl⟩, by simp, trivial, ⟨[some 0, some 1, some 5], ⟨by decide, rfl⟩, ?_, ?_⟩⟩
  all_goals repeat' (first | exact leT_junk rfl | refine And.intro ?_ ?_ | exact trivial | exact .inl ⟨rfl, rfl⟩ | rfl | exact .inr ⟨_, rfl, rfl, rfl⟩ | exact ⟨_, rfl, trivial⟩ | exact ⟨_, rfl, rfl⟩ | exact ⟨_, rfl, ⟨rfl, rfl, rfl⟩, fun _ _ _ _ => rfl⟩ | exact ⟨_, rfl, ⟨rfl, rfl, .inl rfl⟩, rfl⟩ | exact ⟨_, rfl, ⟨rfl, rfl, .inr rfl⟩, rfl⟩ | exact ⟨_, rfl, ⟨rfl, rfl, rfl, rfl, rfl⟩, rfl⟩ | exact ⟨_, rfl, ⟨rfl, rfl⟩, fun _ => Iff.rfl⟩ | refine ⟨_, rfl, rfl, ?_⟩)
/-- Is a node a member that is known to have all? -/
def wholeM (m : MasM) (n : Int) : Bool := isMemM m n && m.whole n.toNat
theorem isMem_in {m : MasM} (hm : m.ok) {n : Int} (h : isMemM m n = true) : 0 ≤ n ∧ n < 6 := by
  unfold isMemM sinceM at h
  split at h
  · rename_i ha
    obtain ⟨k, hk⟩ := Int.eq_ofNat_of_zero_le ha.2
    have h1 := atM_mem hk
    have := nd_ok hm.ch h1.1
    rw [h1.2] at this
    omega
  · cases h
set_option maxRecDepth 100000 in
set_option maxHeartbeats 2000000 in
theorem masWhole (m : MasM) (hm : m.ok) (n : Int) : Spec Try.prog 24 [.p 0 0, .v (.int .i64 n)] (masH m) fun s H1 => s = .v (.bool (wholeM m n)) ∧ H1 = masH m := by
  have hn := hm.nodes
  have hme := masMember m hm n
  refine spec_x Try.func24 rfl 2 rfl rfl fun w0 U => ?_
  cases hb : isMemM m n with
  | false =>
    have e : wholeM m n = false := by unfold wholeM; rw [hb]; rfl
    rw [hb] at hme
    rw [e]
    repeat' ((conv => whnf); first | with_reducible refine Br.ff ?_ | with_reducible refine Br.nf ?_ | refine Need.go rfl ?_ | (with_reducible refine Br.dec (fun h => ?_) (fun h => ?_) <;> first | (exfalso; omega) | skip) | refine call_inlineL (f := 54) Try.func54 rfl ?_ | (refine call_sp (f := 58) (hme) [0, 1] (by decide) rfl ⟨rfl, rfl, trivial⟩ rfl ?_; rintro s H1 ⟨rfl, rfl⟩))
    all_goals (conv => whnf)
    refine ⟨_, _, ⟨rfl, rfl⟩, by simp, trivial, less2 ?_ ?_⟩
    all_goals repeat' (first | exact leT_junk rfl | refine And.intro ?_ ?_ | exact trivial | exact .inl ⟨rfl, rfl⟩ | rfl | exact .inr ⟨_, rfl, rfl, rfl⟩ | exact ⟨_, rfl, trivial⟩ | exact ⟨_, rfl, rfl⟩ | exact ⟨_, rfl, ⟨rfl, rfl, rfl⟩, fun _ _ _ _ => rfl⟩ | exact ⟨_, rfl, ⟨rfl, rfl, .inl rfl⟩, rfl⟩ | exact ⟨_, rfl, ⟨rfl, rfl, .inr rfl⟩, rfl⟩ | exact ⟨_, rfl, ⟨rfl, rfl, rfl, rfl, rfl⟩, rfl⟩ | exact ⟨_, rfl, ⟨rfl, rfl⟩, fun _ => Iff.rfl⟩ | refine ⟨_, rfl, rfl, ?_⟩)
  | true =>
    have hi := isMem_in hm hb
    have e : wholeM m n = m.whole n.toNat := by unfold wholeM; rw [hb]; rfl
    rw [hb] at hme
    rw [e]
    have hc : n = 0 ∨ n = 1 ∨ n = 2 ∨ n = 3 ∨ n = 4 ∨ n = 5 := by omega
    clear hi
    rcases hc with rfl | rfl | rfl | rfl | rfl | rfl
    all_goals
      repeat' ((conv => whnf); first | with_reducible refine Br.tt ?_ | with_reducible refine Br.nf ?_ | refine Need.go rfl ?_ | refine IdxN.lit ?_ | (with_reducible refine Br.dec (fun h => ?_) (fun h => ?_) <;> first | (exfalso; omega) | skip) | refine call_inlineL (f := 54) Try.func54 rfl ?_ | (refine call_sp (f := 58) (hme) [0, 1] (by decide) rfl ⟨rfl, rfl, trivial⟩ rfl ?_; rintro s H1 ⟨rfl, rfl⟩) | refine Need.go (by first | omega | decide | (simp <;> omega) | fail) ?_)
      all_goals (conv => whnf)
      refine ⟨_, _, ⟨rfl, rfl⟩, by simp, trivial, less2 ?_ ?_⟩
      all_goals repeat' (first | exact leT_junk rfl | refine And.intro ?_ ?_ | exact trivial | exact .inl ⟨rfl, rfl⟩ | rfl | exact .inr ⟨_, rfl, rfl, rfl⟩ | exact ⟨_, rfl, trivial⟩ | exact ⟨_, rfl, rfl⟩ | exact ⟨_, rfl, ⟨rfl, rfl, rfl⟩, fun _ _ _ _ => rfl⟩ | exact ⟨_, rfl, ⟨rfl, rfl, .inl rfl⟩, rfl⟩ | exact ⟨_, rfl, ⟨rfl, rfl, .inr rfl⟩, rfl⟩ | exact ⟨_, rfl, ⟨rfl, rfl, rfl, rfl, rfl⟩, rfl⟩ | exact ⟨_, rfl, ⟨rfl, rfl⟩, fun _ => Iff.rfl⟩ | refine ⟨_, rfl, rfl, ?_⟩)
/-- What a master is asked for comes to: it as it is behind it, what is sent, and an error. -/
structure Out where
  m : MasM
  l : List SndM
  er : Int
def suspectM (m : MasM) (n : Int) : Out := if isMemM m n = false then ⟨m, [], 4⟩ else if mayGoM m n = false then ⟨m, [], 72⟩ else if (withoutM m.ch n).2 = 0 then ⟨goneM m n, allM (goneM m n), 0⟩ else ⟨m, [], (withoutM m.ch n).2⟩
def leavingM (m : MasM) (c : ChM) : MasM := { m with ch := c }
def drainMM (m : MasM) (n : Int) : Out := if isMemM m n = false then ⟨m, [], 4⟩ else if mayGoM m n = false then ⟨m, [], 72⟩ else if (drainM m.ch n).2 = 0 then ⟨leavingM m (drainM m.ch n).1, allM (leavingM m (drainM m.ch n).1), 0⟩ else ⟨m, [], (drainM m.ch n).2⟩
def joinM (m : MasM) (n now : Int) (c : ChM) : MasM := { m with ch := c, whole := fun i => if i = n.toNat then false else m.whole i, heard := fun i => if i = n.toNat then nearM now else m.heard i }
def joinMM (m : MasM) (n now : Int) : Out := if n < 0 ∨ m.nodes ≤ n then ⟨m, [], 2⟩ else if (withM m.ch n).2 = 0 then ⟨joinM m n now (withM m.ch n).1, allM (joinM m n now (withM m.ch n).1), 0⟩ else ⟨m, [], (withM m.ch n).2⟩
theorem without_keeps {m : MasM} (hm : m.ok) {n : Int} (h : (withoutM m.ch n).2 = 0) : (goneM m n).ok := by
  obtain ⟨c1, hc1⟩ : ∃ c1, withoutM m.ch n = (c1, 0) := ⟨(withoutM m.ch n).1, by rw [← h]⟩
  have := (without_ok hm.ch hc1).1
  exact ⟨hm.nodes, hm.pat, by unfold goneM; rw [hc1]; exact this, hm.heard⟩
theorem nearM_in (n : Int) : 0 ≤ nearM n ∧ nearM n ≤ 1099511627776 := by unfold nearM; omega
theorem join_keeps {m : MasM} (hm : m.ok) {n : Int} (now : Int) (h : (withM m.ch n).2 = 0) : (joinM m n now (withM m.ch n).1).ok := by
  obtain ⟨c1, hc1⟩ : ∃ c1, withM m.ch n = (c1, 0) := ⟨(withM m.ch n).1, by rw [← h]⟩
  have := (with_ok hm.ch hc1).1
  refine ⟨hm.nodes, hm.pat, by unfold joinM; rw [hc1]; exact this, fun i => ?_⟩
  show 0 ≤ (if i = n.toNat then nearM now else m.heard i) ∧ (if i = n.toNat then nearM now else m.heard i) ≤ 1099511627776
  split
  · exact nearM_in now
  · exact hm.heard i
/-- What lies there behind it: nothing was sent, or something. -/
def outR (o : Out) (mk : SV → SV) (s : SV) (H1 : List HE) : Prop :=
  (o.l = [] ∧ s = mk (.v (.slice none 0 0)) ∧ H1 = masH o.m) ∨ (∃ p Z, s = mk (.os 2 o.l.length) ∧ H1 = masH o.m ++ [sndE o.l p, .res true Z (sndQ o.l p)]) ∨ (∃ p Z, s = mk (.os 3 o.l.length) ∧ H1 = masHn o.m ++ [sndE o.l p, .res true Z (sndQ o.l p)])
set_option maxRecDepth 100000 in
set_option maxHeartbeats 2000000 in
theorem masSuspect (m : MasM) (hm : m.ok) (n : Int) : Spec Try.prog 21 [.p 0 0, .v (.int .i64 n)] (masH m) (outR (suspectM m n) fun q => .tup [q, .v (.int .i64 (suspectM m n).er)]) := by
  have hn := hm.nodes
  have hme := masMember m hm n
  have hgo := masMayGo m hm n
  refine spec_x Try.func21 rfl 2 rfl rfl fun w0 U => ?_
  cases h1 : isMemM m n with
  | false =>
    have e : suspectM m n = ⟨m, [], 4⟩ := if_pos h1
    rw [h1] at hme
    rw [e]
    repeat' ((conv => whnf); first | refine CutN.plain ?_ | with_reducible refine Br.nf ?_ | refine Need.go rfl ?_ | (with_reducible refine Br.nd (fun h => ?_) (fun h => ?_) <;> first | (exfalso; omega) | skip) | refine call_inlineL (f := 54) Try.func54 rfl ?_ | (refine call_sp (f := 58) (hme) [0, 1] (by decide) rfl ⟨rfl, rfl, trivial⟩ rfl ?_; rintro s H1 ⟨rfl, rfl⟩))
    all_goals (conv => whnf)
    refine ⟨_, _, .inl ⟨rfl, rfl, rfl⟩, by simp, trivial, less2 ?_ ?_⟩
    all_goals repeat' (first | exact leT_junk rfl | refine And.intro ?_ ?_ | exact trivial | exact .inl ⟨rfl, rfl⟩ | rfl | exact .inr ⟨_, rfl, rfl, rfl⟩ | exact ⟨_, rfl, trivial⟩ | exact ⟨_, rfl, rfl⟩ | exact ⟨_, rfl, ⟨rfl, rfl, rfl⟩, fun _ _ _ _ => rfl⟩ | exact ⟨_, rfl, ⟨rfl, rfl, .inl rfl⟩, rfl⟩ | exact ⟨_, rfl, ⟨rfl, rfl, .inr rfl⟩, rfl⟩ | exact ⟨_, rfl, ⟨rfl, rfl, rfl, rfl, rfl⟩, rfl⟩ | exact ⟨_, rfl, ⟨rfl, rfl⟩, fun _ => Iff.rfl⟩ | refine ⟨_, rfl, rfl, ?_⟩)
  | true =>
    cases h2 : mayGoM m n with
    | false =>
      have e : suspectM m n = ⟨m, [], 72⟩ := by unfold suspectM; rw [if_neg (by rw [h1]; exact Bool.noConfusion), if_pos h2]
      rw [h1] at hme
      rw [h2] at hgo
      rw [e]
      repeat' ((conv => whnf); first | refine CutN.plain ?_ | with_reducible refine Br.nt ?_ | with_reducible refine Br.nf ?_ | refine Need.go rfl ?_ | (with_reducible refine Br.nd (fun h => ?_) (fun h => ?_) <;> first | (exfalso; omega) | skip) | refine call_inlineL (f := 54) Try.func54 rfl ?_ | (refine call_sp (f := 58) (hme) [0, 1] (by decide) rfl ⟨rfl, rfl, trivial⟩ rfl ?_; rintro s H1 ⟨rfl, rfl⟩) | (refine call_sp (f := 59) (hgo) [0, 1] (by decide) rfl ⟨rfl, rfl, trivial⟩ rfl ?_; rintro s H1 ⟨rfl, rfl⟩))
      all_goals (conv => whnf)
      refine ⟨_, _, .inl ⟨rfl, rfl, rfl⟩, by simp, trivial, less2 ?_ ?_⟩
      all_goals repeat' (first | exact leT_junk rfl | refine And.intro ?_ ?_ | exact trivial | exact .inl ⟨rfl, rfl⟩ | rfl | exact .inr ⟨_, rfl, rfl, rfl⟩ | exact ⟨_, rfl, trivial⟩ | exact ⟨_, rfl, rfl⟩ | exact ⟨_, rfl, ⟨rfl, rfl, rfl⟩, fun _ _ _ _ => rfl⟩ | exact ⟨_, rfl, ⟨rfl, rfl, .inl rfl⟩, rfl⟩ | exact ⟨_, rfl, ⟨rfl, rfl, .inr rfl⟩, rfl⟩ | exact ⟨_, rfl, ⟨rfl, rfl, rfl, rfl, rfl⟩, rfl⟩ | exact ⟨_, rfl, ⟨rfl, rfl⟩, fun _ => Iff.rfl⟩ | refine ⟨_, rfl, rfl, ?_⟩)
    | true =>
      rw [h1] at hme
      rw [h2] at hgo
      by_cases h3 : (withoutM m.ch n).2 = 0
      · have e : suspectM m n = ⟨goneM m n, allM (goneM m n), 0⟩ := by unfold suspectM; rw [if_neg (by rw [h1]; exact Bool.noConfusion), if_neg (by rw [h2]; exact Bool.noConfusion), if_pos h3]
        rw [e]
        have hok := without_keeps hm h3
        repeat' ((conv => whnf); first | refine CutN.plain ?_ | with_reducible refine Br.nt ?_ | with_reducible refine Br.nf ?_ | with_reducible refine Br.nnI ?_ | refine Need.go rfl ?_ | (with_reducible refine Br.nd (fun h => ?_) (fun h => ?_) <;> first | (exfalso; omega) | skip) | refine call_inlineL (f := 54) Try.func54 rfl ?_ | (refine call_sp (f := 58) (hme) [0, 1] (by decide) rfl ⟨rfl, rfl, trivial⟩ rfl ?_; rintro s H1 ⟨rfl, rfl⟩) | (refine call_sp (f := 59) (hgo) [0, 1] (by decide) rfl ⟨rfl, rfl, trivial⟩ rfl ?_; rintro s H1 ⟨rfl, rfl⟩) | (refine call_sp (f := 60) (masOut_yes m hm n h3) [0, 1] (by decide) rfl ⟨rfl, rfl, trivial⟩ rfl ?_; rintro s H1 ⟨rfl, rfl⟩) | refine call_sp (f := 61) (masAll (goneM m n) hok) [0, 2] (by decide) rfl ⟨rfl, rfl, trivial⟩ rfl ?_; rintro s H1 ⟨p, Z, rfl, rfl⟩)
        all_goals (conv => whnf)
        refine ⟨_, _, .inr (.inr ⟨p, Z, rfl, rfl⟩), by simp, ⟨rfl, trivial⟩, ⟨[some 0, some 1, some 2, some 3, some 4], ⟨by decide, rfl⟩, ?_, ?_⟩⟩
        all_goals repeat' (first | exact leT_junk rfl | refine And.intro ?_ ?_ | exact trivial | exact .inl ⟨rfl, rfl⟩ | rfl | exact .inr ⟨_, rfl, rfl, rfl⟩ | exact ⟨_, rfl, trivial⟩ | exact ⟨_, rfl, rfl⟩ | exact ⟨_, rfl, ⟨rfl, rfl, rfl⟩, fun _ _ _ _ => rfl⟩ | exact ⟨_, rfl, ⟨rfl, rfl, .inl rfl⟩, rfl⟩ | exact ⟨_, rfl, ⟨rfl, rfl, .inr rfl⟩, rfl⟩ | exact ⟨_, rfl, ⟨rfl, rfl, rfl, rfl, rfl⟩, rfl⟩ | exact ⟨_, rfl, ⟨rfl, rfl⟩, fun _ => Iff.rfl⟩ | refine ⟨_, rfl, rfl, ?_⟩)
      · have e : suspectM m n = ⟨m, [], (withoutM m.ch n).2⟩ := by unfold suspectM; rw [if_neg (by rw [h1]; exact Bool.noConfusion), if_neg (by rw [h2]; exact Bool.noConfusion), if_neg h3]
        rw [e]
        repeat' ((conv => whnf); first | refine CutN.plain ?_ | with_reducible refine Br.nt ?_ | with_reducible refine Br.nf ?_ | refine Need.go rfl ?_ | (with_reducible refine Br.neI (fun h => ?_) (fun h => ?_) <;> first | (exfalso; omega) | skip) | (with_reducible refine Br.nd (fun h => ?_) (fun h => ?_) <;> first | (exfalso; omega) | skip) | refine call_inlineL (f := 54) Try.func54 rfl ?_ | (refine call_sp (f := 58) (hme) [0, 1] (by decide) rfl ⟨rfl, rfl, trivial⟩ rfl ?_; rintro s H1 ⟨rfl, rfl⟩) | (refine call_sp (f := 59) (hgo) [0, 1] (by decide) rfl ⟨rfl, rfl, trivial⟩ rfl ?_; rintro s H1 ⟨rfl, rfl⟩) | (refine call_sp (f := 60) (masOut_no m hm n _ rfl h3) [0, 1] (by decide) rfl ⟨rfl, rfl, trivial⟩ rfl ?_; rintro s H1 ⟨rfl, rfl⟩))
        all_goals (conv => whnf)
        refine ⟨_, _, .inl ⟨rfl, rfl, rfl⟩, by simp, trivial, less2 ?_ ?_⟩
        all_goals repeat' (first | exact leT_junk rfl | refine And.intro ?_ ?_ | exact trivial | exact .inl ⟨rfl, rfl⟩ | rfl | exact .inr ⟨_, rfl, rfl, rfl⟩ | exact ⟨_, rfl, trivial⟩ | exact ⟨_, rfl, rfl⟩ | exact ⟨_, rfl, ⟨rfl, rfl, rfl⟩, fun _ _ _ _ => rfl⟩ | exact ⟨_, rfl, ⟨rfl, rfl, .inl rfl⟩, rfl⟩ | exact ⟨_, rfl, ⟨rfl, rfl, .inr rfl⟩, rfl⟩ | exact ⟨_, rfl, ⟨rfl, rfl, rfl, rfl, rfl⟩, rfl⟩ | exact ⟨_, rfl, ⟨rfl, rfl⟩, fun _ => Iff.rfl⟩ | refine ⟨_, rfl, rfl, ?_⟩)
set_option maxRecDepth 100000 in
set_option maxHeartbeats 4000000 in
theorem masJoin (m : MasM) (hm : m.ok) (n now : Int) : Spec Try.prog 20 [.p 0 0, .v (.int .i64 n), .v (.int .i64 now)] (masH m) (outR (joinMM m n now) fun q => .tup [q, .v (.int .i64 (joinMM m n now).er)]) := by
  have hn := hm.nodes
  have hl := okCh_len hm.ch
  refine spec_x Try.func20 rfl 2 rfl rfl fun w0 U => ?_
  by_cases h1 : n < 0 ∨ m.nodes ≤ n
  · have e : joinMM m n now = ⟨m, [], 2⟩ := if_pos h1
    rw [e]
    repeat' ((conv => whnf); first | refine CutN.plain ?_ | with_reducible refine Br.nf ?_ | refine Need.go rfl ?_ | (with_reducible refine Br.dec (fun h => ?_) (fun h => ?_) <;> first | (exfalso; omega) | skip) | (with_reducible refine Br.nd (fun h => ?_) (fun h => ?_) <;> first | (exfalso; omega) | skip) | refine call_inlineL (f := 54) Try.func54 rfl ?_ | refine call_inlineL (f := 56) Try.func56 rfl ?_)
    all_goals (conv => whnf)
    all_goals
      refine ⟨_, _, .inl ⟨rfl, rfl, rfl⟩, by simp, trivial, less2 ?_ ?_⟩
      all_goals repeat' (first | exact leT_junk rfl | refine And.intro ?_ ?_ | exact trivial | exact .inl ⟨rfl, rfl⟩ | rfl | exact .inr ⟨_, rfl, rfl, rfl⟩ | exact ⟨_, rfl, trivial⟩ | exact ⟨_, rfl, rfl⟩ | exact ⟨_, rfl, ⟨rfl, rfl, rfl⟩, fun _ _ _ _ => rfl⟩ | exact ⟨_, rfl, ⟨rfl, rfl, .inl rfl⟩, rfl⟩ | exact ⟨_, rfl, ⟨rfl, rfl, .inr rfl⟩, rfl⟩ | exact ⟨_, rfl, ⟨rfl, rfl, rfl, rfl, rfl⟩, rfl⟩ | exact ⟨_, rfl, ⟨rfl, rfl⟩, fun _ => Iff.rfl⟩ | refine ⟨_, rfl, rfl, ?_⟩)
  · by_cases h3 : (withM m.ch n).2 = 0
    · have e : joinMM m n now = ⟨joinM m n now (withM m.ch n).1, allM (joinM m n now (withM m.ch n).1), 0⟩ := by unfold joinMM; rw [if_neg h1, if_pos h3]
      have hok := join_keeps hm now h3
      rw [e]
      obtain ⟨c1, hc1⟩ : ∃ c1, withM m.ch n = (c1, 0) := ⟨(withM m.ch n).1, by rw [← h3]⟩
      rw [show (withM m.ch n).1 = c1 by rw [hc1]] at hok ⊢
      have hc : n = 0 ∨ n = 1 ∨ n = 2 ∨ n = 3 ∨ n = 4 ∨ n = 5 := by omega
      rcases hc with rfl | rfl | rfl | rfl | rfl | rfl
      · repeat' ((conv => whnf); first | refine CutN.plain ?_ | with_reducible refine Br.nf ?_ | with_reducible refine Br.nnI ?_ | refine Br.yes (by decide) ?_ | refine Need.go rfl ?_ | refine IdxN.lit ?_ | refine draw_go tabOK (by kernel_rfl) ?_ | (with_reducible refine Br.nd (fun h => ?_) (fun h => ?_) <;> first | (exfalso; omega) | skip) | refine call_inlineL (f := 54) Try.func54 rfl ?_ | refine call_inlineL (f := 56) Try.func56 rfl ?_ | (refine seg_mem (f := 57) (args := [.v (.int .i64 now)]) (V := .int .i64 (nearM now)) ?_ ?_; exact fun ρ w h => masWithin_any now w) | refine chWith_n m.ch c1 _ 0 hc1 (.os 1 m.ch.mem.length) (fun ρ w h => sl_os h rfl) (by omega) ?_ | (refine call_less (f := 61) (args := [.p 0 0]) (H1 := [.blk 77 (masL 2 (joinM m 0 now c1)), .none, memE c1, .none]) rfl ⟨[some 0, some 1, some 2, some 3], ⟨by decide, rfl⟩, (by repeat' (first | exact trivial | exact .inl ⟨rfl, rfl⟩ | rfl | exact ⟨_, rfl, trivial⟩ | exact ⟨_, rfl, rfl⟩ | exact ⟨_, rfl, ⟨rfl, rfl, rfl⟩, fun _ _ _ _ => rfl⟩ | refine ⟨_, rfl, rfl, ?_⟩ | refine And.intro ?_ ?_)), trivial⟩ rfl ?_; refine call_sp (f := 61) (masAll (joinM m 0 now c1) hok) [0, 2] (by decide) rfl ⟨rfl, rfl, trivial⟩ rfl ?_; rintro s H1 ⟨p, Z, rfl, rfl⟩) | refine Need.go (by first | omega | decide | (simp <;> omega) | fail) ?_)
        all_goals (conv => whnf)
        refine ⟨_, _, .inr (.inr ⟨p, Z, rfl, rfl⟩), by simp, ⟨rfl, trivial⟩, ⟨[some 0, some 1, some 2, some 4, some 5], ⟨by decide, rfl⟩, ?_, ?_⟩⟩
        all_goals repeat' (first | exact leT_junk rfl | refine And.intro ?_ ?_ | exact trivial | exact .inl ⟨rfl, rfl⟩ | rfl | exact .inr ⟨_, rfl, rfl, rfl⟩ | exact ⟨_, rfl, trivial⟩ | exact ⟨_, rfl, rfl⟩ | exact ⟨_, rfl, ⟨rfl, rfl, rfl⟩, fun _ _ _ _ => rfl⟩ | exact ⟨_, rfl, ⟨rfl, rfl, .inl rfl⟩, rfl⟩ | exact ⟨_, rfl, ⟨rfl, rfl, .inr rfl⟩, rfl⟩ | exact ⟨_, rfl, ⟨rfl, rfl, rfl, rfl, rfl⟩, rfl⟩ | exact ⟨_, rfl, ⟨rfl, rfl⟩, fun _ => Iff.rfl⟩ | refine ⟨_, rfl, rfl, ?_⟩)
      · repeat' ((conv => whnf); first | refine CutN.plain ?_ | with_reducible refine Br.nf ?_ | with_reducible refine Br.nnI ?_ | refine Br.yes (by decide) ?_ | refine Need.go rfl ?_ | refine IdxN.lit ?_ | refine draw_go tabOK (by kernel_rfl) ?_ | (with_reducible refine Br.nd (fun h => ?_) (fun h => ?_) <;> first | (exfalso; omega) | skip) | refine call_inlineL (f := 54) Try.func54 rfl ?_ | refine call_inlineL (f := 56) Try.func56 rfl ?_ | (refine seg_mem (f := 57) (args := [.v (.int .i64 now)]) (V := .int .i64 (nearM now)) ?_ ?_; exact fun ρ w h => masWithin_any now w) | refine chWith_n m.ch c1 _ 0 hc1 (.os 1 m.ch.mem.length) (fun ρ w h => sl_os h rfl) (by omega) ?_ | (refine call_less (f := 61) (args := [.p 0 0]) (H1 := [.blk 77 (masL 2 (joinM m 1 now c1)), .none, memE c1, .none]) rfl ⟨[some 0, some 1, some 2, some 3], ⟨by decide, rfl⟩, (by repeat' (first | exact trivial | exact .inl ⟨rfl, rfl⟩ | rfl | exact ⟨_, rfl, trivial⟩ | exact ⟨_, rfl, rfl⟩ | exact ⟨_, rfl, ⟨rfl, rfl, rfl⟩, fun _ _ _ _ => rfl⟩ | refine ⟨_, rfl, rfl, ?_⟩ | refine And.intro ?_ ?_)), trivial⟩ rfl ?_; refine call_sp (f := 61) (masAll (joinM m 1 now c1) hok) [0, 2] (by decide) rfl ⟨rfl, rfl, trivial⟩ rfl ?_; rintro s H1 ⟨p, Z, rfl, rfl⟩) | refine Need.go (by first | omega | decide | (simp <;> omega) | fail) ?_)
        all_goals (conv => whnf)
        refine ⟨_, _, .inr (.inr ⟨p, Z, rfl, rfl⟩), by simp, ⟨rfl, trivial⟩, ⟨[some 0, some 1, some 2, some 4, some 5], ⟨by decide, rfl⟩, ?_, ?_⟩⟩
        all_goals repeat' (first | exact leT_junk rfl | refine And.intro ?_ ?_ | exact trivial | exact .inl ⟨rfl, rfl⟩ | rfl | exact .inr ⟨_, rfl, rfl, rfl⟩ | exact ⟨_, rfl, trivial⟩ | exact ⟨_, rfl, rfl⟩ | exact ⟨_, rfl, ⟨rfl, rfl, rfl⟩, fun _ _ _ _ => rfl⟩ | exact ⟨_, rfl, ⟨rfl, rfl, .inl rfl⟩, rfl⟩ | exact ⟨_, rfl, ⟨rfl, rfl, .inr rfl⟩, rfl⟩ | exact ⟨_, rfl, ⟨rfl, rfl, rfl, rfl, rfl⟩, rfl⟩ | exact ⟨_, rfl, ⟨rfl, rfl⟩, fun _ => Iff.rfl⟩ | refine ⟨_, rfl, rfl, ?_⟩)
      · repeat' ((conv => whnf); first | refine CutN.plain ?_ | with_reducible refine Br.nf ?_ | with_reducible refine Br.nnI ?_ | refine Br.yes (by decide) ?_ | refine Need.go rfl ?_ | refine IdxN.lit ?_ | refine draw_go tabOK (by kernel_rfl) ?_ | (with_reducible refine Br.nd (fun h => ?_) (fun h => ?_) <;> first | (exfalso; omega) | skip) | refine call_inlineL (f := 54) Try.func54 rfl ?_ | refine call_inlineL (f := 56) Try.func56 rfl ?_ | (refine seg_mem (f := 57) (args := [.v (.int .i64 now)]) (V := .int .i64 (nearM now)) ?_ ?_; exact fun ρ w h => masWithin_any now w) | refine chWith_n m.ch c1 _ 0 hc1 (.os 1 m.ch.mem.length) (fun ρ w h => sl_os h rfl) (by omega) ?_ | (refine call_less (f := 61) (args := [.p 0 0]) (H1 := [.blk 77 (masL 2 (joinM m 2 now c1)), .none, memE c1, .none]) rfl ⟨[some 0, some 1, some 2, some 3], ⟨by decide, rfl⟩, (by repeat' (first | exact trivial | exact .inl ⟨rfl, rfl⟩ | rfl | exact ⟨_, rfl, trivial⟩ | exact ⟨_, rfl, rfl⟩ | exact ⟨_, rfl, ⟨rfl, rfl, rfl⟩, fun _ _ _ _ => rfl⟩ | refine ⟨_, rfl, rfl, ?_⟩ | refine And.intro ?_ ?_)), trivial⟩ rfl ?_; refine call_sp (f := 61) (masAll (joinM m 2 now c1) hok) [0, 2] (by decide) rfl ⟨rfl, rfl, trivial⟩ rfl ?_; rintro s H1 ⟨p, Z, rfl, rfl⟩) | refine Need.go (by first | omega | decide | (simp <;> omega) | fail) ?_)
        all_goals (conv => whnf)
        refine ⟨_, _, .inr (.inr ⟨p, Z, rfl, rfl⟩), by simp, ⟨rfl, trivial⟩, ⟨[some 0, some 1, some 2, some 4, some 5], ⟨by decide, rfl⟩, ?_, ?_⟩⟩
        all_goals repeat' (first | exact leT_junk rfl | refine And.intro ?_ ?_ | exact trivial | exact .inl ⟨rfl, rfl⟩ | rfl | exact .inr ⟨_, rfl, rfl, rfl⟩ | exact ⟨_, rfl, trivial⟩ | exact ⟨_, rfl, rfl⟩ | exact ⟨_, rfl, ⟨rfl, rfl, rfl⟩, fun _ _ _ _ => rfl⟩ | exact ⟨_, rfl, ⟨rfl, rfl, .inl rfl⟩, rfl⟩ | exact ⟨_, rfl, ⟨rfl, rfl, .inr rfl⟩, rfl⟩ | exact ⟨_, rfl, ⟨rfl, rfl, rfl, rfl, rfl⟩, rfl⟩ | exact ⟨_, rfl, ⟨rfl, rfl⟩, fun _ => Iff.rfl⟩ | refine ⟨_, rfl, rfl, ?_⟩)
      · repeat' ((conv => whnf); first | refine CutN.plain ?_ | with_reducible refine Br.nf ?_ | with_reducible refine Br.nnI ?_ | refine Br.yes (by decide) ?_ | refine Need.go rfl ?_ | refine IdxN.lit ?_ | refine draw_go tabOK (by kernel_rfl) ?_ | (with_reducible refine Br.nd (fun h => ?_) (fun h => ?_) <;> first | (exfalso; omega) | skip) | refine call_inlineL (f := 54) Try.func54 rfl ?_ | refine call_inlineL (f := 56) Try.func56 rfl ?_ | (refine seg_mem (f := 57) (args := [.v (.int .i64 now)]) (V := .int .i64 (nearM now)) ?_ ?_; exact fun ρ w h => masWithin_any now w) | refine chWith_n m.ch c1 _ 0 hc1 (.os 1 m.ch.mem.length) (fun ρ w h => sl_os h rfl) (by omega) ?_ | (refine call_less (f := 61) (args := [.p 0 0]) (H1 := [.blk 77 (masL 2 (joinM m 3 now c1)), .none, memE c1, .none]) rfl ⟨[some 0, some 1, some 2, some 3], ⟨by decide, rfl⟩, (by repeat' (first | exact trivial | exact .inl ⟨rfl, rfl⟩ | rfl | exact ⟨_, rfl, trivial⟩ | exact ⟨_, rfl, rfl⟩ | exact ⟨_, rfl, ⟨rfl, rfl, rfl⟩, fun _ _ _ _ => rfl⟩ | refine ⟨_, rfl, rfl, ?_⟩ | refine And.intro ?_ ?_)), trivial⟩ rfl ?_; refine call_sp (f := 61) (masAll (joinM m 3 now c1) hok) [0, 2] (by decide) rfl ⟨rfl, rfl, trivial⟩ rfl ?_; rintro s H1 ⟨p, Z, rfl, rfl⟩) | refine Need.go (by first | omega | decide | (simp <;> omega) | fail) ?_)
        all_goals (conv => whnf)
        refine ⟨_, _, .inr (.inr ⟨p, Z, rfl, rfl⟩), by simp, ⟨rfl, trivial⟩, ⟨[some 0, some 1, some 2, some 4, some 5], ⟨by decide, rfl⟩, ?_, ?_⟩⟩
        all_goals repeat' (first | exact leT_junk rfl | refine And.intro ?_ ?_ | exact trivial | exact .inl ⟨rfl, rfl⟩ | rfl | exact .inr ⟨_, rfl, rfl, rfl⟩ | exact ⟨_, rfl, trivial⟩ | exact ⟨_, rfl, rfl⟩ | exact ⟨_, rfl, ⟨rfl, rfl, rfl⟩, fun _ _ _ _ => rfl⟩ | exact ⟨_, rfl, ⟨rfl, rfl, .inl rfl⟩, rfl⟩ | exact ⟨_, rfl, ⟨rfl, rfl, .inr rfl⟩, rfl⟩ | exact ⟨_, rfl, ⟨rfl, rfl, rfl, rfl, rfl⟩, rfl⟩ | exact ⟨_, rfl, ⟨rfl, rfl⟩, fun _ => Iff.rfl⟩ | refine ⟨_, rfl, rfl, ?_⟩)
      · repeat' ((conv => whnf); first | refine CutN.plain ?_ | with_reducible refine Br.nf ?_ | with_reducible refine Br.nnI ?_ | refine Br.yes (by decide) ?_ | refine Need.go rfl ?_ | refine IdxN.lit ?_ | refine draw_go tabOK (by kernel_rfl) ?_ | (with_reducible refine Br.nd (fun h => ?_) (fun h => ?_) <;> first | (exfalso; omega) | skip) | refine call_inlineL (f := 54) Try.func54 rfl ?_ | refine call_inlineL (f := 56) Try.func56 rfl ?_ | (refine seg_mem (f := 57) (args := [.v (.int .i64 now)]) (V := .int .i64 (nearM now)) ?_ ?_; exact fun ρ w h => masWithin_any now w) | refine chWith_n m.ch c1 _ 0 hc1 (.os 1 m.ch.mem.length) (fun ρ w h => sl_os h rfl) (by omega) ?_ | (refine call_less (f := 61) (args := [.p 0 0]) (H1 := [.blk 77 (masL 2 (joinM m 4 now c1)), .none, memE c1, .none]) rfl ⟨[some 0, some 1, some 2, some 3], ⟨by decide, rfl⟩, (by repeat' (first | exact trivial | exact .inl ⟨rfl, rfl⟩ | rfl | exact ⟨_, rfl, trivial⟩ | exact ⟨_, rfl, rfl⟩ | exact ⟨_, rfl, ⟨rfl, rfl, rfl⟩, fun _ _ _ _ => rfl⟩ | refine ⟨_, rfl, rfl, ?_⟩ | refine And.intro ?_ ?_)), trivial⟩ rfl ?_; refine call_sp (f := 61) (masAll (joinM m 4 now c1) hok) [0, 2] (by decide) rfl ⟨rfl, rfl, trivial⟩ rfl ?_; rintro s H1 ⟨p, Z, rfl, rfl⟩) | refine Need.go (by first | omega | decide | (simp <;> omega) | fail) ?_)
        all_goals (conv => whnf)
        refine ⟨_, _, .inr (.inr ⟨p, Z, rfl, rfl⟩), by simp, ⟨rfl, trivial⟩, ⟨[some 0, some 1, some 2, some 4, some 5], ⟨by decide, rfl⟩, ?_, ?_⟩⟩
        all_goals repeat' (first | exact leT_junk rfl | refine And.intro ?_ ?_ | exact trivial | exact .inl ⟨rfl, rfl⟩ | rfl | exact .inr ⟨_, rfl, rfl, rfl⟩ | exact ⟨_, rfl, trivial⟩ | exact ⟨_, rfl, rfl⟩ | exact ⟨_, rfl, ⟨rfl, rfl, rfl⟩, fun _ _ _ _ => rfl⟩ | exact ⟨_, rfl, ⟨rfl, rfl, .inl rfl⟩, rfl⟩ | exact ⟨_, rfl, ⟨rfl, rfl, .inr rfl⟩, rfl⟩ | exact ⟨_, rfl, ⟨rfl, rfl, rfl, rfl, rfl⟩, rfl⟩ | exact ⟨_, rfl, ⟨rfl, rfl⟩, fun _ => Iff.rfl⟩ | refine ⟨_, rfl, rfl, ?_⟩)
      · repeat' ((conv => whnf); first | refine CutN.plain ?_ | with_reducible refine Br.nf ?_ | with_reducible refine Br.nnI ?_ | refine Br.yes (by decide) ?_ | refine Need.go rfl ?_ | refine IdxN.lit ?_ | refine draw_go tabOK (by kernel_rfl) ?_ | (with_reducible refine Br.nd (fun h => ?_) (fun h => ?_) <;> first | (exfalso; omega) | skip) | refine call_inlineL (f := 54) Try.func54 rfl ?_ | refine call_inlineL (f := 56) Try.func56 rfl ?_ | (refine seg_mem (f := 57) (args := [.v (.int .i64 now)]) (V := .int .i64 (nearM now)) ?_ ?_; exact fun ρ w h => masWithin_any now w) | refine chWith_n m.ch c1 _ 0 hc1 (.os 1 m.ch.mem.length) (fun ρ w h => sl_os h rfl) (by omega) ?_ | (refine call_less (f := 61) (args := [.p 0 0]) (H1 := [.blk 77 (masL 2 (joinM m 5 now c1)), .none, memE c1, .none]) rfl ⟨[some 0, some 1, some 2, some 3], ⟨by decide, rfl⟩, (by repeat' (first | exact trivial | exact .inl ⟨rfl, rfl⟩ | rfl | exact ⟨_, rfl, trivial⟩ | exact ⟨_, rfl, rfl⟩ | exact ⟨_, rfl, ⟨rfl, rfl, rfl⟩, fun _ _ _ _ => rfl⟩ | refine ⟨_, rfl, rfl, ?_⟩ | refine And.intro ?_ ?_)), trivial⟩ rfl ?_; refine call_sp (f := 61) (masAll (joinM m 5 now c1) hok) [0, 2] (by decide) rfl ⟨rfl, rfl, trivial⟩ rfl ?_; rintro s H1 ⟨p, Z, rfl, rfl⟩) | refine Need.go (by first | omega | decide | (simp <;> omega) | fail) ?_)
        all_goals (conv => whnf)
        refine ⟨_, _, .inr (.inr ⟨p, Z, rfl, rfl⟩), by simp, ⟨rfl, trivial⟩, ⟨[some 0, some 1, some 2, some 4, some 5], ⟨by decide, rfl⟩, ?_, ?_⟩⟩
        all_goals repeat' (first | exact leT_junk rfl | refine And.intro ?_ ?_ | exact trivial | exact .inl ⟨rfl, rfl⟩ | rfl | exact .inr ⟨_, rfl, rfl, rfl⟩ | exact ⟨_, rfl, trivial⟩ | exact ⟨_, rfl, rfl⟩ | exact ⟨_, rfl, ⟨rfl, rfl, rfl⟩, fun _ _ _ _ => rfl⟩ | exact ⟨_, rfl, ⟨rfl, rfl, .inl rfl⟩, rfl⟩ | exact ⟨_, rfl, ⟨rfl, rfl, .inr rfl⟩, rfl⟩ | exact ⟨_, rfl, ⟨rfl, rfl, rfl, rfl, rfl⟩, rfl⟩ | exact ⟨_, rfl, ⟨rfl, rfl⟩, fun _ => Iff.rfl⟩ | refine ⟨_, rfl, rfl, ?_⟩)
    · have e : joinMM m n now = ⟨m, [], (withM m.ch n).2⟩ := by unfold joinMM; rw [if_neg h1, if_neg h3]
      rw [e]
      obtain ⟨er, her⟩ : ∃ er, (withM m.ch n).2 = er := ⟨_, rfl⟩
      obtain ⟨c1, hc1⟩ : ∃ c1, withM m.ch n = (c1, er) := ⟨(withM m.ch n).1, by rw [← her]⟩
      rw [her] at h3 ⊢
      repeat' ((conv => whnf); first | refine CutN.plain ?_ | with_reducible refine Br.nf ?_ | refine Need.go rfl ?_ | (with_reducible refine Br.dec (fun h => ?_) (fun h => ?_) <;> first | (exfalso; omega) | skip) | (with_reducible refine Br.neI (fun h => ?_) (fun h => ?_) <;> first | (exfalso; omega) | skip) | (with_reducible refine Br.nd (fun h => ?_) (fun h => ?_) <;> first | (exfalso; omega) | skip) | refine call_inlineL (f := 54) Try.func54 rfl ?_ | refine call_inlineL (f := 56) Try.func56 rfl ?_ | refine chWith_n m.ch c1 n er hc1 (.os 1 m.ch.mem.length) (fun ρ w h => sl_os h rfl) (by omega) ?_)
      all_goals (conv => whnf)
      refine ⟨_, _, .inl ⟨rfl, rfl, rfl⟩, by simp, trivial, less2 ?_ ?_⟩
      all_goals repeat' (first | exact leT_junk rfl | refine And.intro ?_ ?_ | exact trivial | exact .inl ⟨rfl, rfl⟩ | rfl | exact .inr ⟨_, rfl, rfl, rfl⟩ | exact ⟨_, rfl, trivial⟩ | exact ⟨_, rfl, rfl⟩ | exact ⟨_, rfl, ⟨rfl, rfl, rfl⟩, fun _ _ _ _ => rfl⟩ | exact ⟨_, rfl, ⟨rfl, rfl, .inl rfl⟩, rfl⟩ | exact ⟨_, rfl, ⟨rfl, rfl, .inr rfl⟩, rfl⟩ | exact ⟨_, rfl, ⟨rfl, rfl, rfl, rfl, rfl⟩, rfl⟩ | exact ⟨_, rfl, ⟨rfl, rfl⟩, fun _ => Iff.rfl⟩ | refine ⟨_, rfl, rfl, ?_⟩)
end Go.Proofs.Ytghfigeepnbjaaa
