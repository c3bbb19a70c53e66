/-
  The master: all, out. No condition.
-/
import Derived.Test.YtghfigeepnbjaaaMas1
namespace Go.Proofs.Ytghfigeepnbjaaa
open Go.RowKit
/-- What the first so many nodes are told. -/
def allN (c : ChM) : Nat → List SndM
  | 0 => []
  | n + 1 => allN c n ++ [cfgM c n]
theorem allN_len (c : ChM) : ∀ n, (allN c n).length = n
  | 0 => rfl
  | n + 1 => by simp [allN, allN_len c n]
theorem allN_at (c : ChM) : ∀ n r, r < n → (allN c n).getD r sndZ = cfgM c r
  | 0, r, h => absurd h (Nat.not_lt_zero r)
  | n + 1, r, h => by
    simp only [allN]
    by_cases hr : r < n
    · rw [← allN_at c n r hr]
      simp [List.getD, List.getElem?_append_left (show r < (allN c n).length by rw [allN_len]; exact hr)]
    · have : r = n := by omega
      subst this
      simp [List.getD, allN_len]
abbrev allM (m : MasM) : List SndM := allN m.ch m.nodes.toNat
/-- What is sent, and where. -/
abbrev sndE (l : List SndM) (p : Nat → Value) : HE := .own 83 30 l.length (sndF l p)
theorem sndF_snoc (c : ChM) (n : Nat) (p : Nat → Value) (q : Value) : ∀ r k, r < n + 1 → k < 30 → rowsApp n (sndF (allN c n) p) (fun r k => (sndC (cfgM c n) q).getD (r * 30 + k) undef) r k = sndF (allN c (n + 1)) (fun r => if r = n then q else p r) r k := fun r k hr _ => by
  unfold rowsApp sndF
  by_cases h : r < n
  · rw [if_pos h, allN_at c n r h, allN_at c (n + 1) r (by omega)]
    dsimp only
    rw [if_neg (by omega)]
  · have : r = n := by omega
    subst this
    rw [if_neg h, allN_at c (r + 1) r (by omega)]
    dsimp only
    rw [if_pos rfl, Nat.sub_self, Nat.zero_mul, Nat.zero_add]
theorem sndQ_snoc (c : ChM) (n : Nat) (p : Nat → Value) (q : Value) (u : World) : (sndQ (allN c n) p u ∧ SliceV u q 2 c.mem.length (memF c.mem)) ↔ sndQ (allN c (n + 1)) (fun r => if r = n then q else p r) u := by
  unfold sndQ
  rw [allN_len, allN_len]
  constructor
  · rintro ⟨h1, h2⟩ r hr
    rw [allN_at c (n + 1) r hr]
    by_cases h : r < n
    · have := h1 r h
      rw [allN_at c n r h] at this
      simpa only [if_neg (show ¬ r = n by omega)] using this
    · dsimp only
      rw [if_pos (show r = n by omega)]
      exact h2
  · intro h
    refine ⟨fun r hr => ?_, ?_⟩
    · have := h r (by omega)
      rw [allN_at c (n + 1) r (by omega)] at this
      rw [allN_at c n r hr]
      simpa only [if_neg (show ¬ r = n by omega)] using this
    · have := h n (by omega)
      rw [allN_at c (n + 1) n (by omega)] at this
      dsimp only at this
      rw [if_pos rfl] at this
      exact this
set_option maxRecDepth 100000 in
set_option maxHeartbeats 4000000 in
theorem masAll (m : MasM) (hm : m.ok) : Spec Try.prog 61 [.p 0 0] (masH m) fun s H1 => ∃ p Z, s = .os 2 (allM m).length ∧ H1 = masH m ++ [sndE (allM m) p, .res true Z (sndQ (allM m) p)] := by
  refine spec_x Try.func61 rfl 2 rfl rfl fun w0 U => ?_
  have hn := hm.nodes
  repeat' ((conv => whnf); first
      | refine CutN.plain ?_
      | with_reducible refine Br.tt ?_
      | with_reducible refine Br.ff ?_
      | with_reducible refine Br.nt ?_
      | with_reducible refine Br.nf ?_
      | with_reducible refine Br.eeI ?_
      | with_reducible refine Br.nnI ?_
      | refine Br.yes (by decide) ?_
      | refine Br.no (by decide) ?_
      | refine Need.go rfl ?_
      | refine QuiD.quiet (by kernel_rfl) ?_
      | refine IdxN.lit ?_
      | refine draw_go tabOK (by kernel_rfl) ?_
      | refine Need.go ⟨rfl, rfl⟩ ?_
      | refine Need.go ⟨⟨rfl, rfl, rfl⟩, rfl⟩ ?_
      | (with_reducible refine Br.dec (fun h => ?_) (fun h => ?_) <;> first | (exfalso; omega) | skip)
      | (with_reducible refine Br.eqI (fun h => ?_) (fun h => ?_) <;> first | (exfalso; omega) | skip)
      | (with_reducible refine Br.neI (fun h => ?_) (fun h => ?_) <;> first | (exfalso; omega) | skip)
      | (with_reducible refine Br.eqS (fun h => ?_) (fun h => ?_) <;> first | (exfalso; omega) | skip)
      | (with_reducible refine Br.neS (fun h => ?_) (fun h => ?_) <;> first | (exfalso; omega) | skip)
      | (with_reducible refine Br.nd (fun h => ?_) (fun h => ?_) <;> first | (exfalso; omega) | skip)
      | refine Ar.i64 (by omega) (by omega) ?_
      | refine Need.go (by first | omega | decide | (simp <;> omega) | fail) ?_
      | refine Need.go (by first | (simp [Value.oneCell'] <;> omega) | fail) ?_
      | refine Need.go ⟨rfl, by omega, getD_one rfl rfl⟩ ?_
      | refine Need.go ⟨rfl, by omega, fun _ _ _ _ => rfl⟩ ?_
      | (refine Br.both (fun h => ?_) (fun h => ?_) <;> first | (exfalso; omega) | skip))
  all_goals (conv => whnf)
  refine loop_up 5 (fun x : Nat × (Nat → Value) × (Nat → Prop) => x.1 ≤ m.nodes.toNat) (fun x => m.nodes.toNat - x.1) (fun x => [(3, .os 2 (allN m.ch x.1).length), (4, .v (.int .i64 x.1))]) (fun _ => []) (fun x => [sndE (allN m.ch x.1) x.2.1, .res true x.2.2 (sndQ (allN m.ch x.1) x.2.1)]) (0, fun _ => undef, fun _ => False) (Nat.zero_le _) (by
    (conv => whnf)
    refine ⟨[some 0, some 1, none, none], by decide, ?_, ?_⟩
    all_goals repeat' (first | exact ⟨fun _ h => h, fun _ r hr => absurd hr (Nat.not_lt_zero r)⟩ | exact leT_junk rfl | refine And.intro ?_ ?_ | exact trivial | exact .inl ⟨rfl, rfl⟩ | rfl | exact .inr ⟨_, rfl, rfl, rfl⟩ | exact ⟨_, rfl, trivial⟩ | exact ⟨_, rfl, rfl⟩ | exact ⟨_, rfl, ⟨rfl, rfl, rfl⟩, fun _ _ _ _ => rfl⟩ | exact ⟨_, rfl, ⟨rfl, rfl, .inl rfl⟩, rfl⟩ | exact ⟨_, rfl, ⟨rfl, rfl, .inr rfl⟩, rfl⟩ | exact ⟨_, rfl, ⟨rfl, rfl, rfl, rfl, rfl⟩, rfl⟩ | exact ⟨_, rfl, ⟨rfl, rfl⟩, fun _ => Iff.rfl⟩ | refine ⟨_, rfl, rfl, ?_⟩ | refine ⟨_, rfl, ⟨rfl, rfl, rfl⟩, ?_⟩)) (fun x hx => ?_)
  obtain ⟨k, p, Z⟩ := x
  simp only at hx
  dsimp only
  by_cases hlt : k < m.nodes.toNat
  · have hk : (allN m.ch k).length = k := allN_len _ _
    have hrow : ∀ (x : Option Addr) (c r j : Nat), r < (allN m.ch (k + 1)).length → j < 30 → rowsApp (allN m.ch k).length (sndF (allN m.ch k) p) (fun r j => (sndC (cfgM m.ch k) (.slice x m.ch.mem.length c)).getD (r * 30 + j) undef) r j = sndF (allN m.ch (k + 1)) (fun r => if r = k then .slice x m.ch.mem.length c else p r) r j := fun x c r j hr hj => by
      rw [hk]
      exact sndF_snoc m.ch k p (.slice x m.ch.mem.length c) r j (by rw [allN_len] at hr; exact hr) hj
    repeat' ((conv => whnf); first
        | refine CutN.plain ?_
        | with_reducible refine Br.tt ?_
        | with_reducible refine Br.ff ?_
        | with_reducible refine Br.nt ?_
        | with_reducible refine Br.nf ?_
        | with_reducible refine Br.eeI ?_
        | with_reducible refine Br.nnI ?_
        | refine Br.yes (by decide) ?_
        | refine Br.no (by decide) ?_
        | refine Need.go rfl ?_
        | refine QuiD.quiet (by kernel_rfl) ?_
        | refine IdxN.lit ?_
        | refine draw_go tabOK (by kernel_rfl) ?_
        | refine Need.go ⟨rfl, rfl⟩ ?_
        | refine Need.go ⟨⟨rfl, rfl, rfl⟩, rfl⟩ ?_
        | (with_reducible refine Br.dec (fun h => ?_) (fun h => ?_) <;> first | (exfalso; omega) | skip)
        | (with_reducible refine Br.eqI (fun h => ?_) (fun h => ?_) <;> first | (exfalso; omega) | skip)
        | (with_reducible refine Br.neI (fun h => ?_) (fun h => ?_) <;> first | (exfalso; omega) | skip)
        | (with_reducible refine Br.eqS (fun h => ?_) (fun h => ?_) <;> first | (exfalso; omega) | skip)
        | (with_reducible refine Br.neS (fun h => ?_) (fun h => ?_) <;> first | (exfalso; omega) | skip)
        | (with_reducible refine Br.nd (fun h => ?_) (fun h => ?_) <;> first | (exfalso; omega) | skip)
        | refine Ar.i64 (by omega) (by omega) ?_
        | refine call_seal (f := 55) 3 (fun q => sndS (cfgM m.ch k) (.v q)) (call_sp (f := 55) (masConfig m hm k) [0, 1] (by decide) rfl ⟨rfl, rfl, trivial⟩ rfl (by rintro s H1 ⟨rfl, rfl⟩; (conv => whnf); exact ⟨rfl, rfl⟩)) (fun ρ ρ' => rfl) rfl (fun x c => ?_)
        | refine Need.go ⟨rfl, rfl, rfl, by omega, (Nat.mul_le_mul_right _ (show (allN m.ch k).length + 1 ≤ 7 by omega)).trans (by decide)⟩ ?_
        | refine Need.go (by first | omega | decide | (simp <;> omega) | fail) ?_
        | refine Need.go (by first | (simp [Value.oneCell'] <;> omega) | fail) ?_
        | refine Need.go ⟨rfl, by omega, getD_one rfl rfl⟩ ?_
        | refine Need.go ⟨rfl, by omega, fun _ _ _ _ => rfl⟩ ?_
        | (refine Br.both (fun h => ?_) (fun h => ?_) <;> first | (exfalso; omega) | skip))
    all_goals (conv => whnf)
    refine ⟨(k + 1, fun r => if r = k then .slice x m.ch.mem.length c else p r, fun b => Z b ∨ sliceZ (.slice x m.ch.mem.length c) b), by simp only; omega, by simp only; omega, ?_⟩
    dsimp only
    (conv => whnf)
    refine ⟨[some 0, some 1, some 6, some 3], by decide, ?_, ?_⟩
    all_goals repeat' (first | exact .inl ⟨rfl, congrArg (SV.os 6) (by simp [allN])⟩ | exact ⟨_, rfl, ⟨rfl, rfl, by simp [allN]⟩, fun r j hr hj => hrow x c r j hr hj⟩ | exact ⟨_, rfl, ⟨rfl, rfl⟩, fun u => sndQ_snoc m.ch k p _ u⟩ | exact leT_junk rfl | refine And.intro ?_ ?_ | exact trivial | exact .inl ⟨rfl, rfl⟩ | rfl | exact .inr ⟨_, rfl, rfl, rfl⟩ | exact ⟨_, rfl, trivial⟩ | exact ⟨_, rfl, rfl⟩ | exact ⟨_, rfl, ⟨rfl, rfl, rfl⟩, fun _ _ _ _ => rfl⟩ | exact ⟨_, rfl, ⟨rfl, rfl, .inl rfl⟩, rfl⟩ | exact ⟨_, rfl, ⟨rfl, rfl, .inr rfl⟩, rfl⟩ | exact ⟨_, rfl, ⟨rfl, rfl, rfl, rfl, rfl⟩, rfl⟩ | exact ⟨_, rfl, ⟨rfl, rfl⟩, fun _ => Iff.rfl⟩ | refine ⟨_, rfl, rfl, ?_⟩ | refine ⟨_, rfl, ⟨rfl, rfl, rfl⟩, ?_⟩)
  · obtain rfl : k = m.nodes.toNat := by omega
    repeat' ((conv => whnf); first
        | refine CutN.plain ?_
        | with_reducible refine Br.tt ?_
        | with_reducible refine Br.ff ?_
        | with_reducible refine Br.nt ?_
        | with_reducible refine Br.nf ?_
        | with_reducible refine Br.eeI ?_
        | with_reducible refine Br.nnI ?_
        | refine Br.yes (by decide) ?_
        | refine Br.no (by decide) ?_
        | refine Need.go rfl ?_
        | refine QuiD.quiet (by kernel_rfl) ?_
        | refine IdxN.lit ?_
        | refine draw_go tabOK (by kernel_rfl) ?_
        | refine Need.go ⟨rfl, rfl⟩ ?_
        | refine Need.go ⟨⟨rfl, rfl, rfl⟩, rfl⟩ ?_
        | (with_reducible refine Br.dec (fun h => ?_) (fun h => ?_) <;> first | (exfalso; omega) | skip)
        | (with_reducible refine Br.eqI (fun h => ?_) (fun h => ?_) <;> first | (exfalso; omega) | skip)
        | (with_reducible refine Br.neI (fun h => ?_) (fun h => ?_) <;> first | (exfalso; omega) | skip)
        | (with_reducible refine Br.eqS (fun h => ?_) (fun h => ?_) <;> first | (exfalso; omega) | skip)
        | (with_reducible refine Br.neS (fun h => ?_) (fun h => ?_) <;> first | (exfalso; omega) | skip)
        | (with_reducible refine Br.nd (fun h => ?_) (fun h => ?_) <;> first | (exfalso; omega) | skip)
        | refine Ar.i64 (by omega) (by omega) ?_
        | refine Need.go (by first | omega | decide | (simp <;> omega) | fail) ?_
        | refine Need.go (by first | (simp [Value.oneCell'] <;> omega) | fail) ?_
        | refine Need.go ⟨rfl, by omega, getD_one rfl rfl⟩ ?_
        | refine Need.go ⟨rfl, by omega, fun _ _ _ _ => rfl⟩ ?_
        | (refine Br.both (fun h => ?_) (fun h => ?_) <;> first | (exfalso; omega) | skip))
    all_goals (conv => whnf)
    refine ⟨_, _, ⟨p, Z, rfl, rfl⟩, by simp, ⟨rfl, trivial⟩, ⟨[some 0, some 1, some 2, some 3], ⟨by decide, rfl⟩, ?_, ?_⟩⟩
    all_goals repeat' (first | exact leT_junk rfl | refine And.intro ?_ ?_ | exact trivial | exact .inl ⟨rfl, rfl⟩ | rfl | exact .inr ⟨_, rfl, rfl, rfl⟩ | exact ⟨_, rfl, trivial⟩ | exact ⟨_, rfl, rfl⟩ | exact ⟨_, rfl, ⟨rfl, rfl, rfl⟩, fun _ _ _ _ => rfl⟩ | exact ⟨_, rfl, ⟨rfl, rfl, .inl rfl⟩, rfl⟩ | exact ⟨_, rfl, ⟨rfl, rfl, .inr rfl⟩, rfl⟩ | exact ⟨_, rfl, ⟨rfl, rfl, rfl, rfl, rfl⟩, rfl⟩ | exact ⟨_, rfl, ⟨rfl, rfl⟩, fun _ => Iff.rfl⟩ | refine ⟨_, rfl, rfl, ?_⟩ | refine ⟨_, rfl, ⟨rfl, rfl, rfl⟩, ?_⟩)
/-- A member is taken out. -/
def goneM (m : MasM) (n : Int) : MasM := { m with ch := (withoutM m.ch n).1, whole := fun i => if i = n.toNat then false else m.whole i }
/-- What a master lies in behind a change of its chain. -/
abbrev masHn (m : MasM) : List HE := [.blk 77 (masL 2 m), .none, memE m.ch]
theorem withoutM_in {c : ChM} {n : Int} (h : (withoutM c n).2 = 0) (hc : okCh c = true) : 0 ≤ n ∧ n < 6 := by
  unfold withoutM at h
  split at h
  · split at h
    · simp at h
    · rename_i ha
      obtain ⟨k, hk⟩ := Int.eq_ofNat_of_zero_le (show 0 ≤ atM c.mem n by omega)
      have := atM_mem hk
      have := nd_ok hc this.1
      rw [(atM_mem hk).2] at this
      omega
  · simp at h
set_option maxRecDepth 100000 in
set_option maxHeartbeats 2000000 in
theorem masOut_no (m : MasM) (hm : m.ok) (n er : Int) (he : (withoutM m.ch n).2 = er) (h0 : ¬ er = 0) : Spec Try.prog 60 [.p 0 0, .v (.int .i64 n)] (masH m) fun s H1 => s = .v (.int .i64 er) ∧ H1 = masH m := by
  refine spec_x Try.func60 rfl 2 rfl rfl fun w0 U => ?_
  have hl := okCh_len hm.ch
  obtain ⟨c1, hc1⟩ : ∃ c1, withoutM m.ch n = (c1, er) := ⟨(withoutM m.ch n).1, by rw [← he]⟩
  repeat' ((conv => whnf); first
      | refine CutN.plain ?_
      | with_reducible refine Br.tt ?_
      | with_reducible refine Br.ff ?_
      | with_reducible refine Br.nt ?_
      | with_reducible refine Br.nf ?_
      | with_reducible refine Br.eeI ?_
      | with_reducible refine Br.nnI ?_
      | refine Br.yes (by decide) ?_
      | refine Br.no (by decide) ?_
      | refine Need.go rfl ?_
      | refine QuiD.quiet (by kernel_rfl) ?_
      | refine IdxN.lit ?_
      | refine draw_go tabOK (by kernel_rfl) ?_
      | refine Need.go ⟨rfl, rfl⟩ ?_
      | refine Need.go ⟨⟨rfl, rfl, rfl⟩, rfl⟩ ?_
      | (with_reducible refine Br.dec (fun h => ?_) (fun h => ?_) <;> first | (exfalso; omega) | skip)
      | (with_reducible refine Br.eqI (fun h => ?_) (fun h => ?_) <;> first | (exfalso; omega) | skip)
      | (with_reducible refine Br.neI (fun h => ?_) (fun h => ?_) <;> first | (exfalso; omega) | skip)
      | (with_reducible refine Br.eqS (fun h => ?_) (fun h => ?_) <;> first | (exfalso; omega) | skip)
      | (with_reducible refine Br.neS (fun h => ?_) (fun h => ?_) <;> first | (exfalso; omega) | skip)
      | (with_reducible refine Br.nd (fun h => ?_) (fun h => ?_) <;> first | (exfalso; omega) | skip)
      | refine Ar.i64 (by omega) (by omega) ?_
      | refine chWithout_n m.ch c1 n er hc1 (.os 1 m.ch.mem.length) (fun ρ w h => sl_os h rfl) (by omega) ?_
      | refine Need.go (by first | omega | decide | (simp <;> omega) | fail) ?_
      | refine Need.go (by first | (simp [Value.oneCell'] <;> omega) | fail) ?_
      | refine Need.go ⟨rfl, by omega, getD_one rfl rfl⟩ ?_
      | refine Need.go ⟨rfl, by omega, fun _ _ _ _ => rfl⟩ ?_
      | (refine Br.both (fun h => ?_) (fun h => ?_) <;> first | (exfalso; omega) | skip))
  all_goals (conv => whnf)
  refine ⟨_, _, ⟨rfl, rfl⟩, by simp, trivial, less2 ?_ ?_⟩
  all_goals repeat' (first | exact leT_junk rfl | refine And.intro ?_ ?_ | exact trivial | exact .inl ⟨rfl, rfl⟩ | rfl | exact .inr ⟨_, rfl, rfl, rfl⟩ | exact ⟨_, rfl, trivial⟩ | exact ⟨_, rfl, rfl⟩ | exact ⟨_, rfl, ⟨rfl, rfl, rfl⟩, fun _ _ _ _ => rfl⟩ | exact ⟨_, rfl, ⟨rfl, rfl, .inl rfl⟩, rfl⟩ | exact ⟨_, rfl, ⟨rfl, rfl, .inr rfl⟩, rfl⟩ | exact ⟨_, rfl, ⟨rfl, rfl, rfl, rfl, rfl⟩, rfl⟩ | exact ⟨_, rfl, ⟨rfl, rfl⟩, fun _ => Iff.rfl⟩ | refine ⟨_, rfl, rfl, ?_⟩ | refine ⟨_, rfl, ⟨rfl, rfl, rfl⟩, ?_⟩)
set_option maxRecDepth 100000 in
set_option maxHeartbeats 2000000 in
theorem masOut_yes (m : MasM) (hm : m.ok) (n : Int) (he : (withoutM m.ch n).2 = 0) : Spec Try.prog 60 [.p 0 0, .v (.int .i64 n)] (masH m) fun s H1 => s = .v (.int .i64 0) ∧ H1 = masHn (goneM m n) := by
  refine spec_x Try.func60 rfl 2 rfl rfl fun w0 U => ?_
  have hl := okCh_len hm.ch
  have hn := withoutM_in he hm.ch
  obtain ⟨c1, hc1⟩ : ∃ c1, withoutM m.ch n = (c1, 0) := ⟨(withoutM m.ch n).1, by rw [← he]⟩
  have ho : goneM m n = ⟨m.nodes, m.patience, c1, m.heard, fun i => if i = n.toNat then false else m.whole i⟩ := by unfold goneM; rw [hc1]
  rw [ho]
  have hc : n = 0 ∨ n = 1 ∨ n = 2 ∨ n = 3 ∨ n = 4 ∨ n = 5 := by omega
  clear hn
  rcases hc with rfl | rfl | rfl | rfl | rfl | rfl
  all_goals
    repeat' ((conv => whnf); first
        | refine CutN.plain ?_
        | with_reducible refine Br.tt ?_
        | with_reducible refine Br.ff ?_
        | with_reducible refine Br.nt ?_
        | with_reducible refine Br.nf ?_
        | with_reducible refine Br.eeI ?_
        | with_reducible refine Br.nnI ?_
        | refine Br.yes (by decide) ?_
        | refine Br.no (by decide) ?_
        | refine Need.go rfl ?_
        | refine QuiD.quiet (by kernel_rfl) ?_
        | refine IdxN.lit ?_
        | refine draw_go tabOK (by kernel_rfl) ?_
        | refine Need.go ⟨rfl, rfl⟩ ?_
        | refine Need.go ⟨⟨rfl, rfl, rfl⟩, rfl⟩ ?_
        | (with_reducible refine Br.dec (fun h => ?_) (fun h => ?_) <;> first | (exfalso; omega) | skip)
        | (with_reducible refine Br.eqI (fun h => ?_) (fun h => ?_) <;> first | (exfalso; omega) | skip)
        | (with_reducible refine Br.neI (fun h => ?_) (fun h => ?_) <;> first | (exfalso; omega) | skip)
        | (with_reducible refine Br.eqS (fun h => ?_) (fun h => ?_) <;> first | (exfalso; omega) | skip)
        | (with_reducible refine Br.neS (fun h => ?_) (fun h => ?_) <;> first | (exfalso; omega) | skip)
        | (with_reducible refine Br.nd (fun h => ?_) (fun h => ?_) <;> first | (exfalso; omega) | skip)
        | refine Ar.i64 (by omega) (by omega) ?_
        | refine chWithout_n m.ch c1 _ 0 hc1 (.os 1 m.ch.mem.length) (fun ρ w h => sl_os h rfl) (by omega) ?_
        | refine Need.go (by first | omega | decide | (simp <;> omega) | fail) ?_
        | refine Need.go (by first | (simp [Value.oneCell'] <;> omega) | fail) ?_
        | refine Need.go ⟨rfl, by omega, getD_one rfl rfl⟩ ?_
        | refine Need.go ⟨rfl, by omega, fun _ _ _ _ => rfl⟩ ?_
        | (refine Br.both (fun h => ?_) (fun h => ?_) <;> first | (exfalso; omega) | skip))
    all_goals (conv => whnf)
    refine ⟨_, _, ⟨rfl, rfl⟩, by simp, trivial, ⟨[some 0, some 1, some 2], ⟨by decide, rfl⟩, ?_, ?_⟩⟩
    all_goals repeat' (first | exact leT_junk rfl | refine And.intro ?_ ?_ | exact trivial | exact .inl ⟨rfl, rfl⟩ | rfl | exact .inr ⟨_, rfl, rfl, rfl⟩ | exact ⟨_, rfl, trivial⟩ | exact ⟨_, rfl, rfl⟩ | exact ⟨_, rfl, ⟨rfl, rfl, rfl⟩, fun _ _ _ _ => rfl⟩ | exact ⟨_, rfl, ⟨rfl, rfl, .inl rfl⟩, rfl⟩ | exact ⟨_, rfl, ⟨rfl, rfl, .inr rfl⟩, rfl⟩ | exact ⟨_, rfl, ⟨rfl, rfl, rfl, rfl, rfl⟩, rfl⟩ | exact ⟨_, rfl, ⟨rfl, rfl⟩, fun _ => Iff.rfl⟩ | refine ⟨_, rfl, rfl, ?_⟩ | refine ⟨_, rfl, ⟨rfl, rfl, rfl⟩, ?_⟩)
end Go.Proofs.Ytghfigeepnbjaaa
