/-
  ClientBudget, plainly: tokens and tries. No program in sight, no condition.
-/
import Derived.Test.YtghfigeepnbjaaaCliS
namespace Go.Proofs.Ytghfigeepnbjaaa
theorem brL_pot (cap refill tick : Int) : ∀ (n : Nat) (t s T K : Int), (T + t) * refill ≤ K + s → (T + (brL cap refill tick n t s).1) * refill ≤ K + (brL cap refill tick n t s).2
  | 0, _, _, _, _, h => h
  | n + 1, t, s, T, K, h => by
    rw [brL]
    split
    · refine brL_pot cap refill tick n (t + 1) (s + refill) T K ?_
      have e : (T + (t + 1)) * refill = (T + t) * refill + refill := by rw [← Int.add_assoc, Int.add_mul (T + t) 1 refill, Int.one_mul]
      rw [e]
      omega
    · exact h
theorem brF_keeps (b : Bk) (now : Int) : (brF b now).cap = b.cap ∧ (brF b now).refill = b.refill := ⟨rfl, rfl⟩
theorem brF_pot (b : Bk) (hok : b.ok) {now : Int} (T K : Int) (h : (T + b.tok) * b.refill ≤ K + b.since) : (T + (brF b now).tok) * b.refill ≤ K + (brF b now).since := by
  have hb := brF_ok b now hok
  have hr := brL_rng b.cap b.refill (min (max now b.tick) 1099511627776) hok.2.2.2.1 (b.cap - b.tok).toNat b.tok b.since hok.2.1 (by have := hok.2.2.2.2.2.2.1; have := hok.2.2.2.2.2.2.2; omega)
  have hp := brL_pot b.cap b.refill (min (max now b.tick) 1099511627776) (b.cap - b.tok).toNat b.tok b.since T K h
  simp only [brF]
  split <;> omega
theorem brF_tick (b : Bk) {now : Int} (h : b.tick ≤ now) : (brF b now).tick ≤ now := by
  simp only [brF]
  omega
structure BudSt (d : CfgM) (k : Nat) (c : CliM) (T now : Int) : Prop where
  st : CliSt d 0 k c
  cap : c.bk.cap = d.budget
  rf : c.bk.refill = d.refill
  tick : c.bk.tick ≤ now
  T0 : 0 ≤ T
  pot : (T + c.bk.tok) * d.refill ≤ d.budget * d.refill + c.bk.since
theorem BudSt.mono {d : CfgM} {k k' : Nat} {c : CliM} {T now now' : Int} (h : BudSt d k c T now) (hk : k ≤ k') (hn : now ≤ now') : BudSt d k' c T now' := ⟨h.st.mono hk, h.cap, h.rf, Int.le_trans h.tick hn, h.T0, h.pot⟩
theorem BudSt.same {d : CfgM} {k k' : Nat} {c c' : CliM} {T now : Int} (h : BudSt d k c T now) (hst : CliSt d 0 k' c') (hb : c'.bk = c.bk) : BudSt d k' c' T now := ⟨hst, by rw [hb]; exact h.cap, by rw [hb]; exact h.rf, by rw [hb]; exact h.tick, h.T0, by rw [hb]; exact h.pot⟩
/-- In any ticks at most the capacity, and one for each refill ticks. -/
theorem BudSt.le {d : CfgM} (hd : okM d = true) {k : Nat} {c : CliM} {T now : Int} (h : BudSt d k c T now) : T ≤ d.budget + now / d.refill := by
  obtain ⟨_, _, _, q4, _⟩ := okM_cli hd
  obtain ⟨b1, b2, b3, b4, b5, b6, b7, b8⟩ := h.st.ok.bk
  have hp := h.pot
  have ht := h.tick
  have h1 : (T - d.budget) * d.refill ≤ now := by
    have e1 : (T + c.bk.tok) * d.refill = T * d.refill + c.bk.tok * d.refill := Int.add_mul ..
    have e2 : (T - d.budget) * d.refill = T * d.refill - d.budget * d.refill := Int.sub_mul ..
    have e3 : 0 ≤ c.bk.tok * d.refill := Int.mul_nonneg b1 (by omega)
    omega
  have := (Int.le_ediv_iff_mul_le (show 0 < d.refill by omega)).2 h1
  omega
/-- A pause, or a question, to come. -/
def rD (c : CliM) : Int := if c.doing = 1 ∨ c.doing = 3 then 1 else 0
theorem rD_0 {c : CliM} (h : c.doing = 0 ∨ c.doing = 2) : rD c = 0 := if_neg (by omega)
theorem rD_1 {c : CliM} (h : c.doing = 1 ∨ c.doing = 3) : rD c = 1 := if_pos h
theorem rD_eq {c c' : CliM} (h : c'.doing = c.doing) : rD c' = rD c := by unfold rD; rw [h]
theorem rD_rng (c : CliM) : 0 ≤ rD c ∧ rD c ≤ 1 := by unfold rD; split <;> decide
/-- What is sent, and whether it is a try. -/
def SB (c : CliM) (l : List SndM) (m : Int) : Prop := (l = [] ∧ m = 0) ∨ (l = [askS] ∧ m = 0) ∨ (m = 1 ∧ c.doing = 2 ∧ ∃ x, l = [x] ∧ ¬ x.fr.kind = 7)
theorem tk_bud {d : CfgM} {k : Nat} {c : CliM} {T now : Int} (h : BudSt d k c T now) :
    (tkF c.bk now).1.cap = d.budget ∧ (tkF c.bk now).1.refill = d.refill ∧ (tkF c.bk now).1.tick ≤ now ∧ (T + (if (tkF c.bk now).2 then 1 else 0) + (tkF c.bk now).1.tok) * d.refill ≤ d.budget * d.refill + (tkF c.bk now).1.since := by
  have hp := brF_pot c.bk h.st.ok.bk (now := now) T (d.budget * d.refill) (by rw [h.rf]; exact h.pot)
  rw [h.rf] at hp
  have ht := brF_tick c.bk h.tick
  unfold tkF
  split
  · refine ⟨h.cap, h.rf, ht, ?_⟩
    simpa using hp
  · refine ⟨h.cap, h.rf, ht, ?_⟩
    have e : T + 1 + ((brF c.bk now).tok - 1) = T + (brF c.bk now).tok := by omega
    simp only [if_pos]
    rw [e]
    exact hp
theorem bud_on {d : CfgM} {k k' : Nat} {c : CliM} {T now : Int} (h : BudSt d k c T now) (r : Int) (hst : CliSt d 0 k' (onC c r now).1) : ∃ T', BudSt d k' (onC c r now).1 T' now ∧ T + rD (onC c r now).1 ≤ T' := by
  obtain ⟨h1, h2, h3, h4⟩ := tk_bud h
  have h0 := h.T0
  revert hst
  unfold onC
  split
  · intro hst
    exact ⟨T, h.same hst rfl, by rw [rD_0 (.inl rfl)]; omega⟩
  · split
    · rename_i hf
      rw [hf] at h4
      intro hst
      refine ⟨T, ⟨hst, h1, h2, h3, h0, ?_⟩, by rw [rD_0 (.inl rfl)]; omega⟩
      have h4 : (T + (tkF c.bk now).1.tok) * d.refill ≤ d.budget * d.refill + (tkF c.bk now).1.since := by simpa using h4
      exact h4
    · rename_i hf
      have hf : (tkF c.bk now).2 = true := by simpa using hf
      rw [hf] at h4
      intro hst
      refine ⟨T + 1, ⟨hst, h1, h2, h3, by omega, ?_⟩, by rw [rD_1 (.inr rfl)]; omega⟩
      have h4 : (T + 1 + (tkF c.bk now).1.tok) * d.refill ≤ d.budget * d.refill + (tkF c.bk now).1.since := by simpa using h4
      exact h4
theorem nearC_id {n : Int} (h : 0 ≤ n ∧ n ≤ 1099511627776) : nearC n = n := by unfold nearC; omega
theorem bud_tick {d : CfgM} {k : Nat} {c : CliM} {T now : Int} (h : BudSt d k c T now) (hn : 0 ≤ now ∧ now ≤ 1099511627776) {r : CliM × List SndM} (hr : tickC c now = r) : ∃ T', BudSt d k r.1 T' now ∧ T + rD r.1 ≤ T' + rD c ∧ SB r.1 r.2 0 := by
  have hst := tick_cst h.st hn
  have hs := tick_sent c now
  have hsb : SB (tickC c now).1 (tickC c now).2 0 := hs.elim (fun h => .inl ⟨h, rfl⟩) (fun h => .inr (.inl ⟨h, rfl⟩))
  subst hr
  suffices hh : ∃ T', BudSt d k (tickC c now).1 T' now ∧ T + rD (tickC c now).1 ≤ T' + rD c by
    obtain ⟨T', a, b⟩ := hh
    exact ⟨T', a, b, hsb⟩
  clear hsb hs
  have hrc := rD_rng c
  revert hst
  have stay : ∀ hst : CliSt d 0 k c, ∃ T', BudSt d k c T' now ∧ T + rD c ≤ T' + rD c := fun hst => ⟨T, h, Int.le_refl _⟩
  unfold tickC
  split
  · split
    · intro hst
      obtain ⟨T', a, b⟩ := bud_on (c := { c with unsure := true }) (h.same ⟨⟨h.st.ok.made, h.st.ok.bk, h.st.ok.ch, h.st.ok.doing, h.st.ok.opn, h.st.ok.since, h.st.ok.til, h.st.ok.seq, h.st.ok.tries, h.st.ok.timeout, h.st.ok.budget⟩, h.st.id, h.st.cls, h.st.bud, h.st.tmo, h.st.seq, h.st.tries⟩ rfl) 0 hst
      exact ⟨T', a, by omega⟩
    · exact stay
  · split
    · rename_i h2 h1
      split
      · exact stay
      · split
        · intro hst
          exact ⟨T, h.same hst rfl, by rw [rD_0 (.inl rfl)]; omega⟩
        · intro hst
          exact ⟨T, h.same hst rfl, by rw [rD_1 (.inl rfl), rD_1 (.inl h1)]; omega⟩
    · split
      · rename_i h2 h1 h3
        split
        · intro hst
          exact ⟨T, h.same hst rfl, by rw [rD_1 (.inl rfl), rD_1 (.inr h3)]; omega⟩
        · exact stay
      · exact stay
theorem bud_cfg {d : CfgM} {k : Nat} {c : CliM} {T now : Int} (h : BudSt d k c T now) (hk : k ≤ 1000000) (hn : 0 ≤ now ∧ now ≤ 1099511627776) {r : CliM × List SndM} (hr : takeC c (frCfg chA) now = r) : ∃ m, BudSt d (k + 1) r.1 T now ∧ (0 ≤ m ∧ rD r.1 + m ≤ rD c) ∧ SB r.1 r.2 m := by
  have hok : okCh chA = true := ch1_ok (by decide) (by decide)
  have hst := take_cst h.st hk (frCfg chA) hn
  have e := takeC_cfg c hok now
  rw [hr] at hst e
  split at e
  · subst e
    exact ⟨0, h.same hst rfl, ⟨Int.le_refl _, by show rD c + 0 ≤ rD c; omega⟩, .inl ⟨rfl, rfl⟩⟩
  · split at e
    · rename_i h1
      subst e
      exact ⟨1, h.same hst rfl, ⟨by decide, by rw [rD_0 (.inr rfl), rD_1 (.inl h1)]; decide⟩, .inr (.inr ⟨rfl, rfl, _, rfl, by show ¬ (1 : Int) = 7; decide⟩)⟩
    · subst e
      exact ⟨0, h.same hst rfl, ⟨Int.le_refl _, by show rD c + 0 ≤ rD c; omega⟩, .inl ⟨rfl, rfl⟩⟩
theorem bud_ref {d : CfgM} {k : Nat} {c : CliM} {T now : Int} (h : BudSt d k c T now) (hk : k ≤ 1000000) (hn : 0 ≤ now ∧ now ≤ 1099511627776) {s y : Int} {r : CliM × List SndM} (hr : takeC c (frRef 0 s y 1) now = r) : ∃ T', BudSt d (k + 1) r.1 T' now ∧ T + rD r.1 ≤ T' + rD c ∧ SB r.1 r.2 0 := by
  have hst := take_cst h.st hk (frRef 0 s y 1) hn
  have e : takeC c (frRef 0 s y 1) now = if c.doing = 2 ∧ (0 : Int) = c.id ∧ s = c.seq ∧ y = c.tries then onC c 1 now else (c, []) := by
    unfold takeC
    rw [if_neg (show ¬ (3 : Int) = 8 by decide), if_neg (show ¬ (3 : Int) = 2 by decide), if_pos rfl]
    rfl
  have hs := on_sent c 1 now
  have hrc := rD_rng c
  rw [hr] at hst e
  split at e
  · subst e
    obtain ⟨T', a, b⟩ := bud_on h 1 hst
    exact ⟨T', a, by omega, hs.1.elim (fun h => .inl ⟨h, rfl⟩) (fun h => .inr (.inl ⟨h, rfl⟩))⟩
  · subst e
    exact ⟨T, h.same hst rfl, Int.le_refl _, .inl ⟨rfl, rfl⟩⟩
theorem bud_call {d : CfgM} {k : Nat} {c : CliM} {T now : Int} (h : BudSt d k c T now) (hk : k ≤ 1000000) {r : (CliM × List SndM) × Int} (hr : callC c opK0 0 549755813888 now = r) : ∃ m, BudSt d (k + 1) r.1.1 T now ∧ 0 ≤ m ∧ rD r.1.1 + m ≤ rD c + (if r.2 = 0 then 1 else 0) ∧ SB r.1.1 r.1.2 m := by
  have hst := call_cst h.st hk opK0 0 549755813888 now
  rw [hr] at hst
  have hrc := rD_rng c
  revert hr
  unfold callC
  split
  · intro hr; subst hr
    exact ⟨0, h.same hst rfl, Int.le_refl _, by rw [if_neg (by simp)]; show rD c + 0 ≤ rD c + 0; omega, .inl ⟨rfl, rfl⟩⟩
  · split
    · intro hr; subst hr
      exact ⟨0, h.same hst rfl, Int.le_refl _, by rw [if_neg (by simp)]; show rD c + 0 ≤ rD c + 0; omega, .inl ⟨rfl, rfl⟩⟩
    · split
      · intro hr; subst hr
        exact ⟨1, h.same hst rfl, by decide, by rw [if_pos rfl, rD_0 (.inr rfl)]; omega, .inr (.inr ⟨rfl, rfl, _, rfl, by show ¬ (1 : Int) = 7; decide⟩)⟩
      · intro hr; subst hr
        exact ⟨0, h.same hst rfl, Int.le_refl _, by rw [if_pos rfl, rD_1 (.inl rfl)]; omega, .inr (.inl ⟨rfl, rfl⟩)⟩
theorem bud_new {d : CfgM} (hd : okM d = true) : BudSt d 0 (newCli d 0) 0 0 := ⟨new_cst hd 0, rfl, rfl, Int.le_refl _, Int.le_refl _, by simp⟩
end Go.Proofs.Ytghfigeepnbjaaa
