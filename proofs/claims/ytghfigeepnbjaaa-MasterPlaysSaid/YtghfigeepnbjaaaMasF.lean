/-
  The master: what its operations do to its state, plainly. No condition.
-/
import Derived.Test.YtghfigeepnbjaaaMas8
namespace Go.Proofs.Ytghfigeepnbjaaa
/-- What is known of a master, whatever was done: its configuration, and how far its epoch may be. -/
structure MasSt (d : CfgM) (B : Int) (m : MasM) : Prop where
  ok : m.ok
  nodes : m.nodes = d.nodes
  pat : m.patience = d.patience
  ep : m.ch.epoch ≤ B
theorem MasSt.mono {d : CfgM} {B B' : Int} {m : MasM} (h : MasSt d B m) (hb : B ≤ B') : MasSt d B' m := ⟨h.ok, h.nodes, h.pat, Int.le_trans h.ep hb⟩
theorem newMas_st {d : CfgM} (h : okM d = true) : MasSt d 1 (newMas d) := ⟨newMas_ok h, rfl, rfl, Int.le_refl 1⟩
theorem pair_eta {α : Type} (p : α × Int) {e : Int} (h : p.2 = e) : p = (p.1, e) := by cases p; simp only at h; subst h; rfl
theorem gone_st {d : CfgM} {B : Int} {m : MasM} (hm : MasSt d B m) {n : Int} (h : (withoutM m.ch n).2 = 0) : MasSt d (B + 1) (goneM m n) := by
  refine ⟨without_keeps hm.ok h, hm.nodes, hm.pat, ?_⟩
  have := (without_ok hm.ok.ch (pair_eta _ h)).2.1
  have := hm.ep
  show (withoutM m.ch n).1.epoch ≤ B + 1
  omega
theorem join_st {d : CfgM} {B : Int} {m : MasM} (hm : MasSt d B m) (n now : Int) : MasSt d (B + 1) (joinMM m n now).m := by
  unfold joinMM
  split
  · exact hm.mono (by omega)
  · split
    · rename_i h
      refine ⟨join_keeps hm.ok now h, hm.nodes, hm.pat, ?_⟩
      have e := (with_ok hm.ok.ch (pair_eta _ h)).2.1
      have := hm.ep
      show (withM m.ch n).1.epoch ≤ B + 1
      rw [e]
      simp only
      omega
    · exact hm.mono (by omega)
theorem suspect_st {d : CfgM} {B : Int} {m : MasM} (hm : MasSt d B m) (n : Int) : MasSt d (B + 1) (suspectM m n).m := by
  unfold suspectM
  split
  · exact hm.mono (by omega)
  · split
    · exact hm.mono (by omega)
    · split
      · rename_i h; exact gone_st hm h
      · exact hm.mono (by omega)
theorem drainM_epoch {c : ChM} {n : Int} (h : (drainM c n).2 = 0) : (drainM c n).1.epoch = c.epoch + 1 ∧ (drainM c n).1.drain = n ∧ (drainM c n).1.mem = c.mem := by
  unfold drainM at h ⊢
  split at h <;> rename_i h1
  · rw [if_pos h1]
    split at h <;> rename_i h2
    · cases h
    · rw [if_neg h2]
      split at h <;> rename_i h3
      · cases h
      · rw [if_neg h3]
        split at h <;> rename_i h4
        · rw [if_pos h4]; exact ⟨rfl, rfl, rfl⟩
        · cases h
  · cases h
theorem drain_st {d : CfgM} {B : Int} {m : MasM} (hm : MasSt d B m) (n : Int) : MasSt d (B + 1) (drainMM m n).m := by
  unfold drainMM
  split
  · exact hm.mono (by omega)
  · split
    · exact hm.mono (by omega)
    · split
      · rename_i h
        refine ⟨drain_keeps hm.ok h, hm.nodes, hm.pat, ?_⟩
        have := (drainM_epoch h).1
        have := hm.ep
        show (drainM m.ch n).1.epoch ≤ B + 1
        omega
      · exact hm.mono (by omega)
theorem take_st {d : CfgM} {B : Int} {m : MasM} (hm : MasSt d B m) (f k ep ix now : Int) : MasSt d (B + 1) (takeM m f k ep ix now).m := by
  have hh : MasSt d (B + 1) (hearM m f now) := ⟨hear_ok hm.ok f now, hm.nodes, hm.pat, by have := hm.ep; show m.ch.epoch ≤ _; omega⟩
  have h0 : MasSt d (B + 1) m := hm.mono (by omega)
  unfold takeM
  split
  · exact h0
  split
  · exact h0
  split
  · split
    · exact hh
    · split
      · exact ⟨know_ok hh.ok f, hh.nodes, hh.pat, hh.ep⟩
      · exact hh
  split
  · split
    · exact h0
    · split <;> exact h0
  split
  · rename_i h; exact gone_st hm h.2.2.2.2
  · exact h0
theorem tickN_st {d : CfgM} {B : Int} {m : MasM} (hm : MasSt d B m) (now : Int) (l : List (Int × Int)) : ∀ k : Nat, MasSt d (B + k) (tickN m now l k).1
  | 0 => hm.mono (by omega)
  | k + 1 => by
    have ih := tickN_st hm now l k
    simp only [tickN]
    split
    · rename_i h
      unfold lateM at h
      simp only [Bool.and_eq_true, decide_eq_true_eq] at h
      exact (gone_st ih h.2.2).mono (by omega)
    · exact ih.mono (by omega)
theorem tick_st {d : CfgM} {B : Int} {m : MasM} (hm : MasSt d B m) (now : Int) : MasSt d (B + 6) (tickM m now).m := by
  have hl := okCh_len hm.ok.ch
  unfold tickM
  split
  · exact (tickN_st hm now _ _).mono (by omega)
  · exact hm.mono (by omega)
theorem isMem_iff {m : MasM} (hm : m.ok) {n : Int} : isMemM m n = true ↔ 0 ≤ atM m.ch.mem n := by
  unfold isMemM sinceM
  constructor
  · intro h
    split at h
    · rename_i h'; exact h'.2
    · cases h
  · intro h
    rw [if_pos ⟨hm.ch, h⟩]
/-- Is one of the first so many, but a node, known to have all? -/
def othersM (m : MasM) (l : List (Int × Int)) (n : Int) (j : Nat) : Bool := (l.take j).any fun x => !(x.1 == n) && wholeM m x.1
theorem mayGo_two {m : MasM} (hm : m.ok) {n : Int} (h : mayGoM m n = true) (ha : 0 ≤ atM m.ch.mem n) : 1 < m.ch.mem.length := by
  obtain ⟨k, hk⟩ := Int.eq_ofNat_of_zero_le ha
  obtain ⟨h1, h2⟩ := atM_mem hk
  unfold mayGoM at h
  obtain ⟨x, hx, hxn⟩ := List.any_eq_true.1 h
  obtain ⟨j, hj, rfl⟩ := List.getElem_of_mem hx
  simp only [Bool.and_eq_true, Bool.not_eq_true', beq_eq_false_iff_ne, ne_eq] at hxn
  rcases Nat.lt_or_ge 1 m.ch.mem.length with h | h
  · exact h
  · exfalso
    apply hxn.1
    have e : j = k := by omega
    subst e
    rw [← h2]
    simp [List.getD, hj]
theorem without_eq {c : ChM} {n : Int} (hok : okCh c = true) (hb : c.epoch < 1099511627776) (ha : 0 ≤ atM c.mem n) (hl : 1 < c.mem.length) : withoutM c n = (⟨c.epoch + 1, c.mem.eraseIdx (atM c.mem n).toNat, if c.drain = n then -1 else c.drain⟩, 0) := by
  unfold withoutM
  rw [if_pos (mayMove_iff.2 ⟨hok, by omega⟩), if_neg (by omega), if_neg (by omega)]
end Go.Proofs.Ytghfigeepnbjaaa
