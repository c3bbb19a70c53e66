/-
  The master: what its operations do to its state, plainly. No condition.
-/
import Derived.Test.YtghfigeepnbjaaaMas8
namespace Go.Proofs.Ytghfigeepnbjaaa
/-- What is known of a master, whatever was done: its configuration, and how far its epoch may be. -/
structure MasSt (d : CfgM) (B : Int) (m : MasM) : Prop where
  ok : m.ok
  nodes : m.nodes = d.nodes
  pat : m.patience = d.patience
  ep : m.ch.epoch ≤ B
theorem MasSt.mono {d : CfgM} {B B' : Int} {m : MasM} (h : MasSt d B m) (hb : B ≤ B') : MasSt d B' m := ⟨h.ok, h.nodes, h.pat, Int.le_trans h.ep hb⟩
theorem newMas_st {d : CfgM} (h : okM d = true) : MasSt d 1 (newMas d) := ⟨newMas_ok h, rfl, rfl, Int.le_refl 1⟩
theorem pair_eta {α : Type} (p : α × Int) {e : Int} (h : p.2 = e) : p = (p.1, e) := by cases p; simp only at h; subst h; rfl
theorem gone_st {d : CfgM} {B : Int} {m : MasM} (hm : MasSt d B m) {n : Int} (h : (withoutM m.ch n).2 = 0) : MasSt d (B + 1) (goneM m n) := by
  refine ⟨without_keeps hm.ok h, hm.nodes, hm.pat, ?_⟩
  have := (without_ok hm.ok.ch (pair_eta _ h)).2.1
  have := hm.ep
  show (withoutM m.ch n).1.epoch ≤ B + 1
  omega
theorem join_st {d : CfgM} {B : Int} {m : MasM} (hm : MasSt d B m) (n now : Int) : MasSt d (B + 1) (joinMM m n now).m := by
  unfold joinMM
  split
  · exact hm.mono (by omega)
  · split
    · rename_i h
      refine ⟨join_keeps hm.ok now h, hm.nodes, hm.pat, ?_⟩
      have e := (with_ok hm.ok.ch (pair_eta _ h)).2.1
      have := hm.ep
      show (withM m.ch n).1.epoch ≤ B + 1
      rw [e]
      simp only
      omega
    · exact hm.mono (by omega)
theorem take_st {d : CfgM} {B : Int} {m : MasM} (hm : MasSt d B m) (f k ep ix now : Int) : MasSt d (B + 1) (takeM m f k ep ix now).m := by
  have hh : MasSt d (B + 1) (hearM m f now) := ⟨hear_ok hm.ok f now, hm.nodes, hm.pat, by have := hm.ep; show m.ch.epoch ≤ _; omega⟩
  have h0 : MasSt d (B + 1) m := hm.mono (by omega)
  unfold takeM
  split
  · exact h0
  split
  · exact h0
  split
  · split
    · exact hh
    · split
      · exact ⟨know_ok hh.ok f, hh.nodes, hh.pat, hh.ep⟩
      · exact hh
  split
  · split
    · exact h0
    · split <;> exact h0
  split
  · rename_i h; exact gone_st hm h.2.2.2.2
  · exact h0
theorem tickN_st {d : CfgM} {B : Int} {m : MasM} (hm : MasSt d B m) (now : Int) (l : List (Int × Int)) : ∀ k : Nat, MasSt d (B + k) (tickN m now l k).1
  | 0 => hm.mono (by omega)
  | k + 1 => by
    have ih := tickN_st hm now l k
    simp only [tickN]
    split
    · rename_i h
      unfold lateM at h
      simp only [Bool.and_eq_true, decide_eq_true_eq] at h
      exact (gone_st ih h.2.2).mono (by omega)
    · exact ih.mono (by omega)
theorem tick_st {d : CfgM} {B : Int} {m : MasM} (hm : MasSt d B m) (now : Int) : MasSt d (B + 6) (tickM m now).m := by
  have hl := okCh_len hm.ok.ch
  unfold tickM
  split
  · exact (tickN_st hm now _ _).mono (by omega)
  · exact hm.mono (by omega)
theorem isMem_iff {m : MasM} (hm : m.ok) {n : Int} : isMemM m n = true ↔ 0 ≤ atM m.ch.mem n := by
  unfold isMemM sinceM
  constructor
  · intro h
    split at h
    · rename_i h'; exact h'.2
    · cases h
  · intro h
    rw [if_pos ⟨hm.ch, h⟩]
/-- Is one of the first so many, but a node, known to have all? -/
def othersM (m : MasM) (l : List (Int × Int)) (n : Int) (j : Nat) : Bool := (l.take j).any fun x => !(x.1 == n) && wholeM m x.1
end Go.Proofs.Ytghfigeepnbjaaa
