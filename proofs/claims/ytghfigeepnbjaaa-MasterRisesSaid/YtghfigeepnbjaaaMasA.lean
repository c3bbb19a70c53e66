/-
  An array of six numbers, at any place; what the master's operations do to when each node was heard. No condition.
-/
import Derived.Test.YtghfigeepnbjaaaMasK
namespace Go.Proofs.Ytghfigeepnbjaaa
open Go.RowKit
abbrev arrL (h : Nat → Int) : List SV := [.v (.int .i64 (h 0)), .v (.int .i64 (h 1)), .v (.int .i64 (h 2)), .v (.int .i64 (h 3)), .v (.int .i64 (h 4)), .v (.int .i64 (h 5))]
theorem sel_arr (h : Nat → Int) {v : Int} (h0 : 0 ≤ v) (h6 : v < 6) : getS (arrL h) (v.toNat * 1 + 0) ≠ .junk ∧ ∀ ρ, (getS (arrL h) (v.toNat * 1 + 0)).den ρ = (SV.v (.int .i64 (h v.toNat))).den ρ := by
  have hc : v = 0 ∨ v = 1 ∨ v = 2 ∨ v = 3 ∨ v = 4 ∨ v = 5 := by omega
  rcases hc with rfl | rfl | rfl | rfl | rfl | rfl <;> exact ⟨(fun h => by cases h), fun _ => rfl⟩
theorem lay_arr (h : Nat → Int) (x : Int) {v : Int} (h0 : 0 ≤ v) (h6 : v < 6) : v.toNat * 1 + 0 + [SV.v (.int .i64 x)].length ≤ (arrL h).length ∧ ∀ ρ, SV.denL ρ (layL (arrL h) (v.toNat * 1 + 0) [.v (.int .i64 x)]) = SV.denL ρ (arrL fun i => if i = v.toNat then x else h i) := by
  have hc : v = 0 ∨ v = 1 ∨ v = 2 ∨ v = 3 ∨ v = 4 ∨ v = 5 := by omega
  rcases hc with rfl | rfl | rfl | rfl | rfl | rfl <;> exact ⟨(by simp), fun _ => rfl⟩
theorem take_heard {m : MasM} {n : Int} (hn : 0 ≤ n ∧ n < m.nodes) (now : Int) : (takeM m n 11 m.ch.epoch 1 now).m.heard = fun i => if i = n.toNat then nearM now else m.heard i := by
  rw [take_alive m n m.ch.epoch 1 now (by omega), if_neg (fun h => h rfl)]
  split <;> rfl
theorem join_heard {m : MasM} {n now : Int} (h : (joinMM m n now).er = 0) : (joinMM m n now).m.heard = fun i => if i = n.toNat then nearM now else m.heard i := by
  unfold joinMM at h ⊢
  split at h
  · cases h
  · rename_i h1
    rw [if_neg h1]
    split at h
    · rename_i h2
      rw [if_pos h2]
      rfl
    · rename_i h2
      exact absurd h h2
theorem join_no {m : MasM} {n now : Int} (h : ¬ (joinMM m n now).er = 0) : (joinMM m n now).m = m := by
  unfold joinMM at h ⊢
  split
  · rfl
  · rename_i h1
    split
    · rename_i h2
      rw [if_neg h1, if_pos h2] at h
      exact absurd rfl h
    · rfl
theorem suspect_heard (m : MasM) (n : Int) : (suspectM m n).m.heard = m.heard := by
  unfold suspectM
  split
  · rfl
  · split
    · rfl
    · split <;> rfl
theorem tick_heardM (m : MasM) (now : Int) : (tickM m now).m.heard = m.heard := by rw [tick_fst]; exact (tick_heard now _ _).1
theorem relR3 {w : World} {a : Option Addr} {sz n : Nat} {f : Nat → Nat → Value} (h : RowOk w a sz n f) {a2 : Option Addr} {sz2 n2 : Nat} {f2 : Nat → Nat → Value} (h2 : RowOk w a2 sz2 n2 f2) {a3 : Option Addr} {sz3 n3 : Nat} {f3 : Nat → Nat → Value} (h3 : RowOk w a3 sz3 n3 f3) :
    HRel w noU (fun i => ([(a, sz, n, f), (a2, sz2, n2, f2), (a3, sz3, n3, f3)][i]?).bind (·.1)) [.row sz n f, .row sz2 n2 f2, .row sz3 n3 f3] w :=
  relR w [(a, sz, n, f), (a2, sz2, n2, f2), (a3, sz3, n3, f3)] fun i a' sz' n' f' hi => by
    rcases i with _ | _ | _ | i
    · cases hi; exact h
    · cases hi; exact h2
    · cases hi; exact h3
    · simp at hi
end Go.Proofs.Ytghfigeepnbjaaa
