/-
  Small calls, and numbers, that come in, as lists. No condition.
-/
import Derived.Test.YtlphkjbadjdleaaLinN
import Derived.Test.YtlphkjbadjdleaaP7
namespace Go.Proofs.Ytlphkjbadjdleaa
/-- Rows as a list, with what is known of each. -/
theorem rows_listP {α : Type} {ls : List LeafP} {w : World} {a : Option Addr} {n : Nat} (h : RowsAt ls w a n) (d : α) (cell : α → Nat → Value) (p : α → Prop) (hd : ∀ cs : List Value, AllL w ls cs → ∃ x : α, p x ∧ ∀ j, j < ls.length → cs[j]? = some (cell x j)) :
    ∃ zs : List α, zs.length = n ∧ RowOk w a ls.length n (fun r c => cell (zs.getD r d) c) ∧ ∀ x ∈ zs, p x := by
  obtain ⟨f, hf⟩ := rows_fn h
  have key : ∀ i, ∃ x : α, i < n → p x ∧ ∀ j, j < ls.length → (f i)[j]? = some (cell x j) := fun i => by
    by_cases hi : i < n
    · obtain ⟨b, off, h0, hb, hall, hat⟩ := hf i hi
      obtain ⟨x, hx⟩ := hd _ hall
      exact ⟨x, fun _ => hx⟩
    · exact ⟨d, fun h => absurd h hi⟩
  refine ⟨(List.range n).map fun i => (key i).choose, by simp, fun hn => ?_, fun x hx => ?_⟩
  · obtain ⟨b, off, h0, hb, _, _⟩ := hf 0 hn
    refine ⟨b, off, h0, hb, fun r c hr hc => ?_⟩
    obtain ⟨b', off', h0', _, hall, hat⟩ := hf r hr
    rw [h0] at h0'
    cases h0'
    have := ((key r).choose_spec hr).2 c hc
    rw [hat c _ this]
    simp [List.getD, hr]
  · obtain ⟨i, hi, rfl⟩ := List.mem_map.1 hx
    exact ((key i).choose_spec (List.mem_range.1 hi)).1
theorem rows_smalls {w : World} {a : Option Addr} {n : Nat} (h : RowsAt [intL .u8, intL .u8, intL .u8, intL .u8, intL .u8, intL .u8, intL .u8, intL .u8, intL .u8] w a n) : ∃ l : List SmlM, l.length = n ∧ RowOk w a 9 n (smlF l) ∧ ∀ x ∈ l, x.wf := by
  obtain ⟨zs, h1, h2, h3⟩ := rows_listP h smlZ (fun x c => (smlC x).getD c undef) SmlM.wf (fun cs hall => by
    obtain ⟨_, _, rfl, ⟨n0, rfl, w0⟩, m1⟩ := hall.cons_
    obtain ⟨_, _, rfl, ⟨n1, rfl, w1⟩, m2⟩ := m1.cons_
    obtain ⟨_, _, rfl, ⟨n2, rfl, w2⟩, m3⟩ := m2.cons_
    obtain ⟨_, _, rfl, ⟨n3, rfl, w3⟩, m4⟩ := m3.cons_
    obtain ⟨_, _, rfl, ⟨n4, rfl, w4⟩, m5⟩ := m4.cons_
    obtain ⟨_, _, rfl, ⟨n5, rfl, w5⟩, m6⟩ := m5.cons_
    obtain ⟨_, _, rfl, ⟨n6, rfl, w6⟩, m7⟩ := m6.cons_
    obtain ⟨_, _, rfl, ⟨n7, rfl, w7⟩, m8⟩ := m7.cons_
    obtain ⟨_, _, rfl, ⟨n8, rfl, w8⟩, m9⟩ := m8.cons_
    obtain rfl := m9.nil_
    refine ⟨⟨n0, n1, n2, n3, n4, n5, n6, n7, n8⟩, ⟨?_, ?_, ?_, ?_, ?_, ?_, ?_, ?_, ?_⟩, fun j hj => ?_⟩
    · (have := w0; simp [Lit.wf] at this; exact this)
    · (have := w1; simp [Lit.wf] at this; exact this)
    · (have := w2; simp [Lit.wf] at this; exact this)
    · (have := w3; simp [Lit.wf] at this; exact this)
    · (have := w4; simp [Lit.wf] at this; exact this)
    · (have := w5; simp [Lit.wf] at this; exact this)
    · (have := w6; simp [Lit.wf] at this; exact this)
    · (have := w7; simp [Lit.wf] at this; exact this)
    · (have := w8; simp [Lit.wf] at this; exact this)
    · rcases j with _ | _ | _ | _ | _ | _ | _ | _ | _ | j <;> first | rfl | exact absurd hj (by simp))
  exact ⟨zs, h1, h2, h3⟩
def byteF (zs : List Int) : Nat → Nat → Value := fun r _ => .int .u8 (zs.getD r 0)
theorem rows_bytes {w : World} {a : Option Addr} {n : Nat} (h : RowsAt [intL .u8] w a n) : ∃ zs : List Int, zs.length = n ∧ RowOk w a 1 n (byteF zs) ∧ ∀ x ∈ zs, 0 ≤ x ∧ x ≤ 255 := by
  obtain ⟨zs, h1, h2, h3⟩ := rows_listP h (0 : Int) (fun n _ => .int .u8 n) (fun x => 0 ≤ x ∧ x ≤ 255) (fun cs hall => by
    obtain ⟨_, _, rfl, ⟨n0, rfl, w0⟩, m1⟩ := hall.cons_
    obtain rfl := m1.nil_
    exact ⟨n0, (by have := w0; simp [Lit.wf] at this; exact this), fun j hj => by simp at hj; subst hj; rfl⟩)
  exact ⟨zs, h1, h2, h3⟩
end Go.Proofs.Ytlphkjbadjdleaa
