/-
  Rows that come in, as lists. No condition.
-/
import Derived.Test.YtcogbepdjegheaaRead
import Derived.Test.YtcogbepdjegheaaChainM
namespace Go.Proofs.Ytcogbepdjegheaa
theorem rows_fn {ls : List LeafP} {w : World} {a : Option Addr} {n : Nat} (h : RowsAt ls w a n) : ∃ f : Nat → List Value, ∀ i, i < n → ∃ b off, a = some ⟨b, off, none⟩ ∧ b < w.heap.size ∧ AllL w ls (f i) ∧ ∀ j u, (f i)[j]? = some u → w.cell? ⟨b, off + i * ls.length + j, none⟩ = some u := by
  have key : ∀ i, ∃ cs : List Value, i < n → ∃ b off, a = some ⟨b, off, none⟩ ∧ b < w.heap.size ∧ AllL w ls cs ∧ ∀ j u, cs[j]? = some u → w.cell? ⟨b, off + i * ls.length + j, none⟩ = some u := fun i => by
    by_cases hi : i < n
    · obtain ⟨b, off, rfl, hb, hx⟩ := h (by omega)
      obtain ⟨cs, hall, hat⟩ := hx i hi
      exact ⟨cs, fun _ => ⟨b, off, rfl, hb, hall, hat⟩⟩
    · exact ⟨[], fun h => absurd h hi⟩
  exact ⟨fun i => (key i).choose, fun i => (key i).choose_spec⟩
/-- Rows as a list of anything that says their cells. -/
theorem rows_list {α : Type} {ls : List LeafP} {w : World} {a : Option Addr} {n : Nat} (h : RowsAt ls w a n) (d : α) (cell : α → Nat → Value) (hd : ∀ cs : List Value, AllL w ls cs → ∃ x : α, ∀ j, j < ls.length → cs[j]? = some (cell x j)) :
    ∃ zs : List α, zs.length = n ∧ RowOk w a ls.length n (fun r c => cell (zs.getD r d) c) ∧ ∀ x ∈ zs, ∃ cs : List Value, AllL w ls cs ∧ ∀ j, j < ls.length → cs[j]? = some (cell x j) := by
  obtain ⟨f, hf⟩ := rows_fn h
  have key : ∀ i, ∃ x : α, i < n → ∀ j, j < ls.length → (f i)[j]? = some (cell x j) := fun i => by
    by_cases hi : i < n
    · obtain ⟨b, off, h0, hb, hall, hat⟩ := hf i hi
      obtain ⟨x, hx⟩ := hd _ hall
      exact ⟨x, fun _ => hx⟩
    · exact ⟨d, fun h => absurd h hi⟩
  refine ⟨(List.range n).map fun i => (key i).choose, by simp, fun hn => ?_, fun x hx => ?_⟩
  · obtain ⟨b, off, h0, hb, _, _⟩ := hf 0 hn
    refine ⟨b, off, h0, hb, fun r c hr hc => ?_⟩
    obtain ⟨b', off', h0', _, hall, hat⟩ := hf r hr
    rw [h0] at h0'
    cases h0'
    have := (key r).choose_spec hr c hc
    rw [hat c _ this]
    simp [List.getD, hr]
  · obtain ⟨i, hi, rfl⟩ := List.mem_map.1 hx
    have hi := List.mem_range.1 hi
    obtain ⟨b, off, h0, hb, hall, hat⟩ := hf i hi
    exact ⟨f i, hall, (key i).choose_spec hi⟩
theorem rows_ints {w : World} {a : Option Addr} {n : Nat} (h : RowsAt [intL .i64] w a n) : ∃ zs : List Int, zs.length = n ∧ RowOk w a 1 n (fun r _ => .int .i64 (zs.getD r 0)) := by
  obtain ⟨zs, h1, h2, _⟩ := rows_list h (0 : Int) (fun n _ => .int .i64 n) (fun cs hall => by
    obtain ⟨_, _, rfl, ⟨n0, rfl, w0⟩, m1⟩ := hall.cons_
    obtain rfl := m1.nil_
    exact ⟨n0, fun j hj => by simp at hj; subst hj; rfl⟩)
  exact ⟨zs, h1, h2⟩
theorem rows_mems {w : World} {a : Option Addr} {n : Nat} (h : RowsAt [intL .i64, intL .i64] w a n) : ∃ ms : List (Int × Int), ms.length = n ∧ RowOk w a 2 n (memF ms) := by
  obtain ⟨zs, h1, h2, _⟩ := rows_list h ((0, 0) : Int × Int) (fun m c => if c = 0 then .int .i64 m.1 else .int .i64 m.2) (fun cs hall => by
    obtain ⟨_, _, rfl, ⟨n0, rfl, w0⟩, m1⟩ := hall.cons_
    obtain ⟨_, _, rfl, ⟨n1, rfl, w1⟩, m2⟩ := m1.cons_
    obtain rfl := m2.nil_
    refine ⟨(n0, n1), fun j hj => ?_⟩
    rcases j with _ | _ | j
    · rfl
    · rfl
    · exact absurd hj (by simp))
  exact ⟨zs, h1, h2⟩
end Go.Proofs.Ytcogbepdjegheaa
