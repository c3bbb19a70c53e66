/-
  Rows that come in, as lists of whatever says their cells. No condition.
-/
import Derived.Test.YtlphkjbadjdleaaRead
import Derived.Test.YtlphkjbadjdleaaRxC
namespace Go.Proofs.Ytlphkjbadjdleaa
theorem rows_fn {ls : List LeafP} {w : World} {a : Option Addr} {n : Nat} (h : RowsAt ls w a n) : ∃ f : Nat → List Value, ∀ i, i < n → ∃ b off, a = some ⟨b, off, none⟩ ∧ b < w.heap.size ∧ AllL w ls (f i) ∧ ∀ j u, (f i)[j]? = some u → w.cell? ⟨b, off + i * ls.length + j, none⟩ = some u := by
  have key : ∀ i, ∃ cs : List Value, i < n → ∃ b off, a = some ⟨b, off, none⟩ ∧ b < w.heap.size ∧ AllL w ls cs ∧ ∀ j u, cs[j]? = some u → w.cell? ⟨b, off + i * ls.length + j, none⟩ = some u := fun i => by
    by_cases hi : i < n
    · obtain ⟨b, off, rfl, hb, hx⟩ := h (by omega)
      obtain ⟨cs, hall, hat⟩ := hx i hi
      exact ⟨cs, fun _ => ⟨b, off, rfl, hb, hall, hat⟩⟩
    · exact ⟨[], fun h => absurd h hi⟩
  exact ⟨fun i => (key i).choose, fun i => (key i).choose_spec⟩
/-- Rows as a list of anything that says their cells. -/
theorem rows_list {α : Type} {ls : List LeafP} {w : World} {a : Option Addr} {n : Nat} (h : RowsAt ls w a n) (d : α) (cell : α → Nat → Value) (hd : ∀ cs : List Value, AllL w ls cs → ∃ x : α, ∀ j, j < ls.length → cs[j]? = some (cell x j)) :
    ∃ zs : List α, zs.length = n ∧ RowOk w a ls.length n (fun r c => cell (zs.getD r d) c) ∧ ∀ x ∈ zs, ∃ cs : List Value, AllL w ls cs ∧ ∀ j, j < ls.length → cs[j]? = some (cell x j) := by
  obtain ⟨f, hf⟩ := rows_fn h
  have key : ∀ i, ∃ x : α, i < n → ∀ j, j < ls.length → (f i)[j]? = some (cell x j) := fun i => by
    by_cases hi : i < n
    · obtain ⟨b, off, h0, hb, hall, hat⟩ := hf i hi
      obtain ⟨x, hx⟩ := hd _ hall
      exact ⟨x, fun _ => hx⟩
    · exact ⟨d, fun h => absurd h hi⟩
  refine ⟨(List.range n).map fun i => (key i).choose, by simp, fun hn => ?_, fun x hx => ?_⟩
  · obtain ⟨b, off, h0, hb, _, _⟩ := hf 0 hn
    refine ⟨b, off, h0, hb, fun r c hr hc => ?_⟩
    obtain ⟨b', off', h0', _, hall, hat⟩ := hf r hr
    rw [h0] at h0'
    cases h0'
    have := (key r).choose_spec hr c hc
    rw [hat c _ this]
    simp [List.getD, hr]
  · obtain ⟨i, hi, rfl⟩ := List.mem_map.1 hx
    have hi := List.mem_range.1 hi
    obtain ⟨b, off, h0, hb, hall, hat⟩ := hf i hi
    exact ⟨f i, hall, (key i).choose_spec hi⟩
theorem SliceV.congr {w : World} {v : Value} {sz n : Nat} {f g : Nat → Nat → Value} (h : SliceV w v sz n f) (hf : ∀ r c, r < n → c < sz → f r c = g r c) : SliceV w v sz n g := by
  obtain ⟨a, cap, rfl, h1, h2, h3⟩ := h
  refine ⟨a, cap, rfl, h1, h2, fun hn => ?_⟩
  obtain ⟨b, off, rfl, hb, hc⟩ := h3 hn
  exact ⟨b, off, rfl, hb, fun r c hr hcz => (hc r c hr hcz).trans (by rw [hf r c hr hcz])⟩
end Go.Proofs.Ytlphkjbadjdleaa
