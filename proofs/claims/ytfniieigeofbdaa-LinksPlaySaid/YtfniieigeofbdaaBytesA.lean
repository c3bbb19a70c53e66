/-
  Bytes and acts that come in; what bytes are reckoned to. No condition.
-/
import Derived.Test.YtfniieigeofbdaaP7
import Derived.Test.YtfniieigeofbdaaP5
import Derived.IntWalk
namespace Go.Proofs.Ytfniieigeofbdaa
theorem Ar.u8 {n : Int} {K : SV → Prop} (h1 : 0 ≤ n) (h2 : n ≤ 255) (q : K (.v (.int .u8 n))) : Ar .u8 n K := .plain (IntWalk.u8_in _ ⟨h1, h2⟩) q
theorem rows_listP {α : Type} {ls : List LeafP} {w : World} {a : Option Addr} {n : Nat} (h : RowsAt ls w a n) (d : α) (cell : α → Nat → Value) (p : α → Prop) (hd : ∀ cs : List Value, AllL w ls cs → ∃ x : α, p x ∧ ∀ j, j < ls.length → cs[j]? = some (cell x j)) :
    ∃ zs : List α, zs.length = n ∧ RowOk w a ls.length n (fun r c => cell (zs.getD r d) c) ∧ ∀ x ∈ zs, p x := by
  obtain ⟨f, hf⟩ := rows_fn h
  have key : ∀ i, ∃ x : α, i < n → p x ∧ ∀ j, j < ls.length → (f i)[j]? = some (cell x j) := fun i => by
    by_cases hi : i < n
    · obtain ⟨b, off, h0, hb, hall, hat⟩ := hf i hi
      obtain ⟨x, hx⟩ := hd _ hall
      exact ⟨x, fun _ => hx⟩
    · exact ⟨d, fun h => absurd h hi⟩
  refine ⟨(List.range n).map fun i => (key i).choose, by simp, fun hn => ?_, fun x hx => ?_⟩
  · obtain ⟨b, off, h0, hb, _, _⟩ := hf 0 hn
    refine ⟨b, off, h0, hb, fun r c hr hc => ?_⟩
    obtain ⟨b', off', h0', _, hall, hat⟩ := hf r hr
    rw [h0] at h0'
    cases h0'
    have := ((key r).choose_spec hr).2 c hc
    rw [hat c _ this]
    simp [List.getD, hr]
  · obtain ⟨i, hi, rfl⟩ := List.mem_map.1 hx
    exact ((key i).choose_spec (List.mem_range.1 hi)).1
def byteF (zs : List Int) : Nat → Nat → Value := fun r _ => .int .u8 (zs.getD r 0)
end Go.Proofs.Ytfniieigeofbdaa
