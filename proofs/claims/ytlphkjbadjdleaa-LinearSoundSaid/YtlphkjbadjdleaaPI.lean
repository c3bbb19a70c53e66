/-
  How an argument reads, cell by cell: arrays. No condition.
-/
import Derived.Test.YtlphkjbadjdleaaP7
namespace Go.Proofs.Ytlphkjbadjdleaa
open Go.RowKit Go.ChangeShapes Go.WideShapes
section
variable {P : Program}
theorem array_all {H : Type} (enc : TypeId × Value → H) (w : World) (base : Nat) (spare : Nat → Bool) (held : Bool) (fuel : Nat) (cs : List Value) {e : TypeId} {ls : List LeafP} (he : Reads P e ls) {n : Nat} (hlen : cs.length = n * ls.length)
    (h : ∀ i : Nat, i < n → ∃ y, DataW.trod enc P w base spare held fuel e ((cs.drop (i * ls.length)).take ls.length) = some y) :
    ∀ k : Nat, k ≤ n → AllL w (List.replicate k ls).flatten (cs.drop ((n - k) * ls.length))
  | 0, _ => by
    rw [Nat.sub_zero, List.drop_of_length_le (by omega)]
    trivial
  | k + 1, hk => by
    have ih := array_all enc w base spare held fuel cs he hlen h k (by omega)
    obtain ⟨y, hy⟩ := h (n - (k + 1)) (by omega)
    have h1 := he.2 enc w base spare held fuel _ y hy
    have h3 := h1.append_ ih
    have e1 : (n - k) * ls.length = (n - (k + 1)) * ls.length + ls.length := by
      rw [show n - k = n - (k + 1) + 1 by omega, Nat.add_mul, Nat.one_mul]
    rw [e1, ← List.drop_drop, List.take_append_drop] at h3
    rw [List.replicate_succ, List.flatten_cons]
    exact h3
theorem reads_array {t e : TypeId} {n : Nat} {ls ls' : List LeafP} (ht : P.underlying t = some (.array n e)) (hc : P.cellsOf t = n * ls.length) (he : Reads P e ls) (hl : (List.replicate n ls).flatten = ls') : Reads P t ls' := by
  subst hl
  refine ⟨by simp [hc], fun enc w base spare held fuel cs x h => ?_⟩
  obtain ⟨xs, m, _, _, hlen, hxl, hg⟩ := DataW.trod_array ht h
  have := array_all enc w base spare held m cs he (n := n) (by rw [hlen, hc]) (fun i hi => by
    have h1 := hg i hi
    rw [he.1] at h1
    exact ⟨xs[i]'(by rw [hxl]; exact hi), h1.trans (List.getElem?_eq_getElem (by rw [hxl]; exact hi))⟩) n (Nat.le_refl _)
  rwa [Nat.sub_self, Nat.zero_mul, List.drop_zero] at this
/-- An array by value. -/
theorem reads_agg_array {t e : TypeId} {n : Nat} {ls : List LeafP} (ht : P.underlying t = some (.array n e)) (hr : Reads P t ls) {H : Type} {enc : TypeId × Value → H} {w : World} {base : Nat} {spare : Nat → Bool} {held : Bool} {r : Reach} {b0 : Nat} {v : Value} {d : DataW H} {p : List MemPlace}
    (hv : Value.okWide P w r b0 t v) (h : DataW.Trod enc P w base spare held t v d p) : ∃ cs : List Value, v = .agg cs.toArray ∧ AllL w ls cs := by
  simp only [Value.okWide, ht] at hv
  obtain ⟨cs, rfl, _⟩ := hv
  obtain ⟨fuel, hf⟩ := h
  exact ⟨cs.toList, by simp, hr.2 enc w base spare held fuel _ _ hf⟩
end
end Go.Proofs.Ytlphkjbadjdleaa
