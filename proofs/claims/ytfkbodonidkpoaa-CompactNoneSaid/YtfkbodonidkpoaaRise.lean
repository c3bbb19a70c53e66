/-
  The document's cells rise by their keys. Plain.
-/
import Derived.Test.YtfkbodonidkpoaaRefM
namespace Go.Proofs.Ytfkbodonidkpoaa
theorem lessB_eq : ∀ (x y : List UInt8), Op.bytesLess x y = decide (x < y)
  | [], [] => by simp [Op.bytesLess]
  | _ :: _, [] => by simp [Op.bytesLess]
  | [], _ :: _ => by simp [Op.bytesLess]
  | a :: x, b :: y => by
    rw [Op.bytesLess, lessB_eq x y]
    simp only [List.cons_lt_cons_iff]
    by_cases h1 : a < b <;> by_cases h2 : a = b <;> by_cases h3 : x < y <;> simp [h1, h2, h3]
def riseC (l : List KC) : Prop := l.Pairwise fun a b => a.1 < b.1
theorem riseC_drop {l : List KC} (k : List UInt8) (h : riseC l) : riseC (dropC l k) := h.filter _
theorem bytesLess_lt (x y : List UInt8) : Op.bytesLess x y = true ↔ x < y := by rw [lessB_eq]; simp
theorem place_take : ∀ (l : List KC) (k : List UInt8), ∀ c ∈ l.take (placeC l k), c.1 < k
  | [], _, c, h => by simp at h
  | x :: r, k, c, h => by
    unfold placeC at h
    split at h
    · rename_i hb
      rw [List.take_succ_cons] at h
      rcases List.mem_cons.1 h with rfl | h
      · exact (bytesLess_lt _ _).1 hb
      · exact place_take r k c h
    · simp at h
theorem place_drop : ∀ (l : List KC) (k : List UInt8), riseC l → (∀ c ∈ l, c.1 ≠ k) → ∀ c ∈ l.drop (placeC l k), k < c.1
  | [], _, _, _, c, h => by simp at h
  | x :: r, k, hr, hn, c, h => by
    have hx := List.pairwise_cons.1 hr
    unfold placeC at h
    split at h
    · rw [List.drop_succ_cons] at h
      exact place_drop r k hx.2 (fun c hc => hn c (List.mem_cons_of_mem _ hc)) c h
    · rename_i hb
      have h1 : ¬ x.1 < k := fun e => hb ((bytesLess_lt _ _).2 e)
      have h2 : k < x.1 := by
        rcases List.le_total x.1 k with h | h
        · rcases Classical.em (x.1 = k) with e | e
          · exact absurd e (hn x (List.mem_cons_self ..))
          · exact absurd (Classical.byContradiction fun hl => e (List.le_antisymm h (List.not_lt.1 hl))) h1
        · exact Classical.byContradiction fun hl => hn x (List.mem_cons_self ..) (List.le_antisymm (List.not_lt.1 hl) h)
      rw [List.drop_zero] at h
      rcases List.mem_cons.1 h with rfl | h
      · exact h2
      · exact List.lt_trans h2 (hx.1 c h)
theorem riseC_ins {l : List KC} (k v : List UInt8) (n : Int) (h : riseC l) : riseC (insC l k v n) := by
  have hd := riseC_drop k h
  have hn : ∀ c ∈ dropC l k, c.1 ≠ k := fun c hc e => by
    have := (List.mem_filter.1 hc).2
    simp [e] at this
  have h1 := place_take (dropC l k) k
  have h2 := place_drop (dropC l k) k hd hn
  unfold insC riseC
  rw [List.pairwise_append, List.pairwise_append]
  refine ⟨⟨hd.sublist (List.take_sublist _ _), List.pairwise_singleton _ _, fun a ha b hb => ?_⟩, hd.sublist (List.drop_sublist _ _), fun a ha b hb => ?_⟩
  · rw [List.mem_singleton.1 hb]; exact h1 a ha
  · rcases List.mem_append.1 ha with ha | ha
    · exact List.lt_trans (h1 a ha) (h2 b hb)
    · rw [List.mem_singleton.1 ha]; exact h2 b hb
theorem riseC_apply {l : List KC} (n : Int) (o : OpM) (h : riseC l) : riseC (applyD l n o).1 := by
  unfold applyD
  cases (effM (findC l o.key) n o).1 with
  | stay => exact h
  | gone => exact riseC_drop _ h
  | put v n => exact riseC_ins _ _ _ h
end Go.Proofs.Ytfkbodonidkpoaa
