/-
  The operations that leave the memory alone (3). No condition.
-/
import Derived.Test.YtlphkjbadjdleaaRx4
import Derived.Laws.Tables
namespace Go.Proofs.Ytlphkjbadjdleaa

theorem allOne_spec : ∀ {cs : List SV}, allOne cs = true → ∀ ρ, ∀ v ∈ SV.denL ρ cs, v.oneCell' = true
  | [], _, _, v, hv => by cases hv
  | x :: xs, h, ρ, v, hv => by
    simp only [allOne, Bool.and_eq_true] at h
    simp only [SV.denL, List.mem_cons] at hv
    rcases hv with rfl | hv
    · cases x <;> simp_all [oneB, SV.den, mapV, Value.oneCell']
    · exact allOne_spec h.2 ρ v hv
theorem cellsK_spec {s : SV} {K : List SV → Prop} (h : cellsK s K) : s ≠ .junk ∧ ∃ ds, K ds ∧ ∀ ρ, (s.den ρ).cells = (SV.denL ρ ds).toArray ∧ ∀ v ∈ SV.denL ρ ds, v.oneCell' = true := by
  cases s with
  | junk => exact h.elim
  | tup vs => exact h.elim
  | agg cs => exact ⟨(fun h => by cases h), cs, h.k, fun ρ => ⟨rfl, allOne_spec h.h ρ⟩⟩
  | v x =>
    refine ⟨(fun h => by cases h), [.v x], ?_, fun ρ => ?_⟩
    · cases x <;> first | exact h | exact h.elim
    · cases x <;> first | exact h.elim | exact ⟨rfl, by simp [SV.denL, SV.den, Value.oneCell']⟩
  | kb b => exact ⟨(fun h => by cases h), [.kb b], h, fun ρ => ⟨rfl, by simp [SV.denL, SV.den, Value.oneCell']⟩⟩
  | p i o => exact ⟨(fun h => by cases h), [.p i o], h, fun ρ => ⟨rfl, by simp [SV.denL, SV.den, Value.oneCell']⟩⟩
  | s i o n c => exact ⟨(fun h => by cases h), [.s i o n c], h, fun ρ => ⟨rfl, by simp [SV.denL, SV.den, Value.oneCell']⟩⟩
  | rp i z r c => exact ⟨(fun h => by cases h), [.rp i z r c], h, fun ρ => ⟨rfl, by simp [SV.denL, SV.den, Value.oneCell']⟩⟩
  | rs i n c => exact ⟨(fun h => by cases h), [.rs i n c], h, fun ρ => ⟨rfl, by simp [SV.denL, SV.den, Value.oneCell']⟩⟩
  | os i n => exact ⟨(fun h => by cases h), [.os i n], h, fun ρ => ⟨rfl, by simp [SV.denL, SV.den, Value.oneCell']⟩⟩
  | ov i z l n => exact ⟨(fun h => by cases h), [.ov i z l n], h, fun ρ => ⟨rfl, by simp [SV.denL, SV.den, Value.oneCell']⟩⟩
  | m i => exact ⟨(fun h => by cases h), [.m i], h, fun ρ => ⟨rfl, by simp [SV.denL, SV.den, mapV, Value.oneCell']⟩⟩
  | fn f c => exact ⟨(fun h => by cases h), [.fn f c], h, fun ρ => ⟨rfl, by simp [SV.denL, SV.den, Value.oneCell']⟩⟩

def layL (xs : List SV) (o : Nat) (ys : List SV) : List SV := xs.take o ++ ys ++ xs.drop (o + ys.length)
theorem layK_nil (xs : List SV) (o : Nat) (K : List SV → Prop) : layK xs o [] K = K xs := by cases xs <;> cases o <;> rfl
theorem layK_spec : ∀ (xs : List SV) (o : Nat) (ys : List SV) (K : List SV → Prop), layK xs o ys K → ys = [] ∧ K xs ∨ (K (layL xs o ys) ∧ o + ys.length ≤ xs.length)
  | xs, o, [], K, h => by left; rw [layK_nil] at h; exact ⟨rfl, h⟩
  | [], o, _ :: _, K, h => by cases o <;> exact h.elim
  | x :: xs, 0, y :: ys, K, h => by
    right
    have h2 : layK xs 0 ys (fun zs => K (y :: zs)) := h
    clear h
    rcases layK_spec xs 0 ys _ h2 with ⟨hy, h3⟩ | ⟨h3, hl⟩
    · subst hy
      exact ⟨by simpa [layL] using h3, by simp⟩
    · exact ⟨by simpa [layL] using h3, by simp at hl ⊢; omega⟩
  | x :: xs, o + 1, y :: ys, K, h => by
    right
    rcases layK_spec xs o (y :: ys) _ h with ⟨h0, _⟩ | ⟨h3, hl⟩
    · cases h0
    · refine ⟨?_, by simp at hl ⊢; omega⟩
      have e : layL (x :: xs) (o + 1) (y :: ys) = x :: layL xs o (y :: ys) := by
        simp only [layL, List.take_succ_cons, List.cons_append, show o + 1 + (y :: ys).length = o + (y :: ys).length + 1 by omega, List.drop_succ_cons]
      rw [e]; exact h3
theorem layL_nil (xs : List SV) (o : Nat) : layL xs o [] = xs := by simp [layL]
theorem layK_spec' {xs : List SV} {o : Nat} {ys : List SV} {K : List SV → Prop} (h : layK xs o ys K) : K (layL xs o ys) ∧ (ys = [] ∨ o + ys.length ≤ xs.length) := by
  rcases layK_spec xs o ys K h with ⟨rfl, h⟩ | ⟨h, hl⟩
  · exact ⟨by rw [layL_nil]; rw [layK_nil] at *; assumption, .inl rfl⟩
  · exact ⟨h, .inr hl⟩
theorem layL_den (ρ : Loc) (xs : List SV) (o : Nat) (ys : List SV) : SV.denL ρ (layL xs o ys) = (SV.denL ρ xs).take o ++ SV.denL ρ ys ++ (SV.denL ρ xs).drop (o + ys.length) := by
  simp [layL, denL_eq, List.map_take, List.map_drop]
theorem layL_length {xs : List SV} {o : Nat} {ys : List SV} (h : ys = [] ∨ o + ys.length ≤ xs.length) : (layL xs o ys).length = xs.length := by
  rcases h with rfl | h
  · rw [layL_nil]
  · simp [layL]; omega

theorem set_mid (l : List Value) (n : Nat) (v : Value) (h : n < l.length) : l.set n v = l.take n ++ v :: l.drop (n + 1) := by
  rw [List.set_eq_take_append_cons_drop, if_pos h]
theorem foldl_lay (off : Nat) : ∀ (ds : List Value) (k : Nat) (arr : Array Value), off + k + ds.length ≤ arr.size →
    (ds.zipIdx k).foldl (fun cs (p : Value × Nat) => cs.setIfInBounds (off + p.2) p.1) arr = (arr.toList.take (off + k) ++ ds ++ arr.toList.drop (off + k + ds.length)).toArray
  | [], k, arr, _ => by simp
  | d :: ds, k, arr, h => by
    have hk : off + k < arr.size := by simp at h; omega
    simp only [List.zipIdx_cons, List.foldl_cons]
    rw [foldl_lay off ds (k + 1) _ (by simp at h ⊢; omega)]
    congr 1
    simp only [Array.toList_setIfInBounds]
    have e1 : (arr.toList.set (off + k) d).take (off + (k + 1)) = arr.toList.take (off + k) ++ [d] := by
      rw [show off + (k + 1) = (off + k) + 1 by omega, List.take_add_one, List.take_set_of_le (Nat.le_refl _)]
      simp [hk]
    have e2 : (arr.toList.set (off + k) d).drop (off + (k + 1) + ds.length) = arr.toList.drop (off + k + (d :: ds).length) := by
      rw [List.drop_set_of_lt (by omega)]
      congr 1
      simp
      omega
    rw [e1, e2]
    simp
theorem fillK_sound (place : Nat → Option (Nat × Nat)) : ∀ (parts : List (Nat × SV)) (cells : List SV) (K : List SV → Prop), fillK place cells parts K →
    (∀ q ∈ parts, q.2 ≠ .junk) ∧ ∃ cs, K cs ∧ ∀ ρ, Instr.fill place (SV.denL ρ cells).toArray (parts.map fun q => (q.1, q.2.den ρ)) = some (SV.denL ρ cs).toArray
  | [], cells, K, h => ⟨fun _ h => (by cases h), cells, h, fun ρ => rfl⟩
  | (i, s) :: rest, cells, K, h => by
    have h : fillOne place (i, s) cells (fun cells' => fillK place cells' rest K) := h
    unfold fillOne at h
    split at h
    · exact h.elim
    · rename_i off size hp
      obtain ⟨hj, ds, h, hc⟩ := cellsK_spec h
      split at h
      · rename_i hb
        simp only [Bool.and_eq_true, Nat.blt_eq] at hb
        have hl : ds.length = size := Nat.eq_of_beq_eq_true hb.1
        obtain ⟨h, hlen⟩ := layK_spec' h
        obtain ⟨hjs, cs, hK, hf⟩ := fillK_sound place rest _ K h
        refine ⟨fun q hq => ?_, cs, hK, fun ρ => ?_⟩
        · rcases List.mem_cons.1 hq with rfl | hq
          · exact hj
          · exact hjs q hq
        · simp only [List.map_cons, Instr.fill, hp]
          have e1 : (s.den ρ).cells.size = size := by rw [(hc ρ).1]; simp [denL_length, hl]
          rcases hlen with rfl | hlen
          · simp at hl; omega
          · rw [if_neg (by rw [e1]; simp [denL_length]; omega)]
            rw [← hf ρ]
            congr 1
            rw [(hc ρ).1]
            have := foldl_lay off (SV.denL ρ ds) 0 (SV.denL ρ cells).toArray (by simp [denL_length]; omega)
            rw [layL_den]
            simp only [Nat.add_zero, denL_length] at this
            rw [← this]
            rw [← Array.foldl_toList]
            simp
      · exact h.elim
end Go.Proofs.Ytlphkjbadjdleaa
