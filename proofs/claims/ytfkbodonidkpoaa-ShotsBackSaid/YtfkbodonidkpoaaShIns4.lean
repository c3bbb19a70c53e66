/-
  slices.Insert, as a call in any memory: a cell, a client's last entry. No condition.
-/
import Derived.Test.YtfkbodonidkpoaaPS
import Derived.Test.YtfkbodonidkpoaaPT
import Derived.Test.YtfkbodonidkpoaaShMove
namespace Go.Proofs.Ytfkbodonidkpoaa
open Go.RowKit
theorem insAt_len {α : Type} {l : List α} {k : Nat} (x : α) (hk : k ≤ l.length) : (insAt l k x).length = l.length + 1 := by
  simp [insAt]; omega
theorem insAt_getD {α : Type} {l : List α} {k : Nat} (x d : α) (hk : k ≤ l.length) (r : Nat) : (insAt l k x).getD r d = if r < k then l.getD r d else if r = k then x else l.getD (r - 1) d := by
  have hkl : (l.take k).length = k := by simp [hk]
  unfold insAt
  simp only [List.getD]
  by_cases h1 : r < k
  · rw [if_pos h1, List.getElem?_append_left (by omega), List.getElem?_take, if_pos h1]
  · rw [if_neg h1, List.getElem?_append_right (by omega), hkl]
    by_cases h2 : r = k
    · subst h2; simp
    · obtain ⟨t, rfl⟩ : ∃ t, r = k + 1 + t := ⟨r - k - 1, by omega⟩
      rw [if_neg h2, show k + 1 + t - k = t + 1 by omega, List.getElem?_cons_succ, List.getElem?_drop, show k + 1 + t - 1 = k + t by omega]
theorem insF_rows {α : Type} (cell : α → List Value) (d : α) {l : List α} {k : Nat} (x : α) (hk : k ≤ l.length) : ∀ r c, insF (rowsF cell d l) k (cell x) r c = rowsF cell d (insAt l k x) r c := fun r c => by
  unfold insF rowsF
  rw [insAt_getD x d hk]
  by_cases h1 : r < k
  · rw [if_pos h1, if_pos h1]
  · rw [if_neg h1, if_neg h1]
    by_cases h2 : r = k
    · rw [if_pos h2, if_pos h2]
    · rw [if_neg h2, if_neg h2]
section
variable {w0 : World} {U : Nat → Prop}
/-- The block of a slice of one's own that holds something. -/
theorem own_blk {ρ : Loc} {H : List HE} {w : World} (h : HRel w0 U ρ H w) {j sz m : Nat} {ty : TypeId} {G : Nat → Nat → Value} (hj : getH H j = .own ty sz m G) (hm : 0 < m) :
    ∃ gv cv vs, (SV.os j m).den ρ = .slice (some ⟨gv, 0, none⟩) m cv ∧ Blk w gv ty vs ∧ m ≤ cv ∧ vs.toList.take (m * sz) = cellsF sz G m ∧ ∃ a, ρ j = some a ∧ a.block = gv := by
  obtain ⟨_, ⟨_, h0⟩ | ⟨g, cap, cur, hv, _, hk, h1, h2, h3, h4⟩⟩ := h.at.ent j _ (getH_own hj)
  · omega
  · refine ⟨g, cap, cur, hv, hk, h1, h4, ?_⟩
    simp only [SV.den, atB'] at hv
    injection hv with hv _ _
    obtain ⟨a, ha, hae⟩ := Option.map_eq_some_iff.1 hv
    injection hae with hae
    exact ⟨a, ha, hae⟩
theorem insC_n {H : List HE} {K : SV → List HE → Prop} (i j k : Nat) (l : List KC) (c : KC) (G : Nat → Nat → Value) (hi : getH H i = .own 104 3 l.length (celF l)) (hj : getH H j = .own 104 3 1 G) (hij : i ≠ j) (hG : ∀ t, t < 3 → G 0 t = (celC c).getD t undef) (hk : k ≤ l.length) (hl : l.length ≤ 1000000) (m : Nat) (hm : m = l.length + 1)
    (hK : setHK H i .none fun H1 => appK H1 (.own 104 3 m (celF (insAt l k c))) fun H' => lenK H fun N => K (.os N m) H') :
    CallN Try.prog w0 U 82 [.os i l.length, .v (.int .i64 k), .os j 1] H K :=
  call_move i m (celF (insAt l k c)) hi (fun ρ w hr => by
    subst hm
    obtain ⟨gv, cv, vs, hv, hb, hcv, htk, a, ha, hag⟩ := own_blk hr hj Nat.one_pos
    have e : (SV.denL ρ [.os i l.length, .v (.int .i64 k), .os j 1]).toArray = #[(SV.os i l.length).den ρ, .int .i64 k, .slice (some ⟨gv, 0, none⟩) 1 cv] := by
      simp only [SV.denL, hv]
      rfl
    rw [e]
    have hat : ∀ t, t < 1 * 3 → vs[t]? = some (G (t / 3) (t % 3)) := fun t ht => cells_of_array (by decide) htk ht
    refine (insC_any ((SV.os i l.length).den ρ) l.length k gv cv (celF l) (celC c) vs w (hr.at.ent i _ (getH_own hi)) (celF_one l _) hb (fun hc => ?_) hcv rfl (fun u hu => ?_) (fun t u hu => ?_) hk hl).mono ?_
    · cases hri : ρ i with
      | none => simp [SV.den, atB', hri, Value.ownBlock] at hc
      | some b =>
        simp only [SV.den, atB', hri, Option.map_some, Value.ownBlock] at hc
        injection hc with hc
        exact hr.at.dis i j _ _ hij (getH_own hi) trivial (getH_own hj) trivial b.block ⟨b, hri, rfl⟩ ⟨a, ha, hag.trans hc.symm⟩
    · obtain ⟨t, ht, rfl⟩ := List.getElem_of_mem hu
      have := celC_one c t ht
      simpa [List.getD, List.getElem?_eq_getElem ht] using this
    · have ht : t < 3 := (List.getElem?_eq_some_iff.1 hu).1
      rw [hat t (by omega), show t / 3 = 0 by omega, show t % 3 = t by omega, hG t ht, List.getD, hu]
      rfl
    · rintro e w' ⟨gb, cap, he, ho, hg, hor⟩
      refine ⟨_, he, ?_, hg, some ⟨gb, 0, some cap⟩, fun ρ'' hρ => by simp [SV.den, atB', capB, hρ], fun b hb => ?_⟩
      · rw [cellsF_congr (g := insF (celF l) k (celC c)) _ fun r t _ _ => (insF_rows celC celZ c hk r t).symm]
        exact ho
      · cases hb
        exact hor.imp id (fun h => Nat.le_of_eq h.symm)) hK
theorem insL_n {H : List HE} {K : SV → List HE → Prop} (i j k : Nat) (l : List LaM) (c : LaM) (G : Nat → Nat → Value) (hi : getH H i = .own 97 6 l.length (laF l)) (hj : getH H j = .own 97 6 1 G) (hij : i ≠ j) (hG : ∀ t, t < 6 → G 0 t = (laC c).getD t undef) (hk : k ≤ l.length) (hl : l.length ≤ 1000000) (m : Nat) (hm : m = l.length + 1)
    (hK : setHK H i .none fun H1 => appK H1 (.own 97 6 m (laF (insAt l k c))) fun H' => lenK H fun N => K (.os N m) H') :
    CallN Try.prog w0 U 84 [.os i l.length, .v (.int .i64 k), .os j 1] H K :=
  call_move i m (laF (insAt l k c)) hi (fun ρ w hr => by
    subst hm
    obtain ⟨gv, cv, vs, hv, hb, hcv, htk, a, ha, hag⟩ := own_blk hr hj Nat.one_pos
    have e : (SV.denL ρ [.os i l.length, .v (.int .i64 k), .os j 1]).toArray = #[(SV.os i l.length).den ρ, .int .i64 k, .slice (some ⟨gv, 0, none⟩) 1 cv] := by
      simp only [SV.denL, hv]
      rfl
    rw [e]
    have hat : ∀ t, t < 1 * 6 → vs[t]? = some (G (t / 6) (t % 6)) := fun t ht => cells_of_array (by decide) htk ht
    refine (insL_any ((SV.os i l.length).den ρ) l.length k gv cv (laF l) (laC c) vs w (hr.at.ent i _ (getH_own hi)) (laF_one l _) hb (fun hc => ?_) hcv rfl (fun u hu => ?_) (fun t u hu => ?_) hk hl).mono ?_
    · cases hri : ρ i with
      | none => simp [SV.den, atB', hri, Value.ownBlock] at hc
      | some b =>
        simp only [SV.den, atB', hri, Option.map_some, Value.ownBlock] at hc
        injection hc with hc
        exact hr.at.dis i j _ _ hij (getH_own hi) trivial (getH_own hj) trivial b.block ⟨b, hri, rfl⟩ ⟨a, ha, hag.trans hc.symm⟩
    · obtain ⟨t, ht, rfl⟩ := List.getElem_of_mem hu
      have := laC_one c t ht
      simpa [List.getD, List.getElem?_eq_getElem ht] using this
    · have ht : t < 6 := (List.getElem?_eq_some_iff.1 hu).1
      rw [hat t (by omega), show t / 6 = 0 by omega, show t % 6 = t by omega, hG t ht, List.getD, hu]
      rfl
    · rintro e w' ⟨gb, cap, he, ho, hg, hor⟩
      refine ⟨_, he, ?_, hg, some ⟨gb, 0, some cap⟩, fun ρ'' hρ => by simp [SV.den, atB', capB, hρ], fun b hb => ?_⟩
      · rw [cellsF_congr (g := insF (laF l) k (laC c)) _ fun r t _ _ => (insF_rows laC laZ c hk r t).symm]
        exact ho
      · cases hb
        exact hor.imp id (fun h => Nat.le_of_eq h.symm)) hK
end
end Go.Proofs.Ytfkbodonidkpoaa
