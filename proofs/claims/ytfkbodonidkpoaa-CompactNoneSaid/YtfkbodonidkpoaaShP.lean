/-
  The shot of a log is the document's: plain lists. No condition.
-/
import Derived.Test.YtfkbodonidkpoaaShOf
import Derived.Test.YtfkbodonidkpoaaShR8
namespace Go.Proofs.Ytfkbodonidkpoaa
theorem fm_congr' {α β : Type} {f g : α → Option β} : ∀ {l : List α}, (∀ c ∈ l, f c = g c) → l.filterMap f = l.filterMap g
  | [], _ => rfl
  | x :: r, h => by
    rw [List.filterMap_cons, List.filterMap_cons, h x (List.mem_cons_self ..), fm_congr' fun c hc => h c (List.mem_cons_of_mem _ hc)]
/-- Cells that rise and tell the same are the same. -/
theorem rise_ext : ∀ (a b : List KC), riseC a → riseC b → (∀ k, findC a k = findC b k) → a = b
  | [], [], _, _, _ => rfl
  | [], y :: b, _, _, h => by
    have := h y.1
    simp [findC] at this
  | x :: a, [], _, _, h => by
    have := h x.1
    simp [findC] at this
  | x :: a, y :: b, ha, hb, h => by
    obtain ⟨hx, ha'⟩ := List.pairwise_cons.1 ha
    obtain ⟨hy, hb'⟩ := List.pairwise_cons.1 hb
    have hfx : findC (x :: a) x.1 = some x.2 := by simp [findC]
    have hfy : findC (y :: b) y.1 = some y.2 := by simp [findC]
    by_cases e : x.1 = y.1
    · have hxy : x = y := by
        have := h x.1
        rw [hfx, e, hfy] at this
        exact Prod.ext e (by injection this)
      subst hxy
      congr 1
      refine rise_ext a b ha' hb' fun k => ?_
      have := h k
      by_cases hk : x.1 = k
      · subst hk
        rw [findC_out (l := a) fun c hc => fun e => List.lt_irrefl _ (e ▸ hx c hc), findC_out (l := b) fun c hc => fun e => List.lt_irrefl _ (e ▸ hy c hc)]
      · simpa [findC, hk] using this
    · exfalso
      by_cases hlt : x.1 < y.1
      · have h1 := h x.1
        rw [hfx, findC_out (l := y :: b) fun c hc => ?_] at h1
        · cases h1
        · rcases List.mem_cons.1 hc with rfl | hc
          · exact fun e' => e e'.symm
          · exact fun e' => List.lt_irrefl x.1 (List.lt_trans hlt (e' ▸ hy c hc))
      · have hgt : y.1 < x.1 := Classical.byContradiction fun hn => e (List.le_antisymm (List.not_lt.1 hn) (List.not_lt.1 hlt))
        have h1 := h y.1
        rw [hfy, findC_out (l := x :: a) fun c hc => ?_] at h1
        · cases h1
        · rcases List.mem_cons.1 hc with rfl | hc
          · exact e
          · exact fun e' => List.lt_irrefl y.1 (List.lt_trans hgt (e' ▸ hx c hc))
theorem le_lt {x y z : List UInt8} (h1 : x ≤ y) (h2 : y ≤ z) (h3 : z ≠ y) : x < z := by
  refine Classical.byContradiction fun hn => h3 (List.le_antisymm ?_ h2)
  exact List.le_trans (List.not_lt.1 hn) h1
theorem upTo_rise (d : Array (List UInt8)) (hd : ∀ i j, i < j → j < d.size → d[i]! ≤ d[j]!) : ∀ m, m ≤ d.size →
    (Lib.compactUpTo d m).Pairwise (· < ·) ∧ (∀ x ∈ Lib.compactUpTo d m, ∃ j, j < m ∧ x = d[j]!) ∧ ∀ j, j < m → d[j]! ∈ Lib.compactUpTo d m
  | 0, _ => ⟨by simp [Lib.compactUpTo], fun x hx => by simp [Lib.compactUpTo] at hx, fun j hj => absurd hj (by omega)⟩
  | m + 1, hm => by
    obtain ⟨h1, h2, h3⟩ := upTo_rise d hd m (by omega)
    rw [Lib.compactUpTo_succ]
    by_cases hk : Lib.keeps d m = true
    · rw [if_pos hk]
      have hk' : m = 0 ∨ d[m]! ≠ d[m - 1]! := by simpa [Lib.keeps] using hk
      refine ⟨List.pairwise_append.2 ⟨h1, List.pairwise_singleton _ _, fun x hx y hy => ?_⟩, fun x hx => ?_, fun j hj => ?_⟩
      · obtain ⟨j, hj, rfl⟩ := h2 x hx
        rw [List.mem_singleton.1 hy]
        rcases hk' with e | e
        · omega
        · have hle : d[j]! ≤ d[m - 1]! := by
            rcases Nat.lt_or_ge j (m - 1) with h | h
            · exact hd _ _ h (by omega)
            · rw [show j = m - 1 by omega]; exact List.le_refl _
          exact le_lt hle (hd _ _ (by omega) (by omega)) e
      · rcases List.mem_append.1 hx with hx | hx
        · obtain ⟨j, hj, e⟩ := h2 x hx
          exact ⟨j, by omega, e⟩
        · exact ⟨m, by omega, List.mem_singleton.1 hx⟩
      · rcases Nat.lt_or_ge j m with h | h
        · exact List.mem_append_left _ (h3 j h)
        · rw [show j = m by omega]
          exact List.mem_append_right _ (List.mem_singleton.2 rfl)
    · rw [if_neg hk, List.append_nil]
      have hk' : ¬ (m = 0 ∨ d[m]! ≠ d[m - 1]!) := by simpa [Lib.keeps] using hk
      have e1 : ¬ m = 0 := fun e => hk' (.inl e)
      have e2 : d[m]! = d[m - 1]! := Classical.byContradiction fun e => hk' (.inr e)
      refine ⟨h1, fun x hx => ?_, fun j hj => ?_⟩
      · obtain ⟨j, hj, e⟩ := h2 x hx
        exact ⟨j, by omega, e⟩
      · rcases Nat.lt_or_ge j m with h | h
        · exact h3 j h
        · rw [show j = m by omega, e2]
          exact h3 _ (by omega)
theorem compact_rise {zs : List (List UInt8)} (h : zs.Pairwise (· ≤ ·)) : (Lib.compact zs).Pairwise (· < ·) ∧ ∀ k, k ∈ Lib.compact zs ↔ k ∈ zs := by
  have hg : ∀ i (hi : i < zs.length), zs.toArray[i]! = zs[i] := fun i hi => by simp [hi]
  obtain ⟨h1, h2, h3⟩ := upTo_rise zs.toArray (fun i j hij hj => by
    have hj' : j < zs.length := by simpa using hj
    rw [hg i (by omega), hg j hj']
    exact List.pairwise_iff_getElem.1 h i j (by omega) hj' hij) zs.length (by simp)
  refine ⟨h1, fun k => ⟨fun hk => ?_, fun hk => ?_⟩⟩
  · obtain ⟨j, hj, e⟩ := h2 k hk
    rw [e, hg j hj]
    exact List.getElem_mem hj
  · obtain ⟨j, hj, rfl⟩ := List.getElem_of_mem hk
    have := h3 j hj
    rwa [hg j hj] at this
theorem keysO_rise (l : LogM) : (keysO l).Pairwise (· < ·) ∧ ∀ k, k ∈ keysO l ↔ k ∈ keysL l.ents := by
  have hs : (sortL (keysL l.ents)).Pairwise (· ≤ ·) := by
    have := List.pairwise_mergeSort (le := fun x y : List UInt8 => decide (x ≤ y)) (fun a b c h1 h2 => by simp only [decide_eq_true_eq] at *; exact List.le_trans h1 h2) (fun a b => by simp only [Bool.or_eq_true, decide_eq_true_eq]; exact List.le_total a b) (keysL l.ents)
    exact this.imp fun h => of_decide_eq_true h
  obtain ⟨h1, h2⟩ := compact_rise hs
  exact ⟨h1, fun k => (h2 k).trans (by simp [sortL, List.mem_mergeSort])⟩
theorem findC_fm (cs : List KC) (k : List UInt8) : ∀ (ks : List (List UInt8)), findC (ks.filterMap (cellO1 cs)) k = if k ∈ ks then findC cs k else none
  | [] => by simp [findC]
  | a :: r => by
    have ih := findC_fm cs k r
    rw [List.filterMap_cons]
    rcases hf : findC cs a with _ | x
    · have : cellO1 cs a = none := by unfold cellO1; rw [hf]; rfl
      rw [this]
      simp only
      rw [ih]
      by_cases hk : k = a
      · subst hk
        simp [hf]
      · simp [hk]
    · have : cellO1 cs a = some (a, x) := by unfold cellO1; rw [hf]; rfl
      rw [this]
      simp only
      by_cases hk : a = k
      · subst hk
        simp [findC, hf]
      · rw [findC, if_neg hk, ih]
        have hk' : ¬ k = a := fun e => hk e.symm
        simp [hk']
theorem rise_fm (cs : List KC) {ks : List (List UInt8)} (h : ks.Pairwise (· < ·)) : riseC (ks.filterMap (cellO1 cs)) := by
  unfold riseC
  refine List.Pairwise.filterMap _ (fun a b hab x hx y hy => ?_) h
  unfold cellO1 at hx hy
  rcases ha : findC cs a with _ | u
  · rw [ha] at hx; cases hx
  · rcases hb : findC cs b with _ | v
    · rw [hb] at hy; cases hy
    · rw [ha] at hx
      rw [hb] at hy
      cases hx
      cases hy
      exact hab
theorem cellsN_rise (l : List EntM) : ∀ i, riseC (cellsN l i).1
  | 0 => List.Pairwise.nil
  | i + 1 => by
    have := riseC_apply (i + 1) (l.getD i entZ).op (cellsN_rise l i)
    simpa only [cellsN] using this
theorem cellsN_key (l : List EntM) : ∀ i, i ≤ l.length → ∀ c ∈ (cellsN l i).1, c.1 ∈ keysL l
  | 0, _, c, hc => by simp [cellsN] at hc
  | i + 1, hi, c, hc => by
    have ih := cellsN_key l i (by omega)
    have hc : c ∈ (applyD (cellsN l i).1 (i + 1) (l.getD i entZ).op).1 := hc
    unfold applyD at hc
    rcases he : (effM (findC (cellsN l i).1 (l.getD i entZ).op.key) (i + 1) (l.getD i entZ).op).1 with _ | _ | ⟨v, m⟩
    · rw [he] at hc; exact ih c hc
    · rw [he] at hc; exact ih c (List.mem_filter.1 hc).1
    · rw [he] at hc
      rcases insC_mem hc with rfl | hc
      · show (l.getD i entZ).op.key ∈ keysL l
        rw [List.getD_eq_getElem?_getD, List.getElem?_eq_getElem (by omega)]
        exact List.mem_map.2 ⟨_, List.getElem_mem (by omega), rfl⟩
      · exact ih c hc
/-- The shot of a log that is the document's is the document's. -/
theorem ofO_doc {l : LogM} (h : LogD l) : ofO l = rofO l.ents := by
  obtain ⟨hk1, hk2⟩ := keysO_rise l
  have e1 : cellsO l (keysO l).length = (cellsN l.ents l.ents.length).1 := by
    unfold cellsO
    rw [List.take_length]
    refine rise_ext _ _ (rise_fm _ hk1) (cellsN_rise _ _) fun k => ?_
    rw [findC_fm, ← h.cells k]
    by_cases hk : k ∈ keysO l
    · rw [if_pos hk]
    · rw [if_neg hk, h.cells k]
      rcases hf : findC (cellsN l.ents l.ents.length).1 k with _ | x
      · rfl
      · exact absurd ((hk2 k).2 (cellsN_key l.ents _ (Nat.le_refl _) _ (findC_mem hf))) hk
  have e2 : lastsO l 6 = lastsRD l.ents 6 := by
    unfold lastsO lastsRD
    refine fm_congr' fun c hc => ?_
    have hc6 : c < 6 := List.mem_range.1 hc
    have hl := h.last (c : Int) (by omega) (by omega)
    rw [Int.toNat_natCast] at hl
    unfold lastO1 lastR1
    rw [hl, h.ress]
  unfold ofO rofO
  rw [e1, e2]
end Go.Proofs.Ytfkbodonidkpoaa
