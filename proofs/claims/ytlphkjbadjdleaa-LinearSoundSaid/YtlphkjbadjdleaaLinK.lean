/-
  Plain facts for the walks of calls that are held against a log. No condition.
-/
import Derived.Test.YtlphkjbadjdleaaLinH
namespace Go.Proofs.Ytlphkjbadjdleaa
theorem getD_mem {α : Type} {l : List α} {i : Nat} {z : α} (h : i < l.length) : l.getD i z ∈ l := by
  rw [List.getD_eq_getElem?_getD, List.getElem?_eq_getElem h]
  exact List.getElem_mem h
theorem mem_getD {α : Type} {l : List α} {x z : α} (h : x ∈ l) : ∃ i, i < l.length ∧ l.getD i z = x := by
  obtain ⟨i, hi, rfl⟩ := List.getElem_of_mem h
  exact ⟨i, hi, by simp [List.getD, hi]⟩
theorem chkL_at {l : List RecM} {d : List EntM} {i : Nat} (hi : i < l.length) (h0 : ∀ j, j < i → holdsM l d (l.getD j recZ) = true) (h1 : holdsM l d (l.getD i recZ) = false) : chkL l d = i := by
  unfold chkL
  have : l.findIdx? (fun r => !holdsM l d r) = some i := by
    rw [List.findIdx?_eq_some_iff_getElem]
    refine ⟨hi, ?_, fun j hj => ?_⟩
    · have : l.getD i recZ = l[i] := by simp [List.getD, hi]
      rw [this] at h1
      simp [h1]
    · have := h0 j hj
      have e : l.getD j recZ = l[j]'(by omega) := by simp [List.getD, show j < l.length by omega]
      rw [e] at this
      simp [this]
  rw [this]
theorem chkL_end {l : List RecM} {d : List EntM} (h0 : ∀ j, j < l.length → holdsM l d (l.getD j recZ) = true) : chkL l d = if mayM l d = true then (-1 : Int) else (l.length : Int) := by
  unfold chkL
  have : l.findIdx? (fun r => !holdsM l d r) = none := by
    rw [List.findIdx?_eq_none_iff]
    intro x hx
    obtain ⟨j, hj, rfl⟩ := mem_getD (z := recZ) hx
    rw [h0 j hj]; rfl
  rw [this]
theorem mayM_no {l : List RecM} {d : List EntM} {i : Nat} (hi : i < d.length) (h : entOK l d i (d.getD i entZ) = false) : mayM l d = false := by
  unfold mayM
  rw [List.all_eq_false]
  exact ⟨i, List.mem_range.2 hi, by simp only [h]; decide⟩
theorem mayM_yes {l : List RecM} {d : List EntM} (h : ∀ i, i < d.length → entOK l d i (d.getD i entZ) = true) : mayM l d = true := by
  unfold mayM
  rw [List.all_eq_true]
  exact fun i hi => h i (List.mem_range.1 hi)
theorem holdsM_no {l : List RecM} {d : List EntM} {r : RecM} {j : Nat} (hj : j < l.length) (hp : ¬ placeM d r = -1) (h : lateM d r (l.getD j recZ) = true) : holdsM l d r = false := by
  unfold holdsM
  have : (l.all fun q => !lateM d r q) = false := by
    rw [List.all_eq_false]
    exact ⟨_, getD_mem hj, by rw [h]; decide⟩
  simp [this, hp]
theorem holdsM_yes {l : List RecM} {d : List EntM} {r : RecM} (ht : toldM d r = true) (h : placeM d r = -1 ∨ ∀ j, j < l.length → lateM d r (l.getD j recZ) = false) : holdsM l d r = true := by
  unfold holdsM
  rw [ht]
  rcases h with h | h
  · simp [h]
  · have : (l.all fun q => !lateM d r q) = true := by
      rw [List.all_eq_true]
      intro x hx
      obtain ⟨j, hj, rfl⟩ := mem_getD (z := recZ) hx
      rw [h j hj]; rfl
    simp [this]
theorem holdsM_told {l : List RecM} {d : List EntM} {r : RecM} (ht : toldM d r = false) : holdsM l d r = false := by simp [holdsM, ht]
/-- What is found of a call in the whole log. -/
theorem StandOK.whole {d : List EntM} {es : List (Value × Value)} (h : StandOK d d.length es) (c s : Int) : lookE es (callV c s) = (firstN d c s).map fun i => .agg ⟨standCs d i (countN d c s)⟩ := by
  rw [h.look]
  unfold standOf
  rw [List.take_length]
theorem count_some {d : List EntM} {c s : Int} {i : Nat} (h : firstN d c s = some i) : 1 ≤ countN d c s := by
  rcases Nat.eq_zero_or_pos (countN d c s) with h0 | h0
  · rw [first_count.2 h0] at h; cases h
  · exact h0
/-- The keys that are read behind so many entries, of the first k records. -/
def wordsN (l : List RecM) (d : List EntM) (k r : Nat) : List (List UInt8) := ((l.take k).filter fun x => isReadM d x && decide (x.res.pos = (r : Int))).map (·.op.key)
theorem takeR_snoc {l : List RecM} {n : Nat} (h : n < l.length) : l.take (n + 1) = l.take n ++ [l.getD n recZ] := by
  rw [List.take_add_one, List.getD_eq_getElem?_getD, List.getElem?_eq_getElem h]
  rfl
theorem wordsN_snoc {l : List RecM} {d : List EntM} {k : Nat} (hk : k < l.length) (r : Nat) : wordsN l d (k + 1) r = wordsN l d k r ++ if isReadM d (l.getD k recZ) = true ∧ (l.getD k recZ).res.pos = (r : Int) then [(l.getD k recZ).op.key] else [] := by
  unfold wordsN
  rw [takeR_snoc hk, List.filter_append, List.map_append]
  congr 1
  by_cases h1 : isReadM d (l.getD k recZ) = true <;> by_cases h2 : (l.getD k recZ).res.pos = (r : Int) <;> simp [h1, h2, -List.getD_eq_getElem?_getD]
theorem wordsN_len (l : List RecM) (d : List EntM) (k r : Nat) : (wordsN l d k r).length ≤ k := by
  unfold wordsN
  rw [List.length_map]
  exact Nat.le_trans (List.length_filter_le _ _) (by simp; omega)
theorem wordsN_mem {l : List RecM} {d : List EntM} {x : RecM} (hx : x ∈ l) (h : isReadM d x = true) : x.op.key ∈ wordsN l d l.length x.res.pos.toNat := by
  unfold wordsN
  rw [List.take_length]
  refine List.mem_map_of_mem (List.mem_filter.2 ⟨hx, ?_⟩)
  have : 0 ≤ x.res.pos := by
    simp only [isReadM, Bool.and_eq_true, decide_eq_true_eq] at h
    exact h.2.2.1
  simp [h, Int.toNat_of_nonneg this]
theorem wordsN_out {l : List RecM} {d : List EntM} {k r : Nat} (h : d.length < r) : wordsN l d k r = [] := by
  unfold wordsN
  rw [List.map_eq_nil_iff, List.filter_eq_nil_iff]
  intro x _ hx
  simp only [isReadM, Bool.and_eq_true, decide_eq_true_eq] at hx
  omega
theorem ReadsOK.mono {d : List EntM} {W W' : Int → List UInt8 → Prop} {es : List (Value × Value)} (h : ReadsOK d W es) (k : ∀ a q, W' a q → W a q) : ReadsOK d W' es := ⟨h.keys, fun a q hq => h.look a q (k a q hq)⟩
/-- All that is wanted is read. -/
def readsW (l : List RecM) (d : List EntM) (n j : Nat) (a : Int) (k : List UInt8) : Prop := 0 ≤ a ∧ ((a < n ∧ k ∈ wordsN l d l.length a.toNat) ∨ (a = n ∧ k ∈ (wordsN l d l.length n).take j))
theorem readsW_next {l : List RecM} {d : List EntM} {n : Nat} {a : Int} {k : List UInt8} (h : readsW l d (n + 1) 0 a k) : readsW l d n (wordsN l d l.length n).length a k := by
  obtain ⟨h0, ⟨h1, h2⟩ | ⟨h1, h2⟩⟩ := h
  · by_cases e : a = (n : Int)
    · subst e
      exact ⟨h0, .inr ⟨rfl, by simpa using h2⟩⟩
    · exact ⟨h0, .inl ⟨by omega, h2⟩⟩
  · simp at h2
theorem readsW_step {l : List RecM} {d : List EntM} {n j : Nat} (hj : j < (wordsN l d l.length n).length) {a : Int} {k : List UInt8} (h : readsW l d n (j + 1) a k) : readsW l d n j a k ∨ (a = n ∧ k = (wordsN l d l.length n).getD j []) := by
  obtain ⟨h0, h1 | ⟨h1, h2⟩⟩ := h
  · exact .inl ⟨h0, .inl h1⟩
  · rw [List.take_add_one, List.getElem?_eq_getElem hj] at h2
    rcases List.mem_append.1 h2 with h2 | h2
    · exact .inl ⟨h0, .inr ⟨h1, h2⟩⟩
    · refine .inr ⟨h1, ?_⟩
      simpa [List.getD, hj] using h2
theorem readsW_of {l : List RecM} {d : List EntM} {x : RecM} (hx : x ∈ l) (h : isReadM d x = true) : readsW l d (d.length + 1) 0 x.res.pos x.op.key := by
  have h1 : 0 ≤ x.res.pos ∧ x.res.pos ≤ d.length := by
    simp only [isReadM, Bool.and_eq_true, decide_eq_true_eq] at h
    exact h.2.2
  exact ⟨h1.1, .inl ⟨by omega, wordsN_mem hx h⟩⟩
/-- A record is an entry's own. -/
def ownB (e : EntM) (r : RecM) : Bool := decide (r.client = e.client ∧ r.seq = e.seq ∧ r.op = e.op)
theorem any_snoc {l : List RecM} {k : Nat} (h : k < l.length) (f : RecM → Bool) : (l.take (k + 1)).any f = ((l.take k).any f || f (l.getD k recZ)) := by
  rw [takeR_snoc h, List.any_append]
  simp [-List.getD_eq_getElem?_getD]
theorem count_self {d : List EntM} {i : Nat} (h : i < d.length) : 1 ≤ countN d (d.getD i entZ).client (d.getD i entZ).seq := by
  unfold countN
  refine List.length_pos_of_mem (a := d.getD i entZ) (List.mem_filter.2 ⟨getD_mem h, ?_⟩)
  simp [isOf]
theorem entOK_eq (l : List RecM) (d : List EntM) (i : Nat) (e : EntM) : entOK l d i e = (decide (e.index = (i : Int) + 1) && (decide (chkO e.op = 0) && (!readsO e.op && (decide (countN d e.client e.seq = 1) && l.any (ownB e))))) := rfl
theorem own_any (l : List RecM) (e : EntM) : l.any (ownB e) = !decide (ownN l e.client e.seq e.op = 0) := by
  by_cases h : ownN l e.client e.seq e.op = 0
  · have hn : ¬ ∃ r ∈ l, r.client = e.client ∧ r.seq = e.seq ∧ r.op = e.op := fun hx => ownN_pos.2 hx h
    have : l.any (ownB e) = false := by
      rw [List.any_eq_false]
      intro x hx
      simp only [ownB, decide_eq_true_eq]
      exact fun hy => hn ⟨x, hx, hy⟩
    simp [this, h]
  · obtain ⟨r, hr, hx⟩ := ownN_pos.1 h
    have : l.any (ownB e) = true := by
      rw [List.any_eq_true]
      exact ⟨r, hr, by simp only [ownB, decide_eq_true_eq]; exact hx⟩
    simp [this, h]
end Go.Proofs.Ytlphkjbadjdleaa
