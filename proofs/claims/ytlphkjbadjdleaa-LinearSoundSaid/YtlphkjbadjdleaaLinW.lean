/-
  Calls that hold against a log hold, too, where one of them tells less, and where one more is made. Plain lists, no condition.
-/
import Derived.Test.YtlphkjbadjdleaaLinS
namespace Go.Proofs.Ytlphkjbadjdleaa
theorem holdsM_iff {l : List RecM} {d : List EntM} {r : RecM} : holdsM l d r = true ↔ toldM d r = true ∧ (placeM d r = -1 ∨ ∀ q ∈ l, lateM d r q = false) := by
  unfold holdsM
  simp only [Bool.and_eq_true, Bool.or_eq_true, decide_eq_true_eq, List.all_eq_true, Bool.not_eq_true']
theorem mayM_iff {l : List RecM} {d : List EntM} : mayM l d = true ↔ ∀ (p : Nat) (e : EntM), d[p]? = some e → e.index = (p : Int) + 1 ∧ chkO e.op = 0 ∧ readsO e.op = false ∧ countN d e.client e.seq = 1 ∧ ∃ r ∈ l, r.client = e.client ∧ r.seq = e.seq ∧ r.op = e.op := by
  unfold mayM
  rw [List.all_eq_true]
  constructor
  · intro h p e hp
    obtain ⟨hl, he⟩ := List.getElem?_eq_some_iff.1 hp
    have := h p (by simpa using hl)
    rw [List.getD_eq_getElem?_getD, hp, Option.getD_some] at this
    unfold entOK at this
    simp only [Bool.and_eq_true, decide_eq_true_eq, Bool.not_eq_true', List.any_eq_true] at this
    exact this
  · intro h p hp
    have hp : p < d.length := by simpa using hp
    have he : d[p]? = some d[p] := by simp
    rw [List.getD_eq_getElem?_getD, he, Option.getD_some]
    unfold entOK
    simp only [Bool.and_eq_true, decide_eq_true_eq, Bool.not_eq_true', List.any_eq_true]
    exact h p _ he
theorem placeM_same {d : List EntM} {r r' : RecM} (h1 : r'.client = r.client) (h2 : r'.seq = r.seq) (h3 : r'.op = r.op) (hr : readsO r.op = false) : placeM d r' = placeM d r := by
  unfold placeM
  rw [h1, h2, h3, hr]
  rfl
/-- One that tells less. -/
theorem chkL_weaker {l : List RecM} {d : List EntM} {k : Nat} {r r' : RecM} (h : chkL l d = -1) (hk : l[k]? = some r) (h1 : r'.client = r.client) (h2 : r'.seq = r.seq) (h3 : r'.op = r.op) (h4 : r'.frm = r.frm) (h5 : r'.okind ≠ 1) (h6 : r'.okind ≠ 2) : chkL (l.set k r') d = -1 := by
  obtain ⟨hh, hm⟩ := chkL_ok.1 h
  obtain ⟨hlt, hr⟩ := List.getElem?_eq_some_iff.1 hk
  have hrl : r ∈ l := hr ▸ List.getElem_mem hlt
  have hno : ∀ x, lateM d x r' = false := fun x => by simp [lateM, h5]
  refine chkL_ok.2 ⟨fun x hx => ?_, mayM_iff.2 fun p e hp => ?_⟩
  · rcases List.mem_or_eq_of_mem_set hx with hx | rfl
    · obtain ⟨a, b⟩ := holdsM_iff.1 (hh x hx)
      refine holdsM_iff.2 ⟨a, b.imp id fun b q hq => ?_⟩
      rcases List.mem_or_eq_of_mem_set hq with hq | rfl
      · exact b q hq
      · exact hno x
    · obtain ⟨a, b⟩ := holdsM_iff.1 (hh r hrl)
      refine holdsM_iff.2 ⟨?_, ?_⟩
      · unfold toldM at a ⊢
        rw [h1, h2, h3]
        by_cases hr : readsO r.op = true
        · simp [hr, h5]
        · simp only [hr, Bool.false_eq_true, if_false] at a ⊢
          cases hf : firstN d r.client r.seq with
          | none => simp [h5]
          | some i =>
            simp only [hf, Bool.and_eq_true, decide_eq_true_eq] at a ⊢
            exact ⟨a.1, a.2.1, h6, by simp [h5]⟩
      · by_cases hr : readsO r.op = true
        · left
          have : isReadM d x = false := by simp [isReadM, h5]
          unfold placeM
          rw [h3, hr, this]
          rfl
        · have hr' : readsO r.op = false := by simpa using hr
          have hp := placeM_same (d := d) h1 h2 h3 hr'
          rw [hp]
          refine b.imp id fun b q hq => ?_
          rcases List.mem_or_eq_of_mem_set hq with hq | rfl
          · rw [lateM_congr (r := r) (q := q) h4 hp rfl rfl rfl]
            exact b q hq
          · exact hno q
  · obtain ⟨g1, g2, g3, g4, y, hy, g5⟩ := mayM_iff.1 hm p e hp
    refine ⟨g1, g2, g3, g4, ?_⟩
    by_cases hyr : ∃ z ∈ l.set k r', z.client = y.client ∧ z.seq = y.seq ∧ z.op = y.op
    · obtain ⟨z, hz, z1, z2, z3⟩ := hyr
      exact ⟨z, hz, by rw [z1]; exact g5.1, by rw [z2]; exact g5.2.1, by rw [z3]; exact g5.2.2⟩
    · exfalso
      obtain ⟨j, hj, rfl⟩ := List.getElem_of_mem hy
      refine hyr ⟨(l.set k r')[j]'(by simpa using hj), List.getElem_mem _, ?_⟩
      rw [List.getElem_set]
      by_cases hkj : k = j
      · subst hkj
        simp only [if_true]
        rw [h1, h2, h3, ← hr]
        exact ⟨rfl, rfl, rfl⟩
      · rw [if_neg hkj]
        exact ⟨rfl, rfl, rfl⟩
theorem firstN_none {l : List RecM} {d : List EntM} {c s : Int} (hm : mayM l d = true) (hs : ∀ r ∈ l, r.seq ≠ s) : firstN d c s = none ∧ ∀ e ∈ d, e.seq ≠ s := by
  have : ∀ e ∈ d, e.seq ≠ s := fun e he => by
    obtain ⟨p, hp, rfl⟩ := List.getElem_of_mem he
    obtain ⟨_, _, _, _, r, hr, _, g, _⟩ := mayM_iff.1 hm p d[p] (by simp)
    rw [← g]
    exact hs r hr
  refine ⟨?_, this⟩
  unfold firstN
  rw [List.findIdx?_eq_none_iff]
  intro e he
  simp [isOf, this e he]
/-- One more call, of which nothing is known. -/
theorem chkL_more {l : List RecM} {d : List EntM} {r : RecM} (h : chkL l d = -1) (hs : ∀ q ∈ l, q.seq ≠ r.seq) (h1 : readsO r.op = false) (h2 : r.okind = 0) : chkL (l ++ [r]) d = -1 := by
  obtain ⟨hh, hm⟩ := chkL_ok.1 h
  have hf := (firstN_none (c := r.client) hm hs).1
  refine chkL_ok.2 ⟨fun x hx => ?_, mayM_iff.2 fun p e hp => ?_⟩
  · rcases List.mem_append.1 hx with hx | hx
    · obtain ⟨a, b⟩ := holdsM_iff.1 (hh x hx)
      refine holdsM_iff.2 ⟨a, b.imp id fun b q hq => ?_⟩
      rcases List.mem_append.1 hq with hq | hq
      · exact b q hq
      · simp at hq; subst hq
        simp [lateM, h2]
    · simp at hx; subst hx
      refine holdsM_iff.2 ⟨?_, .inl ?_⟩
      · unfold toldM; rw [h1, hf]; simp [h2]
      · unfold placeM; rw [h1, hf]; rfl
  · obtain ⟨g1, g2, g3, g4, y, hy, g5⟩ := mayM_iff.1 hm p e hp
    exact ⟨g1, g2, g3, g4, y, List.mem_append_left _ hy, g5⟩
theorem firstN_lt {d : List EntM} {c s : Int} {i : Nat} (h : firstN d c s = some i) : i < d.length := by
  obtain ⟨hl, _⟩ := List.findIdx?_eq_some_iff_getElem.1 h
  exact hl
theorem firstN_app {d : List EntM} {e : EntM} {c s : Int} (h : e.seq ≠ s) : firstN (d ++ [e]) c s = firstN d c s := by
  unfold firstN
  have : isOf c s e = false := by simp [isOf, h]
  rw [List.findIdx?_append]
  simp [List.findIdx?_cons, this]
theorem countN_app {d : List EntM} {e : EntM} {c s : Int} (h : e.seq ≠ s) : countN (d ++ [e]) c s = countN d c s := by
  unfold countN
  have : isOf c s e = false := by simp [isOf, h]
  rw [List.filter_append]
  simp [this]
theorem placeM_le (d : List EntM) (q : RecM) : placeM d q ≤ 2 * (d.length : Int) + 1 := by
  unfold placeM
  by_cases hr : readsO q.op = true
  · rw [hr]
    simp only [if_true]
    by_cases hi : isReadM d q = true
    · rw [hi]
      simp only [isReadM, Bool.and_eq_true, decide_eq_true_eq] at hi
      simp only [if_true]
      omega
    · simp only [hi, Bool.false_eq_true, if_false]
      omega
  · simp only [hr, Bool.false_eq_true, if_false]
    cases hf : firstN d q.client q.seq with
    | none => simp only; omega
    | some i => have := firstN_lt hf; simp only; omega
theorem more_same {d : List EntM} {e : EntM} {q : RecM} (ht : toldM d q = true) (hs : e.seq ≠ q.seq) : toldM (d ++ [e]) q = true ∧ placeM (d ++ [e]) q = placeM d q := by
  by_cases hr : readsO q.op = true
  · by_cases hk : q.okind = 1
    · unfold toldM at ht ⊢
      simp only [hr, hk, if_true, Bool.and_eq_true, decide_eq_true_eq] at ht ⊢
      have hi := ht.1
      simp only [isReadM, Bool.and_eq_true, decide_eq_true_eq] at hi
      have hi2 : isReadM (d ++ [e]) q = true := by
        simp only [isReadM, Bool.and_eq_true, decide_eq_true_eq, List.length_append, List.length_singleton]
        refine ⟨hi.1, hi.2.1, hi.2.2.1, ?_⟩
        have := hi.2.2.2
        omega
      refine ⟨⟨hi2, ?_⟩, ?_⟩
      · rw [readN_app (by omega)]
        exact ht.2
      · unfold placeM
        rw [hr, hi2, ht.1]
        rfl
    · have h1 : ∀ D, isReadM D q = false := fun D => by simp [isReadM, hk]
      unfold toldM placeM
      simp [hr, hk, h1]
  · have hr' : readsO q.op = false := by simpa using hr
    unfold toldM placeM at *
    rw [firstN_app hs, countN_app hs]
    simp only [hr', Bool.false_eq_true, if_false] at ht ⊢
    refine ⟨?_, trivial⟩
    cases hf : firstN d q.client q.seq with
    | none => simpa [hf] using ht
    | some i =>
      have hi := firstN_lt hf
      simp only [hf] at ht ⊢
      rw [getD_app hi, didN_app hi]
      exact ht
/-- One more call, that is the log's next entry. -/
theorem chkL_entry {l : List RecM} {d : List EntM} {r : RecM} (h : chkL l d = -1) (hs : ∀ q ∈ l, q.seq ≠ r.seq) (h1 : readsO r.op = false) (h2 : r.okind = 0) (h3 : chkO r.op = 0) : chkL (l ++ [r]) (d ++ [⟨(d.length : Int) + 1, r.client, r.seq, r.op⟩]) = -1 := by
  obtain ⟨hh, hm⟩ := chkL_ok.1 h
  obtain ⟨hf, hne⟩ := firstN_none (c := r.client) hm hs
  have hsame := fun q (hq : q ∈ l) => more_same (e := ⟨(d.length : Int) + 1, r.client, r.seq, r.op⟩) (holdsM_iff.1 (hh q hq)).1 (fun e => hs q hq e.symm)
  have hfr : firstN (d ++ [⟨(d.length : Int) + 1, r.client, r.seq, r.op⟩]) r.client r.seq = some d.length := by
    unfold firstN at hf ⊢
    rw [List.findIdx?_append, hf]
    simp [List.findIdx?_cons, isOf]
  have hcr : countN (d ++ [⟨(d.length : Int) + 1, r.client, r.seq, r.op⟩]) r.client r.seq = 1 := by
    unfold countN
    have : d.filter (isOf r.client r.seq) = [] := by
      rw [List.filter_eq_nil_iff]
      intro e he
      simp [isOf, hne e he]
    rw [List.filter_append, this]
    simp [isOf]
  have hpr : placeM (d ++ [⟨(d.length : Int) + 1, r.client, r.seq, r.op⟩]) r = 2 * (d.length : Int) + 2 := by
    unfold placeM
    rw [h1, hfr]
    rfl
  refine chkL_ok.2 ⟨fun x hx => ?_, mayM_iff.2 fun p e hp => ?_⟩
  · rcases List.mem_append.1 hx with hx | hx
    · obtain ⟨a, b⟩ := holdsM_iff.1 (hh x hx)
      obtain ⟨s1, s2⟩ := hsame x hx
      refine holdsM_iff.2 ⟨s1, ?_⟩
      rw [s2]
      refine b.imp id fun b q hq => ?_
      rcases List.mem_append.1 hq with hq | hq
      · have := b q hq
        unfold lateM at this ⊢
        rw [s2, (hsame q hq).2]
        exact this
      · simp at hq; subst hq
        simp [lateM, h2]
    · simp at hx; subst hx
      refine holdsM_iff.2 ⟨?_, .inr fun q hq => ?_⟩
      · unfold toldM
        rw [h1, hfr, hcr]
        simp [h2]
      · rcases List.mem_append.1 hq with hq | hq
        · unfold lateM
          rw [hpr, (hsame q hq).2]
          have := placeM_le d q
          simp only [decide_eq_false_iff_not]
          omega
        · simp at hq; subst hq
          simp [lateM, h2]
  · rw [List.getElem?_append] at hp
    split at hp
    · obtain ⟨g1, g2, g3, g4, y, hy, g5⟩ := mayM_iff.1 hm p e hp
      refine ⟨g1, g2, g3, ?_, y, List.mem_append_left _ hy, g5⟩
      rw [countN_app (fun h => hne e (List.mem_of_getElem? hp) h.symm)]
      exact g4
    · rename_i hlt
      have hpe : p = d.length := by
        have := (List.getElem?_eq_some_iff.1 hp).1
        simp at this; omega
      subst hpe
      simp at hp
      subst hp
      exact ⟨rfl, h3, h1, hcr, r, List.mem_append_right _ (by simp), rfl, rfl, rfl⟩
end Go.Proofs.Ytlphkjbadjdleaa
