/-
  Calls that hold against a log have a right order. Plain lists, no condition.
-/
import Derived.Test.YtlphkjbadjdleaaLinW
namespace Go.Proofs.Ytlphkjbadjdleaa
def recAt (l : List RecM) (i : Nat) : RecM := l.getD i recZ
/-- None of those that are left ended ahead of its begin. -/
def firstO (l : List RecM) (ts : List Bool) (i : Nat) : Prop := ∀ k, k < l.length → ts.getD k false = true → (recAt l k).okind = 1 → 0 ≤ (recAt l k).upto → ¬ (recAt l k).upto < (recAt l i).frm
def resO (cs : List KC) (n : Int) (o : OpM) : ResM := if readsO o then lookM (findC cs o.key) n else (applyM cs (n + 1) o).2
def nextC (cs : List KC) (n : Int) (o : OpM) : List KC := if readsO o then cs else (applyM cs (n + 1) o).1
def nextO (n : Int) (o : OpM) : Int := if readsO o then n else n + 1
/-- Is there a right order of those that are left? -/
inductive RightO (l : List RecM) : List Bool → List KC → Int → Prop
  | fin {ts cs n} : (∀ i, i < l.length → ts.getD i false = false) → RightO l ts cs n
  | step {ts cs n} (i : Nat) : i < l.length → ts.getD i false = true → firstO l ts i → ((recAt l i).okind = 1 → resO cs n (recAt l i).op = (recAt l i).res) →
      RightO l (ts.set i false) (nextC cs n (recAt l i).op) (nextO n (recAt l i).op) → RightO l ts cs n
theorem least {α : Type} (f : α → Int) : ∀ {T : List α}, T ≠ [] → ∃ i ∈ T, ∀ j ∈ T, f i ≤ f j
  | [], h => absurd rfl h
  | [x], _ => ⟨x, by simp, fun j hj => by simp at hj; subst hj; exact Int.le_refl _⟩
  | x :: y :: T, _ => by
    obtain ⟨i, hi, h⟩ := least f (T := y :: T) (by simp)
    by_cases hx : f x ≤ f i
    · refine ⟨x, by simp, fun j hj => ?_⟩
      rcases List.mem_cons.1 hj with rfl | hj
      · exact Int.le_refl _
      · exact Int.le_trans hx (h j hj)
    · refine ⟨i, List.mem_cons_of_mem _ hi, fun j hj => ?_⟩
      rcases List.mem_cons.1 hj with rfl | hj
      · omega
      · exact h j hj
/-- What is left behind so many entries. -/
structure SoI (l : List RecM) (d : List EntM) (ts : List Bool) (n : Nat) : Prop where
  len : ts.length = l.length
  low : ∀ i, i < l.length → ts.getD i false = true → 2 * (n : Int) + 1 ≤ placeM d (recAt l i)
  own : ∀ p, n ≤ p → p < d.length → ∃ i, i < l.length ∧ ts.getD i false = true ∧ placeM d (recAt l i) = 2 * (p : Int) + 2
theorem place_read {d : List EntM} {r : RecM} {p : Int} (h : placeM d r = 2 * p + 1) (hp : 0 ≤ p) : readsO r.op = true ∧ isReadM d r = true ∧ r.res.pos = p := by
  unfold placeM at h
  by_cases hr : readsO r.op = true
  · by_cases hi : isReadM d r = true
    · simp only [hr, hi, if_true] at h
      exact ⟨hr, hi, by omega⟩
    · simp only [hr, hi, if_true, Bool.false_eq_true, if_false] at h
      omega
  · simp only [hr, Bool.false_eq_true, if_false] at h
    split at h <;> omega
theorem place_upd {d : List EntM} {r : RecM} {p : Nat} (h : placeM d r = 2 * (p : Int) + 2) : readsO r.op = false ∧ firstN d r.client r.seq = some p := by
  unfold placeM at h
  by_cases hr : readsO r.op = true
  · by_cases hi : isReadM d r = true
    · simp only [hr, hi, if_true] at h
      omega
    · simp only [hr, hi, if_true, Bool.false_eq_true, if_false] at h
      omega
  · simp only [hr, Bool.false_eq_true, if_false] at h
    split at h
    · rename_i i hi
      have : i = p := by omega
      subst this
      exact ⟨by simpa using hr, hi⟩
    · omega
theorem first_seq {d : List EntM} {c s : Int} {p : Nat} (h : firstN d c s = some p) : (d.getD p entZ).seq = s := by
  obtain ⟨hl, hb, _⟩ := List.findIdx?_eq_some_iff_getElem.1 h
  have : d.getD p entZ = d[p] := by rw [List.getD_eq_getElem?_getD, List.getElem?_eq_getElem hl]; rfl
  rw [this]
  simp only [isOf, Bool.and_eq_true, beq_iff_eq] at hb
  exact hb.2
theorem getD_set {ts : List Bool} {i j : Nat} (h : i < ts.length) : (ts.set i false).getD j false = if i = j then false else ts.getD j false := by
  rw [List.getD_eq_getElem?_getD, List.getD_eq_getElem?_getD, List.getElem?_set]
  by_cases hij : i = j
  · subst hij; simp [h]
  · simp [hij]
theorem count_set : ∀ {ts : List Bool} {i : Nat}, ts.getD i false = true → (ts.set i false).count true + 1 = ts.count true
  | [], i, h => by simp at h
  | t :: ts, 0, h => by
    simp at h; subst h
    simp
  | t :: ts, i + 1, h => by
    have := count_set (ts := ts) (i := i) (by simpa using h)
    simp only [List.set_cons_succ, List.count_cons]
    omega
theorem right_of {l : List RecM} {d : List EntM} (hseq : ∀ i j, i < l.length → j < l.length → (recAt l i).seq = (recAt l j).seq → i = j)
    (hto : ∀ i, i < l.length → 0 ≤ (recAt l i).upto → (recAt l i).frm < (recAt l i).upto) (hh : ∀ i, i < l.length → holdsM l d (recAt l i) = true) (hrd : ∀ i, i < l.length → isReadM d (recAt l i) = true → 0 ≤ (recAt l i).upto) :
    ∀ (m : Nat) (ts : List Bool) (n : Nat), ts.count true = m → SoI l d ts n → RightO l ts (storeN d n) n := by
  intro m
  induction m with
  | zero =>
    intro ts n hm hI
    refine .fin fun i hi => ?_
    cases hb : ts.getD i false with
    | false => rfl
    | true =>
      have := count_set hb
      omega
  | succ m ih =>
    intro ts n hm hI
    -- those that are left
    have hT : ((List.range l.length).filter fun i => ts.getD i false) ≠ [] := by
      intro he
      rw [List.filter_eq_nil_iff] at he
      have : ts.count true = 0 := by
        rw [List.count_eq_zero]
        intro ht
        obtain ⟨i, hi, hb⟩ := List.getElem_of_mem ht
        have := he i (by simp; rw [← hI.len]; exact hi)
        rw [List.getD_eq_getElem?_getD] at this
        simp [hi, hb] at this
      omega
    obtain ⟨i0, hi0, hmin0⟩ := least (fun i => placeM d (recAt l i)) hT
    have hT2 : (((List.range l.length).filter fun i => ts.getD i false).filter fun i => decide (placeM d (recAt l i) = placeM d (recAt l i0))) ≠ [] := by
      intro he
      rw [List.filter_eq_nil_iff] at he
      exact he i0 hi0 (by simp)
    obtain ⟨i, hi, hmin⟩ := least (fun i => (recAt l i).upto) hT2
    rw [List.mem_filter] at hi
    obtain ⟨hiT, hpi⟩ := hi
    have hpi : placeM d (recAt l i) = placeM d (recAt l i0) := by simpa using hpi
    have mem : ∀ {j}, j < l.length → ts.getD j false = true → j ∈ (List.range l.length).filter fun i => ts.getD i false := fun hj hb => by
      rw [List.mem_filter]; exact ⟨by simpa using hj, hb⟩
    obtain ⟨hil, hib⟩ := List.mem_filter.1 hiT
    have hil : i < l.length := by simpa using hil
    have hmp : ∀ j, j < l.length → ts.getD j false = true → placeM d (recAt l i) ≤ placeM d (recAt l j) := fun j hj hb => by
      rw [hpi]; exact hmin0 j (mem hj hb)
    have hmu : ∀ j, j < l.length → ts.getD j false = true → placeM d (recAt l j) = placeM d (recAt l i) → (recAt l i).upto ≤ (recAt l j).upto := fun j hj hb he => by
      refine hmin j (List.mem_filter.2 ⟨mem hj hb, ?_⟩)
      simp [he, hpi]
    have hlow := hI.low i hil hib
    have rmem : ∀ j, j < l.length → recAt l j ∈ l := fun j hj => by
      unfold recAt; rw [List.getD_eq_getElem?_getD]; simp [hj]
    obtain ⟨htold, hlate⟩ := holdsM_iff.1 (hh i hil)
    have hlate := hlate.resolve_left (by omega)
    have hsl : i < ts.length := by rw [hI.len]; exact hil
    have hcnt : (ts.set i false).count true = m := by have := count_set hib; omega
    by_cases hro : readsO (recAt l i).op = true
    · -- it reads
      have hir : isReadM d (recAt l i) = true := by
        cases hb : isReadM d (recAt l i) with
        | true => rfl
        | false =>
          exfalso
          unfold placeM at hlow
          simp only [hro, hb, if_true, Bool.false_eq_true, if_false] at hlow
          omega
      have hpl : placeM d (recAt l i) = 2 * (recAt l i).res.pos + 1 := by
        unfold placeM; simp [hro, hir]
      have hpos := hir
      simp only [isReadM, Bool.and_eq_true, decide_eq_true_eq, beq_iff_eq] at hpos
      have hn : (recAt l i).res.pos = (n : Int) := by
        by_cases hlt : n < d.length
        · obtain ⟨j, hj, hb, hpj⟩ := hI.own n (Nat.le_refl _) hlt
          have := hmp j hj hb
          omega
        · omega
      have hfst : firstO l ts i := by
        intro k hk hb hok hup hlt
        have h1 := hlate _ (rmem k hk)
        simp only [lateM, decide_eq_false_iff_not] at h1
        have h2 := hmp k hk hb
        have h3 : placeM d (recAt l k) = placeM d (recAt l i) := by omega
        have h4 := hmu k hk hb h3
        have h5 := hto i hil (hrd i hil hir)
        omega
      refine .step i hil hib hfst (fun hok => ?_) ?_
      · unfold toldM at htold
        simp only [hro, hok, if_true, Bool.and_eq_true, decide_eq_true_eq, hn, Int.toNat_natCast] at htold
        unfold resO
        rw [hro]
        exact htold.2
      · have e1 : nextC (storeN d n) n (recAt l i).op = storeN d n := by simp [nextC, hro]
        have e2 : nextO n (recAt l i).op = n := by simp [nextO, hro]
        rw [e1, e2]
        refine ih _ n hcnt ⟨by simpa using hI.len, fun j hj hb => ?_, fun p h1 h2 => ?_⟩
        · rw [getD_set hsl] at hb
          split at hb
          · cases hb
          · exact hI.low j hj hb
        · obtain ⟨j, hj, hb, hpj⟩ := hI.own p h1 h2
          refine ⟨j, hj, ?_, hpj⟩
          rw [getD_set hsl, if_neg (fun e => by subst e; omega)]
          exact hb
    · -- it writes
      have hro' : readsO (recAt l i).op = false := by simpa using hro
      cases hf : firstN d (recAt l i).client (recAt l i).seq with
      | none =>
        exfalso
        unfold placeM at hlow
        simp only [hro', hf, Bool.false_eq_true, if_false] at hlow
        omega
      | some p =>
        have hpl : placeM d (recAt l i) = 2 * (p : Int) + 2 := by
          unfold placeM; simp [hro', hf]
        have hpd := firstN_lt hf
        have hpn : p = n := by
          obtain ⟨j, hj, hb, hpj⟩ := hI.own n (Nat.le_refl _) (by omega)
          have := hmp j hj hb
          omega
        subst hpn
        unfold toldM at htold
        simp only [hro', hf, Bool.false_eq_true, if_false, Bool.and_eq_true, decide_eq_true_eq, Bool.or_eq_true] at htold
        have huni : ∀ k, k < l.length → placeM d (recAt l k) = 2 * (p : Int) + 2 → k = i := fun k hk he => by
          obtain ⟨_, hk1⟩ := place_upd he
          exact hseq k i hk hil (by rw [← first_seq hk1, first_seq hf])
        have hfst : firstO l ts i := by
          intro k hk hb hok hup hlt
          have h1 := hlate _ (rmem k hk)
          simp only [lateM, decide_eq_false_iff_not] at h1
          have h2 := hmp k hk hb
          have h3 : placeM d (recAt l k) = 2 * (p : Int) + 2 := by omega
          have h4 := huni k hk h3
          subst h4
          have := hto k hk hup
          omega
        refine .step i hil hib hfst (fun hok => ?_) ?_
        · unfold resO
          rw [hro']
          rcases htold.2.2.2 with h | h
          · exact absurd hok h
          · rw [← htold.2.1]
            exact h
        · have e1 : nextC (storeN d p) p (recAt l i).op = storeN d (p + 1) := by
            simp only [nextC, hro', Bool.false_eq_true, if_false, storeN, htold.2.1]
          have e2 : nextO p (recAt l i).op = ((p + 1 : Nat) : Int) := by simp [nextO, hro']
          rw [e1, e2]
          refine ih _ (p + 1) hcnt ⟨by simpa using hI.len, fun j hj hb => ?_, fun q h1 h2 => ?_⟩
          · rw [getD_set hsl] at hb
            split at hb
            · cases hb
            · rename_i hne
              have h1 := hmp j hj hb
              have h2 : ¬ placeM d (recAt l j) = 2 * (p : Int) + 2 := fun e => hne (huni j hj e).symm
              omega
          · obtain ⟨j, hj, hb, hpj⟩ := hI.own q (by omega) h2
            refine ⟨j, hj, ?_, hpj⟩
            rw [getD_set hsl, if_neg (fun e => by subst e; omega)]
            exact hb
theorem place_done {d : List EntM} {r : RecM} (ht : toldM d r = true) (ho : r.okind = 1) : ¬ placeM d r = -1 := by
  unfold toldM at ht
  unfold placeM
  by_cases hr : readsO r.op = true
  · simp only [hr, ho, if_true, Bool.and_eq_true] at ht ⊢
    have hp := ht.1
    rw [hp]
    simp only [isReadM, Bool.and_eq_true, decide_eq_true_eq] at hp
    simp only [if_true]
    omega
  · simp only [hr, Bool.false_eq_true, if_false] at ht ⊢
    cases hf : firstN d r.client r.seq with
    | none => simp [hf, ho] at ht
    | some i => simp only; omega
theorem place_low {d : List EntM} {r : RecM} (h : ¬ placeM d r = -1) : 1 ≤ placeM d r := by
  unfold placeM at h ⊢
  by_cases hr : readsO r.op = true
  · by_cases hi : isReadM d r = true
    · simp only [hr, hi, if_true] at h ⊢
      simp only [isReadM, Bool.and_eq_true, decide_eq_true_eq] at hi
      omega
    · simp [hr, hi] at h
  · simp only [hr, Bool.false_eq_true, if_false] at h ⊢
    split <;> rename_i hf
    · omega
    · simp [hf] at h
/-- All that stands anywhere has a right order. -/
theorem right_all {l : List RecM} {d : List EntM} {ts : List Bool} (h : chkL l d = -1) (hseq : ∀ i j, i < l.length → j < l.length → (recAt l i).seq = (recAt l j).seq → i = j)
    (hto : ∀ i, i < l.length → 0 ≤ (recAt l i).upto → (recAt l i).frm < (recAt l i).upto) (hdn : ∀ i, i < l.length → (recAt l i).okind = 1 → 0 ≤ (recAt l i).upto)
    (hn : (d.map (·.seq)).Nodup) (hl : ts.length = l.length) (hu : ∀ i, i < l.length → (ts.getD i false = true ↔ ¬ placeM d (recAt l i) = -1)) : RightO l ts [] 0 := by
  obtain ⟨hh, hm⟩ := chkL_ok.1 h
  have rmem : ∀ j, j < l.length → recAt l j ∈ l := fun j hj => by
    unfold recAt; rw [List.getD_eq_getElem?_getD]; simp [hj]
  refine right_of hseq hto (fun i hi => hh _ (rmem i hi)) (fun i hi hr => hdn i hi ?_) _ ts 0 rfl ⟨hl, fun i hi hb => ?_, fun p _ hp => ?_⟩
  · simp only [isReadM, Bool.and_eq_true, beq_iff_eq] at hr
    exact hr.2.1
  · have := place_low ((hu i hi).1 hb)
    omega
  · have he : d[p]? = some d[p] := by simp
    obtain ⟨_, _, g3, _, r, hr, g5, g6, g7⟩ := mayM_iff.1 hm p _ he
    obtain ⟨i, hi, rfl⟩ := List.getElem_of_mem hr
    have er : recAt l i = l[i] := by
      unfold recAt; rw [List.getD_eq_getElem?_getD]; simp [hi]
    have hp1 : placeM d (recAt l i) = 2 * (p : Int) + 2 := by
      unfold placeM
      rw [er, g7, g3, g5, g6, nod_first hn he]
      rfl
    exact ⟨i, hi, (hu i hi).2 (by omega), hp1⟩
end Go.Proofs.Ytlphkjbadjdleaa
