/-
  Calls held against a log: what is told otherwise does not hold; calls one after the other hold. Plain lists, no condition.
-/
import Derived.Test.YtlphkjbadjdleaaLinM
namespace Go.Proofs.Ytlphkjbadjdleaa
theorem lateM_congr {d : List EntM} {r r' q q' : RecM} (h1 : r'.frm = r.frm) (h2 : placeM d r' = placeM d r) (h3 : q'.okind = q.okind) (h4 : q'.upto = q.upto) (h5 : placeM d q' = placeM d q) : lateM d r' q' = lateM d r q := by
  unfold lateM
  rw [h1, h2, h3, h4, h5]
theorem chkL_spoil {l : List RecM} {d : List EntM} {k : Nat} {r r' : RecM} (h : chkL l d = -1) (hk : l[k]? = some r) (h1 : placeM d r' = placeM d r) (h2 : r'.okind = r.okind) (h3 : r'.upto = r.upto) (ht : toldM d r' = false) : chkL (l.set k r') d = k := by
  obtain ⟨hh, _⟩ := chkL_ok.1 h
  obtain ⟨hlt, hr⟩ := List.getElem?_eq_some_iff.1 hk
  have : (l.set k r').findIdx? (fun r => !holdsM (l.set k r') d r) = some k := by
    rw [List.findIdx?_eq_some_iff_getElem]
    refine ⟨by simpa using hlt, by simp [holdsM, ht], fun j hj => ?_⟩
    have hjl : j < l.length := by omega
    have hne : ¬ k = j := by omega
    have e1 : (l.set k r')[j]'(by simpa using hjl) = l[j] := by rw [List.getElem_set]; simp [hne]
    have h0 := hh _ (List.getElem_mem hjl)
    rw [e1]
    simp only [Bool.not_eq_true', Bool.not_eq_false]
    unfold holdsM at h0 ⊢
    simp only [Bool.and_eq_true, Bool.or_eq_true, decide_eq_true_eq, List.all_eq_true] at h0 ⊢
    refine ⟨h0.1, h0.2.imp id fun ha q hq => ?_⟩
    rcases List.mem_or_eq_of_mem_set hq with hq | rfl
    · exact ha q hq
    · have := ha r (hr ▸ List.getElem_mem hlt)
      rw [lateM_congr (r := l[j]) (q := r) rfl rfl h2 h3 h1]
      exact this
  unfold chkL
  rw [this]
/-- What a record tells with another value. -/
def spoilR (r : RecM) (v : List UInt8) : RecM := { r with res := { r.res with value := v } }
theorem placeM_spoil (d : List EntM) (r : RecM) (v : List UInt8) : placeM d (spoilR r v) = placeM d r := rfl
theorem toldM_spoil {d : List EntM} {r : RecM} {v : List UInt8} (ht : toldM d r = true) (ho : r.okind = 1) (hv : ¬ v = r.res.value) : toldM d (spoilR r v) = false := by
  have hne : ¬ r.res = { r.res with value := v } := fun e => hv (by rw [e])
  unfold toldM at ht ⊢
  have e1 : (spoilR r v).op = r.op := rfl
  have e2 : (spoilR r v).okind = r.okind := rfl
  have e3 : (spoilR r v).client = r.client := rfl
  have e4 : (spoilR r v).seq = r.seq := rfl
  have e5 : (spoilR r v).res.pos = r.res.pos := rfl
  have e6 : isReadM d (spoilR r v) = isReadM d r := rfl
  have e7 : (spoilR r v).res = { r.res with value := v } := rfl
  rw [e1, e2, e3, e4, e5, e6, e7]
  by_cases hr : readsO r.op = true
  · simp only [hr, ho, if_true, Bool.and_eq_true, decide_eq_true_eq] at ht ⊢
    rw [ht.2]
    simp [hne]
  · simp only [hr, Bool.false_eq_true, if_false] at ht ⊢
    cases hf : firstN d r.client r.seq with
    | none => simp [hf, ho] at ht
    | some i =>
      simp only [hf, ho, ne_eq, not_true_eq_false, decide_false, Bool.false_or, Bool.and_eq_true, decide_eq_true_eq] at ht ⊢
      rw [ht.2.2.2]
      simp [hne]
/-- Calls that are done one after the other: the log, and the records. -/
def serD : List (Int × OpM) → List EntM → Nat → List EntM
  | [], d, _ => d
  | x :: xs, d, i => serD xs (if readsO x.2 then d else d ++ [⟨(d.length : Int) + 1, x.1, (i : Int) + 1, x.2⟩]) (i + 1)
def serR (x : Int × OpM) (d : List EntM) (i : Nat) : RecM :=
  ⟨x.1, (i : Int) + 1, x.2, 2 * i, 2 * i + 1, 1, 0, if readsO x.2 then readN d x.2.key d.length else (applyM (storeN d d.length) ((d.length : Int) + 1) x.2).2⟩
def serL : List (Int × OpM) → List EntM → Nat → List RecM
  | [], _, _ => []
  | x :: xs, d, i => serR x d i :: serL xs (if readsO x.2 then d else d ++ [⟨(d.length : Int) + 1, x.1, (i : Int) + 1, x.2⟩]) (i + 1)
theorem nod_count : ∀ {D : List EntM} {p : Nat} {e : EntM}, (D.map (·.seq)).Nodup → D[p]? = some e → countN D e.client e.seq = 1
  | [], _, _, _, h => by simp at h
  | x :: D, 0, e, hn, h => by
    simp only [List.map_cons, List.nodup_cons] at hn
    simp at h; subst h
    have : D.filter (isOf x.client x.seq) = [] := by
      rw [List.filter_eq_nil_iff]
      intro y hy hb
      simp only [isOf, Bool.and_eq_true, beq_iff_eq] at hb
      exact hn.1 (hb.2 ▸ List.mem_map_of_mem (f := (·.seq)) hy)
    simp [countN, isOf] at this ⊢
    simpa using this
  | x :: D, p + 1, e, hn, h => by
    simp only [List.map_cons, List.nodup_cons] at hn
    have h' : D[p]? = some e := by simpa using h
    have ih := nod_count hn.2 h'
    have : isOf e.client e.seq x = false := by
      have : ¬ x.seq = e.seq := fun he => hn.1 (he ▸ List.mem_map_of_mem (f := (·.seq)) (List.mem_of_getElem? h'))
      simp [isOf, this]
    simp only [countN, List.filter_cons, this] at ih ⊢
    exact ih
theorem nod_first {D : List EntM} {p : Nat} {e : EntM} (hn : (D.map (·.seq)).Nodup) (h : D[p]? = some e) : firstN D e.client e.seq = some p := by
  obtain ⟨hl, he⟩ := List.getElem?_eq_some_iff.1 h
  unfold firstN
  rw [List.findIdx?_eq_some_iff_getElem]
  refine ⟨hl, by simp [isOf, he], fun j hj hb => ?_⟩
  simp only [isOf, Bool.and_eq_true, beq_iff_eq] at hb
  have := List.pairwise_iff_getElem.1 hn j p (by simp; omega) (by simpa using hl) hj
  simp only [List.getElem_map, he] at this
  exact this hb.2
def SerW (d : List EntM) (i : Nat) : Prop := (∀ e ∈ d, e.seq ≤ i) ∧ (d.map (·.seq)).Nodup
def serN (x : Int × OpM) (d : List EntM) (i : Nat) : List EntM := if readsO x.2 then d else d ++ [⟨(d.length : Int) + 1, x.1, (i : Int) + 1, x.2⟩]
theorem SerW.next {d : List EntM} {i : Nat} (h : SerW d i) (x : Int × OpM) : SerW (serN x d i) (i + 1) := by
  unfold serN
  split
  · exact ⟨fun e he => by have := h.1 e he; omega, h.2⟩
  · refine ⟨fun e he => ?_, ?_⟩
    · rcases List.mem_append.1 he with he | he
      · have := h.1 e he; omega
      · simp at he; subst he; simp
    · rw [List.map_append, List.nodup_append]
      refine ⟨h.2, by simp, fun a ha b hb => ?_⟩
      simp at hb; subst hb
      obtain ⟨e, he, rfl⟩ := List.mem_map.1 ha
      have := h.1 e he
      omega
theorem serD_nod : ∀ (xs : List (Int × OpM)) (d : List EntM) (i : Nat), SerW d i → ((serD xs d i).map (·.seq)).Nodup
  | [], _, _, h => h.2
  | x :: xs, d, i, h => serD_nod xs (serN x d i) (i + 1) (h.next x)
theorem serD_pre : ∀ (xs : List (Int × OpM)) (d : List EntM) (i : Nat), ∃ t, serD xs d i = d ++ t
  | [], d, _ => ⟨[], by simp [serD]⟩
  | x :: xs, d, i => by
    obtain ⟨t, ht⟩ := serD_pre xs (serN x d i) (i + 1)
    show ∃ t, serD xs (serN x d i) (i + 1) = d ++ t
    rw [ht]
    unfold serN
    split
    · exact ⟨t, rfl⟩
    · exact ⟨_, List.append_assoc _ _ _⟩
theorem ser_told : ∀ (xs : List (Int × OpM)) (d : List EntM) (i : Nat), SerW d i → ∀ r ∈ serL xs d i, toldM (serD xs d i) r = true
  | [], _, _, _, r, hr => by simp [serL] at hr
  | x :: xs, d, i, h, r, hr => by
    rcases List.mem_cons.1 hr with rfl | hr
    · have hn := serD_nod xs (serN x d i) (i + 1) (h.next x)
      obtain ⟨t, ht⟩ := serD_pre xs (serN x d i) (i + 1)
      show toldM (serD xs (serN x d i) (i + 1)) (serR x d i) = true
      rw [ht] at hn ⊢
      by_cases hx : readsO x.2 = true
      · have e1 : serN x d i = d := by simp [serN, hx]
        rw [e1]
        have e2 : (serR x d i).res = readN d x.2.key d.length := by simp [serR, hx]
        have e3 : (readN d x.2.key d.length).pos = (d.length : Int) := by
          unfold readN lookM
          split <;> rfl
        have e4 : (serR x d i).op = x.2 := rfl
        have e5 : (serR x d i).okind = 1 := rfl
        have e6 : isReadM (d ++ t) (serR x d i) = true := by
          unfold isReadM
          rw [e2, e3, e4, e5, hx]
          simp only [List.length_append, Int.natCast_add, Bool.true_and, beq_self_eq_true, Bool.and_eq_true, decide_eq_true_eq]
          omega
        unfold toldM
        rw [e6, e2, e3, e4, e5, hx]
        simp [readN_app]
      · have hx' : readsO x.2 = false := by simpa using hx
        have e1 : serN x d i = d ++ [⟨(d.length : Int) + 1, x.1, (i : Int) + 1, x.2⟩] := by simp [serN, hx']
        rw [e1] at hn ⊢
        have hp : (d ++ [(⟨(d.length : Int) + 1, x.1, (i : Int) + 1, x.2⟩ : EntM)] ++ t)[d.length]? = some ⟨(d.length : Int) + 1, x.1, (i : Int) + 1, x.2⟩ := by simp
        have f1 : firstN (d ++ [(⟨(d.length : Int) + 1, x.1, (i : Int) + 1, x.2⟩ : EntM)] ++ t) (serR x d i).client (serR x d i).seq = some d.length := nod_first hn hp
        have f2 : countN (d ++ [(⟨(d.length : Int) + 1, x.1, (i : Int) + 1, x.2⟩ : EntM)] ++ t) (serR x d i).client (serR x d i).seq = 1 := nod_count hn hp
        have f3 : (d ++ [(⟨(d.length : Int) + 1, x.1, (i : Int) + 1, x.2⟩ : EntM)] ++ t).getD d.length entZ = ⟨(d.length : Int) + 1, x.1, (i : Int) + 1, x.2⟩ := by
          rw [List.getD_eq_getElem?_getD, hp]; rfl
        have f4 : didN (d ++ [(⟨(d.length : Int) + 1, x.1, (i : Int) + 1, x.2⟩ : EntM)] ++ t) d.length = (serR x d i).res := by
          unfold didN
          rw [f3, List.append_assoc, storeN_app d _ d.length (Nat.le_refl _)]
          simp [serR, hx']
        have e4 : (serR x d i).op = x.2 := rfl
        have e5 : (serR x d i).okind = 1 := rfl
        unfold toldM
        rw [f1, f2, e4, e5, hx']
        simp only [f3, f4]
        simp
    · exact ser_told xs (serN x d i) (i + 1) (h.next x) r hr
theorem serR_place {x : Int × OpM} {d t : List EntM} {i : Nat} (hn : ((serN x d i ++ t).map (·.seq)).Nodup) : placeM (serN x d i ++ t) (serR x d i) = 2 * (d.length : Int) + (if readsO x.2 then 1 else 2) := by
  by_cases hx : readsO x.2 = true
  · have e1 : serN x d i = d := by simp [serN, hx]
    rw [e1]
    have e2 : (serR x d i).res.pos = (d.length : Int) := by
      simp only [serR, hx, if_true, readN, lookM]
      split <;> rfl
    have e4 : (serR x d i).op = x.2 := rfl
    have e5 : (serR x d i).okind = 1 := rfl
    have e6 : isReadM (d ++ t) (serR x d i) = true := by
      unfold isReadM
      rw [e2, e4, e5, hx]
      simp only [List.length_append, Int.natCast_add, Bool.true_and, beq_self_eq_true, Bool.and_eq_true, decide_eq_true_eq]
      omega
    unfold placeM
    rw [e6, e2, e4, hx]
    simp
  · have hx' : readsO x.2 = false := by simpa using hx
    have e1 : serN x d i = d ++ [⟨(d.length : Int) + 1, x.1, (i : Int) + 1, x.2⟩] := by simp [serN, hx']
    rw [e1] at hn ⊢
    have hp : (d ++ [(⟨(d.length : Int) + 1, x.1, (i : Int) + 1, x.2⟩ : EntM)] ++ t)[d.length]? = some ⟨(d.length : Int) + 1, x.1, (i : Int) + 1, x.2⟩ := by simp
    have f1 : firstN (d ++ [(⟨(d.length : Int) + 1, x.1, (i : Int) + 1, x.2⟩ : EntM)] ++ t) (serR x d i).client (serR x d i).seq = some d.length := nod_first hn hp
    have e4 : (serR x d i).op = x.2 := rfl
    unfold placeM
    rw [f1, e4, hx']
    simp
theorem serN_len (x : Int × OpM) (d : List EntM) (i : Nat) : ((serN x d i).length : Int) = d.length + (if readsO x.2 then 0 else 1) := by
  unfold serN
  split <;> simp
theorem ser_from : ∀ (xs : List (Int × OpM)) (d : List EntM) (i : Nat), SerW d i → ∀ r ∈ serL xs d i, 2 * (d.length : Int) + 1 ≤ placeM (serD xs d i) r ∧ 2 * (i : Int) ≤ r.frm ∧ r.upto = r.frm + 1
  | [], _, _, _, r, hr => by simp [serL] at hr
  | x :: xs, d, i, h, r, hr => by
    rcases List.mem_cons.1 hr with rfl | hr
    · have hn := serD_nod xs (serN x d i) (i + 1) (h.next x)
      obtain ⟨t, ht⟩ := serD_pre xs (serN x d i) (i + 1)
      show 2 * (d.length : Int) + 1 ≤ placeM (serD xs (serN x d i) (i + 1)) (serR x d i) ∧ _
      rw [ht] at hn ⊢
      rw [serR_place hn]
      refine ⟨by split <;> omega, by simp [serR], by simp [serR]⟩
    · obtain ⟨h1, h2, h3⟩ := ser_from xs (serN x d i) (i + 1) (h.next x) r hr
      have := serN_len x d i
      refine ⟨?_, by omega, h3⟩
      have e : serD (x :: xs) d i = serD xs (serN x d i) (i + 1) := rfl
      rw [e]
      split at this <;> omega
theorem ser_late : ∀ (xs : List (Int × OpM)) (d : List EntM) (i : Nat), SerW d i → ∀ r ∈ serL xs d i, ∀ q ∈ serL xs d i, lateM (serD xs d i) r q = false
  | [], _, _, _, r, hr, _, _ => by simp [serL] at hr
  | x :: xs, d, i, h, r, hr, q, hq => by
    have e : serD (x :: xs) d i = serD xs (serN x d i) (i + 1) := rfl
    have hn := serD_nod xs (serN x d i) (i + 1) (h.next x)
    obtain ⟨t, ht⟩ := serD_pre xs (serN x d i) (i + 1)
    have hp : placeM (serD xs (serN x d i) (i + 1)) (serR x d i) = 2 * (d.length : Int) + (if readsO x.2 then 1 else 2) := by
      rw [ht] at hn ⊢
      exact serR_place hn
    have hl := serN_len x d i
    have ef : (serR x d i).frm = 2 * i := rfl
    have eu : (serR x d i).upto = 2 * i + 1 := rfl
    rw [e]
    rcases List.mem_cons.1 hr with rfl | hr <;> rcases List.mem_cons.1 hq with rfl | hq
    · simp only [lateM, decide_eq_false_iff_not]
      omega
    · obtain ⟨h1, h2, h3⟩ := ser_from xs (serN x d i) (i + 1) (h.next x) q hq
      simp only [lateM, decide_eq_false_iff_not]
      omega
    · obtain ⟨h1, h2, h3⟩ := ser_from xs (serN x d i) (i + 1) (h.next x) r hr
      simp only [lateM, decide_eq_false_iff_not, hp]
      split at hl <;> rename_i hx <;> simp only [hx, if_true, if_false, Bool.false_eq_true] <;> omega
    · exact ser_late xs (serN x d i) (i + 1) (h.next x) r hr q hq
/-- Entries as they may be, each some record's own. -/
def SerG (R : List RecM) (d : List EntM) : Prop := ∀ (p : Nat) (e : EntM), d[p]? = some e → e.index = (p : Int) + 1 ∧ chkO e.op = 0 ∧ readsO e.op = false ∧ ∃ r ∈ R, r.client = e.client ∧ r.seq = e.seq ∧ r.op = e.op
theorem ser_good : ∀ (xs : List (Int × OpM)) (d : List EntM) (i : Nat) (R : List RecM), (∀ x ∈ xs, chkO x.2 = 0) → SerG R d → (∀ r ∈ serL xs d i, r ∈ R) → SerG R (serD xs d i)
  | [], _, _, _, _, h, _ => h
  | x :: xs, d, i, R, hc, h, hR => by
    refine ser_good xs (serN x d i) (i + 1) R (fun y hy => hc y (List.mem_cons_of_mem _ hy)) ?_ (fun r hr => hR r (List.mem_cons_of_mem _ hr))
    unfold serN
    split
    · exact h
    · rename_i hx
      intro p e hp
      rw [List.getElem?_append] at hp
      split at hp
      · exact h p e hp
      · rename_i hlt
        have hpe : p = d.length := by
          have := (List.getElem?_eq_some_iff.1 hp).1
          simp at this; omega
        subst hpe
        simp at hp
        subst hp
        exact ⟨rfl, hc x (by simp), by simpa using hx, serR x d i, hR _ (by simp [serL]), rfl, rfl, rfl⟩
theorem mayM_of {R : List RecM} {D : List EntM} (hn : (D.map (·.seq)).Nodup) (hg : SerG R D) : mayM R D = true := by
  unfold mayM
  rw [List.all_eq_true]
  intro p hp
  have hp : p < D.length := by simpa using hp
  have he : D[p]? = some D[p] := by simp
  have hd : D.getD p entZ = D[p] := by rw [List.getD_eq_getElem?_getD, he]; rfl
  obtain ⟨g1, g2, g3, r, hr, g4⟩ := hg p _ he
  have hc := nod_count hn he
  rw [hd]
  unfold entOK
  rw [g1, g2, g3, hc]
  simp only [decide_true, Bool.not_false, Bool.true_and]
  rw [List.any_eq_true]
  exact ⟨r, hr, by simpa using g4⟩
/-- Calls that are done one after the other hold. -/
theorem ser_holds {xs : List (Int × OpM)} (hc : ∀ x ∈ xs, chkO x.2 = 0) : chkL (serL xs [] 0) (serD xs [] 0) = -1 := by
  have hw : SerW [] 0 := ⟨fun e h => by simp at h, by simp⟩
  refine chkL_ok.2 ⟨fun r hr => ?_, mayM_of (serD_nod xs [] 0 hw) (ser_good xs [] 0 _ hc (fun p e h => by simp at h) (fun _ h => h))⟩
  unfold holdsM
  rw [ser_told xs [] 0 hw r hr]
  simp only [Bool.true_and, Bool.or_eq_true, List.all_eq_true]
  exact .inr fun q hq => by rw [ser_late xs [] 0 hw r hr q hq]; rfl
end Go.Proofs.Ytlphkjbadjdleaa
