/-
  Mail, pair by pair, as a map's entries: plain lists. No condition.
-/
import Derived.Test.YtfniieigeofbdaaLkS
import Derived.Test.YtfniieigeofbdaaMapL
namespace Go.Proofs.Ytfniieigeofbdaa
theorem lookE_mem {ag : Bool} {zk : List Value} {k v : Value} : ∀ {es : List (Value × Value)}, (∀ p ∈ es, keyOK ag zk p.1 = true) → (es.map (·.1)).Nodup → (k, v) ∈ es → lookE es k = some v
  | p :: es, hk, hn, h => by
    rw [List.map_cons, List.nodup_cons] at hn
    rcases List.mem_cons.1 h with h | h
    · subst h
      have := keyEq_self (hk (k, v) (by simp))
      simp only [lookE, this, if_true]
    · have hne : ¬ keyEq k p.1 = true := fun e => by
        have := (keyEq_iff (hk (k, v) (List.mem_cons_of_mem _ h)) (hk p (by simp))).1 e
        exact hn.1 (this ▸ List.mem_map_of_mem (f := (·.1)) h)
      simp only [lookE, hne, Bool.false_eq_true, if_false]
      exact lookE_mem (fun q hq => hk q (List.mem_cons_of_mem _ hq)) hn.2 h
theorem mem_lookE {ag : Bool} {zk : List Value} {k v : Value} (hk : keyOK ag zk k = true) : ∀ {es : List (Value × Value)}, (∀ p ∈ es, keyOK ag zk p.1 = true) → lookE es k = some v → (k, v) ∈ es
  | [], _, h => by simp [lookE] at h
  | p :: es, he, h => by
    by_cases e : keyEq k p.1 = true
    · simp only [lookE, e, if_true, Option.some.injEq] at h
      have := (keyEq_iff hk (he p (by simp))).1 e
      rw [this, ← h]
      simp
    · simp only [lookE, e, Bool.false_eq_true, if_false] at h
      exact List.mem_cons_of_mem _ (mem_lookE hk (fun q hq => he q (List.mem_cons_of_mem _ hq)) h)
section
variable {L : List MailM} {es : List (Value × Value)} {F : PairT → Value}
theorem MailE.mem (h : MailE L es F) {k v : Value} (hm : (k, v) ∈ es) : ∃ f t, k = pairV f t ∧ listM L f t ≠ [] ∧ v = F (f, t) := by
  obtain ⟨f, t, rfl⟩ := pairV_of (h.keys _ hm)
  have := lookE_mem h.keys h.nodup hm
  rw [h.look] at this
  split at this
  · cases this
  · rename_i hne
    cases this
    exact ⟨f, t, rfl, hne, rfl⟩
theorem MailE.has (h : MailE L es F) {f t : Int} (hl : listM L f t ≠ []) : (pairV f t, F (f, t)) ∈ es := mem_lookE (pairV_ok f t) h.keys (by rw [h.look, if_neg hl])
theorem MailE.new : MailE [] [] fun _ => .slice none 0 0 := ⟨fun p h => by simp at h, by simp, fun f t => by simp [lookE, listM], fun _ _ _ => rfl⟩
/-- One is sent. -/
theorem MailE.send (h : MailE L es F) (f t : Int) (x : List UInt8) (v : Value) : MailE (L ++ [⟨f, t, x⟩]) (updE es (pairV f t) v) (fun r => if r = (f, t) then v else F r) := by
  obtain ⟨k1, k2, _⟩ := updE_keys (v := v) (pairV_ok f t) h.keys h.nodup
  refine ⟨k1, k2, fun f' t' => ?_, fun f' t' hl => ?_⟩
  · rw [lookE_upd (pairV_ok f t) (pairV_ok f' t') h.keys, pairV_eq, listM_app, listM_one, h.look]
    by_cases e : f' = f ∧ t' = t
    · obtain ⟨rfl, rfl⟩ := e
      simp
    · have e1 : ¬ (f = f' ∧ t = t') := fun h => e ⟨h.1.symm, h.2.symm⟩
      have e2 : ¬ (f', t') = (f, t) := fun h => e (by simpa using h)
      have e3 : (decide (f' = f) && decide (t' = t)) = false := by simpa using e
      simp only [e3, Bool.false_eq_true, if_false, if_neg e1, List.append_nil, if_neg e2]
  · rw [listM_app, List.append_eq_nil_iff, listM_one] at hl
    by_cases e : f' = f ∧ t' = t
    · rw [if_pos ⟨e.1.symm, e.2.symm⟩] at hl
      cases hl.2
    · have e2 : ¬ (f', t') = (f, t) := fun h => e (by simpa using h)
      simp only [if_neg e2]
      exact h.nil f' t' hl.1
/-- One is taken out, and others are left. -/
theorem MailE.del (h : MailE L es F) (f t : Int) (i : Nat) (v : Value) (hl : (listM L f t).eraseIdx i ≠ []) : MailE (delM L f t i) (updE es (pairV f t) v) (fun r => if r = (f, t) then v else F r) := by
  obtain ⟨k1, k2, _⟩ := updE_keys (v := v) (pairV_ok f t) h.keys h.nodup
  refine ⟨k1, k2, fun f' t' => ?_, fun f' t' hn => ?_⟩
  · rw [lookE_upd (pairV_ok f t) (pairV_ok f' t') h.keys, pairV_eq, h.look]
    by_cases e : f' = f ∧ t' = t
    · obtain ⟨rfl, rfl⟩ := e
      rw [listM_del, if_neg hl]
      simp
    · have e2 : ¬ (f', t') = (f, t) := fun h => e (by simpa using h)
      have e3 : (decide (f' = f) && decide (t' = t)) = false := by simpa using e
      rw [listM_del_ne L f t i f' t' e]
      simp only [e3, Bool.false_eq_true, if_false, if_neg e2]
  · by_cases e : f' = f ∧ t' = t
    · obtain ⟨rfl, rfl⟩ := e
      rw [listM_del] at hn
      exact absurd hn hl
    · have e2 : ¬ (f', t') = (f, t) := fun h => e (by simpa using h)
      rw [listM_del_ne L f t i f' t' e] at hn
      simp only [if_neg e2]
      exact h.nil f' t' hn
/-- The last one is taken out. -/
theorem MailE.last (h : MailE L es F) (f t : Int) (i : Nat) (v : Value) (hl : (listM L f t).eraseIdx i = []) : MailE (delM L f t i) (delE (updE es (pairV f t) v) (pairV f t)) (fun r => if r = (f, t) then .slice none 0 0 else F r) := by
  obtain ⟨k1, k2, _⟩ := updE_keys (v := v) (pairV_ok f t) h.keys h.nodup
  have hs := delE_sub (pairV f t) (updE es (pairV f t) v)
  refine ⟨fun p hp => k1 p (hs.subset hp), k2.sublist (hs.map _), fun f' t' => ?_, fun f' t' hn => ?_⟩
  · rw [lookE_del (pairV_ok f t) (pairV_ok f' t') k1 k2, lookE_upd (pairV_ok f t) (pairV_ok f' t') h.keys, pairV_eq, h.look]
    by_cases e : f' = f ∧ t' = t
    · obtain ⟨rfl, rfl⟩ := e
      rw [listM_del, if_pos hl]
      simp
    · have e2 : ¬ (f', t') = (f, t) := fun h => e (by simpa using h)
      have e3 : (decide (f' = f) && decide (t' = t)) = false := by simpa using e
      rw [listM_del_ne L f t i f' t' e]
      simp only [e3, Bool.false_eq_true, if_false, if_neg e2]
  · by_cases e : f' = f ∧ t' = t
    · obtain ⟨rfl, rfl⟩ := e
      simp
    · have e2 : ¬ (f', t') = (f, t) := fun h => e (by simpa using h)
      rw [listM_del_ne L f t i f' t' e] at hn
      simp only [if_neg e2]
      exact h.nil f' t' hn
/-- A key, as a pair. -/
def unP : Value → PairT
  | .agg ⟨[.int .i64 f, .int .i64 t]⟩ => (f, t)
  | _ => (0, 0)
theorem unP_pairV (f t : Int) : unP (pairV f t) = (f, t) := rfl
/-- How many a list has. -/
def lenV : Value → Nat
  | .slice _ n _ => n
  | _ => 0
/-- The pairs that have mail, in the map's order. -/
theorem MailE.pairs (h : MailE L es F) : ((es.map fun p => unP p.1).Nodup ∧ ∀ f t, (f, t) ∈ es.map (fun p => unP p.1) ↔ listM L f t ≠ []) ∧ ∀ p ∈ es, p = (pairV (unP p.1).1 (unP p.1).2, F (unP p.1)) := by
  have hp : ∀ p ∈ es, p = (pairV (unP p.1).1 (unP p.1).2, F (unP p.1)) := fun p hp => by
    obtain ⟨f, t, h1, _, h3⟩ := h.mem (k := p.1) (v := p.2) hp
    rw [h1, unP_pairV]
    exact Prod.ext h1 h3
  refine ⟨⟨?_, fun f t => ⟨fun hm => ?_, fun hl => ?_⟩⟩, hp⟩
  · have : es.map (·.1) = (es.map fun p => unP p.1).map fun q => pairV q.1 q.2 := by
      rw [List.map_map]
      exact List.map_congr_left fun p hm => congrArg Prod.fst (hp p hm)
    have hn := h.nodup
    rw [this] at hn
    exact nodup_of_map hn
  · obtain ⟨p, hm, e⟩ := List.mem_map.1 hm
    obtain ⟨f', t', h1, h2, h3⟩ := h.mem (k := p.1) (v := p.2) hm
    rw [h1, unP_pairV] at e
    cases e
    exact h2
  · exact List.mem_map.2 ⟨_, h.has hl, rfl⟩
where
  nodup_of_map {α β : Type} {f : α → β} {l : List α} (h : (l.map f).Nodup) : l.Nodup := by
    induction l with
    | nil => exact List.nodup_nil
    | cons x l ih =>
      rw [List.map_cons, List.nodup_cons] at h
      exact List.nodup_cons.2 ⟨fun hm => h.1 (List.mem_map_of_mem hm), ih h.2⟩
theorem mem_listM {m : MailM} (h : m ∈ L) : listM L m.frm m.to ≠ [] := by
  have : m.text ∈ listM L m.frm m.to := List.mem_map.2 ⟨m, List.mem_filter.2 ⟨h, by simp [isP]⟩, rfl⟩
  exact List.ne_nil_of_mem this
/-- How many all have. -/
theorem MailE.sum {Z : Nat → Prop} {Q : World → Prop} (h : MailE L es F) (hP : PairS (fun p => listM L p.1 p.2) F Z Q) : (es.map fun p => lenV p.2).sum = L.length := by
  obtain ⟨⟨h1, h2⟩, h3⟩ := h.pairs
  rw [← sum_pairs h1 fun m hm => (h2 _ _).2 (mem_listM hm), List.map_map]
  congr 1
  refine List.map_congr_left fun p hp => ?_
  have e : p.2 = F (unP p.1) := congrArg Prod.snd (h3 p hp)
  show lenV p.2 = _
  rw [e]
  rcases hP.form (unP p.1) with ⟨e1, e2⟩ | ⟨gb, cap, e1⟩
  · rw [e1]
    have e2 : listM L (unP p.1).1 (unP p.1).2 = [] := e2
    show 0 = (listM L (unP p.1).1 (unP p.1).2).length
    rw [e2]
    rfl
  · rw [e1]
    rfl
end
end Go.Proofs.Ytfniieigeofbdaa
