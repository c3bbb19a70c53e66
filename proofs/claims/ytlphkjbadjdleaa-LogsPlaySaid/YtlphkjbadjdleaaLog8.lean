/-
  What is true of each log: plain. No program in sight, no condition.
-/
import Derived.Test.YtlphkjbadjdleaaLog5
namespace Go.Proofs.Ytlphkjbadjdleaa
/-- The entry at a place. -/
abbrev LogM.at (l : LogM) (i : Nat) : EntM := l.ents.getD i entZ
structure LogInv (l : LogM) : Prop where
  ok : l.ok
  good : ∀ i, i < l.ents.length → (l.at i).index = i + 1 ∧ (0 ≤ (l.at i).client ∧ (l.at i).client < 6) ∧ 1 ≤ (l.at i).seq ∧ chkO (l.at i).op = 0 ∧ ¬ (l.at i).op.kind = 1
  rise : ∀ i j, j < i → i < l.ents.length → (l.at j).client = (l.at i).client → (l.at j).seq < (l.at i).seq
  last : ∀ j, j < l.ents.length → (l.at j).seq ≤ (l.la (l.at j).client.toNat).1
  from0 : ∀ c, (l.la c).1 = 0 ∨ ∃ j, j < l.ents.length ∧ (l.at j).client.toNat = c ∧ (l.at j).seq = (l.la c).1
theorem logZ_inv : LogInv logZ :=
  ⟨logZ_ok, fun i h => absurd h (Nat.not_lt_zero _), fun i j _ h => absurd h (Nat.not_lt_zero _), fun j h => absurd h (Nat.not_lt_zero _), fun _ => .inl rfl⟩
theorem put_at {l : LogM} {e : EntM} {i : Nat} (h : i < l.ents.length) : (logPut l e).at i = l.at i := getD_lt h
theorem put_at' {l : LogM} {e : EntM} : (logPut l e).at l.ents.length = e := getD_len
theorem put_len (l : LogM) (e : EntM) : (logPut l e).ents.length = l.ents.length + 1 := by simp [logPut]
theorem LogInv.put {l : LogM} (h : LogInv l) {e : EntM} (he : logErr l e = 0) : LogInv (logPut l e) := by
  obtain ⟨⟨a1, a2, a3, a4, a5⟩, a6, a7, a8⟩ := logErr_0.1 he
  have hn := put_len l e
  have cases' : ∀ i, i < (logPut l e).ents.length → i < l.ents.length ∨ i = l.ents.length := fun i hi => by omega
  refine ⟨logPut_ok h.ok he, fun i hi => ?_, fun i j hj hi hc => ?_, fun j hj => ?_, fun c => ?_⟩
  · rcases cases' i hi with hi | rfl
    · rw [put_at hi]; exact h.good i hi
    · rw [put_at']; exact ⟨a7, ⟨a1, a2⟩, a3, a4, a5⟩
  · rcases cases' i hi with hi | rfl
    · rw [put_at hi, put_at (show j < l.ents.length by omega)] at *
      exact h.rise i j hj hi hc
    · rw [put_at', put_at hj] at *
      have := h.last j hj
      rw [hc] at this
      omega
  · have la : ∀ c, (logPut l e).la c = if c = e.client.toNat then (e.seq, e.index) else l.la c := fun _ => rfl
    rcases cases' j hj with hj | rfl
    · rw [put_at hj, la]
      have := h.last j hj
      split
      · rename_i hc
        rw [hc] at this
        simp only
        omega
      · exact this
    · rw [put_at', la, if_pos rfl]
      exact Int.le_refl _
  · show ((if c = e.client.toNat then (e.seq, e.index) else l.la c).1 = 0) ∨ ∃ j, j < (logPut l e).ents.length ∧ ((logPut l e).at j).client.toNat = c ∧ ((logPut l e).at j).seq = (if c = e.client.toNat then (e.seq, e.index) else l.la c).1
    split
    · rename_i hc
      exact .inr ⟨l.ents.length, by omega, by rw [put_at']; exact hc.symm, by rw [put_at']⟩
    · rcases h.from0 c with h0 | ⟨j, hj, h1, h2⟩
      · exact .inl h0
      · exact .inr ⟨j, by omega, by rw [put_at hj]; exact h1, by rw [put_at hj]; exact h2⟩
/-- What may be appended again. -/
theorem LogInv.again {l : LogM} (h : LogInv l) {e : EntM} (hi : e.index = l.ents.length + 1) (hc : 0 ≤ e.client ∧ e.client < 6) (hs : 1 ≤ e.seq) (ho : chkO e.op = 0 ∧ ¬ e.op.kind = 1) (hl : l.ents.length < 4096)
    (hr : ∀ j, j < l.ents.length → (l.at j).client = e.client → (l.at j).seq < e.seq) : logErr l e = 0 := by
  refine logErr_0.2 ⟨⟨hc.1, hc.2, hs, ho.1, ho.2⟩, hl, hi, ?_⟩
  rcases h.from0 e.client.toNat with h0 | ⟨j, hj, h1, h2⟩
  · omega
  · have := (h.good j hj).2.1
    rw [← h2]
    exact hr j hj (by omega)
/-- An entry with another operation. -/
def EntM.withOp (e : EntM) (o : OpM) : EntM := ⟨e.index, e.client, e.seq, o⟩
/-- The rows behind such a store. -/
theorem updR_ents (l : List EntM) (m : Nat) (o : OpM) (hm : m < l.length) : ∀ r c, r < l.length → c < 7 →
    updR (entF l) m 3 [.int .i64 o.kind, S o.key, S o.value, .int .i64 o.version] r c = entF (l.set m ((l.getD m entZ).withOp o)) r c := fun r c hr hc => by
  unfold updR entF rowsF
  by_cases h : r = m
  · subst h
    have e1 : (l.set r ((l.getD r entZ).withOp o)).getD r entZ = (l.getD r entZ).withOp o := by simp [List.getD, hm]
    rw [e1, Nat.beq_refl]
    rcases c with _ | _ | _ | _ | _ | _ | _ | c <;> first | rfl | omega
  · have e1 : (l.set m ((l.getD m entZ).withOp o)).getD r entZ = l.getD r entZ := by
      simp only [List.getD]
      rw [List.getElem?_set_ne (fun e => h e.symm)]
    have e2 : Nat.beq r m = false := by
      cases hb : Nat.beq r m
      · rfl
      · exact absurd (Nat.eq_of_beq_eq_true hb) h
    rw [e1, e2]
    rfl
/-- The same, as functions. -/
theorem updR_entsF (l : List EntM) (m : Nat) (k : Int) (key value : List UInt8) (v : Int) (hm : m < l.length) :
    updR (entF l) m (0 + 3) [.int .i64 k, S key, S value, .int .i64 v] = entF (l.set m ((l.getD m entZ).withOp ⟨k, key, value, v⟩)) := by
  funext r c
  by_cases hr : r < l.length
  · by_cases hc : c < 7
    · exact updR_ents l m ⟨k, key, value, v⟩ hm r c hr hc
    · unfold updR entF rowsF
      have e0 : ∀ x : EntM, (entC x).getD c undef = undef := fun x => by
        simp only [List.getD]
        rw [List.getElem?_eq_none (by simp [entC]; omega)]
        rfl
      rw [e0, e0]
      have : Nat.blt c 7 = false := by
        cases hb : Nat.blt c 7
        · rfl
        · rw [Nat.blt_eq] at hb; omega
      simp [this]
  · have e1 : (l.set m ((l.getD m entZ).withOp ⟨k, key, value, v⟩)).getD r entZ = entZ := by
      simp only [List.getD]
      rw [List.getElem?_eq_none (by simp; omega)]
      rfl
    have e2 : Nat.beq r m = false := by
      cases hb : Nat.beq r m
      · rfl
      · have := Nat.eq_of_beq_eq_true hb; omega
    have e3 : l.getD r entZ = entZ := by
      simp only [List.getD]
      rw [List.getElem?_eq_none (by omega)]
      rfl
    unfold updR entF rowsF
    rw [e1, e2, e3]
    rfl
theorem set_at (l : List EntM) (m i : Nat) (o : OpM) (hm : m < l.length) : (l.set m ((l.getD m entZ).withOp o)).getD i entZ = if i = m then (l.getD m entZ).withOp o else l.getD i entZ := by
  by_cases h : i = m
  · subst h
    simp [List.getD, hm]
  · rw [if_neg h]
    simp only [List.getD]
    rw [List.getElem?_set_ne (fun e => h e.symm)]
theorem take_snoc {α : Type} (l : List α) (i : Nat) (z : α) (h : i < l.length) : l.take (i + 1) = l.take i ++ [l.getD i z] := by
  rw [List.take_add_one, List.getElem?_eq_getElem h]
  simp [List.getD, List.getElem?_eq_getElem h]
theorem again_ok {lg lc : LogM} (hg : LogInv lg) (hc : LogInv lc) {m i : Nat} (o : OpM) (ho : chkO o = 0 ∧ ¬ o.kind = 1) (hm : m < lg.ents.length) (hi : i < lg.ents.length) (he : lc.ents = (lg.ents.set m ((lg.ents.getD m entZ).withOp o)).take i) :
    logErr lc ((lg.ents.set m ((lg.ents.getD m entZ).withOp o)).getD i entZ) = 0 := by
  have hlen : lc.ents.length = i := by rw [he]; simp; omega
  have hat : ∀ j, j < i → lc.at j = (lg.ents.set m ((lg.ents.getD m entZ).withOp o)).getD j entZ := fun j hj => by
    show lc.ents.getD j entZ = _
    rw [he]
    simp only [List.getD, List.getElem?_take, if_pos hj]
  have key : ∀ j, j < lg.ents.length → ((lg.ents.set m ((lg.ents.getD m entZ).withOp o)).getD j entZ).index = j + 1 ∧ ((lg.ents.set m ((lg.ents.getD m entZ).withOp o)).getD j entZ).client = (lg.at j).client ∧ ((lg.ents.set m ((lg.ents.getD m entZ).withOp o)).getD j entZ).seq = (lg.at j).seq ∧ (chkO ((lg.ents.set m ((lg.ents.getD m entZ).withOp o)).getD j entZ).op = 0 ∧ ¬ ((lg.ents.set m ((lg.ents.getD m entZ).withOp o)).getD j entZ).op.kind = 1) := fun j hj => by
    obtain ⟨g1, _, _, g4⟩ := hg.good j hj
    rw [set_at _ _ _ _ hm]
    split
    · rename_i h
      subst h
      exact ⟨g1, rfl, rfl, ho⟩
    · exact ⟨g1, rfl, rfl, g4⟩
  obtain ⟨k1, k2, k3, k4⟩ := key i hi
  obtain ⟨_, g2, g3, _⟩ := hg.good i hi
  have hok := hg.ok.2
  refine hc.again (by rw [k1, hlen]) (by rw [k2]; exact g2) (by rw [k3]; exact g3) k4 (by omega) fun j hj hcl => ?_
  rw [hlen] at hj
  rw [hat j hj] at hcl ⊢
  obtain ⟨_, j2, j3, _⟩ := key j (by omega)
  rw [j3, k3]
  exact hg.rise i j hj hi (by rw [← j2, ← k2]; exact hcl)
theorem set_same {l : List EntM} {m : Nat} {e : EntM} (hm : m < l.length) : (l.set m e = l) ↔ (l.set m e).getD m entZ = l.getD m entZ := by
  constructor
  · intro h; rw [h]
  · intro h
    have h1 : (l.set m e).getD m entZ = e := by simp [List.getD, hm]
    rw [h1] at h
    rw [h]
    simp [List.getD, hm]
/-- Two entries, cell by cell. -/
def eqEB (a b : EntM) : Bool := a.index == b.index && (a.client == b.client && (a.seq == b.seq && (a.op.kind == b.op.kind && (a.op.key == b.op.key && (a.op.value == b.op.value && (a.op.version == b.op.version && true))))))
theorem eqEB_iff (a b : EntM) : eqEB a b = true ↔ a = b := by
  obtain ⟨i, c, s, k, y, v, n⟩ := a
  obtain ⟨i', c', s', k', y', v', n'⟩ := b
  simp [eqEB]
theorem eqEB_set {l : List EntM} {m : Nat} {e : EntM} (hm : m < l.length) : eqEB ((l.set m e).getD m entZ) (l.getD m entZ) = decide (l.set m e = l) := by
  rw [Bool.eq_iff_iff, eqEB_iff, ← set_same hm]
  simp
theorem begM_len {a b : LogM} (h : a.ents.length = b.ents.length) : begM a b = decide (a.ents = b.ents) := by
  unfold begM
  rw [h, List.take_length]
end Go.Proofs.Ytlphkjbadjdleaa
