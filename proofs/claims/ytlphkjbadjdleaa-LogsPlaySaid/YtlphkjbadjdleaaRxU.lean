/-
  In a region that draws its order, what only names a value again may stand first. No condition.
-/
import Derived.Test.YtlphkjbadjdleaaRxQ
namespace Go.Proofs.Ytlphkjbadjdleaa
/-- A temporary that is named again, of nothing that the region does. -/
def hoistB (ops : Array Oper) (f : Nat) : Bool := match ops[f]? with
  | some o => (match o.op, o.guard, o.dst with
    | .move (.tmp t), none, some d => (waitL o).isEmpty && (Nat.blt f ops.size && (List.range ops.size).all fun j => Nat.beq j f || match ops[j]? with
      | some oj => (!(oj.looksAt ops).contains d || (waitL oj).contains f) && ((oj.dst != some d) && ((oj.dst != some t) && (match oj.op with | .select _ _ => false | _ => true)))
      | none => false)
    | _, _, _ => false)
  | none => false
theorem hoistB_spec {ops : Array Oper} {f : Nat} (h : hoistB ops f = true) : ∃ o t d, ops[f]? = some o ∧ o.op = .move (.tmp t) ∧ o.guard = none ∧ o.dst = some d ∧ waitL o = [] ∧ f < ops.size ∧
    ∀ j oj, j ≠ f → ops[j]? = some oj → (d ∈ oj.looksAt ops → f ∈ waitL oj) ∧ oj.dst ≠ some d ∧ oj.dst ≠ some t ∧ ∀ cs b, oj.op ≠ .select cs b := by
  unfold hoistB at h
  cases ho : ops[f]? with
  | none => rw [ho] at h; cases h
  | some o =>
    rw [ho] at h
    simp only at h
    split at h
    · rename_i t d h1 h2 h3
      simp only [Bool.and_eq_true, List.isEmpty_iff, Nat.blt_eq, List.all_eq_true, List.mem_range, Bool.or_eq_true, Nat.beq_eq] at h
      obtain ⟨h4, h5, h6⟩ := h
      refine ⟨o, t, d, rfl, h1, h2, h3, h4, h5, fun j oj hj hoj => ?_⟩
      rcases h6 j (Array.getElem?_eq_some_iff.1 hoj).1 with h | h
      · exact absurd h hj
      · rw [hoj] at h
        simp only [Bool.and_eq_true, Bool.or_eq_true, Bool.not_eq_true', bne_iff_ne] at h
        obtain ⟨k1, k2, k3, k4⟩ := h
        refine ⟨fun hd => ?_, k2, k3, fun cs b hs => by rw [hs] at k4; cases k4⟩
        rcases k1 with k1 | k1
        · have : (oj.looksAt ops).contains d = true := by simpa using hd
          rw [k1] at this; cases this
        · simpa using k1
    · cases h
section
variable {P : Program} {w0 : World} {U : Nat → Prop}
theorem wp_named {ops : Array Oper} {Q : Exit → Act → World → Prop} {f : Nat} {o : Oper} {t d : Tmp} (ho : ops[f]? = some o) (h1 : o.op = .move (.tmp t)) (h2 : o.guard = none) (h3 : o.dst = some d) (L : List Nat) (a : Act) (w : World) :
    wpOps P ops Q (f :: L) a w ↔ wpOps P ops Q L (a.put (some d) (a.eval (.tmp t))) w := by
  have hw : Region.wanted o (yielded ops a.tmps) = true := by unfold Region.wanted; rw [h2]
  have hx : execOp a.eval o = pure (.value (a.eval (.tmp t))) := by
    unfold execOp
    rw [h1]
  simp only [wpOps, ho, hw, if_true]
  have hwp : o.wp P a w (wpOps P ops Q L) Q ↔ wpOps P ops Q L (a.put (some d) (a.eval (.tmp t))) w := by
    unfold Oper.wp
    rw [hx]
    simp [Oper.upon, h3]
  have has : ¬ o.asks P a w := by
    unfold Oper.asks
    rw [hx]
    rintro ⟨h, _⟩
    have h : noRoomEvent ∈ (#[] : Array Event) := h
    simp at h
  rw [hwp]
  exact ⟨fun h => h.elim id (fun h => absurd h.1 has), .inl⟩
theorem put_swap (a : Act) {d : Tmp} {od : Option Tmp} (h : od ≠ some d) (u v : Value) : (a.put (some d) v).put od u = (a.put od u).put (some d) v := by
  cases od with
  | none => rfl
  | some e =>
    have : d ≠ e := fun h' => h (by rw [h'])
    simp only [Act.put]
    congr 1
    exact Array.setIfInBounds_comm _ _ this
theorem wp_past {ops : Array Oper} {Q : Exit → Act → World → Prop} (hQ : ∀ e a a' w, e ≠ .normal → Q e a w → Q e a' w) {f j : Nat} {o oj : Oper} {t d : Tmp} (ho : ops[f]? = some o) (h1 : o.op = .move (.tmp t)) (h2 : o.guard = none) (h3 : o.dst = some d)
    (hj : ops[j]? = some oj) (k1 : d ∉ oj.looksAt ops) (k2 : oj.dst ≠ some d) (k3 : oj.dst ≠ some t) (k4 : ∀ cs b, oj.op ≠ .select cs b) (L : List Nat) (a : Act) (w : World) (h : wpOps P ops Q (f :: j :: L) a w) : wpOps P ops Q (j :: f :: L) a w := by
  rw [wp_named ho h1 h2 h3] at h
  have hlk : ∀ e, some d = some e → e ∉ oj.looksAt ops := fun e he => by cases he; exact k1
  have hex : execOp (a.put (some d) (a.eval (.tmp t))).eval oj = execOp a.eval oj := execOp_put oj k4 a (some d) _ hlk
  have hw : Region.wanted oj (yielded ops (a.put (some d) (a.eval (.tmp t))).tmps) = Region.wanted oj (yielded ops a.tmps) := wanted_put oj a (some d) _ hlk
  have nx : ∀ u w', wpOps P ops Q L ((a.put (some d) (a.eval (.tmp t))).put oj.dst u) w' → wpOps P ops Q (f :: L) (a.put oj.dst u) w' := fun u w' hn => by
    rw [wp_named ho h1 h2 h3, Act.eval_put (fun e he hx => by cases hx; exact k3 he), ← put_swap a k2]
    exact hn
  have nd : ∀ (df : Deferred) u w', wpOps P ops Q L ({ (a.put (some d) (a.eval (.tmp t))) with defers := df :: (a.put (some d) (a.eval (.tmp t))).defers }.put oj.dst u) w' → wpOps P ops Q (f :: L) ({ a with defers := df :: a.defers }.put oj.dst u) w' := fun df u w' hn => by
    rw [wp_named ho h1 h2 h3, Act.eval_put (fun e he hx => by cases hx; exact k3 he), ← put_swap _ k2]
    exact hn
  rw [wpOps_cons] at h ⊢
  unfold wpOp at h ⊢
  rw [hj] at h ⊢
  simp only [hw] at h ⊢
  split
  · rename_i hwt
    rw [if_pos hwt] at h
    rcases h with h | ⟨h, hl⟩
    · left
      unfold Oper.wp at h ⊢
      rw [hex] at h
      generalize (execOp a.eval oj).run P w = r at h ⊢
      cases r with
      | ok n w' =>
        cases n <;> simp only [Oper.upon] at h ⊢ <;>
          first
            | exact nx _ _ h
            | exact nd _ _ _ h
            | exact Calls.mono h (fun e w'' he => by cases e <;> first | exact nx _ _ he | exact hQ _ _ _ _ (by simp) he | exact he)
            | exact Rows.mono h (fun _ _ he => nx _ _ he)
            | exact h
      | halt x w' => cases x <;> simp only [Oper.upon] at h ⊢ <;> first | exact hQ _ _ _ _ (by simp) h | exact h
    · right
      refine ⟨?_, hl⟩
      unfold Oper.asks at h ⊢
      rw [hex] at h
      exact h
  · rename_i hwt
    rw [if_neg hwt] at h
    exact nx _ _ h
theorem wp_front {ops : Array Oper} {Q : Exit → Act → World → Prop} (hQ : ∀ e a a' w, e ≠ .normal → Q e a w → Q e a' w) {f : Nat} {o : Oper} {t d : Tmp} (ho : ops[f]? = some o) (h1 : o.op = .move (.tmp t)) (h2 : o.guard = none) (h3 : o.dst = some d) (L2 : List Nat) :
    ∀ (L1 : List Nat) (a : Act) (w : World), (∀ j ∈ L1, ∃ oj, ops[j]? = some oj ∧ d ∉ oj.looksAt ops ∧ oj.dst ≠ some d ∧ oj.dst ≠ some t ∧ ∀ cs b, oj.op ≠ .select cs b) → wpOps P ops Q (f :: (L1 ++ L2)) a w → wpOps P ops Q (L1 ++ f :: L2) a w
  | [], _, _, _, h => h
  | j :: L1, a, w, hj, h => by
    obtain ⟨oj, hoj, k1, k2, k3, k4⟩ := hj j (by simp)
    have := wp_past hQ ho h1 h2 h3 hoj k1 k2 k3 k4 (L1 ++ L2) a w h
    rw [List.cons_append, wpOps_cons]
    rw [wpOps_cons] at this
    exact wpOp_mono (fun a' w' h' => wp_front hQ ho h1 h2 h3 L2 L1 a' w' (fun k hk => hj k (by simp [hk])) h') this
end
theorem Topo.drop {ops : Array Oper} {f : Nat} {L2 : List Nat} : ∀ {L1 : List Nat} {D : Nat → Prop}, Topo ops D (L1 ++ f :: L2) → Topo ops (fun i => D i ∨ i = f) (L1 ++ L2)
  | [], D, h => by cases h with | cons _ _ o _ ho hD hw h => exact h
  | i :: L1, D, h => by
    have hm := h.mem
    cases h with
    | cons _ _ o _ ho hD hw h =>
      refine .cons _ i o _ ho ?_ (fun m hm => .inl (hw m hm)) (h.drop.congr fun k => ?_)
      · rintro (h' | rfl)
        · exact hD h'
        · have := (List.nodup_cons.1 hm.1).1
          exact this (by simp)
      · constructor
        · rintro ((h | h) | h)
          · exact .inl (.inl h)
          · exact .inr h
          · exact .inl (.inr h)
        · rintro ((h | h) | h)
          · exact .inl (.inl h)
          · exact .inr h
          · exact .inl (.inr h)
theorem Topo.waits {ops : Array Oper} {j : Nat} {B : List Nat} : ∀ {A : List Nat} {D : Nat → Prop}, Topo ops D (A ++ j :: B) → ∃ oj, ops[j]? = some oj ∧ ∀ m ∈ waitL oj, D m ∨ m ∈ A
  | [], D, h => by cases h with | cons _ _ o _ ho hD hw h => exact ⟨o, ho, fun m hm => .inl (hw m hm)⟩
  | i :: A, D, h => by
    cases h with
    | cons _ _ o _ ho hD hw h =>
      obtain ⟨oj, hoj, hx⟩ := h.waits
      refine ⟨oj, hoj, fun m hm => ?_⟩
      rcases hx m hm with (h | h) | h
      · exact .inl h
      · exact .inr (by simp [h])
      · exact .inr (by simp [h])
/-- It stands ahead of these. -/
def hoistE (S : List Nat) (f : Nat) : List (Nat × Nat) := S.map fun j => (j, f)
section
variable {P : Program} {w0 : World} {U : Nat → Prop}
theorem ord_hoist {ops : Array Oper} {tm : List SV} {H : List HE} {K : List SV → List HE → Prop} (f : Nat) (S ord : List Nat) (hW : waitB ops = true) (h0 : (hoistB ops f && (ordB ops ord && S.all fun j => Nat.blt j ops.size && !Nat.beq j f)) = true)
    (h : AllOrd P w0 U (permO ops ord (hoistE S f)) tm H K) : AllOrd P w0 U ops tm H K := by
  simp only [Bool.and_eq_true] at h0
  obtain ⟨o, t, d, ho, h1, h2, h3, h4, hlt, hall⟩ := hoistB_spec h0.1
  intro ρ a w hr L hL
  obtain ⟨hn, _, hmem⟩ := hL.mem
  obtain ⟨L1, L2, rfl⟩ := List.append_of_mem ((hmem f hlt).resolve_left (fun h => h))
  have hE : ∀ q ∈ hoistE S f, q.1 < ops.size ∧ q.2 = f ∧ q.1 ≠ f := fun q hq => by
    unfold hoistE at hq
    simp only [List.mem_map] at hq
    obtain ⟨j, hj, rfl⟩ := hq
    have := List.all_eq_true.1 h0.2.2 j hj
    simp only [Bool.and_eq_true, Nat.blt_eq, Bool.not_eq_true'] at this
    exact ⟨this.1, rfl, fun h => by have h : j = f := h; rw [h, Nat.beq_refl] at this; cases this.2⟩
  have hL' : Topo ops (fun _ => False) (f :: (L1 ++ L2)) := .cons _ f o _ ho (fun h => h) (fun m hm => by rw [h4] at hm; cases hm) hL.drop
  refine wp_front (Q := fun e a' w' => e = .normal ∧ ∃ ρ' tm' H', Rel w0 U ρ' tm' H' a' w' ∧ (Same H.length ρ ρ' ∧ H.length ≤ H'.length) ∧ K tm' H') (fun e a a' w he h => absurd h.1 he) ho h1 h2 h3 L2 L1 a w (fun j hj => ?_) ?_
  · obtain ⟨A, B, rfl⟩ := List.append_of_mem hj
    have hL2 : Topo ops (fun _ => False) (A ++ j :: (B ++ f :: L2)) := by simpa using hL
    obtain ⟨oj, hoj, hx⟩ := hL2.waits
    have hjf : j ≠ f := fun e => by
      subst e
      rw [List.nodup_append] at hn
      exact hn.2.2 j (by simp) j (by simp) rfl
    obtain ⟨k1, k2, k3, k4⟩ := hall j oj hjf hoj
    refine ⟨oj, hoj, fun hd => ?_, k2, k3, k4⟩
    rcases hx f (k1 hd) with h | h
    · exact h
    · rw [List.nodup_append] at hn
      exact hn.2.2 f (by simp [h]) f (by simp) rfl
  · refine permO_wp (E := hoistE S f) h0.2.1 hL' a w (h ρ a w hr _ ?_)
    refine (permO_topo (E := hoistE S f) hW h0.2.1 hL' (fun q hq => ⟨(hE q hq).1, by rw [(hE q hq).2.1]; exact hlt⟩) (fun M1 M2 i hM q hq hqi => ?_)).congr (fun p => ⟨fun ⟨_, _, h, _⟩ => h, fun h => h.elim⟩)
    obtain ⟨e1, e2, e3⟩ := hE q hq
    rw [e2]
    cases M1 with
    | nil =>
      simp only [List.nil_append, List.cons.injEq] at hM
      exact absurd (hqi.trans hM.1.symm) e3
    | cons z M1 =>
      simp only [List.cons_append, List.cons.injEq] at hM
      exact .inr (by simp [hM.1])
end
end Go.Proofs.Ytlphkjbadjdleaa
