/-
  A region that draws its order runs as its pieces do. No condition.
-/
import Derived.Test.YtlphkjbadjdleaaRxI
namespace Go.Proofs.Ytlphkjbadjdleaa

section
variable {P : Program} {w0 : World} {U : Nat → Prop} {T : Tab}
/-- The operations of a segment, in whatever order they come. -/
theorem seg_any {g : Sg} {Q : Exit → Act → World → Prop} (hsel : Region.noSelect g.ops = true) (hw : waitB g.ops = true) (hcut : cutB g.ops.size (masks g.ops.toList) g.c = true)
    (hseg : segB g.ops (masks g.ops.toList) g.b g.c = true) (hbc : g.b ≤ g.c) (hcn : g.c ≤ g.ops.size)
    (laws : ∀ k o, g.b ≤ k → k < g.c → g.ops[k]? = some o → ∃ vis : List HE, bddA (g.H.length + vis.length) vis = true ∧
      (∀ t e, vis[t]? = some e → e ≠ .none → ∃ j, g.mak j ∧ g.e j = some e ∧ g.nm j = g.H.length + t ∧ ((masks g.ops.toList).getD k 0).testBit j = true) ∧
      SegLaw P w0 U g.H.length g.ops o (g.tmC (k - g.b)) (g.H ++ vis) (g.nm k) (g.s k) (g.e k)) {n0 : Nat} (h0 : w0.heap.size ≤ n0) {ρ00 : Loc}
    (fin : ∀ fuel listed ρ a w, Same g.H.length ρ00 ρ → listed.size = g.ops.size → (∀ i, On listed i ↔ i < g.c) → g.ops.size - g.c ≤ fuel → Rel w0 U ρ (g.tmC (g.c - g.b)) (g.H ++ g.mades (g.c - g.b)) a w → wpAny P .any g.ops Q fuel listed a w) :
    ∀ (fuel : Nat) (listed : Array Bool) (rem : List Nat) (D : Nat → Prop) (ρ : Loc) (a : Act) (w : World), listed.size = g.ops.size → rem.Nodup → (∀ i, i ∈ rem ↔ g.b ≤ i ∧ i < g.c ∧ ¬ D i) → (∀ i, D i → g.b ≤ i ∧ i < g.c) →
      (∀ i, On listed i ↔ i < g.b ∨ D i) → Closed g.ops.toList (On listed) → rem.length + (g.ops.size - g.c) ≤ fuel → Same g.H.length ρ00 ρ → g.St w0 U n0 D ρ a w → wpAny P .any g.ops Q fuel listed a w := by
  intro fuel
  induction fuel with
  | zero =>
    intro listed rem D ρ a w hs hnd hrem hD hon hcl hf hsm hst
    have : rem = [] := List.eq_nil_of_length_eq_zero (by omega)
    subst this
    have hall : ∀ k, g.b ≤ k → k < g.c → D k := fun k h1 h2 => Classical.byContradiction fun h => by have := (hrem k).2 ⟨h1, h2, h⟩; simp at this
    refine fin 0 listed ρ a w hsm hs (fun i => ?_) (by omega) (g.fin hst (by omega) hall h0)
    rw [hon i]
    constructor
    · rintro (h | h)
      · omega
      · exact (hD i h).2
    · intro h
      rcases Nat.lt_or_ge i g.b with h1 | h1
      · exact .inl h1
      · exact .inr (hall i h1 h)
  | succ fuel ih =>
    intro listed rem D ρ a w hs hnd hrem hD hon hcl hf hsm hst
    by_cases hre : rem = []
    · subst hre
      have hall : ∀ k, g.b ≤ k → k < g.c → D k := fun k h1 h2 => Classical.byContradiction fun h => by have := (hrem k).2 ⟨h1, h2, h⟩; simp at this
      refine fin (fuel + 1) listed ρ a w hsm hs (fun i => ?_) (by simpa using hf) (g.fin hst (by omega) hall h0)
      rw [hon i]
      constructor
      · rintro (h | h)
        · omega
        · exact (hD i h).2
      · intro h
        rcases Nat.lt_or_ge i g.b with h1 | h1
        · exact .inl h1
        · exact .inr (hall i h1 h)
    · obtain ⟨r, hr⟩ := List.exists_mem_of_ne_nil rem hre
      obtain ⟨i, hi, hmin⟩ := least_mem r rem hr
      have hi' := (hrem i).1 hi
      have hready : i ∈ Region.ready .any g.ops listed := by
        refine (ready_mem hs).2 ⟨_, Array.getElem?_eq_getElem (by omega), fun h => ?_, fun m hm => ?_⟩
        · rcases (hon i).1 h with h | h
          · omega
          · exact hi'.2.2 h
        · have hlt := waitB_spec hw (Array.getElem?_eq_getElem (by omega)) hm
          refine (hon m).2 ?_
          rcases Nat.lt_or_ge m g.b with h1 | h1
          · exact .inl h1
          · refine .inr (Classical.byContradiction fun h => ?_)
            have := hmin m ((hrem m).2 ⟨h1, by omega, h⟩)
            omega
      refine ⟨fun h => (by rw [h] at hready; cases hready), fun k hk => ?_⟩
      obtain ⟨o, ho, hnk, hwk⟩ := (ready_mem hs).1 hk
      have hkn : k < g.ops.size := (Array.getElem?_eq_some_iff.1 ho).1
      have hol : g.ops.toList[k]? = some o := by rw [Array.getElem?_toList]; exact ho
      have hkb : g.b ≤ k := by
        rcases Nat.lt_or_ge k g.b with h1 | h1
        · exact absurd ((hon k).2 (.inl h1)) hnk
        · exact h1
      have hkc : k < g.c := by
        rcases Nat.lt_or_ge k g.c with h1 | h1
        · exact h1
        · exfalso
          have := cutB_spec hcut hkn h1 hi'.2.1 (On listed) o hcl hol hwk
          rcases (hon i).1 this with h | h
          · omega
          · exact hi'.2.2 h
      have hDk : ¬ D k := fun h => hnk ((hon k).2 (.inr h))
      have hkr : k ∈ rem := (hrem k).2 ⟨hkb, hkc, hDk⟩
      -- the elder ones that it looks at are done; of the later ones none is
      have sees : ∀ j, ((masks g.ops.toList).getD k 0).testBit j = true → On listed j := fun j hj => masks_spec hj (On listed) o hcl hol hwk
      have seen : ∀ j oj, g.ops[j]? = some oj → On listed j → ∀ i, ((masks g.ops.toList).getD j 0).testBit i = true → On listed i := fun j oj hoj hj i hb =>
        masks_spec hb (On listed) oj hcl (by rw [Array.getElem?_toList]; exact hoj) (hcl j oj (by rw [Array.getElem?_toList]; exact hoj) hj)
      have hat : ∀ ρ', g.Ag D ρ ρ' → AtOk g.ops o (g.tmC (k - g.b)) ρ' a := fun ρ' hag => by
        refine g.atOk (hst.tm ρ' hag) (by omega) (fun cs b => Region.noSelect_spec hsel k o cs b ho) (fun t ht j oj hjk hoj hd => ?_) (fun t ht j oj hjb hjc hoj hd hDj => ?_)
        · have h1 := (segB_spec hseg (j := g.b + j) (k := k) (by omega) (by omega) hkc hoj ho).1 t hd ht
          rcases (hon _).1 (sees _ h1) with h | h
          · omega
          · exact h
        · rcases Nat.lt_trichotomy j k with h1 | h1 | h1
          · omega
          · exact absurd (h1 ▸ hDj) hDk
          · have h2 := (segB_spec hseg (j := k) (k := j) hkb h1 hjc ho hoj).2.2 t hd ht
            exact absurd (seen j oj hoj ((hon j).2 (.inr hDj)) k h2) hnk
      obtain ⟨vis, hvb, hvv, hlaw⟩ := laws k o hkb hkc ho
      have hv' : ∀ t e, vis[t]? = some e → e ≠ .none → ∃ j, g.mak j ∧ D j ∧ g.e j = some e ∧ g.nm j = g.H.length + t := fun t e ht hne => by
        obtain ⟨j, h1, h2, h3, h4⟩ := hvv t e ht hne
        refine ⟨j, h1, ?_, h2, h3⟩
        rcases (hon j).1 (sees j h4) with h5 | h5
        · have := h1.1; omega
        · exact h5
      have step := hlaw a w (g.Ag D ρ) ρ ⟨Same.refl _ _, fun _ _ _ => rfl⟩ hat (fun ρ' hag => ⟨hag.base, fun i e hi hne => by
        rw [List.getElem?_append] at hi
        split at hi
        · rename_i hlt; exact hag.base i hlt
        · rename_i hge
          obtain ⟨j, h1, h2, _, h4⟩ := hv' _ _ hi hne
          rw [show i = g.nm j by omega]
          exact hag.made j h2 h1⟩) (g.vis_rel hst h0 hv' (bddA_spec hvb)) (by rw [List.take_left]; exact hst.rel) (wpAny P .any g.ops Q fuel (listed.setIfInBounds k true)) Q
        (fun x v w' hx hg hv => by
          obtain ⟨ρ1, hst', hsm'⟩ := g.step hst hkb hkc ho hDk (fun j oj t hDj hjb hjc hoj hd => by
            rcases Nat.lt_trichotomy j k with h1 | h1 | h1
            · exact (segB_spec hseg (j := j) (k := k) hjb h1 hkc hoj ho).2.1 t hd
            · exact absurd (h1 ▸ hDj) hDk
            · intro hd'
              exact (segB_spec hseg (j := k) (k := j) hkb h1 hjc ho hoj).2.1 t hd' hd) hx (by unfold Kept at hg; rw [List.take_left] at hg; exact hg) hv
          have hon' : ∀ i, On (listed.setIfInBounds k true) i ↔ i < g.b ∨ ext D k i := fun i => by
            rw [on_set (by omega), hon i]
            unfold ext
            exact or_assoc
          refine ih (listed.setIfInBounds k true) (rem.erase k) (ext D k) ρ1 _ _ (by simpa using hs) (hnd.erase _) (fun i => ?_) (fun i hi => ?_) hon' (fun j oj hoj hj m hm => ?_) ?_ (hsm.trans hsm' (Nat.le_refl _)) hst'
          · rw [hnd.mem_erase_iff, hrem i]
            unfold ext
            constructor
            · rintro ⟨h1, h2, h3, h4⟩
              exact ⟨h2, h3, fun h => h.elim h4 h1⟩
            · rintro ⟨h2, h3, h4⟩
              exact ⟨fun h => h4 (.inr h), h2, h3, fun h => h4 (.inl h)⟩
          · rcases hi with hi | rfl
            · exact hD i hi
            · exact ⟨hkb, hkc⟩
          · refine (on_set (by omega) m).2 (.inl ?_)
            rcases (on_set (by omega) j).1 hj with h1 | rfl
            · exact hcl j oj hoj h1 m hm
            · rw [hol] at hoj; cases hoj
              exact hwk m hm
          · rw [List.length_erase_of_mem hkr]
            have : 0 < rem.length := List.length_pos_of_mem hkr
            omega)
      unfold wpOp
      rw [ho]
      rcases step with ⟨h1, h2⟩ | ⟨h1, h2⟩
      · simp only [h1, if_true]
        exact .inl h2
      · simp only [h1, Bool.false_eq_true, if_false]
        exact h2

/-- One operation alone. -/
theorem one_sound (hT : TabOK P T) {ops : Array Oper} {Q : Exit → Act → World → Prop} {k : Nat} {o : Oper} (ho : ops[k]? = some o) {ih : List SV → List HE → (List SV → List HE → Prop) → Prop} {tm : List SV} {H : List HE} {K : List SV → List HE → Prop}
    (h : opsCons P w0 U T ops o ih tm H K) {next : Act → World → Prop} {ρ : Loc} {a : Act} {w : World} (hr : Rel w0 U ρ tm H a w) (hn : ∀ ρ' tm' H' a' w', ih tm' H' K → Rel w0 U ρ' tm' H' a' w' → Same H.length ρ ρ' ∧ H.length ≤ H'.length → next a' w') : wpOp P ops Q k next a w := by
  unfold opsCons at h
  unfold wpOp
  rw [ho]
  obtain ⟨tm, hr, ⟨hw, h⟩ | ⟨hw, h⟩⟩ := guardK_spec h hr o rfl
  · simp only [hw, if_true]
    left
    obtain ⟨dst, op, ty, pos, af, g⟩ := o
    refine xOp_sound hT h hr dst ty pos af g fun v w' sv H' ρ' hK hA => ?_
    obtain ⟨tm', hK, hr'⟩ := putK_rel hK hr.1 (v := v) (fun ρ'' hs => ⟨(hr.2 ρ'' (hA.same.trans hs hA.le)).1, hA.rel ρ'' hs, fun _ => hA.val ρ'' hs⟩)
    exact hn ρ' tm' H' _ w' hK hr' ⟨hA.same, hA.le⟩
  · simp only [hw, Bool.false_eq_true, if_false]
    obtain ⟨tm', hK, hr'⟩ := putK_rel (w' := w) (v := undef) h hr.1 (fun ρ'' hs => ⟨(hr.2 ρ'' hs).1, (hr.2 ρ'' hs).2, fun _ => rfl⟩)
    exact hn ρ tm' H _ w hK hr' ⟨Same.refl _ _, Nat.le_refl _⟩

theorem closed_lt {ops : Array Oper} (hw : waitB ops = true) {L : Nat → Prop} {c : Nat} (hL : ∀ i, L i ↔ i < c) : Closed ops.toList L := fun k o ho hk j hj => by
  rw [Array.getElem?_toList] at ho
  have := waitB_spec hw ho hj
  have := (hL k).1 hk
  exact (hL j).2 (by omega)

theorem xDrw_sound (hT : TabOK P T) {m : Nat} {ρ0 : Loc} {ops : Array Oper} {Q : Exit → Act → World → Prop} {K : List SV → List HE → Prop} (hQ : ∀ ρ tm' H' a' w', K tm' H' → Rel w0 U ρ tm' H' a' w' → Same m ρ0 ρ ∧ m ≤ H'.length → Q .normal a' w')
    (hsel : Region.noSelect ops = true) (hw : waitB ops = true) {M : Nat} (hM : maskB M (masks ops.toList) ops.size = true) : ∀ (ps : List (List Oper)) (b : Nat) (tm : List SV) (H : List HE), piecesB ops (masks ops.toList) b ps = true → ops.toList.drop b = ps.flatten → b ≤ ops.size →
      xDrw P w0 U T M ops ps b tm H K → ∀ (fuel : Nat) (listed : Array Bool) (ρ : Loc) (a : Act) (w : World), listed.size = ops.size → (∀ i, On listed i ↔ i < b) → ops.size - b ≤ fuel → Rel w0 U ρ tm H a w → Same m ρ0 ρ ∧ m ≤ H.length → wpAny P .any ops Q fuel listed a w
  | [], b, tm, H, _, hfl, hb, h, fuel, listed, ρ, a, w, hs, hon, hf, hr, hsm => by
    have hle : ops.size ≤ b := by simpa using hfl
    have hrd : Region.ready .any ops listed = [] := by
      apply List.eq_nil_iff_forall_not_mem.2
      intro i hi
      obtain ⟨o, ho, hn, _⟩ := (ready_mem hs).1 hi
      have := (Array.getElem?_eq_some_iff.1 ho).1
      exact hn ((hon i).2 (by omega))
    have hK : K tm H := h
    cases fuel with
    | zero => exact ⟨hrd, hQ ρ tm H a w hK hr hsm⟩
    | succ fuel => exact ⟨fun _ => hQ ρ tm H a w hK hr hsm, fun i hi => by rw [hrd] at hi; cases hi⟩
  | p :: ps, b, tm, H, hB, hfl, hb, h, fuel, listed, ρ, a, w, hs, hon, hf, hr, hsm => by
    simp only [piecesB, Bool.and_eq_true, Bool.or_eq_true] at hB
    obtain ⟨⟨hcut, hseg⟩, hB⟩ := hB
    rw [List.flatten_cons] at hfl
    have hget : ∀ i, i < p.length → ops[b + i]? = p[i]? := fun i hi => by
      have h1 : (ops.toList.drop b)[i]? = p[i]? := by rw [hfl, List.getElem?_append_left hi]
      rw [List.getElem?_drop, Array.getElem?_toList] at h1
      exact h1
    have hfl' : ops.toList.drop (b + p.length) = ps.flatten := by
      rw [← List.drop_drop, hfl, List.drop_left]
    have hlen : b + p.length ≤ ops.size := by
      have h1 := congrArg List.length hfl
      simp only [List.length_drop, Array.length_toList, List.length_append] at h1
      omega
    have h : drwCons P w0 U T M ops p (xDrw P w0 U T M ops ps) b tm H K := h
    unfold drwCons at h
    split at h
    · rename_i o _
      have ho : ops[b]? = some o := by simpa using hget 0 (by simp)
      simp only [List.length_cons, List.length_nil, Nat.zero_add] at hcut hfl' hlen hB
      obtain ⟨fuel, rfl⟩ : ∃ f, fuel = f + 1 := ⟨fuel - 1, by omega⟩
      have hready : b ∈ Region.ready .any ops listed := (ready_mem hs).2 ⟨o, ho, fun h => by have := (hon b).1 h; omega, fun m hm => (hon m).2 (waitB_spec hw ho hm)⟩
      refine ⟨fun h => (by rw [h] at hready; cases hready), fun k hk => ?_⟩
      obtain ⟨ok, hok, hnk, hwk⟩ := (ready_mem hs).1 hk
      have hkn := (Array.getElem?_eq_some_iff.1 hok).1
      have hkb : k = b := by
        rcases Nat.lt_trichotomy k b with h1 | h1 | h1
        · exact absurd ((hon k).2 h1) hnk
        · exact h1
        · have := cutB_spec hcut hkn (by omega) (Nat.lt_succ_self b) (On listed) ok (closed_lt hw hon) (by rw [Array.getElem?_toList]; exact hok) hwk
          have := (hon b).1 this
          omega
      subst hkb
      refine one_sound hT ho h hr (fun ρ' tm' H' a' w' hK hr' hs1 => ?_)
      refine xDrw_sound hT hQ hsel hw hM ps (k + 1) tm' H' hB hfl' hlen hK fuel _ ρ' a' w' (by simpa using hs) (fun i => ?_) (by omega) hr' ⟨hsm.1.trans hs1.1 hsm.2, Nat.le_trans hsm.2 hs1.2⟩
      rw [on_set (by omega), hon i]
      omega
    · rename_i hp
      have hseg : segB ops (masks ops.toList) b (b + p.length) = true := by
        rcases hseg with h1 | h1
        · exfalso
          rcases p with _ | ⟨x, _ | ⟨y, p⟩⟩
          · simp at h1
          · exact hp x rfl
          · simp at h1
        · exact h1
      obtain ⟨is, hil, ⟨tm', hd, hK⟩, hlaws⟩ := xSeg_spec hT p b tm tm [] _ (DEq.refl _) h
      rw [lenA_eq] at hK
      simp only [List.map_nil, List.nil_append] at hK hlaws
      let g : Sg := { ops := ops, b := b, c := b + p.length, tm0 := tm, H := H, s := fun k => (is.getD (k - b) (.junk, none)).1, e := fun k => (is.getD (k - b) (.junk, none)).2 }
      have hgi : ∀ i q, is[i]? = some q → g.s (b + i) = q.1 ∧ g.e (b + i) = q.2 := fun i q hq => by simp [g, List.getD, hq]
      have htm : ∀ i, i ≤ p.length → g.tmC i = foldTm tm (p.take i) (is.take i) ∧ g.mades i = (is.take i).filterMap (·.2) := fun i => by
        induction i with
        | zero => intro _; exact ⟨by simp [Sg.tmC, foldTm, g], by simp [Sg.mades]⟩
        | succ i ih =>
          intro hi
          obtain ⟨h1, h2⟩ := ih (by omega)
          obtain ⟨o, ho⟩ : ∃ o, p[i]? = some o := ⟨_, List.getElem?_eq_getElem (by omega)⟩
          obtain ⟨q, hq⟩ : ∃ q, is[i]? = some q := ⟨_, List.getElem?_eq_getElem (by omega)⟩
          obtain ⟨e1, e2⟩ := hgi i q hq
          have hop : g.ops[g.b + i]? = some o := by rw [← ho]; exact hget i (by omega)
          refine ⟨?_, ?_⟩
          · rw [List.take_add_one, List.take_add_one, ho, hq, Option.toList_some, Option.toList_some, foldTm_snoc _ _ _ _ _ (by simp; omega), ← h1]
            show (match g.ops[g.b + i]? with
              | some o => setD (g.tmC i) o.dst (g.s (g.b + i))
              | none => g.tmC i) = _
            rw [hop]
            show setD (g.tmC i) o.dst (g.s (b + i)) = _
            rw [e1]
          · rw [List.take_add_one, hq, Option.toList_some, List.filterMap_append, ← h2]
            show g.mades i ++ (g.e (b + i)).toList = _
            rw [e2]
            cases hq2 : q.2 <;> simp [List.filterMap, hq2]
      have key := seg_any (g := g) (Q := Q) (P := P) (w0 := w0) (U := U) hsel hw hcut hseg (Nat.le_add_right _ _) hlen (fun k o hk1 hk2 ho => ?_) (n0 := w.heap.size) (hr.2 ρ (Same.refl _ _)).2.fr.size (ρ00 := ρ) (fun fuel listed ρ' a w hsg hs hon hf hr => ?_)
      · refine key fuel listed (List.range' b p.length) (fun _ => False) ρ a w hs (List.nodup_range' ..) (fun i => ?_) (fun i h => h.elim) (fun i => ?_) (closed_lt hw hon) ?_ (Same.refl _ _) (g.start hr)
        · simp only [List.mem_range'_1, not_false_eq_true, and_true]
          exact Iff.rfl
        · rw [hon i]; simp [g]
        · rw [List.length_range']
          show p.length + (ops.size - (b + p.length)) ≤ fuel
          omega
      · have hk1 : b ≤ k := hk1
        have hk2 : k < b + p.length := hk2
        have ho : ops[k]? = some o := ho
        have hop : p[k - b]? = some o := by rw [← hget (k - b) (by omega), show b + (k - b) = k by omega]; exact ho
        obtain ⟨q, hq⟩ : ∃ q, is[k - b]? = some q := ⟨_, List.getElem?_eq_getElem (by omega)⟩
        obtain ⟨vis, hvl, hvb, hvv, hl⟩ := hlaws (k - b) o q hop hq
        rw [show b + (k - b) = k by omega] at hvv
        have hkn : k < ops.size := by omega
        have hmask : ∀ j, (mkOf M k).testBit j = true → ((masks ops.toList).getD k 0).testBit j = true := fun j hj => by
          have := List.all_eq_true.1 hM k (List.mem_range.2 hkn)
          simp only [beq_iff_eq] at this
          rw [← this, show Nat.land (mkOf M k) ((masks ops.toList).getD k 0) = mkOf M k &&& (masks ops.toList).getD k 0 from rfl, Nat.testBit_and, Bool.and_eq_true] at hj
          exact hj.2
        obtain ⟨e1, e2⟩ := hgi (k - b) q hq
        rw [show b + (k - b) = k by omega] at e1 e2
        obtain ⟨h1, h2⟩ := htm (k - b) (by omega)
        refine ⟨vis, hvb, fun t e ht hne => ?_, ?_⟩
        · rcases hvv t e ht hne with ⟨j, h5, _⟩ | ⟨i', q', h5, h6, h7, h8, h9⟩
          · simp at h5
          · obtain ⟨f1, f2⟩ := hgi i' q' h6
            have f2 : g.e (b + i') = some e := by rw [f2, h7]
            refine ⟨b + i', ⟨Nat.le_add_right _ _, ?_, by rw [f2]; rfl⟩, f2, ?_, hmask _ h9⟩
            · show b + i' < b + p.length
              omega
            · obtain ⟨_, h2'⟩ := htm i' (by omega)
              show H.length + (g.mades (b + i' - b)).length = H.length + t
              rw [show b + i' - b = i' by omega, h2', h8]
        · rw [e1, e2]
          show SegLaw P w0 U H.length ops o (g.tmC (k - b)) (H ++ vis) (H.length + (g.mades (k - b)).length) q.1 q.2
          rw [h1, h2]
          exact hl
      · have hmc : g.c - g.b = p.length := by show b + p.length - b = p.length; omega
        rw [hmc] at hr
        obtain ⟨h1, h2⟩ := htm p.length (Nat.le_refl _)
        rw [h1, h2, List.take_length, List.take_of_length_le (by omega)] at hr
        refine xDrw_sound hT hQ hsel hw hM ps (b + p.length) tm' _ hB hfl' hlen hK fuel listed ρ' a w hs hon hf ⟨hr.1, fun ρ'' hs' => ⟨hd.tmOk (hr.2 ρ'' hs').1, ?_⟩⟩ ⟨hsm.1.trans hsg hsm.2, Nat.le_trans hsm.2 (by simp)⟩
        exact (hr.2 ρ'' hs').2
/-- A region that draws its order, by its pieces. -/
theorem draw_go (hT : TabOK P T) {id : Nat} {ops : Array Oper} {tm : List SV} {H : List HE} {K : List SV → List HE → Prop} (hB : drawB ops = true) (h : xDrw P w0 U T (packM ops.toList 0 0) ops (piecesOf ops) 0 tm H K) : DrawN P w0 U id ops tm H K := by
  unfold drawB at hB
  simp only [Bool.and_eq_true] at hB
  obtain ⟨⟨⟨hsel, hw⟩, hB⟩, hM⟩ := hB
  refine ⟨fun ρ a w hr => wp_region_any hT.mixed ?_⟩
  refine xDrw_sound hT (m := H.length) (ρ0 := ρ) (fun ρ' tm' H' a' w' hK hr' hs' => ⟨rfl, ρ', tm', H', hr', hs', hK⟩) hsel hw hM _ 0 tm H hB (by simpa [piecesOf] using (piecesL_flat _ _ _ _ _).symm) (Nat.zero_le _) h ops.size _ ρ a w.drew (by simp) (fun i => ?_) (by omega) hr.drew ⟨Same.refl _ _, Nat.le_refl _⟩
  unfold On
  simp only [Array.getElem?_replicate]
  constructor
  · intro h
    split at h <;> cases h
  · intro h; omega
end
end Go.Proofs.Ytlphkjbadjdleaa
