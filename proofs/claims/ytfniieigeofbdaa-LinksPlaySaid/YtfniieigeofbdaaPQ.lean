/-
  A region that draws its order, with a call that changes what is known, among operations that it waits for, or that look at no memory. No condition.
-/
import Derived.Test.YtfniieigeofbdaaP4
namespace Go.Proofs.Ytfniieigeofbdaa

section
variable {P : Program} {w0 : World} {U : Nat → Prop} {T : Tab}
/-- The operations of a segment, in whatever order they come. -/
theorem seg_anyX {g : Sg} (L X : Nat → Prop) {Q : Exit → Act → World → Prop} (hsel : Region.noSelect g.ops = true) (hw : waitB g.ops = true) (hcut : cutsB g.ops.size (masks g.ops.toList) g.c = true)
    (hseg : segB g.ops (masks g.ops.toList) g.b g.c = true) (hbc : g.b ≤ g.c) (hcn : g.c ≤ g.ops.size)
    (laws : ∀ k o, g.b ≤ k → k < g.c → ¬ L k → ¬ X k → g.ops[k]? = some o → ∃ vis : List HE, bddA (g.H.length + vis.length) vis = true ∧
      (∀ t e, vis[t]? = some e → e ≠ .none → ∃ j, g.mak j ∧ g.e j = some e ∧ g.nm j = g.H.length + t ∧ ((masks g.ops.toList).getD k 0).testBit j = true) ∧
      SegLaw P w0 U g.H.length g.ops o (g.tmC (k - g.b)) (g.H ++ vis) (g.nm k) (g.s k) (g.e k)) {n0 : Nat} (h0 : w0.heap.size ≤ n0) {ρ00 : Loc}
    (big : ∀ (fuel : Nat) (listed : Array Bool) (rem : List Nat) (D : Nat → Prop) (ρ : Loc) (a : Act) (w : World) (k : Nat) (o : Oper), X k → g.ops[k]? = some o → g.b ≤ k → k < g.c → ¬ D k → (∀ m ∈ waitL o, On listed m) → (∀ j, ((masks g.ops.toList).getD k 0).testBit j = true → On listed j) →
      listed.size = g.ops.size → rem.Nodup → (∀ i, i ∈ rem ↔ g.b ≤ i ∧ i < g.c ∧ ¬ D i) → (∀ i, D i → g.b ≤ i ∧ i < g.c) → (∀ i, On listed i ↔ i < g.b ∨ D i) → Closed g.ops.toList (On listed) → rem.length + (g.ops.size - g.c) ≤ fuel + 1 → Same g.H.length ρ00 ρ → g.St w0 U n0 D ρ a w →
      wpOp P g.ops Q k (wpAny P .any g.ops Q fuel (listed.setIfInBounds k true)) a w)
    (fin : ∀ fuel listed ρ a w, (∀ k, g.b ≤ k → k < g.c → ¬ X k) → Same g.H.length ρ00 ρ → listed.size = g.ops.size → (∀ i, On listed i ↔ i < g.c) → g.ops.size - g.c ≤ fuel → Rel w0 U ρ (g.tmC (g.c - g.b)) (g.H ++ g.mades (g.c - g.b)) a w → wpAny P .any g.ops Q fuel listed a w) :
    ∀ (fuel : Nat) (listed : Array Bool) (rem : List Nat) (D : Nat → Prop) (ρ : Loc) (a : Act) (w : World), listed.size = g.ops.size → rem.Nodup → (∀ i, i ∈ rem ↔ g.b ≤ i ∧ i < g.c ∧ ¬ D i) → (∀ i, D i → g.b ≤ i ∧ i < g.c) → (∀ i, L i → D i) → (∀ i, X i → ¬ D i) →
      (∀ i, On listed i ↔ i < g.b ∨ D i) → Closed g.ops.toList (On listed) → rem.length + (g.ops.size - g.c) ≤ fuel → Same g.H.length ρ00 ρ → g.St w0 U n0 D ρ a w → wpAny P .any g.ops Q fuel listed a w := by
  intro fuel
  induction fuel with
  | zero =>
    intro listed rem D ρ a w hs hnd hrem hD hL hX hon hcl hf hsm hst
    have : rem = [] := List.eq_nil_of_length_eq_zero (by omega)
    subst this
    have hall : ∀ k, g.b ≤ k → k < g.c → D k := fun k h1 h2 => Classical.byContradiction fun h => by have := (hrem k).2 ⟨h1, h2, h⟩; simp at this
    refine fin 0 listed ρ a w (fun k h1 h2 h3 => hX k h3 (hall k h1 h2)) hsm hs (fun i => ?_) (by omega) (g.fin hst (by omega) hall h0)
    rw [hon i]
    constructor
    · rintro (h | h)
      · omega
      · exact (hD i h).2
    · intro h
      rcases Nat.lt_or_ge i g.b with h1 | h1
      · exact .inl h1
      · exact .inr (hall i h1 h)
  | succ fuel ih =>
    intro listed rem D ρ a w hs hnd hrem hD hL hX hon hcl hf hsm hst
    by_cases hre : rem = []
    · subst hre
      have hall : ∀ k, g.b ≤ k → k < g.c → D k := fun k h1 h2 => Classical.byContradiction fun h => by have := (hrem k).2 ⟨h1, h2, h⟩; simp at this
      refine fin (fuel + 1) listed ρ a w (fun k h1 h2 h3 => hX k h3 (hall k h1 h2)) hsm hs (fun i => ?_) (by simpa using hf) (g.fin hst (by omega) hall h0)
      rw [hon i]
      constructor
      · rintro (h | h)
        · omega
        · exact (hD i h).2
      · intro h
        rcases Nat.lt_or_ge i g.b with h1 | h1
        · exact .inl h1
        · exact .inr (hall i h1 h)
    · obtain ⟨r, hr⟩ := List.exists_mem_of_ne_nil rem hre
      obtain ⟨i, hi, hmin⟩ := least_mem r rem hr
      have hi' := (hrem i).1 hi
      have hready : i ∈ Region.ready .any g.ops listed := by
        refine (ready_mem hs).2 ⟨_, Array.getElem?_eq_getElem (by omega), fun h => ?_, fun m hm => ?_⟩
        · rcases (hon i).1 h with h | h
          · omega
          · exact hi'.2.2 h
        · have hlt := waitB_spec hw (Array.getElem?_eq_getElem (by omega)) hm
          refine (hon m).2 ?_
          rcases Nat.lt_or_ge m g.b with h1 | h1
          · exact .inl h1
          · refine .inr (Classical.byContradiction fun h => ?_)
            have := hmin m ((hrem m).2 ⟨h1, by omega, h⟩)
            omega
      refine ⟨fun h => (by rw [h] at hready; cases hready), fun k hk => ?_⟩
      obtain ⟨o, ho, hnk, hwk⟩ := (ready_mem hs).1 hk
      have hkn : k < g.ops.size := (Array.getElem?_eq_some_iff.1 ho).1
      have hol : g.ops.toList[k]? = some o := by rw [Array.getElem?_toList]; exact ho
      have hkb : g.b ≤ k := by
        rcases Nat.lt_or_ge k g.b with h1 | h1
        · exact absurd ((hon k).2 (.inl h1)) hnk
        · exact h1
      have hkc : k < g.c := by
        rcases Nat.lt_or_ge k g.c with h1 | h1
        · exact h1
        · exfalso
          have := cutB_spec hcut hkn h1 hi'.2.1 (On listed) o hcl hol hwk
          rcases (hon i).1 this with h | h
          · omega
          · exact hi'.2.2 h
      have hDk : ¬ D k := fun h => hnk ((hon k).2 (.inr h))
      have hkr : k ∈ rem := (hrem k).2 ⟨hkb, hkc, hDk⟩
      -- the elder ones that it looks at are done; of the later ones none is
      have sees : ∀ j, ((masks g.ops.toList).getD k 0).testBit j = true → On listed j := fun j hj => masks_spec hj (On listed) o hcl hol hwk
      have seen : ∀ j oj, g.ops[j]? = some oj → On listed j → ∀ i, ((masks g.ops.toList).getD j 0).testBit i = true → On listed i := fun j oj hoj hj i hb =>
        masks_spec hb (On listed) oj hcl (by rw [Array.getElem?_toList]; exact hoj) (hcl j oj (by rw [Array.getElem?_toList]; exact hoj) hj)
      by_cases hXk : X k
      · exact big fuel listed rem D ρ a w k o hXk ho hkb hkc hDk hwk sees hs hnd hrem hD hon hcl hf hsm hst
      have hat : ∀ ρ', g.Ag D ρ ρ' → AtOk g.ops o (g.tmC (k - g.b)) ρ' a := fun ρ' hag => by
        refine g.atOk (hst.tm ρ' hag) (by omega) (fun cs b => Region.noSelect_spec hsel k o cs b ho) (fun t ht j oj hjk hoj hd => ?_) (fun t ht j oj hjb hjc hoj hd hDj => ?_)
        · have h1 := (segB_spec hseg (j := g.b + j) (k := k) (by omega) (by omega) hkc hoj ho).1 t hd ht
          rcases (hon _).1 (sees _ h1) with h | h
          · omega
          · exact h
        · rcases Nat.lt_trichotomy j k with h1 | h1 | h1
          · omega
          · exact absurd (h1 ▸ hDj) hDk
          · have h2 := (segB_spec hseg (j := k) (k := j) hkb h1 hjc ho hoj).2.2 t hd ht
            exact absurd (seen j oj hoj ((hon j).2 (.inr hDj)) k h2) hnk
      obtain ⟨vis, hvb, hvv, hlaw⟩ := laws k o hkb hkc (fun h => hDk (hL k h)) hXk ho
      have hv' : ∀ t e, vis[t]? = some e → e ≠ .none → ∃ j, g.mak j ∧ D j ∧ g.e j = some e ∧ g.nm j = g.H.length + t := fun t e ht hne => by
        obtain ⟨j, h1, h2, h3, h4⟩ := hvv t e ht hne
        refine ⟨j, h1, ?_, h2, h3⟩
        rcases (hon j).1 (sees j h4) with h5 | h5
        · have := h1.1; omega
        · exact h5
      have step := hlaw a w (g.Ag D ρ) ρ ⟨Same.refl _ _, fun _ _ _ => rfl⟩ hat (fun ρ' hag => ⟨hag.base, fun i e hi hne => by
        rw [List.getElem?_append] at hi
        split at hi
        · rename_i hlt; exact hag.base i hlt
        · rename_i hge
          obtain ⟨j, h1, h2, _, h4⟩ := hv' _ _ hi hne
          rw [show i = g.nm j by omega]
          exact hag.made j h2 h1⟩) (g.vis_rel hst h0 hv' (bddA_spec hvb)) (by rw [List.take_left]; exact hst.rel) (wpAny P .any g.ops Q fuel (listed.setIfInBounds k true)) Q
        (fun x v w' hx hg hv => by
          obtain ⟨ρ1, hst', hsm'⟩ := g.step hst hkb hkc ho hDk (fun j oj t hDj hjb hjc hoj hd => by
            rcases Nat.lt_trichotomy j k with h1 | h1 | h1
            · exact (segB_spec hseg (j := j) (k := k) hjb h1 hkc hoj ho).2.1 t hd
            · exact absurd (h1 ▸ hDj) hDk
            · intro hd'
              exact (segB_spec hseg (j := k) (k := j) hkb h1 hjc ho hoj).2.1 t hd' hd) hx (by unfold Kept at hg; rw [List.take_left] at hg; exact hg) hv
          have hon' : ∀ i, On (listed.setIfInBounds k true) i ↔ i < g.b ∨ ext D k i := fun i => by
            rw [on_set (by omega), hon i]
            unfold ext
            exact or_assoc
          refine ih (listed.setIfInBounds k true) (rem.erase k) (ext D k) ρ1 _ _ (by simpa using hs) (hnd.erase _) (fun i => ?_) (fun i hi => ?_) (fun i hi => .inl (hL i hi)) (fun i hi h => h.elim (hX i hi) (fun e => hXk (e ▸ hi))) hon' (fun j oj hoj hj m hm => ?_) ?_ (hsm.trans hsm' (Nat.le_refl _)) hst'
          · rw [hnd.mem_erase_iff, hrem i]
            unfold ext
            constructor
            · rintro ⟨h1, h2, h3, h4⟩
              exact ⟨h2, h3, fun h => h.elim h4 h1⟩
            · rintro ⟨h2, h3, h4⟩
              exact ⟨fun h => h4 (.inr h), h2, h3, fun h => h4 (.inl h)⟩
          · rcases hi with hi | rfl
            · exact hD i hi
            · exact ⟨hkb, hkc⟩
          · refine (on_set (by omega) m).2 (.inl ?_)
            rcases (on_set (by omega) j).1 hj with h1 | rfl
            · exact hcl j oj hoj h1 m hm
            · rw [hol] at hoj; cases hoj
              exact hwk m hm
          · rw [List.length_erase_of_mem hkr]
            have : 0 < rem.length := List.length_pos_of_mem hkr
            omega)
      unfold wpOp
      rw [ho]
      rcases step with ⟨h1, h2⟩ | ⟨h1, h2⟩
      · simp only [h1, if_true]
        exact .inl h2
      · simp only [h1, Bool.false_eq_true, if_false]
        exact h2


theorem HRel.nil {ρ : Loc} {H : List HE} {w : World} (h : HRel w0 U ρ H w) : HRel w0 U ρ [] w := fun ρ' _ => ⟨fun i e hi => by simp at hi, fun i e hi => by simp at hi, fun i j d e _ hi => by simp at hi, (h ρ (Same.refl _ _)).fr⟩
/-- H with some entries forgotten. -/
def LeH (Hn H : List HE) : Prop := (Hn.length ≤ H.length ∧ (Hn.length = H.length ∨ Hn.all (HE.bdd Hn.length) = true)) ∧ ∀ (i : Nat) (e : HE), Hn[i]? = some e → e ≠ HE.none → H[i]? = some e
theorem HRel.le {ρ : Loc} {Hn H : List HE} {w : World} (h : HRel w0 U ρ H w) (hl : LeH Hn H) : HRel w0 U ρ Hn w := fun ρ' hs => by
  have ne : ∀ (e : HE), e.live → e ≠ HE.none := fun e h e' => by subst e'; exact h
  rcases hl.1.2 with heq | hbd
  · have k := h ρ' (heq ▸ hs)
    refine ⟨fun i e hi => ?_, fun i e hi hw x hx => k.own i e (hl.2 i e hi (ne e (HE.wr_live hw))) hw x hx, fun i j d e hij hi hd hj hle x hx hy => k.dis i j d e hij (hl.2 i d hi (ne d (HE.wr_live hd))) hd (hl.2 j e hj (ne e hle)) hle x hx hy, k.fr⟩
    by_cases he : e = HE.none
    · subst he; trivial
    · exact k.ent i e (hl.2 i e hi he)
  · have k := h ρ (Same.refl _ _)
    have lt : ∀ {i : Nat} {e : HE}, Hn[i]? = some e → i < Hn.length := fun hi => (List.getElem?_eq_some_iff.1 hi).1
    have ft : ∀ {i : Nat} {e : HE} {b : Nat}, Hn[i]? = some e → e.foot ρ' i b → e.foot ρ i b := fun hi hx => (HE.foot_congr (hs _ (lt hi)) _).1 hx
    refine ⟨fun i e hi => ?_, fun i e hi hw x hx => k.own i e (hl.2 i e hi (ne e (HE.wr_live hw))) hw x (ft hi hx), fun i j d e hij hi hd hj hle x hx hy => k.dis i j d e hij (hl.2 i d hi (ne d (HE.wr_live hd))) hd (hl.2 j e hj (ne e hle)) hle x (ft hi hx) (ft hj hy), k.fr⟩
    by_cases he : e = HE.none
    · subst he; trivial
    · exact HE.ok_same (k.ent i e (hl.2 i e hi he)) (List.all_eq_true.1 hbd e (List.mem_of_getElem? hi)) (lt hi) hs
/-- The law of an operation that leaves the memory alone. -/
def PLaw (P : Program) (w0 : World) (U : Nat → Prop) (ops : Array Oper) (o : Oper) (tm : List SV) (H : List HE) (s : SV) : Prop :=
  ∀ (a : Act) (w : World) (G : Loc → Prop) (ρ : Loc), G ρ → (∀ ρ', G ρ' → AtOk ops o tm ρ' a) → (∀ ρ', G ρ' → HRel w0 U ρ' H w) →
    ∀ (next : Act → World → Prop) (Q : Exit → Act → World → Prop), (∀ v : Value, (∀ ρ', G ρ' → v = s.den ρ') → next (a.put o.dst v) w) →
      (Region.wanted o (yielded ops a.tmps) = true ∧ o.wp P a w next Q) ∨ (Region.wanted o (yielded ops a.tmps) = false ∧ next (a.put o.dst undef) w)
theorem PLaw.seg {nb : Nat} {ops : Array Oper} {o : Oper} {tm tm' : List SV} {Hn H : List HE} {N : Nat} {s : SV} (h : PLaw P w0 U ops o tm Hn s) (hl : LeH Hn H) (hd : DEq tm' tm) : SegLaw P w0 U nb ops o tm' H N s none := fun a w G ρ hg hm hs hr hb next Q hnx =>
  h a w G ρ hg (fun ρ' hg' => by obtain ⟨a', h1, h2⟩ := hm ρ' hg'; exact ⟨a', hd.tmOk h1, h2⟩) (fun ρ' hg' => (hr ρ' hg').le hl) next Q
    (fun v hv => hnx none v w (fun b hb => by simp at hb) (.inl (only_refl _ _)) (fun ρ' hg' _ => ⟨hv ρ' hg', fun _ h => by cases h⟩))
/-- What holds with nothing known of the memory. -/
theorem SegLaw.any {nb nb' : Nat} (hle : nb ≤ nb') {ops : Array Oper} {o : Oper} {tm tm' : List SV} {H : List HE} {N N' : Nat} {s : SV} (h : SegLaw P w0 U nb ops o tm [] N s none) (hd : DEq tm' tm) : SegLaw P w0 U nb' ops o tm' H N' s none := fun a w G ρ hg hm hs hr hb next Q hnx =>
  h a w G ρ hg (fun ρ' hg' => by obtain ⟨a', h1, h2⟩ := hm ρ' hg'; exact ⟨a', hd.tmOk h1, h2⟩) (fun ρ' hg' => ⟨(hs ρ' hg').1.mono hle, fun i e hi => by simp at hi⟩) (fun ρ' hg' => (hr ρ' hg').nil) (by simpa using (hr ρ hg).nil) next Q
    (fun x v w' hx hk hv => hnx x v w' hx (.inl (by
      rcases hk with hk | ⟨⟨S', hf, ht⟩, _⟩
      · exact hk
      · refine ⟨hf.os, hf.tape, hf.output, hf.size, fun i hi _ => hf.block i hi fun hS => ?_⟩
        obtain ⟨i, d, hi, _⟩ := ht _ hS
        simp at hi)) (fun ρ' hg' _ => ⟨(hv ρ' hg' (fun h => by cases h)).1, fun _ h => by cases h⟩))
theorem DEq.hide {tm : List SV} {d : Option Tmp} (s : SV) (h : ∀ t, d = some t → ∀ x, tm[t]? = some x → x = .junk) : DEq (Go.Proofs.Ytfniieigeofbdaa.setD tm d s) tm := by
  cases d with
  | none => exact DEq.refl _
  | some d =>
    refine ⟨by simp [Go.Proofs.Ytfniieigeofbdaa.setD], fun i x hx hj => ⟨x, ?_, hj, fun _ => rfl⟩⟩
    have : d ≠ i := fun e => hj (h d rfl x (e ▸ hx))
    simp [Go.Proofs.Ytfniieigeofbdaa.setD, List.getElem?_set_ne this, hx]
theorem setD_set (tm : List SV) (d : Option Tmp) (x y : SV) : setD (setD tm d x) d y = setD tm d y := by
  cases d <;> simp [setD]
theorem setD_comm (tm : List SV) {d d' : Option Tmp} (x y : SV) (h : ∀ t, d = some t → d' ≠ some t) : setD (setD tm d x) d' y = setD (setD tm d' y) d x := by
  cases d <;> cases d' <;> simp only [setD]
  rename_i d d'
  exact List.set_comm _ _ (fun e => h d rfl (by rw [e]))
theorem setD_at (tm : List SV) (d : Option Tmp) (s : SV) {t : Nat} {x : SV} (h : (setD tm d s)[t]? = some x) : (d = some t ∧ x = s) ∨ (d ≠ some t ∧ tm[t]? = some x) := by
  cases d with
  | none => exact .inr ⟨(fun h => by cases h), h⟩
  | some d =>
    by_cases e : d = t
    · subst e
      have hl := (List.getElem?_eq_some_iff.1 h).1
      simp only [setD, List.length_set] at hl
      simp only [setD, List.getElem?_set_self hl, Option.some.injEq] at h
      exact .inl ⟨rfl, h.symm⟩
    · rw [setD, List.getElem?_set_ne e] at h
      exact .inr ⟨fun e' => e (Option.some.inj e'), h⟩
/-- A segment with a call at b + i: what it is told is put in last. -/
def Sg.with (g : Sg) (kx : Nat) (sv : SV) (H : List HE) : Sg := { g with H := H, s := fun k => if k = kx then sv else g.s k }
theorem Sg.with_le (g : Sg) {i : Nat} {sv : SV} {H : List HE} : ∀ n, n ≤ i → (g.with (g.b + i) sv H).tmC n = g.tmC n
  | 0, _ => rfl
  | n + 1, h => by
    have ih := g.with_le (i := i) (sv := sv) (H := H) n (by omega)
    show (match g.ops[g.b + n]? with
      | some o => setD ((g.with (g.b + i) sv H).tmC n) o.dst (if g.b + n = g.b + i then sv else g.s (g.b + n))
      | none => (g.with (g.b + i) sv H).tmC n) = _
    rw [ih, if_neg (by omega)]
    rfl
theorem Sg.with_gt (g : Sg) {i : Nat} {sv : SV} {H : List HE} {ox : Oper} (hox : g.ops[g.b + i]? = some ox) (hsj : g.s (g.b + i) = .junk) (hdis : ∀ j oj t, i < j → g.b + j < g.c → g.ops[g.b + j]? = some oj → ox.dst = some t → oj.dst ≠ some t) :
    ∀ n, i < n → g.b + n ≤ g.c → (g.with (g.b + i) sv H).tmC n = setD (g.tmC n) ox.dst sv ∧ (∀ t, ox.dst = some t → ∀ x, (g.tmC n)[t]? = some x → x = .junk)
  | 0, h, _ => by omega
  | n + 1, h, hc => by
    have e1 : (g.with (g.b + i) sv H).tmC (n + 1) = (match g.ops[g.b + n]? with
      | some o => setD ((g.with (g.b + i) sv H).tmC n) o.dst (if g.b + n = g.b + i then sv else g.s (g.b + n))
      | none => (g.with (g.b + i) sv H).tmC n) := rfl
    have e2 : g.tmC (n + 1) = (match g.ops[g.b + n]? with
      | some o => setD (g.tmC n) o.dst (g.s (g.b + n))
      | none => g.tmC n) := rfl
    by_cases hn : n = i
    · subst hn
      rw [e1, e2, g.with_le n (Nat.le_refl _), hox]
      simp only [if_true, hsj, setD_set, true_and]
      intro t ht x hx
      rcases setD_at _ _ _ hx with ⟨_, rfl⟩ | ⟨h1, _⟩
      · rfl
      · exact absurd ht h1
    · obtain ⟨h1, h2⟩ := g.with_gt (i := i) (sv := sv) (H := H) hox hsj hdis n (by omega) (by omega)
      cases ho : g.ops[g.b + n]? with
      | none => rw [e1, e2, ho]; exact ⟨h1, h2⟩
      | some o =>
        have hne : ∀ t, ox.dst = some t → o.dst ≠ some t := fun t => hdis n o t (by omega) (by omega) ho
        rw [e1, e2, ho]
        simp only [show ¬ g.b + n = g.b + i by omega, if_false]
        refine ⟨by rw [h1]; exact setD_comm _ _ _ hne, fun t ht x hx => ?_⟩
        rcases setD_at _ _ _ hx with ⟨h3, _⟩ | ⟨_, h4⟩
        · exact absurd h3 (hne t ht)
        · exact h2 t ht x h4
theorem Sg.mades_nil (g : Sg) (he : ∀ k, g.e k = none) : ∀ n, g.mades n = []
  | 0 => rfl
  | n + 1 => by rw [Sg.mades, g.mades_nil he n, he]; rfl
/-- A segment with one operation that may change what is known: the others are those that it waits for, and such as look at no memory. -/
theorem seg_big (hT : TabOK P T) {g : Sg} {Q : Exit → Act → World → Prop} {i : Nat} {ox : Oper} (hox : g.ops[g.b + i]? = some ox) (hkc : g.b + i < g.c) (he : ∀ k, g.e k = none) (hsj : g.s (g.b + i) = .junk)
    (hsel : Region.noSelect g.ops = true) (hw : waitB g.ops = true) (hcut : cutsB g.ops.size (masks g.ops.toList) g.c = true)
    (hseg : segB g.ops (masks g.ops.toList) g.b g.c = true) (hbc : g.b ≤ g.c) (hcn : g.c ≤ g.ops.size) (S : Nat → Prop) (hS : ∀ k, S k → ((masks g.ops.toList).getD (g.b + i) 0).testBit k = true)
    (lawS : ∀ k o, g.b ≤ k → k < g.c → S k → k ≠ g.b + i → g.ops[k]? = some o → SegLaw P w0 U g.H.length g.ops o (g.tmC (k - g.b)) g.H (g.nm k) (g.s k) none)
    {Hn : List HE} (hHn : LeH Hn g.H) (lawP : ∀ k o, g.b ≤ k → k < g.c → ¬ S k → k ≠ g.b + i → g.ops[k]? = some o → PLaw P w0 U g.ops o (g.tmC (k - g.b)) Hn (g.s k))
    {tmK : List SV} (hlen : tmK.length = g.tm0.length)
    (hK : ∀ t x, tmK[t]? = some x → x ≠ .junk → (∃ k o, S k ∧ g.b ≤ k ∧ k < g.c ∧ g.ops[k]? = some o ∧ o.dst = some t ∧ t < g.tm0.length ∧ g.s k ≠ .junk ∧ ∀ ρ, x.den ρ = (g.s k).den ρ) ∨
      ((∀ k o, g.b ≤ k → k < g.c → g.ops[k]? = some o → o.dst ≠ some t) ∧ ∃ y, g.tm0[t]? = some y ∧ y ≠ .junk ∧ ∀ ρ, x.den ρ = y.den ρ))
    {KF : SV → List HE → Prop} (hbig : guardK g.ops tmK ox.guard (fun tm => xOp P w0 U T tm g.H ox.op KF) (fun _ => KF (.v undef) g.H)) (hKF : ∀ s H', KF s H' → LeH Hn H') {ρ00 : Loc}
    (fin : ∀ sv H' fuel listed ρ a w, KF sv H' → Same g.H.length ρ00 ρ → g.H.length ≤ H'.length → listed.size = g.ops.size → (∀ i, On listed i ↔ i < g.c) → g.ops.size - g.c ≤ fuel → Rel w0 U ρ (setD (g.tmC (g.c - g.b)) ox.dst sv) H' a w → wpAny P .any g.ops Q fuel listed a w) :
    ∀ (fuel : Nat) (listed : Array Bool) (ρ : Loc) (a : Act) (w : World), listed.size = g.ops.size → (∀ i, On listed i ↔ i < g.b) → g.ops.size - g.b ≤ fuel → Rel w0 U ρ g.tm0 g.H a w → Same g.H.length ρ00 ρ → wpAny P .any g.ops Q fuel listed a w := by
  intro fuel0 listed0 ρ0 a0 w0' hs0 hon0 hf0 hr0 hsm0
  have nomak : ∀ k, ¬ g.mak k := fun k h => by have := h.2.2; rw [he] at this; cases this
  refine seg_anyX (g := g) (fun _ => False) (fun k => k = g.b + i) (n0 := w0'.heap.size) (ρ00 := ρ00) hsel hw hcut hseg hbc hcn (fun k o h1 h2 _ h3 ho => ⟨[], rfl, fun t e h => by simp at h, ?_⟩) (hr0.2 ρ0 (Same.refl _ _)).2.fr.size ?_ (fun fuel listed ρ a w hn => absurd rfl (hn (g.b + i) (by omega) hkc))
    fuel0 listed0 (List.range' g.b (g.c - g.b)) (fun _ => False) ρ0 a0 w0' hs0 (List.nodup_range' ..) (fun j => ?_) (fun j h => h.elim) (fun j h => h.elim) (fun j _ h => h) (fun j => by rw [hon0 j]; simp) (closed_lt hw hon0) (by rw [List.length_range']; omega) hsm0 (g.start hr0)
  · rw [he, List.append_nil]
    by_cases hk : S k
    · exact lawS k o h1 h2 hk h3 ho
    · exact (lawP k o h1 h2 hk h3 ho).seg hHn (DEq.refl _)
  · intro fuel listed rem D ρ a w k o hX ho hkb hkc' hDk hwk sees hs hnd hrem hD hon hcl hf hsm hst
    subst hX
    rw [hox] at ho
    cases ho
    have hag : ∀ ρ', Same g.H.length ρ ρ' → g.Ag D ρ ρ' := fun ρ' h => ⟨h, fun k _ hm => absurd hm (nomak k)⟩
    have hrel : Rel w0 U ρ tmK g.H a w := by
      refine ⟨hst.dfr, fun ρ' hs' => ⟨⟨by rw [(hst.tm ρ' (hag ρ' hs')).size, hlen], fun t x hx hj => ?_⟩, hst.rel ρ' hs'⟩⟩
      have ht := hst.tm ρ' (hag ρ' hs')
      rcases hK t x hx hj with ⟨k, o, h1, h2, h3, h4, h5, h6, h7, h8⟩ | ⟨h1, y, h2, h3, h4⟩
      · have hDk' : D k := by
          rcases (hon k).1 (sees k (hS k h1)) with h | h
          · omega
          · exact h
        rw [h8]
        exact ht.done k o t hDk' h2 h3 h4 h5 h6 h7
      · rw [h4]
        exact ht.old t y (fun k o _ hb hc ho => h1 k o hb hc ho) h2 h3
    have hKF0 := hKF
    have after : ∀ sv H' ρ' v w', KF sv H' → After w0 U ρ g.H sv H' ρ' v w' → wpAny P .any g.ops Q fuel (listed.setIfInBounds (g.b + i) true) (a.put ox.dst v) w' := fun sv H' ρ' v w' hKF hA => by
      have hne : ∀ j oj t, g.b ≤ j → j < g.c → j ≠ g.b + i → g.ops[j]? = some oj → ox.dst = some t → oj.dst ≠ some t := fun j oj t hjb hjc hj hoj ht hd => by
        rcases Nat.lt_trichotomy j (g.b + i) with h1 | h1 | h1
        · exact (segB_spec hseg (j := j) (k := g.b + i) hjb h1 hkc hoj hox).2.1 t hd ht
        · exact hj h1
        · exact (segB_spec hseg (j := g.b + i) (k := j) (by omega) h1 hjc hox hoj).2.1 t ht hd
      have hgt := fun n (h1 : i < n) (h2 : g.b + n ≤ g.c) => g.with_gt (i := i) (sv := sv) (H := H') hox hsj (fun j oj t hj hjc hoj => hne (g.b + j) oj t (by omega) hjc (by omega) hoj) n h1 h2
      have hon' : ∀ j, On (listed.setIfInBounds (g.b + i) true) j ↔ j < g.b ∨ ext D (g.b + i) j := fun j => by
        rw [on_set (by omega), hon j]
        unfold ext
        exact or_assoc
      have hkr : g.b + i ∈ rem := (hrem _).2 ⟨hkb, hkc, hDk⟩
      have hold : ∀ t, ox.dst ≠ some t → (a.put ox.dst v).tmps[t]? = a.tmps[t]? := fun t ht => by
        cases hd : ox.dst with
        | none => rfl
        | some d => simp [Act.put, Array.getElem?_setIfInBounds_ne (show d ≠ t from fun e => ht (by rw [hd, e]))]
      have hst2 : (g.with (g.b + i) sv H').St w0 U w'.heap.size (ext D (g.b + i)) ρ' (a.put ox.dst v) w' := by
        refine ⟨by cases hd : ox.dst <;> exact hst.dfr, hA.rel, fun ρ'' hg => ?_, fun ρ'' _ k e0 _ hm => absurd hm (nomak k), fun k e0 b _ hm => absurd hm (nomak k), fun k k' d e b _ _ _ _ _ _ _ hm => absurd hm (nomak k), Nat.le_refl _, fun j d b hj hl hy => HE.ok_lt ((hA.rel ρ' (Same.refl _ _)).ent j d hj) hl hy⟩
        have hb : Same H'.length ρ' ρ'' := hg.base
        have hb' : Same g.H.length ρ ρ'' := hA.same.trans hb hA.le
        have ht := hst.tm ρ'' (hag ρ'' hb')
        refine ⟨by cases hd : ox.dst <;> simp [Act.put, ht.size] <;> rfl, fun k o d hk hb hc ho hd hl hj => ?_, fun t x hno hx hj => ?_⟩
        · by_cases hkx : k = g.b + i
          · subst hkx
            have ho : g.ops[g.b + i]? = some o := ho
            rw [hox] at ho; cases ho
            have hs1 : (g.with (g.b + i) sv H').s (g.b + i) = sv := if_pos rfl
            rw [hs1]
            have : d < a.tmps.size := by rw [ht.size]; exact hl
            rw [hd]
            simp [Act.put, this, hA.val ρ'' ‹_›]
          · have hs1 : (g.with (g.b + i) sv H').s k = g.s k := if_neg hkx
            rw [hs1] at hj ⊢
            have hDk2 : D k := hk.elim id (fun e => absurd e hkx)
            rw [hold d (fun e => hne k o d hb hc hkx ho e hd)]
            exact ht.done k o d hDk2 hb hc ho hd hl hj
        · rw [hold t (hno (g.b + i) ox (.inr rfl) hkb hkc hox)]
          exact ht.old t x (fun k o hk => hno k o (.inl hk)) hx hj
      refine seg_anyX (g := g.with (g.b + i) sv H') (fun k => k = g.b + i ∨ S k ∧ D k) (fun _ => False) (n0 := w'.heap.size) (ρ00 := ρ') hsel hw hcut hseg hbc hcn (fun k o h1 h2 h3 _ ho => ⟨[], rfl, fun t e h => by simp at h, ?_⟩) (hA.rel ρ' (Same.refl _ _)).fr.size (fun _ _ _ _ _ _ _ _ _ hX => hX.elim)
        (fun fuel listed ρf a w _ hsm2 hs2 hon2 hf2 hr2 => fin sv H' fuel listed ρf a w hKF (hsm.trans (hA.same.trans hsm2 hA.le) (Nat.le_refl _)) hA.le hs2 hon2 hf2 ?_)
        fuel (listed.setIfInBounds (g.b + i) true) (rem.erase (g.b + i)) (ext D (g.b + i)) ρ' _ _ (by rw [Array.size_setIfInBounds]; exact hs) (hnd.erase _) (fun j => ?_) (fun j hj => ?_) (fun j hj => ?_) (fun j hj => hj.elim) hon' (fun j oj hoj hj m hm => ?_) ?_ (Same.refl _ _) hst2
      · have h1 : g.b ≤ k := h1
        have h2 : k < g.c := h2
        have ho : g.ops[k]? = some o := ho
        have hkx : k ≠ g.b + i := fun e => h3 (.inl e)
        have hnS : ¬ S k := fun hk => h3 (.inr ⟨hk, by
          rcases (hon k).1 (sees k (hS k hk)) with h | h
          · omega
          · exact h⟩)
        have e1 : (g.with (g.b + i) sv H').s k = g.s k := if_neg hkx
        have e2 : (g.with (g.b + i) sv H').e k = none := he k
        rw [e1, e2, show ((g.with (g.b + i) sv H').H ++ []) = H' from List.append_nil _]
        refine (lawP k o h1 h2 hnS hkx ho).seg (hKF0 sv H' hKF) ?_
        show DEq ((g.with (g.b + i) sv H').tmC (k - g.b)) (g.tmC (k - g.b))
        rcases Nat.lt_or_ge i (k - g.b) with h5 | h5
        · obtain ⟨f1, f2⟩ := hgt (k - g.b) h5 (by omega)
          rw [f1]
          exact DEq.hide sv f2
        · rw [g.with_le _ h5]
          exact DEq.refl _
      · have e1 := (hgt (g.c - g.b) (by omega) (by omega)).1
        have e2 : (g.with (g.b + i) sv H').mades ((g.with (g.b + i) sv H').c - (g.with (g.b + i) sv H').b) = [] := Sg.mades_nil (g.with (g.b + i) sv H') he _
        rw [e2, List.append_nil] at hr2
        rw [← e1]
        exact hr2
      · rw [hnd.mem_erase_iff, hrem j]
        unfold ext
        constructor
        · rintro ⟨h1, h2, h3, h4⟩
          exact ⟨h2, h3, fun h => h.elim h4 h1⟩
        · rintro ⟨h2, h3, h4⟩
          exact ⟨fun h => h4 (.inr h), h2, h3, fun h => h4 (.inl h)⟩
      · rcases hj with hj | rfl
        · exact hD j hj
        · exact ⟨hkb, hkc⟩
      · rcases hj with rfl | ⟨_, hj⟩
        · exact .inr rfl
        · exact .inl hj
      · have hol : g.ops.toList[g.b + i]? = some ox := by rw [Array.getElem?_toList]; exact hox
        have hoj : g.ops.toList[j]? = some oj := hoj
        refine (on_set (by omega) m).2 (.inl ?_)
        rcases (on_set (by omega) j).1 hj with h1 | rfl
        · exact hcl j oj hoj h1 m hm
        · rw [hol] at hoj; cases hoj
          exact hwk m hm
      · rw [List.length_erase_of_mem hkr]
        have : 0 < rem.length := List.length_pos_of_mem hkr
        show rem.length - 1 + (g.ops.size - g.c) ≤ fuel
        omega
    unfold wpOp
    rw [hox]
    obtain ⟨tm', hr, ⟨hw', h⟩ | ⟨hw', h⟩⟩ := guardK_spec hbig hrel ox rfl
    · simp only [hw', if_true]
      left
      obtain ⟨dst, op, ty, pos, af, gd⟩ := ox
      exact xOp_sound hT h hr dst ty pos af gd fun v w' sv H' ρ' hK hA => after sv H' ρ' v w' hK hA
    · simp only [hw', Bool.false_eq_true, if_false]
      exact after (.v undef) g.H ρ undef w h ⟨Same.refl _ _, Nat.le_refl _, hst.rel, fun _ _ => rfl⟩
  · simp only [List.mem_range'_1, not_false_eq_true, and_true]
    omega
end
section
variable (P : Program) (w0 : World) (U : Nat → Prop) (T : Tab)
def bigCons (mx kx : Nat) (ops : Array Oper) (H Hn : List HE) (o : Oper) (ih : Nat → List SV → (List SV → Prop) → Prop) (k : Nat) (tm : List SV) (K : List SV → Prop) : Prop := match Nat.beq k kx with
  | true => putK o.dst tm .junk fun tm' => ih (Nat.add k 1) tm' K
  | false => match Nat.beq (Nat.mod (Nat.shiftRight mx k) 2) 1 with
    | true => natL lits H.length fun nb => guardK ops tm o.guard
      (fun tm => sOp P w0 U T nb tm H nb o.op fun s e => putK o.dst tm s fun tm' => match e with
        | none => ih (Nat.add k 1) tm' K
        | some _ => False)
      (fun tm => putK o.dst tm (.v undef) fun tm' => ih (Nat.add k 1) tm' K)
    | false => guardK ops tm o.guard
      (fun tm => xPure T tm Hn o.op fun s => putK o.dst tm s fun tm' => ih (Nat.add k 1) tm' K)
      (fun tm => putK o.dst tm (.v undef) fun tm' => ih (Nat.add k 1) tm' K)
def bigNil (_ : Nat) (tm : List SV) (K : List SV → Prop) : Prop := K tm
/-- All but the call. -/
def xBigPre (mx kx : Nat) (ops : Array Oper) (H Hn : List HE) (l : List Oper) : Nat → List SV → (List SV → Prop) → Prop :=
  @List.rec Oper (fun _ => Nat → List SV → (List SV → Prop) → Prop) bigNil (fun o _ ih => bigCons P w0 U T mx kx ops H Hn o ih) l
def jnkCons (mx : Nat) (o : Oper) (ih : Nat → List SV → (List SV → Prop) → Prop) (k : Nat) (tm : List SV) (K : List SV → Prop) : Prop := match Nat.beq (Nat.mod (Nat.shiftRight mx k) 2) 1 with
  | true => ih (Nat.add k 1) tm K
  | false => putK o.dst tm .junk fun tm' => ih (Nat.add k 1) tm' K
/-- What the call may look at. -/
def xJnk (mx : Nat) (l : List Oper) : Nat → List SV → (List SV → Prop) → Prop :=
  @List.rec Oper (fun _ => Nat → List SV → (List SV → Prop) → Prop) bigNil (fun o _ ih => jnkCons mx o ih) l
def memN : List Nat → Nat → Bool
  | [], _ => false
  | x :: xs, n => match Nat.beq x n with
    | true => true
    | false => memN xs n
/-- H without the entries of these names. -/
def hideK : List HE → Nat → List Nat → (List HE → Prop) → Prop
  | [], _, _, K => K []
  | e :: r, i, hid, K => match memN hid i with
    | true => hideK r (Nat.add i 1) hid fun xs => K (.none :: xs)
    | false => hideK r (Nat.add i 1) hid fun xs => K (e :: xs)
/-- What is not hidden is as it was. -/
def agH : List HE → List HE → Prop
  | [], _ => True
  | .none :: a, _ :: b => agH a b
  | x :: a, y :: b => x = y ∧ agH a b
  | _, _ => False
def xBig (M : Nat) (ops : Array Oper) (H : List HE) (p : List Oper) (b kx : Nat) (hid : List Nat) (tm : List SV) (K : List SV → List HE → Prop) : Prop := match ops[kx]? with
  | some ox => hideK H 0 hid fun Hn => xBigPre P w0 U T (mkOf M kx) kx ops H Hn p b tm fun tm1 => xJnk (mkOf M kx) p b tm1 fun tmK => guardK ops tmK ox.guard
      (fun t => xOp P w0 U T t H ox.op fun s H' => Need (Hn.all (HE.bdd Hn.length) = true ∧ agH Hn H') (putK ox.dst tm1 s fun tm' => K tm' H')) (fun _ => Need (Hn.all (HE.bdd Hn.length) = true ∧ agH Hn H) (putK ox.dst tm1 (.v undef) fun tm' => K tm' H))
  | none => False
def inB (b : Nat) (p : List Oper) (kx : Nat) : Bool := Nat.ble b kx && Nat.blt kx (b + p.length)
inductive SegW (M id : Nat) (ops : Array Oper) (p : List Oper) (b : Nat) (tm : List SV) (H : List HE) (K : List SV → List HE → Prop) : Prop
  | seg (h : xSeg P w0 U T M ops H p b tm [] K)
  | big (kx : Nat) (hid : List Nat) (hk : inB b p kx = true) (h : xBig P w0 U T M ops H p b kx hid tm K)
def drwConsW (M id : Nat) (ops : Array Oper) (p : List Oper) (ih : Nat → List SV → List HE → (List SV → List HE → Prop) → Prop) (k : Nat) (tm : List SV) (H : List HE) (K : List SV → List HE → Prop) : Prop := match p with
  | [o] => opsCons P w0 U T ops o (ih (Nat.add k 1)) tm H K
  | p => SegW P w0 U T M id ops p k tm H fun tm' H' => ih (lenA p k) tm' H' K
def xDrwW (M id : Nat) (ops : Array Oper) (ps : List (List Oper)) : Nat → List SV → List HE → (List SV → List HE → Prop) → Prop :=
  @List.rec (List Oper) (fun _ => Nat → List SV → List HE → (List SV → List HE → Prop) → Prop) drwNil (fun p _ ih => drwConsW P w0 U T M id ops p ih) ps
end
section
variable {P : Program} {w0 : World} {U : Nat → Prop} {T : Tab}
theorem bit_eq (m k : Nat) : Nat.beq (Nat.mod (Nat.shiftRight m k) 2) 1 = m.testBit k := by
  rw [Nat.testBit_eq_decide_div_mod_eq]
  have e1 : Nat.mod (Nat.shiftRight m k) 2 = m / 2 ^ k % 2 := by
    show (m >>> k) % 2 = _
    rw [Nat.shiftRight_eq_div_pow]
  rw [e1]
  cases hd : Nat.beq (m / 2 ^ k % 2) 1
  · have := Nat.ne_of_beq_eq_false hd
    simpa using this
  · have := Nat.eq_of_beq_eq_true hd
    simpa using this
theorem SegLaw.nm {nb : Nat} {ops : Array Oper} {o : Oper} {tm : List SV} {H : List HE} {N N' : Nat} {s : SV} (h : SegLaw P w0 U nb ops o tm H N s none) : SegLaw P w0 U nb ops o tm H N' s none := fun a w G ρ hg hm hs hr hb next Q hnx =>
  h a w G ρ hg hm hs hr hb next Q (fun x v w' hx hk hv => hnx x v w' hx hk (fun ρ' hg' _ => ⟨(hv ρ' hg' (fun h => by cases h)).1, fun _ h => by cases h⟩))
theorem p_law (hT : TabOK P T) {ops : Array Oper} {tm0 tm : List SV} (hd : DEq tm0 tm) {H : List HE} {o : Oper} {K : List SV → Prop}
    (h : guardK ops tm o.guard (fun tm => xPure T tm H o.op fun s => putK o.dst tm s K) (fun tm => putK o.dst tm (.v undef) K)) :
    ∃ s tm', K tm' ∧ PLaw P w0 U ops o tm0 H s ∧ DEq (setD tm0 o.dst s) tm' := by
  obtain ⟨tm1, want, hd1, hy, hn, hw⟩ := guardK_sem h
  cases want
  · refine ⟨.v undef, _, putK_setD (hn rfl), fun a w G ρ hg hm _ next Q hnx => .inr ⟨by obtain ⟨a', h1, _, _, h4⟩ := hm ρ hg; rw [← h4]; exact hw ρ a' (hd.tmOk h1), hnx undef fun _ _ => rfl⟩, (hd.trans hd1).setD _ _⟩
  · have h := hy rfl
    obtain ⟨dst, op, ty, pos, af, gd⟩ := o
    obtain ⟨s, hK, hs⟩ := xPure_sound (w0 := w0) (U := U) hT h
    refine ⟨s, _, putK_setD hK, fun a w G ρ hg hm hr next Q hnx => .inl ⟨by obtain ⟨a', h1, _, _, h4⟩ := hm ρ hg; rw [← h4]; exact hw ρ a' (hd.tmOk h1), ?_⟩, (hd.trans hd1).setD _ _⟩
    have key : ∀ ρ', G ρ' → (execOp a.eval ⟨dst, op, ty, pos, af, gd⟩).run P w = .ok (.value (s.den ρ')) w := fun ρ' hg' => by
      obtain ⟨a', h1, _, h3, _⟩ := hm ρ' hg'
      rw [← h3]
      exact hs ρ' a' w dst ty pos af gd ((hd.trans hd1).tmOk h1) (hr ρ' hg').at'
    unfold Oper.wp
    rw [key ρ hg]
    refine hnx (s.den ρ) fun ρ' hg' => ?_
    have e1 := key ρ hg
    rw [key ρ' hg'] at e1
    injection e1 with e1
    injection e1 with e1
    exact e1.symm
theorem hideK_spec : ∀ (H : List HE) (i : Nat) (hid : List Nat) (K : List HE → Prop), hideK H i hid K → ∃ Hn, K Hn ∧ (Hn.length = H.length ∧ LeH Hn H)
  | [], _, _, K, h => ⟨[], h, rfl, ⟨Nat.le_refl _, .inl rfl⟩, fun i e h => by simp at h⟩
  | x :: r, i, hid, K, h => by
    have key : ∀ (y : HE), (y = HE.none ∨ y = x) → ∀ K' : List HE → Prop, hideK r (Nat.add i 1) hid K' → (∀ xs, K' xs → K (y :: xs)) → ∃ Hn, K Hn ∧ (Hn.length = (x :: r).length ∧ LeH Hn (x :: r)) := fun y hy K' h hk => by
      obtain ⟨Hn, h1, h2, _, h3⟩ := hideK_spec r (Nat.add i 1) hid K' h
      have hlen : (y :: Hn).length = (x :: r).length := by simp [h2]
      refine ⟨y :: Hn, hk _ h1, hlen, ⟨Nat.le_of_eq hlen, .inl hlen⟩, fun j e hj hne => ?_⟩
      cases j with
      | zero =>
        simp at hj
        subst hj
        rcases hy with h | h
        · exact absurd h hne
        · simp [h]
      | succ j => simpa using h3 j e (by simpa using hj) hne
    unfold hideK at h
    split at h
    · exact key .none (.inl rfl) _ h fun _ h => h
    · exact key x (.inr rfl) _ h fun _ h => h
theorem agH_at : ∀ {Hn H : List HE}, agH Hn H → Hn.length ≤ H.length ∧ ∀ (i : Nat) (e : HE), Hn[i]? = some e → e ≠ HE.none → H[i]? = some e
  | [], _, _ => ⟨Nat.zero_le _, fun i e h => by simp at h⟩
  | x :: a, y :: b, h => by
    have key : (x = HE.none ∨ x = y) ∧ agH a b := by
      unfold agH at h
      split at h
      · rename_i h1; cases h1
      · rename_i h1 h2; cases h1; cases h2; exact ⟨.inl rfl, h⟩
      · rename_i h1 h2; cases h1; cases h2; exact ⟨.inr h.1, h.2⟩
      · exact h.elim
    obtain ⟨h2, h3⟩ := agH_at key.2
    refine ⟨by simpa using h2, fun j e hj hne => ?_⟩
    cases j with
    | zero =>
      simp at hj
      subst hj
      rcases key.1 with h | h
      · exact absurd h hne
      · simp [h]
    | succ j => simpa using h3 j e (by simpa using hj) hne
  | x :: a, [], h => by cases x <;> simp [agH] at h
theorem agH_spec {Hn H : List HE} (h : Hn.all (HE.bdd Hn.length) = true ∧ agH Hn H) : LeH Hn H := ⟨⟨(agH_at h.2).1, .inr h.1⟩, (agH_at h.2).2⟩
theorem xBigPre_spec (hT : TabOK P T) {mx kx : Nat} {ops : Array Oper} {H Hn : List HE} : ∀ (l : List Oper) (k : Nat) (tm tm0 : List SV) (K : List SV → Prop), DEq tm0 tm → xBigPre P w0 U T mx kx ops H Hn l k tm K →
    ∃ is : List (SV × Option HE), is.length = l.length ∧ (∃ tm', DEq (foldTm tm0 l is) tm' ∧ K tm') ∧ ∀ i o q, l[i]? = some o → is[i]? = some q →
      (k + i = kx → q.1 = .junk) ∧ (k + i ≠ kx → (mx.testBit (k + i) = true → SegLaw P w0 U H.length ops o (foldTm tm0 (l.take i) (is.take i)) H H.length q.1 none) ∧ (mx.testBit (k + i) = false → PLaw P w0 U ops o (foldTm tm0 (l.take i) (is.take i)) Hn q.1))
  | [], k, tm, tm0, K, hd, h => ⟨[], rfl, ⟨tm, hd, h⟩, fun i o q h => by simp at h⟩
  | o :: l, k, tm, tm0, K, hd, h => by
    have h : bigCons P w0 U T mx kx ops H Hn o (xBigPre P w0 U T mx kx ops H Hn l) k tm K := h
    have next : ∀ (s : SV) (tm1 : List SV), DEq (setD tm0 o.dst s) tm1 → xBigPre P w0 U T mx kx ops H Hn l (k + 1) tm1 K → (k = kx → s = .junk) → (k ≠ kx → (mx.testBit k = true → SegLaw P w0 U H.length ops o tm0 H H.length s none) ∧ (mx.testBit k = false → PLaw P w0 U ops o tm0 Hn s)) →
        ∃ is : List (SV × Option HE), is.length = (o :: l).length ∧ (∃ tm', DEq (foldTm tm0 (o :: l) is) tm' ∧ K tm') ∧ ∀ i o' q, (o :: l)[i]? = some o' → is[i]? = some q →
          (k + i = kx → q.1 = .junk) ∧ (k + i ≠ kx → (mx.testBit (k + i) = true → SegLaw P w0 U H.length ops o' (foldTm tm0 ((o :: l).take i) (is.take i)) H H.length q.1 none) ∧ (mx.testBit (k + i) = false → PLaw P w0 U ops o' (foldTm tm0 ((o :: l).take i) (is.take i)) Hn q.1)) := fun s tm1 hd1 hx f1 f2 => by
      obtain ⟨is, h1, ⟨tm', h2, h3⟩, h4⟩ := xBigPre_spec hT l (k + 1) tm1 _ K hd1 hx
      refine ⟨(s, none) :: is, by simp [h1], ⟨tm', h2, h3⟩, fun i o' q ho hq => ?_⟩
      cases i with
      | zero => simp at ho hq; subst ho; subst hq; exact ⟨f1, fun h => f2 h⟩
      | succ i =>
        have := h4 i o' q (by simpa using ho) (by simpa using hq)
        rw [show k + 1 + i = k + (i + 1) by omega] at this
        simpa [foldTm] using this
    unfold bigCons at h
    split at h
    · rename_i hk
      have hk := Nat.eq_of_beq_eq_true hk
      exact next .junk _ (hd.setD o.dst .junk) (putK_setD h) (fun _ => rfl) (fun h => absurd hk h)
    · rename_i hk
      have hk : k ≠ kx := fun e => by rw [e, Nat.beq_refl] at hk; cases hk
      rw [bit_eq] at h
      cases hb : mx.testBit k with
      | true =>
        rw [hb] at h
        have h := natL_spec _ _ _ h
        obtain ⟨s, e, tm1, hK, hlaw, hd1⟩ := seg_law (K := fun tm' e => match e with
          | none => xBigPre P w0 U T mx kx ops H Hn l (Nat.add k 1) tm' K
          | some _ => False) hT hd h
        cases e with
        | some e => exact hK.elim
        | none => exact next s tm1 hd1 hK (fun h => absurd h hk) (fun _ => ⟨fun _ => hlaw, fun h => by rw [hb] at h; cases h⟩)
      | false =>
        rw [hb] at h
        obtain ⟨s, tm1, hK, hlaw, hd1⟩ := p_law hT hd h
        exact next s tm1 hd1 hK (fun h => absurd h hk) (fun _ => ⟨fun h => (by rw [hb] at h; cases h), fun _ => hlaw⟩)
theorem xJnk_spec {mx : Nat} : ∀ (l : List Oper) (k : Nat) (tm : List SV) (K : List SV → Prop), xJnk mx l k tm K → ∃ tm', K tm' ∧ tm'.length = tm.length ∧ ∀ t x, tm'[t]? = some x → x ≠ .junk → tm[t]? = some x ∧ ∀ i o, l[i]? = some o → mx.testBit (k + i) = false → o.dst ≠ some t
  | [], k, tm, K, h => ⟨tm, h, rfl, fun t x hx _ => ⟨hx, fun i o h => by simp at h⟩⟩
  | o :: l, k, tm, K, h => by
    have h : jnkCons mx o (xJnk mx l) k tm K := h
    unfold jnkCons at h
    rw [bit_eq] at h
    cases hb : mx.testBit k with
    | true =>
      rw [hb] at h
      obtain ⟨tm', h1, h2, h3⟩ := xJnk_spec l (k + 1) tm K h
      refine ⟨tm', h1, h2, fun t x hx hj => ⟨(h3 t x hx hj).1, fun i o' ho hi => ?_⟩⟩
      cases i with
      | zero => rw [Nat.add_zero, hb] at hi; cases hi
      | succ i => exact (h3 t x hx hj).2 i o' (by simpa using ho) (by rw [show k + 1 + i = k + (i + 1) by omega]; exact hi)
    | false =>
      rw [hb] at h
      obtain ⟨tm', h1, h2, h3⟩ := xJnk_spec l (k + 1) _ K (putK_setD h)
      refine ⟨tm', h1, by rw [h2]; cases o.dst <;> simp [setD], fun t x hx hj => ?_⟩
      obtain ⟨h4, h5⟩ := h3 t x hx hj
      rcases setD_at _ _ _ h4 with ⟨_, e⟩ | ⟨h6, h7⟩
      · exact absurd e hj
      · refine ⟨h7, fun i o' ho hi => ?_⟩
        cases i with
        | zero => simp at ho; subst ho; exact h6
        | succ i => exact h5 i o' (by simpa using ho) (by rw [show k + 1 + i = k + (i + 1) by omega]; exact hi)
theorem big_sound (hT : TabOK P T) {ops : Array Oper} {Q : Exit → Act → World → Prop} (hsel : Region.noSelect ops = true) (hw : waitB ops = true) {M : Nat} (hM : maskB M (masks ops.toList) ops.size = true) {p : List Oper} {b : Nat}
    (hcut : cutsB ops.size (masks ops.toList) (b + p.length) = true) (hseg : segB ops (masks ops.toList) b (b + p.length) = true) (hlen : b + p.length ≤ ops.size) (hget : ∀ i, i < p.length → ops[b + i]? = p[i]?) {kx : Nat} (hkx : inB b p kx = true)
    {tm : List SV} {H : List HE} {K : List SV → List HE → Prop} {hid : List Nat} (h : xBig P w0 U T M ops H p b kx hid tm K) {ρ : Loc}
    (rest : ∀ tm' H' fuel listed ρ' a w, K tm' H' → listed.size = ops.size → (∀ i, On listed i ↔ i < b + p.length) → ops.size - (b + p.length) ≤ fuel → Rel w0 U ρ' tm' H' a w → Same H.length ρ ρ' → H.length ≤ H'.length → wpAny P .any ops Q fuel listed a w)
    (fuel : Nat) (listed : Array Bool) (a : Act) (w : World) (hs : listed.size = ops.size) (hon : ∀ i, On listed i ↔ i < b) (hf : ops.size - b ≤ fuel) (hr : Rel w0 U ρ tm H a w) : wpAny P .any ops Q fuel listed a w := by
  unfold inB at hkx
  simp only [Bool.and_eq_true] at hkx
  have hk1 : b ≤ kx := Nat.le_of_ble_eq_true hkx.1
  have hk2 : kx < b + p.length := by
    have := hkx.2
    simp only [Nat.blt_eq] at this
    exact this
  unfold xBig at h
  split at h
  · rename_i ox hox
    obtain ⟨Hn, h, _, hHn⟩ := hideK_spec _ _ _ _ h
    obtain ⟨is, hil, ⟨tm1, hd, h⟩, hl⟩ := xBigPre_spec hT p b tm tm _ (DEq.refl _) h
    obtain ⟨tmK, h, hlK, hjK⟩ := xJnk_spec p b tm1 _ h
    let g : Sg := { ops := ops, b := b, c := b + p.length, tm0 := tm, H := H, s := fun k => (is.getD (k - b) (.junk, none)).1, e := fun _ => none }
    have hgi : ∀ i q, is[i]? = some q → g.s (b + i) = q.1 := fun i q hq => by simp [g, List.getD, hq]
    have htm : ∀ i, i ≤ p.length → g.tmC i = foldTm tm (p.take i) (is.take i) := fun i => by
      induction i with
      | zero => intro _; simp [Sg.tmC, foldTm, g]
      | succ i ih =>
        intro hi
        have h1 := ih (by omega)
        obtain ⟨o, ho⟩ : ∃ o, p[i]? = some o := ⟨_, List.getElem?_eq_getElem (by omega)⟩
        obtain ⟨q, hq⟩ : ∃ q, is[i]? = some q := ⟨_, List.getElem?_eq_getElem (by omega)⟩
        have hop : g.ops[g.b + i]? = some o := by rw [← ho]; exact hget i (by omega)
        rw [List.take_add_one, List.take_add_one, ho, hq, Option.toList_some, Option.toList_some, foldTm_snoc _ _ _ _ _ (by simp; omega), ← h1]
        show (match g.ops[g.b + i]? with
          | some o => setD (g.tmC i) o.dst (g.s (g.b + i))
          | none => g.tmC i) = _
        rw [hop]
        show setD (g.tmC i) o.dst (g.s (b + i)) = _
        rw [hgi i q hq]
    have hmask : ∀ j, (mkOf M kx).testBit j = true → ((masks ops.toList).getD kx 0).testBit j = true := fun j hj => by
      have := List.all_eq_true.1 hM kx (List.mem_range.2 (by omega))
      simp only [beq_iff_eq] at this
      rw [← this, show Nat.land (mkOf M kx) ((masks ops.toList).getD kx 0) = mkOf M kx &&& (masks ops.toList).getD kx 0 from rfl, Nat.testBit_and, Bool.and_eq_true] at hj
      exact hj.2
    have hopk : ∀ k o, b ≤ k → k < b + p.length → ops[k]? = some o → p[k - b]? = some o := fun k o h1 h2 ho => by
      rw [← hget (k - b) (by omega), show b + (k - b) = k by omega]; exact ho
    have hisk : ∀ k, b ≤ k → k < b + p.length → ∃ q, is[k - b]? = some q ∧ g.s k = q.1 := fun k h1 h2 => by
      obtain ⟨q, hq⟩ : ∃ q, is[k - b]? = some q := ⟨_, List.getElem?_eq_getElem (by omega)⟩
      refine ⟨q, hq, ?_⟩
      have := hgi (k - b) q hq
      rw [show b + (k - b) = k by omega] at this
      exact this
    have hfull : foldTm tm p is = g.tmC p.length := by rw [htm _ (Nat.le_refl _), List.take_length, List.take_of_length_le (by omega)]
    rw [hfull] at hd
    have hlaw : ∀ k o, b ≤ k → k < b + p.length → k ≠ kx → ops[k]? = some o → ((mkOf M kx).testBit k = true → SegLaw P w0 U H.length ops o (g.tmC (k - b)) H H.length (g.s k) none) ∧ ((mkOf M kx).testBit k = false → PLaw P w0 U ops o (g.tmC (k - b)) Hn (g.s k)) := fun k o h1 h2 h3 ho => by
      obtain ⟨q, hq, e1⟩ := hisk k h1 h2
      have := (hl (k - b) o q (hopk k o h1 h2 ho) hq).2 (by omega)
      rw [show b + (k - b) = k by omega, ← htm _ (by omega), ← e1] at this
      exact this
    refine seg_big hT (g := g) (i := kx - b) (ox := ox) (by show ops[b + (kx - b)]? = some ox; rw [show b + (kx - b) = kx by omega]; exact hox) (by show b + (kx - b) < b + p.length; omega) (fun _ => rfl) ?_ hsel hw hcut hseg (Nat.le_add_right _ _) hlen
      (fun k => (mkOf M kx).testBit k = true) (fun k hk => by show ((masks ops.toList).getD (b + (kx - b)) 0).testBit k = true; rw [show b + (kx - b) = kx by omega]; exact hmask k hk)
      (fun k o h1 h2 hS h3 ho => ?_) (Hn := Hn) hHn (fun k o h1 h2 hS h3 ho => ?_) (tmK := tmK) ?_ (fun t x hx hj => ?_) (KF := fun s H' => Need (Hn.all (HE.bdd Hn.length) = true ∧ agH Hn H') (putK ox.dst tm1 s fun tm' => K tm' H')) h (fun s H' hk => agH_spec hk.1) (ρ00 := ρ)
      (fun sv H' fuel listed ρ' a w hKF hs1 hle hs hon hf hr => ?_) fuel listed ρ a w hs hon hf hr (Same.refl _ _)
    · obtain ⟨q, hq, e1⟩ := hisk kx hk1 hk2
      show g.s (b + (kx - b)) = .junk
      rw [show b + (kx - b) = kx by omega, e1]
      exact (hl (kx - b) ox q (hopk kx ox hk1 hk2 hox) hq).1 (by omega)
    · have h3 : k ≠ b + (kx - b) := h3
      have := hlaw k o h1 h2 (by omega) ho
      exact (this.1 hS).nm
    · have h3 : k ≠ b + (kx - b) := h3
      have := hlaw k o h1 h2 (by omega) ho
      exact this.2 (by simpa using hS)
    · rw [hlK, hd.1, g.tmC_len]
    · obtain ⟨h1, h2⟩ := hjK t x hx hj
      obtain ⟨y, h3, h4, h5⟩ := hd.2 t x h1 hj
      have hlt : t < tm.length := by
        have := (List.getElem?_eq_some_iff.1 h3).1
        rw [g.tmC_len] at this
        exact this
      rcases g.tmC_at t y p.length h3 with ⟨j, oj, hjk, hoj, hdj, _, rfl⟩ | ⟨hno, h0⟩
      · refine .inl ⟨b + j, oj, ?_, Nat.le_add_right _ _, by show b + j < b + p.length; omega, hoj, hdj, hlt, h4, h5⟩
        refine Classical.byContradiction fun hb => ?_
        have : (mkOf M kx).testBit (b + j) = false := by simpa using hb
        have h7 := hopk (b + j) oj (Nat.le_add_right _ _) (by omega) hoj
        rw [show b + j - b = j by omega] at h7
        exact h2 j oj h7 this hdj
      · refine .inr ⟨fun k o hb hc ho hd' => ?_, y, h0, h4, h5⟩
        have hb : b ≤ k := hb
        have hc : k < b + p.length := hc
        exact hno (k - b) o (by omega) (by show ops[b + (k - b)]? = some o; rw [show b + (k - b) = k by omega]; exact ho) hd'
    · have hmc : g.c - g.b = p.length := by show b + p.length - b = p.length; omega
      rw [hmc] at hr
      exact rest _ H' fuel listed ρ' a w (putK_setD hKF.2) hs hon hf ⟨hr.1, fun ρ'' hs' => ⟨(hd.setD ox.dst sv).tmOk (hr.2 ρ'' hs').1, (hr.2 ρ'' hs').2⟩⟩ hs1 hle
  · exact h.elim
theorem xDrwW_sound (hT : TabOK P T) {m id : Nat} {ρ0 : Loc} {ops : Array Oper} {Q : Exit → Act → World → Prop} {K : List SV → List HE → Prop} (hQ : ∀ ρ tm' H' a' w', K tm' H' → Rel w0 U ρ tm' H' a' w' → Same m ρ0 ρ ∧ m ≤ H'.length → Q .normal a' w')
    (hsel : Region.noSelect ops = true) (hw : waitB ops = true) {M : Nat} (hM : maskB M (masks ops.toList) ops.size = true) : ∀ (ps : List (List Oper)) (b : Nat) (tm : List SV) (H : List HE), piecesB ops (masks ops.toList) b ps = true → ops.toList.drop b = ps.flatten → b ≤ ops.size →
      xDrwW P w0 U T M id ops ps b tm H K → ∀ (fuel : Nat) (listed : Array Bool) (ρ : Loc) (a : Act) (w : World), listed.size = ops.size → (∀ i, On listed i ↔ i < b) → ops.size - b ≤ fuel → Rel w0 U ρ tm H a w → Same m ρ0 ρ ∧ m ≤ H.length → wpAny P .any ops Q fuel listed a w
  | [], b, tm, H, _, hfl, hb, h, fuel, listed, ρ, a, w, hs, hon, hf, hr, hsm => by
    have hle : ops.size ≤ b := by simpa using hfl
    have hrd : Region.ready .any ops listed = [] := by
      apply List.eq_nil_iff_forall_not_mem.2
      intro i hi
      obtain ⟨o, ho, hn, _⟩ := (ready_mem hs).1 hi
      have := (Array.getElem?_eq_some_iff.1 ho).1
      exact hn ((hon i).2 (by omega))
    have hK : K tm H := h
    cases fuel with
    | zero => exact ⟨hrd, hQ ρ tm H a w hK hr hsm⟩
    | succ fuel => exact ⟨fun _ => hQ ρ tm H a w hK hr hsm, fun i hi => by rw [hrd] at hi; cases hi⟩
  | p :: ps, b, tm, H, hB, hfl, hb, h, fuel, listed, ρ, a, w, hs, hon, hf, hr, hsm => by
    simp only [piecesB, Bool.and_eq_true, Bool.or_eq_true] at hB
    obtain ⟨⟨hcut, hseg⟩, hB⟩ := hB
    rw [List.flatten_cons] at hfl
    have hget : ∀ i, i < p.length → ops[b + i]? = p[i]? := fun i hi => by
      have h1 : (ops.toList.drop b)[i]? = p[i]? := by rw [hfl, List.getElem?_append_left hi]
      rw [List.getElem?_drop, Array.getElem?_toList] at h1
      exact h1
    have hfl' : ops.toList.drop (b + p.length) = ps.flatten := by
      rw [← List.drop_drop, hfl, List.drop_left]
    have hlen : b + p.length ≤ ops.size := by
      have h1 := congrArg List.length hfl
      simp only [List.length_drop, Array.length_toList, List.length_append] at h1
      omega
    have h : drwConsW P w0 U T M id ops p (xDrwW P w0 U T M id ops ps) b tm H K := h
    unfold drwConsW at h
    split at h
    · rename_i o _
      have ho : ops[b]? = some o := by simpa using hget 0 (by simp)
      simp only [List.length_cons, List.length_nil, Nat.zero_add] at hcut hfl' hlen hB
      obtain ⟨fuel, rfl⟩ : ∃ f, fuel = f + 1 := ⟨fuel - 1, by omega⟩
      have hready : b ∈ Region.ready .any ops listed := (ready_mem hs).2 ⟨o, ho, fun h => by have := (hon b).1 h; omega, fun m hm => (hon m).2 (waitB_spec hw ho hm)⟩
      refine ⟨fun h => (by rw [h] at hready; cases hready), fun k hk => ?_⟩
      obtain ⟨ok, hok, hnk, hwk⟩ := (ready_mem hs).1 hk
      have hkn := (Array.getElem?_eq_some_iff.1 hok).1
      have hkb : k = b := by
        rcases Nat.lt_trichotomy k b with h1 | h1 | h1
        · exact absurd ((hon k).2 h1) hnk
        · exact h1
        · have := cutB_spec hcut hkn (by omega) (Nat.lt_succ_self b) (On listed) ok (closed_lt hw hon) (by rw [Array.getElem?_toList]; exact hok) hwk
          have := (hon b).1 this
          omega
      subst hkb
      refine one_sound hT ho h hr (fun ρ' tm' H' a' w' hK hr' hs1 => ?_)
      refine xDrwW_sound hT hQ hsel hw hM ps (k + 1) tm' H' hB hfl' hlen hK fuel _ ρ' a' w' (by simpa using hs) (fun i => ?_) (by omega) hr' ⟨hsm.1.trans hs1.1 hsm.2, Nat.le_trans hsm.2 hs1.2⟩
      rw [on_set (by omega), hon i]
      omega
    · rename_i hp
      have hseg : segB ops (masks ops.toList) b (b + p.length) = true := by
        rcases hseg with h1 | h1
        · exfalso
          rcases p with _ | ⟨x, _ | ⟨y, p⟩⟩
          · simp at h1
          · exact hp x rfl
          · simp at h1
        · exact h1
      rcases h with h | ⟨kx, hid, hkx, h⟩
      rotate_left
      · exact big_sound hT hsel hw hM hcut hseg hlen hget hkx h (fun tm' H' fuel listed ρ' a w hK hs hon hf hr hs1 hle => xDrwW_sound hT hQ hsel hw hM ps (b + p.length) tm' H' hB hfl' hlen (lenA_eq p b ▸ hK) fuel listed ρ' a w hs hon hf hr ⟨hsm.1.trans hs1 hsm.2, Nat.le_trans hsm.2 hle⟩) fuel listed a w hs hon hf hr
      obtain ⟨is, hil, ⟨tm', hd, hK⟩, hlaws⟩ := xSeg_spec hT p b tm tm [] _ (DEq.refl _) h
      rw [lenA_eq] at hK
      simp only [List.map_nil, List.nil_append] at hK hlaws
      let g : Sg := { ops := ops, b := b, c := b + p.length, tm0 := tm, H := H, s := fun k => (is.getD (k - b) (.junk, none)).1, e := fun k => (is.getD (k - b) (.junk, none)).2 }
      have hgi : ∀ i q, is[i]? = some q → g.s (b + i) = q.1 ∧ g.e (b + i) = q.2 := fun i q hq => by simp [g, List.getD, hq]
      have htm : ∀ i, i ≤ p.length → g.tmC i = foldTm tm (p.take i) (is.take i) ∧ g.mades i = (is.take i).filterMap (·.2) := fun i => by
        induction i with
        | zero => intro _; exact ⟨by simp [Sg.tmC, foldTm, g], by simp [Sg.mades]⟩
        | succ i ih =>
          intro hi
          obtain ⟨h1, h2⟩ := ih (by omega)
          obtain ⟨o, ho⟩ : ∃ o, p[i]? = some o := ⟨_, List.getElem?_eq_getElem (by omega)⟩
          obtain ⟨q, hq⟩ : ∃ q, is[i]? = some q := ⟨_, List.getElem?_eq_getElem (by omega)⟩
          obtain ⟨e1, e2⟩ := hgi i q hq
          have hop : g.ops[g.b + i]? = some o := by rw [← ho]; exact hget i (by omega)
          refine ⟨?_, ?_⟩
          · rw [List.take_add_one, List.take_add_one, ho, hq, Option.toList_some, Option.toList_some, foldTm_snoc _ _ _ _ _ (by simp; omega), ← h1]
            show (match g.ops[g.b + i]? with
              | some o => setD (g.tmC i) o.dst (g.s (g.b + i))
              | none => g.tmC i) = _
            rw [hop]
            show setD (g.tmC i) o.dst (g.s (b + i)) = _
            rw [e1]
          · rw [List.take_add_one, hq, Option.toList_some, List.filterMap_append, ← h2]
            show g.mades i ++ (g.e (b + i)).toList = _
            rw [e2]
            cases hq2 : q.2 <;> simp [List.filterMap, hq2]
      have key := seg_any (g := g) (Q := Q) (P := P) (w0 := w0) (U := U) hsel hw hcut hseg (Nat.le_add_right _ _) hlen (fun k o hk1 hk2 ho => ?_) (n0 := w.heap.size) (hr.2 ρ (Same.refl _ _)).2.fr.size (ρ00 := ρ) (fun fuel listed ρ' a w hsg hs hon hf hr => ?_)
      · refine key fuel listed (List.range' b p.length) (fun _ => False) ρ a w hs (List.nodup_range' ..) (fun i => ?_) (fun i h => h.elim) (fun i => ?_) (closed_lt hw hon) ?_ (Same.refl _ _) (g.start hr)
        · simp only [List.mem_range'_1, not_false_eq_true, and_true]
          exact Iff.rfl
        · rw [hon i]; simp [g]
        · rw [List.length_range']
          show p.length + (ops.size - (b + p.length)) ≤ fuel
          omega
      · have hk1 : b ≤ k := hk1
        have hk2 : k < b + p.length := hk2
        have ho : ops[k]? = some o := ho
        have hop : p[k - b]? = some o := by rw [← hget (k - b) (by omega), show b + (k - b) = k by omega]; exact ho
        obtain ⟨q, hq⟩ : ∃ q, is[k - b]? = some q := ⟨_, List.getElem?_eq_getElem (by omega)⟩
        obtain ⟨vis, hvl, hvb, hvv, hl⟩ := hlaws (k - b) o q hop hq
        rw [show b + (k - b) = k by omega] at hvv
        have hkn : k < ops.size := by omega
        have hmask : ∀ j, (mkOf M k).testBit j = true → ((masks ops.toList).getD k 0).testBit j = true := fun j hj => by
          have := List.all_eq_true.1 hM k (List.mem_range.2 hkn)
          simp only [beq_iff_eq] at this
          rw [← this, show Nat.land (mkOf M k) ((masks ops.toList).getD k 0) = mkOf M k &&& (masks ops.toList).getD k 0 from rfl, Nat.testBit_and, Bool.and_eq_true] at hj
          exact hj.2
        obtain ⟨e1, e2⟩ := hgi (k - b) q hq
        rw [show b + (k - b) = k by omega] at e1 e2
        obtain ⟨h1, h2⟩ := htm (k - b) (by omega)
        refine ⟨vis, hvb, fun t e ht hne => ?_, ?_⟩
        · rcases hvv t e ht hne with ⟨j, h5, _⟩ | ⟨i', q', h5, h6, h7, h8, h9⟩
          · simp at h5
          · obtain ⟨f1, f2⟩ := hgi i' q' h6
            have f2 : g.e (b + i') = some e := by rw [f2, h7]
            refine ⟨b + i', ⟨Nat.le_add_right _ _, ?_, by rw [f2]; rfl⟩, f2, ?_, hmask _ h9⟩
            · show b + i' < b + p.length
              omega
            · obtain ⟨_, h2'⟩ := htm i' (by omega)
              show H.length + (g.mades (b + i' - b)).length = H.length + t
              rw [show b + i' - b = i' by omega, h2', h8]
        · rw [e1, e2]
          show SegLaw P w0 U H.length ops o (g.tmC (k - b)) (H ++ vis) (H.length + (g.mades (k - b)).length) q.1 q.2
          rw [h1, h2]
          exact hl
      · have hmc : g.c - g.b = p.length := by show b + p.length - b = p.length; omega
        rw [hmc] at hr
        obtain ⟨h1, h2⟩ := htm p.length (Nat.le_refl _)
        rw [h1, h2, List.take_length, List.take_of_length_le (by omega)] at hr
        refine xDrwW_sound hT hQ hsel hw hM ps (b + p.length) tm' _ hB hfl' hlen hK fuel listed ρ' a w hs hon hf ⟨hr.1, fun ρ'' hs' => ⟨hd.tmOk (hr.2 ρ'' hs').1, ?_⟩⟩ ⟨hsm.1.trans hsg hsm.2, Nat.le_trans hsm.2 (by simp)⟩
        exact (hr.2 ρ'' hs').2
/-- A region that draws its order, by its pieces. -/
theorem drawW_go (hT : TabOK P T) {id : Nat} {ops : Array Oper} {tm : List SV} {H : List HE} {K : List SV → List HE → Prop} (hB : drawB ops = true) (h : xDrwW P w0 U T (packM ops.toList 0 0) id ops (piecesOf ops) 0 tm H K) : DrawN P w0 U id ops tm H K := by
  unfold drawB at hB
  simp only [Bool.and_eq_true] at hB
  obtain ⟨⟨⟨hsel, hw⟩, hB⟩, hM⟩ := hB
  refine ⟨fun ρ a w hr => wp_region_any hT.mixed ?_⟩
  refine xDrwW_sound hT (m := H.length) (ρ0 := ρ) (fun ρ' tm' H' a' w' hK hr' hs' => ⟨rfl, ρ', tm', H', hr', hs', hK⟩) hsel hw hM _ 0 tm H hB (by simpa [piecesOf] using (piecesL_flat _ _ _ _ _).symm) (Nat.zero_le _) h ops.size _ ρ a w.drew (by simp) (fun i => ?_) (by omega) hr.drew ⟨Same.refl _ _, Nat.le_refl _⟩
  unfold On
  simp only [Array.getElem?_replicate]
  constructor
  · intro h
    split at h <;> cases h
  · intro h; omega
end
end Go.Proofs.Ytfniieigeofbdaa
