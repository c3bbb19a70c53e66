/-
  The regions; the text; a call. No condition.
-/
import Derived.Test.YtlphkjbadjdleaaRxA
namespace Go.Proofs.Ytlphkjbadjdleaa

section
variable {P : Program} {w0 : World} {U : Nat → Prop} {T : Tab}

theorem Rel.drew {ρ : Loc} {tm : List SV} {H : List HE} {a : Act} {w : World} (h : Rel w0 U ρ tm H a w) : Rel w0 U ρ tm H a w.drew := ⟨h.1, fun ρ' hs => ⟨(h.2 ρ' hs).1, (h.2 ρ' hs).2.drew⟩⟩

theorem Rel.know {ρ : Loc} {tm : List SV} {H : List HE} {a : Act} {w : World} (h : Rel w0 U ρ tm H a w) {d : Nat} {b : Bool} (hd : getS tm d = .v (.bool b)) {c : Bool} (hb : b = c) : Rel w0 U ρ (tm.set d (.kb c)) H a w := by
  refine ⟨h.1, fun ρ' hs => ⟨?_, (h.2 ρ' hs).2⟩⟩
  have hm := (h.2 ρ' hs).1
  have hv := hm.2 d _ (getS_spec tm d (by rw [hd]; exact fun h => by cases h)) (by rw [hd]; exact fun h => by cases h)
  rw [hd] at hv
  have := hm.set d (s := .kb c) (v := .bool b) (by rw [hb]; rfl)
  have e : a.tmps.setIfInBounds d (.bool b) = a.tmps := by
    apply Array.ext'
    have hlt : d < a.tmps.size := (Array.getElem?_eq_some_iff.1 hv).1
    rw [Array.toList_setIfInBounds]
    have : a.tmps.toList[d]? = some (.bool b) := by rw [Array.getElem?_toList]; exact hv
    apply List.ext_getElem?
    intro i
    rw [List.getElem?_set]
    split
    · rename_i hi
      subst hi
      split
      · exact this.symm
      · rename_i h; simp at h; omega
    · rfl
  rwa [e] at this
theorem guardK_spec {ops : Array Oper} {tm : List SV} {g : Option (Nat × Bool)} {yes no : List SV → Prop} (h : guardK ops tm g yes no) {ρ : Loc} {H : List HE} {a : Act} {w : World} (hr : Rel w0 U ρ tm H a w) (o : Oper) (ho : o.guard = g) :
    ∃ tm', Rel w0 U ρ tm' H a w ∧ ((Region.wanted o (yielded ops a.tmps) = true ∧ yes tm') ∨ (Region.wanted o (yielded ops a.tmps) = false ∧ no tm')) := by
  have hm := (hr.2 ρ (Same.refl _ _)).1
  unfold guardK at h
  split at h
  · exact ⟨tm, hr, .inl ⟨by simp [Region.wanted, ho], h⟩⟩
  · rename_i j want
    split at h
    · rename_i hd
      exact ⟨tm, hr, .inr ⟨by simp [Region.wanted, ho, yielded, hd], h⟩⟩
    · rename_i d hd
      have look : ∀ {s : SV}, getS tm d = s → s ≠ .junk → a.tmps[d]? = some (s.den ρ) := fun hs hj => by
        have := hm.2 d _ (getS_spec tm d (by rw [hs]; exact hj)) (by rw [hs]; exact hj)
        rwa [hs] at this
      split at h
      · rename_i hb
        have hy : yielded ops a.tmps j = some true := by simp [yielded, hd, look hb (fun h => by cases h), SV.den]
        split at h
        · exact ⟨tm, hr, .inl ⟨by simp [Region.wanted, ho, hy], h⟩⟩
        · exact ⟨tm, hr, .inr ⟨by simp [Region.wanted, ho, hy], h⟩⟩
      · rename_i hb
        have hy : yielded ops a.tmps j = some false := by simp [yielded, hd, look hb (fun h => by cases h), SV.den]
        split at h
        · exact ⟨tm, hr, .inr ⟨by simp [Region.wanted, ho, hy], h⟩⟩
        · exact ⟨tm, hr, .inl ⟨by simp [Region.wanted, ho, hy], h⟩⟩
      · rename_i b hb
        have hy : yielded ops a.tmps j = some b := by simp [yielded, hd, look hb (fun h => by cases h), SV.den]
        split at h
        · cases hbv : b
          · exact ⟨_, hr.know hb hbv, .inr ⟨by simp [Region.wanted, ho, hy, hbv], setK_spec _ _ _ _ (h.hf hbv)⟩⟩
          · exact ⟨_, hr.know hb hbv, .inl ⟨by simp [Region.wanted, ho, hy, hbv], setK_spec _ _ _ _ (h.ht hbv)⟩⟩
        · cases hbv : b
          · exact ⟨_, hr.know hb hbv, .inl ⟨by simp [Region.wanted, ho, hy, hbv], setK_spec _ _ _ _ (h.hf hbv)⟩⟩
          · exact ⟨_, hr.know hb hbv, .inr ⟨by simp [Region.wanted, ho, hy, hbv], setK_spec _ _ _ _ (h.ht hbv)⟩⟩
      · rename_i vs hb
        exact ⟨tm, hr, .inr ⟨by simp [Region.wanted, ho, yielded, hd, look hb (fun h => by cases h), SV.den], h⟩⟩
      · exact h.elim

theorem xOps_sound (hT : TabOK P T) {m : Nat} {ρ0 : Loc} {ops : Array Oper} {Q : Exit → Act → World → Prop} : ∀ (rest : List Oper) (tm : List SV) (H : List HE) (K : List SV → List HE → Prop), xOps P w0 U T ops rest tm H K →
    (∀ ρ tm' H' a' w', K tm' H' → Rel w0 U ρ tm' H' a' w' → Same m ρ0 ρ ∧ m ≤ H'.length → Q .normal a' w') → ∀ (ρ : Loc) (a : Act) (w : World), Rel w0 U ρ tm H a w → Same m ρ0 ρ ∧ m ≤ H.length → wpList P ops Q rest a w
  | [], tm, H, K, h, hQ, ρ, a, w, hr, hs => hQ ρ tm H a w h hr hs
  | o :: rest, tm, H, K, h, hQ, ρ, a, w, hr, hsm => by
    have h : opsCons P w0 U T ops o (xOps P w0 U T ops rest) tm H K := h
    unfold opsCons at h
    unfold wpList
    obtain ⟨tm, hr, ⟨hw, h⟩ | ⟨hw, h⟩⟩ := guardK_spec h hr o rfl
    · rw [if_pos hw]
      left
      obtain ⟨dst, op, ty, pos, af, g⟩ := o
      refine xOp_sound hT h hr dst ty pos af g fun v w' sv H' ρ' hK hA => ?_
      obtain ⟨tm', hK, hr'⟩ := putK_rel hK hr.1 (v := v) (fun ρ'' hs => ⟨(hr.2 ρ'' (hA.same.trans hs hA.le)).1, hA.rel ρ'' hs, fun _ => hA.val ρ'' hs⟩)
      exact xOps_sound hT rest tm' H' K hK hQ ρ' _ w' hr' ⟨hsm.1.trans hA.same hsm.2, Nat.le_trans hsm.2 hA.le⟩
    · rw [if_neg (by rw [hw]; exact Bool.false_ne_true)]
      obtain ⟨tm', hK, hr'⟩ := putK_rel (w' := w) (v := undef) h hr.1 (fun ρ'' hs => ⟨(hr.2 ρ'' hs).1, (hr.2 ρ'' hs).2, fun _ => rfl⟩)
      exact xOps_sound hT rest tm' H K hK hQ ρ _ w hr' hsm

theorem xQui_sound (hT : TabOK P T) {ops : Array Oper} {H : List HE} {ρ : Loc} {Q : Act → Prop} {w : World} : ∀ (rest : List Oper) (tm : List SV) (K : List SV → Prop), xQui P w0 U T ops H rest tm K →
    (∀ tm' a', K tm' → Rel w0 U ρ tm' H a' w → Q a') → ∀ (a : Act), Rel w0 U ρ tm H a w → wpQuiet P ops (HRel w0 U ρ H) Q rest a
  | [], tm, K, h, hQ, a, hr => hQ tm a h hr
  | o :: rest, tm, K, h, hQ, a, hr => by
    have h : quiCons P w0 U T ops H o (xQui P w0 U T ops H rest) tm K := h
    unfold quiCons at h
    unfold wpQuiet
    obtain ⟨tm, hr, ⟨hw, h⟩ | ⟨hw, h⟩⟩ := guardK_spec h hr o rfl
    · rw [if_pos hw]
      obtain ⟨dst, op, ty, pos, af, g⟩ := o
      split at h
      · rename_i f args hcall
        obtain ⟨c, hop, hcf, hca⟩ := callOf_spec hcall
        simp only at hop
        subst hop
        obtain ⟨g', all, ⟨⟨v, hv, h⟩⟩, hrun⟩ := callX_spec hT h
        obtain ⟨tm', hK, hr'⟩ := putK_rel (w' := w) (v := v) h hr.1 (fun ρ'' hs => ⟨(hr.2 ρ'' hs).1, (hr.2 ρ'' hs).2, fun _ => rfl⟩)
        refine ⟨v, fun w1 hw1 => ?_, xQui_sound hT rest tm' K hK hQ _ hr'⟩
        unfold Oper.quietAt
        rw [hrun ρ a w1 c dst ty pos af g hcf hca (hr.2 ρ (Same.refl _ _)).1]
        exact ⟨rfl, hv ρ w1 hw1⟩
      · obtain ⟨s, hK, hs⟩ := xPure_sound (w0 := w0) (U := U) hT h
        obtain ⟨tm', hK, hr'⟩ := putK_rel (w' := w) (v := s.den ρ) hK hr.1 (fun ρ'' hs' => ⟨(hr.2 ρ'' hs').1, (hr.2 ρ'' hs').2, fun _ => by
          have e1 := hs ρ a w dst ty pos af g (hr.2 ρ (Same.refl _ _)).1 (hr.2 ρ (Same.refl _ _)).2
          have e2 := hs ρ'' a w dst ty pos af g (hr.2 ρ'' hs').1 (hr.2 ρ'' hs').2
          rw [e1] at e2
          injection e2 with e2
          injection e2⟩)
        refine ⟨s.den ρ, fun w1 hw1 => ?_, xQui_sound hT rest tm' K hK hQ _ hr'⟩
        unfold Oper.quietAt
        rw [hs ρ a w1 dst ty pos af g (hr.2 ρ (Same.refl _ _)).1 (hw1 ρ (Same.refl _ _))]
        exact ⟨rfl, rfl⟩
    · rw [if_neg (by rw [hw]; exact Bool.false_ne_true)]
      obtain ⟨tm', hK, hr'⟩ := putK_rel (w' := w) (v := undef) h hr.1 (fun ρ'' hs => ⟨(hr.2 ρ'' hs).1, (hr.2 ρ'' hs).2, fun _ => rfl⟩)
      exact xQui_sound hT rest tm' K hK hQ _ hr'

def Post (w0 : World) (U : Nat → Prop) (m : Nat) (ρ0 : Loc) (Kn : List SV → List HE → Prop) (Ke : Nat → List SV → List HE → Prop) (Kr : List SV → List HE → Prop) : Exit → Act → World → Prop
  | .normal, a, w => ∃ ρ tm H, Rel w0 U ρ tm H a w ∧ (Same m ρ0 ρ ∧ m ≤ H.length) ∧ Kn tm H
  | .exit i, a, w => ∃ ρ tm H, Rel w0 U ρ tm H a w ∧ (Same m ρ0 ρ ∧ m ≤ H.length) ∧ Ke i tm H
  | .ret, a, w => ∃ ρ tm H, Rel w0 U ρ tm H a w ∧ (Same m ρ0 ρ ∧ m ≤ H.length) ∧ Kr tm H
  | _, _, _ => False

theorem nj_eq {s : SV} {K : SV → Prop} (h : nj s K) : K s := (nj_spec h).1
theorem forceL_spec : ∀ (l : List SV) (K : List SV → Prop), forceL l K → K l
  | [], _, h => h
  | x :: xs, K, h => by
    unfold forceL at h
    split at h
    · exact forceL_spec xs _ h
    · exact forceL_spec xs _ (nj_eq h)
theorem forceH_spec : ∀ (l : List HE) (K : List HE → Prop), forceH l K → K l
  | [], _, h => h
  | x :: xs, K, h => by
    unfold forceH at h
    split at h
    · exact forceH_spec xs _ h
    · exact forceH_spec xs _ (forceL_spec _ _ h)
    · exact forceH_spec xs _ h
    · exact forceH_spec xs _ h
    · exact forceH_spec xs _ h
    · exact forceH_spec xs _ h
    · exact forceH_spec xs _ h
theorem leT_spec {σ : List (Option Nat)} : ∀ {tm tm' : List SV}, leT σ tm tm' → tm.length = tm'.length ∧ ∀ (i : Nat) (y : SV), tm'[i]? = some y → ∃ x, tm[i]? = some x ∧ leV σ x y
  | [], [], _ => ⟨rfl, fun i s h => by simp at h⟩
  | x :: xs, y :: ys, h => by
    obtain ⟨hl, hs⟩ := leT_spec h.2
    refine ⟨by simp [hl], fun i s hi => ?_⟩
    cases i with
    | zero =>
      simp only [List.getElem?_cons_zero, Option.some.injEq] at hi ⊢
      subst hi
      exact ⟨x, rfl, h.1⟩
    | succ i => simpa using hs i s (by simpa using hi)
  | [], _ :: _, h => h.elim
  | _ :: _, [], h => h.elim
theorem leH_spec {H : List HE} {σ0 : List (Option Nat)} : ∀ {s : List (Option Nat)} {H' : List HE}, leH H σ0 s H' → s.length = H'.length ∧ ∀ (j : Nat) (y : HE), H'[j]? = some y → ∃ o, s[j]? = some o ∧ ((o = none ∧ leE σ0 none y) ∨ ∃ i x, o = some i ∧ H[i]? = some x ∧ leE σ0 (some x) y)
  | [], [], _ => ⟨rfl, fun j y h => by simp at h⟩
  | none :: s, y :: ys, h => by
    obtain ⟨hl, hs⟩ := leH_spec h.2
    refine ⟨by simp [hl], fun j z hj => ?_⟩
    cases j with
    | zero =>
      simp only [List.getElem?_cons_zero, Option.some.injEq] at hj ⊢
      subst hj
      exact ⟨none, rfl, .inl ⟨rfl, h.1⟩⟩
    | succ j => simpa using hs j z (by simpa using hj)
  | some i :: s, y :: ys, h => by
    obtain ⟨hl, hs⟩ := leH_spec h.2
    refine ⟨by simp [hl], fun j z hj => ?_⟩
    cases j with
    | zero =>
      simp only [List.getElem?_cons_zero, Option.some.injEq] at hj ⊢
      subst hj
      obtain ⟨⟨x, hx, hy⟩, _⟩ := h
      exact ⟨some i, rfl, .inr ⟨i, x, rfl, hx, hy⟩⟩
    | succ j => simpa using hs j z (by simpa using hj)
  | [], _ :: _, h => h.elim
  | none :: _, [], h => h.elim
  | some _ :: _, [], h => h.elim
mutual
theorem den_ren {σ : List (Option Nat)} {ρ ρ'' : Loc} (hρ : ∀ j, isSome' σ j = true → ρ'' j = ρ (renI σ j)) : ∀ y : SV, y.has σ = true → y.den ρ'' = (y.ren σ).den ρ
  | .junk, _ => rfl
  | .v _, _ => rfl
  | .kb _, _ => rfl
  | .p i o, h => by simp only [SV.has] at h; simp only [SV.den, SV.ren, atB, hρ i h]
  | .s i o n c, h => by simp only [SV.has] at h; simp only [SV.den, SV.ren, atB, hρ i h]
  | .rp i z r c, h => by simp only [SV.has] at h; simp only [SV.den, SV.ren, atR, hρ i h]
  | .rs i n c, h => by simp only [SV.has] at h; simp only [SV.den, SV.ren, hρ i h]
  | .os i n, h => by simp only [SV.has] at h; simp only [SV.den, SV.ren, atB', capB, hρ i h]
  | .ov i z l n, h => by simp only [SV.has] at h; simp only [SV.den, SV.ren, capB, hρ i h]
  | .m i, h => by simp only [SV.has] at h; simp only [SV.den, SV.ren, mapV, hρ i h]
  | .fn f caps, h => by
    simp only [SV.has, List.all_eq_true] at h
    simp only [SV.den, SV.ren, List.map_map]
    congr 2
    refine List.map_congr_left fun q hq => ?_
    simp only [Function.comp, capV, atB, hρ _ (h q hq)]
  | .agg cs, h => by simp only [SV.has] at h; simp only [SV.den, SV.ren, denL_ren hρ cs h]
  | .tup vs, h => by simp only [SV.has] at h; simp only [SV.den, SV.ren, denL_ren hρ vs h]
theorem denL_ren {σ : List (Option Nat)} {ρ ρ'' : Loc} (hρ : ∀ j, isSome' σ j = true → ρ'' j = ρ (renI σ j)) : ∀ cs : List SV, SV.hasL σ cs = true → SV.denL ρ'' cs = SV.denL ρ (SV.renL σ cs)
  | [], _ => rfl
  | c :: cs, h => by simp only [SV.hasL, Bool.and_eq_true] at h; simp only [SV.denL, SV.renL, den_ren hρ c h.1, denL_ren hρ cs h.2]
end
theorem nodup_inj : ∀ {σ : List (Option Nat)}, (σ.filterMap id).Nodup → ∀ {j k i : Nat}, σ[j]? = some (some i) → σ[k]? = some (some i) → j = k
  | [], _, j, k, i, hj, _ => by simp at hj
  | none :: σ, h, j, k, i, hj, hk => by
    cases j with
    | zero => simp at hj
    | succ j =>
      cases k with
      | zero => simp at hk
      | succ k => exact congrArg (· + 1) (nodup_inj (σ := σ) (j := j) (k := k) (i := i) (by simpa using h) (by simpa using hj) (by simpa using hk))
  | some m :: σ, h, j, k, i, hj, hk => by
    have h' : m ∉ σ.filterMap id ∧ (σ.filterMap id).Nodup := by simpa using h
    have mem : ∀ {q : Nat}, σ[q]? = some (some m) → m ∈ σ.filterMap id := fun hq => List.mem_filterMap.2 ⟨some m, List.mem_of_getElem? hq, rfl⟩
    cases j with
    | zero =>
      cases k with
      | zero => rfl
      | succ k =>
        simp only [List.getElem?_cons_zero, Option.some.injEq] at hj
        subst hj
        exact absurd (mem (by simpa using hk)) h'.1
    | succ j =>
      cases k with
      | zero =>
        simp only [List.getElem?_cons_zero, Option.some.injEq] at hk
        subst hk
        exact absurd (mem (by simpa using hj)) h'.1
      | succ k => exact congrArg (· + 1) (nodup_inj (σ := σ) (j := j) (k := k) (i := i) h'.2 (by simpa using hj) (by simpa using hk))
theorem leE_own {σ : List (Option Nat)} {x : HE} {t : TypeId} {sz n : Nat} {f : Nat → Nat → Value} (h : leE σ (some x) (.own t sz n f)) : ∃ f', x = .own t sz n f' ∧ ∀ r c, r < n → c < sz → f' r c = f r c := by
  cases x with
  | own t' sz' n' f' => obtain ⟨⟨rfl, rfl, rfl⟩, h⟩ := h; exact ⟨f', rfl, h⟩
  | none => exact h.elim
  | blk t cs => exact h.elim
  | row sz n f => exact h.elim
  | mp a z es st => exact h.elim
  | res w Z Q => exact h.elim
  | obj1 t p q a z es => exact h.elim
theorem leE_mp {σ : List (Option Nat)} {x : Option HE} {ag : Bool} {zk : List Value} {es : List (Value × Value)} {st : Option (Array MapEntry × Nat)} (h : leE σ x (.mp ag zk es st)) : ∃ st', x = some (.mp ag zk es st') ∧ (st = none ∨ st' = st) := by
  unfold leE at h
  simp only at h
  split at h
  · obtain ⟨⟨rfl, rfl, hs⟩, rfl⟩ := h
    exact ⟨_, rfl, hs⟩
  · exact h.elim
theorem leE_res {σ : List (Option Nat)} {x : HE} {wr : Bool} {Z : Nat → Prop} {Q : World → Prop} (h : leE σ (some x) (.res wr Z Q)) : ∃ Q', x = .res wr Z Q' ∧ ∀ u, Q' u ↔ Q u := by
  cases x with
  | res w' Z' Q' =>
    obtain ⟨⟨rfl, rfl⟩, h⟩ := h
    exact ⟨Q', rfl, h⟩
  | _ => exact h.elim
theorem leE_obj1 {σ : List (Option Nat)} {x : Option HE} {t : TypeId} {p q : List Value} {ag : Bool} {zk : List Value} {es : List (Value × Value)} (h : leE σ x (.obj1 t p q ag zk es)) : x = some (.obj1 t p q ag zk es) := by
  unfold leE at h
  simp only at h
  split at h
  · obtain ⟨⟨rfl, rfl, rfl, rfl, rfl⟩, rfl⟩ := h
    rfl
  · exact h.elim
theorem leE_blk {σ : List (Option Nat)} {x : Option HE} {t : TypeId} {cs : List SV} (h : leE σ x (.blk t cs)) : ∃ xs, x = some (.blk t xs) ∧ leCs σ xs cs := by
  unfold leE at h
  simp only at h
  split at h
  · obtain ⟨rfl, h⟩ := h
    exact ⟨_, rfl, h⟩
  · exact h.elim
theorem isB_den {x : SV} {b : Bool} (h : isB x b) (ρ : Loc) : x ≠ .junk ∧ x.den ρ = .bool b := by
  unfold isB at h
  split at h
  · subst h; exact ⟨fun h => (by cases h), rfl⟩
  · subst h; exact ⟨fun h => (by cases h), rfl⟩
  · exact h.elim
theorem leC_den {σ : List (Option Nat)} {ρ ρ'' : Loc} (hρ : ∀ j, isSome' σ j = true → ρ'' j = ρ (renI σ j)) (hnone : ∀ j, σ[j]? = some none → ρ'' j = none) {x y : SV} (h : leC σ x y) : y.den ρ'' = x.den ρ := by
  unfold leC at h
  split at h
  · exact h.elim
  · subst h; rfl
  · exact (isB_den h ρ).2.symm
  · rcases h with ⟨hh, hren⟩ | ⟨j, rfl, hσ, rfl⟩
    · rw [den_ren hρ y hh, hren]
    · simp [SV.den, atB', capB, hnone j hσ]
theorem leCs_den {σ : List (Option Nat)} {ρ ρ'' : Loc} (hρ : ∀ j, isSome' σ j = true → ρ'' j = ρ (renI σ j)) (hnone : ∀ j, σ[j]? = some none → ρ'' j = none) : ∀ {xs ys : List SV}, leCs σ xs ys → SV.denL ρ'' ys = SV.denL ρ xs
  | [], [], _ => rfl
  | x :: xs, y :: ys, h => by simp only [SV.denL, leC_den hρ hnone h.1, leCs_den hρ hnone h.2]
  | [], _ :: _, h => h.elim
  | _ :: _, [], h => h.elim
/-- What is known is forgotten in part, and named anew. -/
theorem idpB_spec : ∀ (m k : Nat) (σ : List (Option Nat)), idpB k m σ = true → m ≤ σ.length ∧ ∀ i, i < m → σ[i]? = some (some (k + i))
  | 0, _, _, _ => ⟨Nat.zero_le _, fun i h => absurd h (by omega)⟩
  | m + 1, k, some j :: s, h => by
    simp only [idpB, Bool.and_eq_true] at h
    obtain ⟨h1, h2⟩ := idpB_spec m (k + 1) s h.2
    refine ⟨by simpa using h1, fun i hi => ?_⟩
    cases i with
    | zero => simp [Nat.eq_of_beq_eq_true h.1]
    | succ i =>
      rw [List.getElem?_cons_succ, h2 i (by omega), show k + 1 + i = k + (i + 1) by omega]
  | m + 1, k, none :: s, h => by simp [idpB] at h
  | m + 1, k, [], h => by simp [idpB] at h
theorem Rel.less {m : Nat} {ρ : Loc} {tm tm' : List SV} {H H' : List HE} {a : Act} {w : World} (h : Rel w0 U ρ tm H a w) (hl : Less m tm H tm' H') : ∃ ρ', Rel w0 U ρ' tm' H' a w ∧ Same m ρ ρ' ∧ m ≤ H'.length := by
  obtain ⟨σ, ⟨hnd, hid⟩, hH, hT⟩ := hl
  obtain ⟨hml, hid⟩ := idpB_spec _ _ _ hid
  obtain ⟨tl, ts⟩ := leT_spec hT
  obtain ⟨hlen, hs⟩ := leH_spec hH
  obtain ⟨m0, h0⟩ := h.2 ρ (Same.refl _ _)
  let ρ' : Loc := fun j => match σ[j]? with | some (some i) => ρ i | _ => none
  refine ⟨ρ', ⟨h.1, fun ρ'' hr => ?_⟩, fun i hi => (by have := hid i hi; rw [Nat.zero_add] at this; simp [ρ', this]), by rw [← hlen]; exact hml⟩
  have lt : ∀ j o, σ[j]? = some o → j < H'.length := fun j o hj => by rw [← hlen]; exact (List.getElem?_eq_some_iff.1 hj).1
  have hsome : ∀ j i, σ[j]? = some (some i) → ρ'' j = ρ i := fun j i hj => by rw [hr j (lt j _ hj)]; simp [ρ', hj]
  have hnone : ∀ j, σ[j]? = some none → ρ'' j = none := fun j hj => by rw [hr j (lt j _ hj)]; simp [ρ', hj]
  have hρ : ∀ j, isSome' σ j = true → ρ'' j = ρ (renI σ j) := fun j hj => by
    unfold isSome' at hj
    split at hj
    · rename_i i hi
      rw [hsome j i hi]
      simp [renI, hi]
    · cases hj
  have src : ∀ j y, H'[j]? = some y → (∃ i x, σ[j]? = some (some i) ∧ H[i]? = some x ∧ leE σ (some x) y) ∨ (leE σ none y ∧ σ[j]? = some none) := fun j y hj => by
    obtain ⟨o, ho, ⟨rfl, hy⟩ | ⟨i, x, rfl, hx, hy⟩⟩ := hs j y hj
    · exact .inr ⟨hy, ho⟩
    · exact .inl ⟨i, x, ho, hx, hy⟩
  refine ⟨⟨m0.1.trans tl, fun i y hi hj => ?_⟩, ?_⟩
  · obtain ⟨x, hx, hv⟩ := ts i y hi
    have mx : x ≠ .junk → a.tmps[i]? = some (x.den ρ) := fun hxj => m0.2 i x hx hxj
    unfold leV at hv
    split at hv
    · exact absurd rfl hj
    · subst hv
      exact mx (fun h => by cases h)
    · rw [mx (isB_den hv ρ).1, (isB_den hv ρ).2]; rfl
    · rcases hv with ⟨hh, hren⟩ | ⟨j, rfl, hσ, rfl⟩
      · rw [den_ren hρ y hh, hren]
        refine mx (fun hx => hj ?_)
        subst hx
        cases y <;> first | rfl | (simp [SV.ren] at hren)
      · rw [mx (fun h => by cases h)]
        simp [SV.den, atB', capB, hnone j hσ]
  · have okE : ∀ j y, H'[j]? = some y → HE.ok ρ'' w j y := fun j y hj => by
      rcases src j y hj with ⟨i, x, hσ, hx, hle⟩ | ⟨hle, hn⟩
      · have hok := h0.ent i x hx
        have e := hsome j i hσ
        cases y with
        | none => trivial
        | blk t cs =>
          obtain ⟨xs, hxe, hh⟩ := leE_blk hle
          cases hxe
          obtain ⟨b, h1, h2⟩ := hok
          refine ⟨b, by rw [e]; exact h1, ?_⟩
          rw [leCs_den hρ hnone hh]
          exact h2
        | row sz n f =>
          cases hle
          intro hn
          obtain ⟨b, off, h1, h2⟩ := hok hn
          exact ⟨b, off, by rw [e]; exact h1, h2⟩
        | own t sz n f =>
          obtain ⟨f', rfl, hff⟩ := leE_own hle
          show w.ownsRow 0 t sz ((SV.os j n).den ρ'') n _
          have : (SV.os j n).den ρ'' = (SV.os i n).den ρ := by simp [SV.den, atB', capB, e]
          rw [this, ← cellsF_congr n hff]
          exact hok
        | mp ag zk es st =>
          obtain ⟨st', hx', hst⟩ := leE_mp hle
          cases hx'
          obtain ⟨r, h1, ⟨ents, clock, h2, h3, h4, h5, h8⟩, h6, h7⟩ := hok
          refine ⟨r, by rw [e]; exact h1, ⟨ents, clock, h2, h3, h4, h5, fun x h => ?_⟩, h6, h7⟩
          rcases hst with rfl | rfl
          · cases h
          · exact h8 x h
        | obj1 t p q ag zk es =>
          cases leE_obj1 hle
          obtain ⟨sb, mb, h1, h2⟩ := hok
          exact ⟨sb, mb, by rw [e]; exact h1, h2⟩
        | res wr Z Q =>
          obtain ⟨Q', hx', hq⟩ := leE_res hle
          cases hx'
          exact ⟨(hq w).1 hok.1, hok.2.1, fun w1 w2 hs h => (hq w2).1 (hok.2.2 w1 w2 hs ((hq w1).2 h))⟩
      · cases y with
        | none => trivial
        | blk t cs => obtain ⟨_, h, _⟩ := leE_blk hle; cases h
        | row sz n f => cases hle
        | own t sz n f =>
          have hle : n = 0 := hle
          subst hle
          exact ⟨by simp [cellsF], .inl ⟨by simp [SV.den, atB', capB, hnone j hn], rfl⟩⟩
        | mp ag zk es st => obtain ⟨_, h, _⟩ := leE_mp hle; cases h
        | obj1 t p q ag zk es => cases leE_obj1 hle
        | res wr Z Q => exact ⟨hle.2 w, fun b hb => absurd hb (hle.1 b), fun _ w2 _ _ => hle.2 w2⟩
    have up : ∀ (j : Nat) (y : HE) (b : Nat), H'[j]? = some y → y.foot ρ'' j b → ∃ (i : Nat) (x : HE), σ[j]? = some (some i) ∧ H[i]? = some x ∧ x.foot ρ i b ∧ (y.wr → x.wr) ∧ (y.live → x.live) := fun j y b hj hb => by
      rcases src j y hj with ⟨i, x, hσ, hx, hle⟩ | ⟨hle, hn⟩
      · have e := hsome j i hσ
        refine ⟨i, x, hσ, hx, ?_⟩
        cases y with
        | none => exact hb.elim
        | blk t cs => obtain ⟨_, h, _⟩ := leE_blk hle; cases h; exact ⟨by simpa only [HE.foot, e] using hb, fun _ => trivial, fun _ => trivial⟩
        | row sz n f => cases hle; exact ⟨by simpa only [HE.foot, e] using hb, id, id⟩
        | own t sz n f => obtain ⟨f', rfl, _⟩ := leE_own hle; exact ⟨by simpa only [HE.foot, e] using hb, fun _ => trivial, fun _ => trivial⟩
        | mp ag zk es st => obtain ⟨_, h, _⟩ := leE_mp hle; cases h; exact ⟨by simpa only [HE.foot, e] using hb, fun _ => trivial, fun _ => trivial⟩
        | obj1 t p q ag zk es => cases leE_obj1 hle; exact ⟨by simpa only [HE.foot, e] using hb, id, id⟩
        | res wr Z Q => obtain ⟨Q', hx', hq⟩ := leE_res hle; cases hx'; exact ⟨hb, id, id⟩
      · have e := hnone j hn
        cases y with
        | none => exact hb.elim
        | blk t cs => obtain ⟨a, ha, _⟩ := hb; rw [e] at ha; cases ha
        | row sz n f => obtain ⟨a, ha, _⟩ := hb; rw [e] at ha; cases ha
        | own t sz n f => obtain ⟨a, ha, _⟩ := hb; rw [e] at ha; cases ha
        | mp ag zk es st => obtain ⟨a, ha, _⟩ := hb; rw [e] at ha; cases ha
        | obj1 t p q ag zk es => obtain ⟨a, ha, _⟩ := hb; rw [e] at ha; cases ha
        | res wr Z Q => exact absurd hb (hle.1 b)
    refine ⟨okE, fun j y hj hw b hb => ?_, fun j k d e hjk hj hd hk hl b ha hb => ?_, h0.fr⟩
    · obtain ⟨i, x, hσ, hx, hf, hwr, _⟩ := up j y b hj hb
      exact h0.own i x hx (hwr hw) b hf
    · obtain ⟨i, x, hσ, hx, hf, hwr, _⟩ := up j d b hj ha
      obtain ⟨i', x', hσ', hx', hf', _, hlv⟩ := up k e b hk hb
      refine h0.dis i i' x x' (fun h => ?_) hx (hwr hd) hx' (hlv hl) b hf hf'
      subst h
      exact hjk (nodup_inj hnd hσ hσ')

theorem xCode_sound (hT : TabOK P T) {m : Nat} {ρ0 : Loc} : ∀ (c : Code) (tm : List SV) (H : List HE) (Kn : List SV → List HE → Prop) (Ke : Nat → List SV → List HE → Prop) (Kr : List SV → List HE → Prop),
    xCode P w0 U T m c tm H Kn Ke Kr → ∀ (ρ : Loc) (a : Act) (w : World), Rel w0 U ρ tm H a w → Same m ρ0 ρ ∧ m ≤ H.length → c.wp P (Post w0 U m ρ0 Kn Ke Kr) a w := by
  intro c
  induction c with
  | skip => intro tm H Kn Ke Kr h ρ a w hr hs; exact wp_skip ⟨ρ, tm, H, hr, hs, h⟩
  | region id ops draw =>
    intro tm H Kn Ke Kr h ρ a w hr hs
    have h : cRegion P w0 U T id ops draw tm H Kn Ke Kr := h
    unfold cRegion at h
    split at h
    · exact wp_region_list (xOps_sound hT _ _ _ _ h (fun ρ' tm' H' a' w' hK hr' hs' => ⟨ρ', tm', H', hr', hs', hK⟩) ρ a w hr hs)
    · split at h
      · rcases h with ⟨hB, h⟩ | h
        · refine wp_region_quiet hT.mixed hB (C := HRel w0 U ρ H) hr.drew.h ?_
          refine xQui_sound hT (w := w) _ _ _ h (fun tm' a' hK hr' w' hw' => ?_) a hr
          exact ⟨ρ, tm', H, ⟨hr'.1, fun ρ'' hs => ⟨(hr'.2 ρ'' hs).1, hw' ρ'' hs⟩⟩, hs, hK⟩
        · refine wp_mono (h.out ρ a w hr) fun e a' w' he => ?_
          obtain ⟨rfl, ρ', tm', H', hr', hs', hK⟩ := he
          exact ⟨ρ', tm', H', hr', ⟨hs.1.trans hs'.1 hs.2, Nat.le_trans hs.2 hs'.2⟩, hK⟩
      · refine wp_mono (h.out ρ a w hr) fun e a' w' he => ?_
        obtain ⟨rfl, ρ', tm', H', hr', hs', hK⟩ := he
        exact ⟨ρ', tm', H', hr', ⟨hs.1.trans hs'.1 hs.2, Nat.le_trans hs.2 hs'.2⟩, hK⟩
  | seq x y ihx ihy =>
    intro tm H Kn Ke Kr h ρ a w hr hs
    have h : cSeq (xCode P w0 U T m x) (xCode P w0 U T m y) tm H Kn Ke Kr := h
    refine wp_seq (wp_mono (ihx _ _ _ _ _ h ρ a w hr hs) fun e a' w' he => ?_)
    cases e with
    | normal =>
      obtain ⟨ρ', tm', H', hr', hs', hK⟩ := he
      exact ihy _ _ _ _ _ hK ρ' a' w' hr' hs'
    | exit i => exact he
    | ret => exact he
    | goto l => exact he.elim
    | panic ch => exact he.elim
    | outgrown => exact he.elim
  | cond c t e iht ihe =>
    intro tm H Kn Ke Kr h ρ a w hr hs
    have h : cCond c (xCode P w0 U T m t) (xCode P w0 U T m e) tm H Kn Ke Kr := h
    unfold cCond at h
    split at h
    · rename_i hb
      have ev := opd_eval' (hr.2 ρ (Same.refl _ _)).1 hb (fun h => by cases h)
      exact wp_cond_true ev (iht _ _ _ _ _ h ρ a w hr hs)
    · rename_i hb
      have ev := opd_eval' (hr.2 ρ (Same.refl _ _)).1 hb (fun h => by cases h)
      exact wp_cond_false ev (ihe _ _ _ _ _ h ρ a w hr hs)
    · rename_i b hb
      have ev := opd_eval' (hr.2 ρ (Same.refl _ _)).1 hb (fun h => by cases h)
      exact wp_cond_split ev (fun hb => iht _ _ _ _ _ (h.ht hb) ρ a w hr hs) (fun hb => ihe _ _ _ _ _ (h.hf hb) ρ a w hr hs)
    · exact h.elim
  | block id c ih =>
    intro tm H Kn Ke Kr h ρ a w hr hs
    have h : cBlock id (xCode P w0 U T m c) tm H Kn Ke Kr := h
    unfold cBlock at h
    refine wp_block (wp_mono (ih _ _ _ _ _ h ρ a w hr hs) fun e a' w' he => ?_)
    cases e with
    | normal => exact he
    | exit i =>
      obtain ⟨ρ', tm', H', hr', hs', hK⟩ := he
      simp only [Exit.inBlock]
      split at hK
      · rename_i hi
        rw [if_pos (Nat.eq_of_beq_eq_true hi)]
        exact ⟨ρ', tm', H', hr', hs', hK⟩
      · rename_i hi
        rw [if_neg (fun h => by rw [h] at hi; simp at hi)]
        exact ⟨ρ', tm', H', hr', hs', hK⟩
    | ret => exact he
    | goto l => exact he.elim
    | panic ch => exact he.elim
    | outgrown => exact he.elim
  | loop body ih =>
    intro tm H Kn Ke Kr h ρ a w hr hs
    have h : cLoop m (xCode P w0 U T m body) tm H Kn Ke Kr := h
    unfold cLoop at h
    obtain ⟨⟨α, inv, μ, st, sh, ⟨x0, hx0, hl0⟩, hround⟩⟩ := h
    have go : ∀ {ρ : Loc} {tm tm' : List SV} {H H' : List HE} {a : Act} {w : World}, Rel w0 U ρ tm H a w → Same m ρ0 ρ ∧ m ≤ H.length → Less m tm H tm' H' → ∃ ρ', Rel w0 U ρ' tm' H' a w ∧ (Same m ρ0 ρ' ∧ m ≤ H'.length) := fun hr hs hl => by
      obtain ⟨ρ', h1, h2, h3⟩ := hr.less hl
      exact ⟨ρ', h1, hs.1.trans h2 (Nat.le_refl _), h3⟩
    refine wp_loop_ghost (fun n a w => ∃ x, inv x ∧ μ x = n ∧ ∃ ρ, Rel w0 U ρ (st x) (sh x) a w ∧ (Same m ρ0 ρ ∧ m ≤ (sh x).length)) (μ x0) ⟨x0, hx0, rfl, go hr hs hl0⟩ ?_
    rintro n a w ⟨x, hx, rfl, ρ, hr, hs⟩
    have hb := forceH_spec _ _ (forceL_spec _ _ (hround x hx))
    refine wp_mono (ih _ _ _ _ _ hb ρ a w hr hs) fun e a' w' he => ?_
    cases e with
    | normal =>
      obtain ⟨ρ', tm', H', hr', hs', y, hy, hlt, hless⟩ := he
      exact ⟨μ y, hlt, y, hy, rfl, go hr' hs' hless⟩
    | exit i => exact he
    | ret => exact he
    | goto l => exact he.elim
    | panic ch => exact he.elim
    | outgrown => exact he.elim
  | exit id => intro tm H Kn Ke Kr h ρ a w hr hs; exact wp_exit ⟨ρ, tm, H, hr, hs, h⟩
  | ret => intro tm H Kn Ke Kr h ρ a w hr hs; exact wp_ret ⟨ρ, tm, H, hr, hs, h⟩
  | _ => intro tm H Kn Ke Kr h; exact h.elim

def resM (ts : Array Value) : ResultVar → Sem Value
  | .tmp t => pure (ts.getD t undef)
  | .cell a t => do loadVar t (← asAddr (ts.getD a undef))
theorem results_eq (fn : Func) (ts : Array Value) : results fn ts = (do
    let vs ← fn.results.mapM (resM ts)
    pure (if h : vs.size = 1 then vs[0] else .tuple vs)) := by
  unfold results
  congr 2
theorem xRes_sound (hT : TabOK P T) : ∀ (rs : List ResultVar) (tm : List SV) (H : List HE) (K : List SV → Prop), xRes T tm H rs K →
    ∃ ss, K ss ∧ ∀ (ρ : Loc) (ts : Array Value) (w : World), TmOk ρ tm ts → HOk w0 U ρ H w → (rs.mapM (resM ts)).run P w = .ok (SV.denL ρ ss) w
  | [], tm, H, K, h => ⟨[], h, fun ρ ts w _ _ => rfl⟩
  | .tmp t :: r, tm, H, K, h => by
    replace h : nj (getS tm t) (fun s => xRes T tm H r fun ss => K (s :: ss)) := h
    obtain ⟨h, hj⟩ := nj_spec h
    obtain ⟨ss, hK, hs⟩ := xRes_sound hT r tm H _ h
    refine ⟨_, hK, fun ρ ts w hm hh => ?_⟩
    have := hm.2 t _ (getS_spec tm t hj) hj
    have e : (resM ts (.tmp t)).run P w = .ok ((getS tm t).den ρ) w := by simp [resM, this]
    rw [List.mapM_cons]
    simp only [Sem.run_bind, e, Result.andThen_ok, hs ρ ts w hm hh, Sem.run_pure, SV.denL]
  | .cell x t :: r, tm, H, K, h => by
    replace h : loadK T H t (getS tm x) (fun s => xRes T tm H r fun ss => K (s :: ss)) := h
    obtain ⟨hj, s, h, hrun⟩ := loadK_sound (w0 := w0) (U := U) hT h
    obtain ⟨ss, hK, hs⟩ := xRes_sound hT r tm H _ h
    refine ⟨_, hK, fun ρ ts w hm hh => ?_⟩
    have := hm.2 x _ (getS_spec tm x hj) hj
    obtain ⟨hrun, ad, had⟩ := hrun ρ w hh
    rw [had] at hrun this
    simp only [Instr.loadAt, Instr.sureAddr, Sem.run_bind, Sem.run_pure, Result.andThen_ok] at hrun
    have e : (resM ts (.cell x t)).run P w = .ok (s.den ρ) w := by simp [resM, this, asAddr, hrun]
    rw [List.mapM_cons]
    simp only [Sem.run_bind, e, Result.andThen_ok, hs ρ ts w hm hh, Sem.run_pure, SV.denL]
theorem xRet_sound (hT : TabOK P T) {fn : Func} {tm : List SV} {H : List HE} {K : SV → Prop} (h : xRet T fn.results tm H K) :
    ∃ s, K s ∧ ∀ (ρ : Loc) (ts : Array Value) (w : World), TmOk ρ tm ts → HOk w0 U ρ H w → (results fn ts).run P w = .ok (s.den ρ) w := by
  obtain ⟨ss, hK, hs⟩ := xRes_sound (w0 := w0) (U := U) hT _ _ _ _ h
  have key : ∀ (ρ : Loc) (ts : Array Value) (w : World), TmOk ρ tm ts → HOk w0 U ρ H w → (results fn ts).run P w = .ok (if h : (SV.denL ρ ss).toArray.size = 1 then (SV.denL ρ ss).toArray[0] else .tuple (SV.denL ρ ss).toArray) w := fun ρ ts w hm hh => by
    have := hs ρ ts w hm hh
    simp only [results_eq, Array.mapM_eq_mapM_toList, Sem.run_bind, Sem.run_map, this, Result.andThen_ok, Sem.run_pure]
  rcases ss with _ | ⟨s, _ | ⟨s', ss⟩⟩
  · exact ⟨_, hK, fun ρ ts w hm hh => by rw [key ρ ts w hm hh]; rfl⟩
  · exact ⟨_, hK, fun ρ ts w hm hh => by rw [key ρ ts w hm hh]; simp [SV.denL]⟩
  · exact ⟨_, hK, fun ρ ts w hm hh => by rw [key ρ ts w hm hh]; simp [SV.denL, SV.den]⟩

/-- A call, by what its text comes to. -/
theorem x_calls (hT : TabOK P T) {f : FuncId} {fn : Func} {c : Code} {args : Array Value} {R : Ending → World → Prop} (hf : P.funcs[f]? = some fn) (hb : fn.body = some c)
    (svs : List SV) (H : List HE) (ρ : Loc) (hbT : SV.bddL H.length svs = true) (hargs : SV.denL ρ svs = args.toList) (hh : HRel w0 U ρ H w0)
    (h : xCode P w0 U T 0 c (svs ++ List.replicate (fn.ntmps - svs.length) (.v undef)) H
      (fun tm H' => xRet T fn.results tm H' fun s => ∀ ρ' w', HRel w0 U ρ' H' w' → R (.returned (s.den ρ')) w') (fun _ _ _ => False)
      (fun tm H' => xRet T fn.results tm H' fun s => ∀ ρ' w', HRel w0 U ρ' H' w' → R (.returned (s.den ρ')) w')) : Calls P f args w0 R := by
  have hsz : args.size = svs.length := by rw [← Array.length_toList, ← hargs, denL_length]
  have hrel : Rel w0 U ρ (svs ++ List.replicate (fn.ntmps - svs.length) (.v undef)) H { tmps := args ++ Array.replicate (fn.ntmps - args.size) undef, defers := [] } w0 := by
    refine ⟨rfl, fun ρ' hs => ⟨⟨by simp [hsz], fun i sv hi hj => ?_⟩, hh ρ' hs⟩⟩
    have e : (args ++ Array.replicate (fn.ntmps - args.size) undef).toList = SV.denL ρ' (svs ++ List.replicate (fn.ntmps - svs.length) (.v undef)) := by
      rw [denL_append, denL_same hs svs hbT, hargs, hsz]
      have : ∀ n, SV.denL ρ' (List.replicate n (.v undef)) = List.replicate n undef := fun n => by
        induction n with
        | zero => rfl
        | succ n ih => simp [List.replicate_succ, SV.denL, SV.den, ih]
      rw [this]
      simp
    rw [← Array.getElem?_toList, e, denL_get, hi]
    rfl
  refine calls_of_wp hf hb (wp_mono (xCode_sound hT (ρ0 := ρ) c _ _ _ _ _ h ρ _ w0 hrel ⟨Same.refl _ _, Nat.zero_le _⟩) fun e a' w' he => ?_)
  cases e with
  | normal =>
    obtain ⟨ρ', tm', H', hr', _, hK⟩ := he
    obtain ⟨s, hK, hs⟩ := xRet_sound (w0 := w0) (U := U) hT hK
    exact ⟨hr'.1, _, hs ρ' _ w' (hr'.2 ρ' (Same.refl _ _)).1 (hr'.2 ρ' (Same.refl _ _)).2, hK ρ' w' hr'.h⟩
  | ret =>
    obtain ⟨ρ', tm', H', hr', _, hK⟩ := he
    obtain ⟨s, hK, hs⟩ := xRet_sound (w0 := w0) (U := U) hT hK
    exact ⟨hr'.1, _, hs ρ' _ w' (hr'.2 ρ' (Same.refl _ _)).1 (hr'.2 ρ' (Same.refl _ _)).2, hK ρ' w' hr'.h⟩
  | exit i => obtain ⟨_, _, _, _, _, h⟩ := he; exact h.elim
  | goto l => exact he.elim
  | panic ch => exact he.elim
  | outgrown => exact he.elim
end
end Go.Proofs.Ytlphkjbadjdleaa
