/-
  The operations of a segment, in whatever order. No condition.
-/
import Derived.Test.YtlphkjbadjdleaaRxG
namespace Go.Proofs.Ytlphkjbadjdleaa

/-- A segment: the operations from b on, ahead of c; what each hands back, and makes, and the name of that. -/
structure Sg where
  ops : Array Oper
  b : Nat
  c : Nat
  tm0 : List SV
  H : List HE
  s : Nat → SV
  e : Nat → Option HE
def Sg.tmC (g : Sg) : Nat → List SV
  | 0 => g.tm0
  | k + 1 => match g.ops[g.b + k]? with
    | some o => setD (g.tmC k) o.dst (g.s (g.b + k))
    | none => g.tmC k
/-- The blocks that the first k make. -/
def Sg.mades (g : Sg) : Nat → List HE
  | 0 => []
  | k + 1 => g.mades k ++ (g.e (g.b + k)).toList
/-- The name of what operation k makes. -/
def Sg.nm (g : Sg) (k : Nat) : Nat := g.H.length + (g.mades (k - g.b)).length
/-- A maker of the segment. -/
def Sg.mak (g : Sg) (k : Nat) : Prop := g.b ≤ k ∧ k < g.c ∧ (g.e k).isSome = true
structure Sg.Ag (g : Sg) (D : Nat → Prop) (ρ ρ' : Loc) : Prop where
  base : Same g.H.length ρ ρ'
  made : ∀ k, D k → g.mak k → ρ' (g.nm k) = ρ (g.nm k)
/-- What the temps hold. -/
structure Sg.TmD (g : Sg) (D : Nat → Prop) (ρ : Loc) (ts : Array Value) : Prop where
  size : ts.size = g.tm0.length
  done : ∀ k o d, D k → g.b ≤ k → k < g.c → g.ops[k]? = some o → o.dst = some d → d < g.tm0.length → g.s k ≠ .junk → ts[d]? = some ((g.s k).den ρ)
  old : ∀ (t : Nat) (x : SV), (∀ k o, D k → g.b ≤ k → k < g.c → g.ops[k]? = some o → o.dst ≠ some t) → g.tm0[t]? = some x → x ≠ .junk → ts[t]? = some (x.den ρ)
structure Sg.St (g : Sg) (w0 : World) (U : Nat → Prop) (n0 : Nat) (D : Nat → Prop) (ρ : Loc) (a : Act) (w : World) : Prop where
  dfr : a.defers = []
  rel : HRel w0 U ρ g.H w
  tm : ∀ ρ', g.Ag D ρ ρ' → g.TmD D ρ' a.tmps
  ent : ∀ ρ', g.Ag D ρ ρ' → ∀ k e0, D k → g.mak k → g.e k = some e0 → e0.ok ρ' w (g.nm k)
  fresh : ∀ (k : Nat) (e0 : HE) (b : Nat), D k → g.mak k → g.e k = some e0 → e0.foot ρ (g.nm k) b → n0 ≤ b
  dis : ∀ (k k' : Nat) (d e : HE) (b : Nat), D k → D k' → k ≠ k' → g.e k = some d → g.e k' = some e → d.live → e.live → g.mak k → g.mak k' → d.foot ρ (g.nm k) b → ¬ e.foot ρ (g.nm k') b
  le : n0 ≤ w.heap.size
  low : ∀ (i : Nat) (d : HE) (b : Nat), g.H[i]? = some d → d.live → d.foot ρ i b → b < n0

theorem Sg.tmC_len (g : Sg) : ∀ k, (g.tmC k).length = g.tm0.length
  | 0 => rfl
  | k + 1 => by
    unfold Sg.tmC
    split
    · rename_i o _
      cases o.dst <;> simp [setD, g.tmC_len k]
    · exact g.tmC_len k
/-- What stands in the lexical state, is the last one's ahead of it, or the old one. -/
theorem Sg.tmC_at (g : Sg) (t : Nat) (x : SV) : ∀ k, (g.tmC k)[t]? = some x →
    (∃ j o, j < k ∧ g.ops[g.b + j]? = some o ∧ o.dst = some t ∧ t < g.tm0.length ∧ x = g.s (g.b + j)) ∨ ((∀ j o, j < k → g.ops[g.b + j]? = some o → o.dst ≠ some t) ∧ g.tm0[t]? = some x)
  | 0, h => .inr ⟨fun j o hj => absurd hj (by omega), h⟩
  | k + 1, h => by
    unfold Sg.tmC at h
    split at h
    · rename_i o ho
      by_cases hd : o.dst = some t
      · left
        rw [hd] at h
        simp only [setD, List.getElem?_set, if_pos] at h
        split at h
        · rename_i hl
          cases h
          exact ⟨k, o, by omega, ho, hd, by rw [← g.tmC_len k]; exact hl, rfl⟩
        · cases h
      · have h' : (g.tmC k)[t]? = some x := by
          cases hdst : o.dst with
          | none => rw [hdst] at h; exact h
          | some d =>
            rw [hdst] at h
            simp only [setD] at h
            rw [List.getElem?_set_ne (fun e => hd (by rw [hdst, e]))] at h
            exact h
        rcases g.tmC_at t x k h' with ⟨j, o', hj, h1⟩ | ⟨h1, h2⟩
        · exact .inl ⟨j, o', by omega, h1⟩
        · refine .inr ⟨fun j o' hj ho' => ?_, h2⟩
          by_cases hjk : j = k
          · subst hjk
            rw [ho] at ho'; cases ho'
            exact hd
          · exact h1 j o' (by omega) ho'
    · rename_i ho
      rcases g.tmC_at t x k h with ⟨j, o', hj, h1⟩ | ⟨h1, h2⟩
      · exact .inl ⟨j, o', by omega, h1⟩
      · refine .inr ⟨fun j o' hj ho' => ?_, h2⟩
        by_cases hjk : j = k
        · subst hjk
          rw [ho] at ho'; cases ho'
        · exact h1 j o' (by omega) ho'

/-- At the real state the operation sees what it sees in the lexical one. -/
theorem Sg.atOk (g : Sg) {D : Nat → Prop} {ρ : Loc} {a : Act} (h : g.TmD D ρ a.tmps) {k : Nat} {o : Oper} (hkc : g.b + k < g.c) (hsel : ∀ cs b, o.op ≠ .select cs b)
    (v1 : ∀ t ∈ o.looksAt g.ops, ∀ j oj, j < k → g.ops[g.b + j]? = some oj → oj.dst = some t → D (g.b + j))
    (v2 : ∀ t ∈ o.looksAt g.ops, ∀ j oj, g.b ≤ j → j < g.c → g.ops[j]? = some oj → oj.dst = some t → D j → j < g.b + k) :
    AtOk g.ops o (g.tmC k) ρ a := by
  let f : Nat → Value := fun t => if t ∈ o.looksAt g.ops then a.tmps.getD t undef else match (g.tmC k)[t]? with | some x => x.den ρ | none => undef
  let a' : Act := { a with tmps := ((List.range g.tm0.length).map f).toArray }
  have hget : ∀ t, t < g.tm0.length → a'.tmps[t]? = some (f t) := fun t ht => by simp [a', ht]
  have hin : ∀ t ∈ o.looksAt g.ops, a'.tmps[t]? = a.tmps[t]? := fun t ht => by
    by_cases hl : t < g.tm0.length
    · rw [hget t hl]
      have : t < a.tmps.size := by rw [h.size]; exact hl
      simp [f, ht, Array.getD, this]
    · have h1 : ¬ t < a.tmps.size := by rw [h.size]; exact hl
      simp [a', hl, h1]
  have hev : ∀ x ∈ o.op.operands, a'.eval x = a.eval x := fun x hx => by
    cases x with
    | tmp t =>
      have ht : t ∈ o.looksAt g.ops := List.mem_append_left _ (List.mem_filterMap.2 ⟨.tmp t, by simpa using hx, rfl⟩)
      have := hin t ht
      simp only [Act.eval, Array.getD_eq_getD_getElem?, this]
    | _ => rfl
  refine ⟨a', ⟨by simp [a', g.tmC_len k], fun t x hx hj => ?_⟩, hev, execOp_congr o hsel hev, ?_⟩
  · have hl : t < g.tm0.length := by rw [← g.tmC_len k]; exact (List.getElem?_eq_some_iff.1 hx).1
    rw [hget t hl]
    by_cases ht : t ∈ o.looksAt g.ops
    · have hf : f t = a.tmps.getD t undef := if_pos ht
      rw [hf, Array.getD_eq_getD_getElem?]
      suffices hs : a.tmps[t]? = some (x.den ρ) by rw [hs]; rfl
      rcases g.tmC_at t x k hx with ⟨j, oj, hjk, hoj, hd, _, rfl⟩ | ⟨hno, h0⟩
      · exact h.done (g.b + j) oj t (v1 t ht j oj hjk hoj hd) (by omega) (by omega) hoj hd hl hj
      · refine h.old t x (fun j oj hD hb hc hoj hd => ?_) h0 hj
        have := v2 t ht j oj hb hc hoj hd hD
        exact hno (j - g.b) oj (by omega) (by rw [show g.b + (j - g.b) = j by omega]; exact hoj) hd
    · simp [f, ht, hx]
  · unfold Region.wanted
    cases hg : o.guard with
    | none => rfl
    | some gw =>
      obtain ⟨i, want⟩ := gw
      have hy : yielded g.ops a'.tmps i = yielded g.ops a.tmps i := by
        unfold yielded
        cases hi : (g.ops[i]?).bind (·.dst) with
        | none => rfl
        | some d =>
          have ht : d ∈ o.looksAt g.ops := by
            unfold Oper.looksAt
            rw [hg]
            simp [hi]
          simp [hin d ht]
      simp only [hy]

theorem Sg.mades_lt (g : Sg) : ∀ {j k : Nat}, j < k → (g.e (g.b + j)).isSome = true → (g.mades j).length < (g.mades k).length
  | j, k + 1, h, he => by
    simp only [Sg.mades, List.length_append]
    rcases Nat.lt_or_ge j k with h1 | h1
    · have := g.mades_lt h1 he
      omega
    · have : j = k := by omega
      subst this
      obtain ⟨e, he⟩ := Option.isSome_iff_exists.1 he
      simp [he]
theorem Sg.mades_le (g : Sg) : ∀ {j k : Nat}, j ≤ k → (g.mades j).length ≤ (g.mades k).length
  | j, 0, h => by rw [show j = 0 by omega]; exact Nat.le_refl _
  | j, k + 1, h => by
    rcases Nat.lt_or_ge j (k + 1) with h1 | h1
    · have := g.mades_le (show j ≤ k by omega)
      simp only [Sg.mades, List.length_append]
      omega
    · rw [show j = k + 1 by omega]; exact Nat.le_refl _
/-- Names differ, and come behind those that are known. -/
theorem Sg.nm_ge (g : Sg) (k : Nat) : g.H.length ≤ g.nm k := Nat.le_add_right _ _
theorem Sg.nm_inj (g : Sg) {j k : Nat} (hj : g.mak j) (hk : g.mak k) (h : g.nm j = g.nm k) : j = k := by
  unfold Sg.nm at h
  rcases Nat.lt_trichotomy j k with h1 | h1 | h1
  · have := g.mades_lt (j := j - g.b) (k := k - g.b) (by have := hj.1; omega) (by rw [show g.b + (j - g.b) = j by have := hj.1; omega]; exact hj.2.2)
    omega
  · exact h1
  · have := g.mades_lt (j := k - g.b) (k := j - g.b) (by have := hk.1; omega) (by rw [show g.b + (k - g.b) = k by have := hk.1; omega]; exact hk.2.2)
    omega
def ext (D : Nat → Prop) (k : Nat) : Nat → Prop := fun j => D j ∨ j = k
/-- One more is done. -/
theorem Sg.step (g : Sg) {w0 : World} {U : Nat → Prop} {n0 : Nat} {D : Nat → Prop} {ρ : Loc} {a : Act} {w w' : World} (h : g.St w0 U n0 D ρ a w) {k : Nat} {o : Oper} (hb : g.b ≤ k) (hc : k < g.c) (ho : g.ops[k]? = some o) (hD : ¬ D k)
    (uniq : ∀ j oj t, D j → g.b ≤ j → j < g.c → g.ops[j]? = some oj → oj.dst = some t → o.dst ≠ some t)
    {x : Option Addr} {v : Value} (_ : ∀ b, x = some b → w.heap.size ≤ b.block) (hg : w.grownBy w' none ∨ ((∃ T : Nat → Prop, Fr T w w' ∧ ∀ b, T b → ∃ (i : Nat) (d : HE), g.H[i]? = some d ∧ d.live ∧ d.foot ρ i b) ∧ HRel w0 U ρ g.H w'))
    (hv : ∀ ρ', g.Ag D ρ ρ' → ((g.e k).isSome = true → ρ' (g.nm k) = x) → v = (g.s k).den ρ' ∧ ∀ e0, g.e k = some e0 → e0.okN w.heap.size ρ' w' (g.nm k)) :
    ∃ ρ1, g.St w0 U n0 (ext D k) ρ1 (a.put o.dst v) w' ∧ Same g.H.length ρ ρ1 := by
  have hsz : w.heap.size ≤ w'.heap.size := by
    rcases hg with hg | ⟨⟨T, hf, _⟩, _⟩
    · exact hg.size
    · exact hf.size
  have hrel : HRel w0 U ρ g.H w' := by
    rcases hg with hg | ⟨_, hr⟩
    · exact h.rel.grown0 hg
    · exact hr
  have hent : ∀ ρ', g.Ag D ρ ρ' → ∀ j e0, D j → g.mak j → g.e j = some e0 → e0.ok ρ' w' (g.nm j) := fun ρ' ha j e0 hj hmj he => by
    have h0 := h.ent ρ' ha j e0 hj hmj he
    rcases hg with hg | ⟨⟨T, hf, ht⟩, _⟩
    · exact HE.ok_grown h0 hg (fun _ _ _ => by simp)
    · refine HE.ok_fr h0 hf (fun _ b hb hT => ?_)
      obtain ⟨i, d, hi, hl, hx⟩ := ht b hT
      have h1 := h.low i d b hi hl hx
      have h2 := h.fresh j e0 b hj hmj he ((HE.foot_congr (ha.made j hj hmj) e0).1 hb)
      omega
  obtain ⟨ρ1, hsame, hold, hnew⟩ : ∃ ρ1 : Loc, Same g.H.length ρ ρ1 ∧ (∀ j, D j → g.mak j → ρ1 (g.nm j) = ρ (g.nm j)) ∧ (g.mak k → ρ1 (g.nm k) = x) := by
    by_cases hm : g.mak k
    · exact ⟨fun i => if i = g.nm k then x else ρ i, fun i hi => if_neg (Nat.ne_of_lt (Nat.lt_of_lt_of_le hi (g.nm_ge k))), fun j hj hmj => if_neg fun he => hD (g.nm_inj hmj hm he ▸ hj), fun _ => if_pos rfl⟩
    · exact ⟨ρ, Same.refl _ _, fun _ _ _ => rfl, fun h => absurd h hm⟩
  have hag : ∀ ρ', g.Ag (ext D k) ρ1 ρ' → g.Ag D ρ ρ' ∧ ((g.e k).isSome = true → ρ' (g.nm k) = x) := fun ρ' h' =>
    ⟨⟨hsame.trans h'.base (Nat.le_refl _), fun j hj hmj => (h'.made j (.inl hj) hmj).trans (hold j hj hmj)⟩, fun he => (h'.made k (.inr rfl) ⟨hb, hc, he⟩).trans (hnew ⟨hb, hc, he⟩)⟩
  have hag1 := hag ρ1 ⟨Same.refl _ _, fun _ _ _ => rfl⟩
  have dst_k : ∀ d, o.dst = some d → d < g.tm0.length → (a.put o.dst v).tmps[d]? = some v := fun d hd hl => by
    have : d < a.tmps.size := by rw [(h.tm ρ ⟨Same.refl _ _, fun _ _ _ => rfl⟩).size]; exact hl
    rw [hd]; simp [Act.put, this]
  have dst_o : ∀ t, o.dst ≠ some t → (a.put o.dst v).tmps[t]? = a.tmps[t]? := fun t ht => by
    cases hd : o.dst with
    | none => rfl
    | some d => simp [Act.put, Array.getElem?_setIfInBounds_ne (show d ≠ t from fun e => ht (by rw [hd, e]))]
  refine ⟨ρ1, ⟨?_, ?_, fun ρ' h' => ?_, fun ρ' h' j e0 hj hmj he => ?_, fun j e0 b hj hmj he hy => ?_, fun i j d e b hi hj hij hd he hld hle hmi hmj hy hz => ?_, Nat.le_trans h.le hsz, fun i d b hi hl hy => ?_⟩, hsame⟩
  · cases hd : o.dst <;> exact h.dfr
  · exact fun ρ' hs => hrel ρ' (hsame.trans hs (Nat.le_refl _))
  · obtain ⟨h1, h2⟩ := hag ρ' h'
    have ht := h.tm ρ' h1
    refine ⟨by cases hd : o.dst <;> simp [Act.put, ht.size], fun j oj d hj hjb hjc hoj hd hl hnj => ?_, fun t y hno hy hnj => ?_⟩
    · rcases hj with hj | rfl
      · rw [dst_o d (uniq j oj d hj hjb hjc hoj hd)]
        exact ht.done j oj d hj hjb hjc hoj hd hl hnj
      · rw [ho] at hoj; cases hoj
        rw [dst_k d hd hl, (hv ρ' h1 h2).1]
    · rw [dst_o t (hno k o (.inr rfl) hb hc ho)]
      exact ht.old t y (fun j oj hj => hno j oj (.inl hj)) hy hnj
  · obtain ⟨h1, h2⟩ := hag ρ' h'
    rcases hj with hj | rfl
    · exact hent ρ' h1 j e0 hj hmj he
    · exact ((hv ρ' h1 h2).2 e0 he).1
  · rcases hj with hj | rfl
    · rw [HE.foot_congr (hold j hj hmj)] at hy
      exact h.fresh j e0 b hj hmj he hy
    · exact Nat.le_trans h.le (((hv ρ1 hag1.1 hag1.2).2 e0 he).2 b hy)
  · have lt : ∀ (i : Nat) (d : HE), D i → g.mak i → g.e i = some d → d.live → d.foot ρ1 (g.nm i) b → b < w.heap.size := fun i d hi hmi hd hl hy => by
      rw [HE.foot_congr (hold i hi hmi)] at hy
      exact HE.ok_lt (h.ent ρ ⟨Same.refl _ _, fun _ _ _ => rfl⟩ i d hi hmi hd) hl hy
    rcases hi with hi | rfl <;> rcases hj with hj | rfl
    · rw [HE.foot_congr (hold i hi hmi)] at hy
      rw [HE.foot_congr (hold j hj hmj)] at hz
      exact h.dis i j d e b hi hj hij hd he hld hle hmi hmj hy hz
    · have h1 := lt i d hi hmi hd hld hy
      have h2 := ((hv ρ1 hag1.1 hag1.2).2 e he).2 b hz
      omega
    · have h1 := lt j e hj hmj he hle hz
      have h2 := ((hv ρ1 hag1.1 hag1.2).2 d hd).2 b hy
      omega
    · exact absurd rfl hij
  · rw [HE.foot_congr (hsame i (List.getElem?_eq_some_iff.1 hi).1)] at hy
    exact h.low i d b hi hl hy

theorem Sg.mades_at (g : Sg) : ∀ (n i : Nat) (e : HE), (g.mades n)[i]? = some e → ∃ k, k < n ∧ g.e (g.b + k) = some e ∧ i = (g.mades k).length
  | 0, i, e, h => by simp [Sg.mades] at h
  | n + 1, i, e, h => by
    simp only [Sg.mades, List.getElem?_append] at h
    split at h
    · obtain ⟨k, hk, h1, h2⟩ := g.mades_at n i e h
      exact ⟨k, by omega, h1, h2⟩
    · rename_i hl
      cases he : g.e (g.b + n) with
      | none => simp [he] at h
      | some e' =>
        rw [he] at h
        simp only [Option.toList_some] at h
        have h0 : i - (g.mades n).length = 0 := by
          have := (List.getElem?_eq_some_iff.1 h).1
          simp at this
          omega
        rw [h0] at h
        simp at h
        subst h
        exact ⟨n, by omega, he, by omega⟩
/-- At the end of a segment all is as in the lexical order. -/
theorem Sg.fin (g : Sg) {w0 : World} {U : Nat → Prop} {n0 : Nat} {D : Nat → Prop} {ρ : Loc} {a : Act} {w : World} (h : g.St w0 U n0 D ρ a w) {n : Nat} (hn : g.c = g.b + n) (hD : ∀ k, g.b ≤ k → k < g.c → D k) (h0 : w0.heap.size ≤ n0) : Rel w0 U ρ (g.tmC n) (g.H ++ g.mades n) a w := by
  refine ⟨h.dfr, fun ρ' hs => ?_⟩
  have hb : Same g.H.length ρ ρ' := hs.mono (by simp)
  have nmlt : ∀ k, g.mak k → g.nm k < (g.H ++ g.mades n).length := fun k hk => by
    obtain ⟨h1, h2, h3⟩ := hk
    have := g.mades_lt (j := k - g.b) (k := n) (by omega) (by rw [show g.b + (k - g.b) = k by omega]; exact h3)
    simp only [Sg.nm, List.length_append]
    omega
  have ag : g.Ag D ρ ρ' := ⟨hb, fun k _ hm => hs _ (nmlt k hm)⟩
  have ht := h.tm ρ' ag
  have hok := h.rel ρ' hb
  have key : ∀ i e, (g.H ++ g.mades n)[i]? = some e → (g.H[i]? = some e) ∨ ∃ k, g.mak k ∧ D k ∧ g.e k = some e ∧ i = g.nm k := fun i e hi => by
    rw [List.getElem?_append] at hi
    split at hi
    · exact .inl hi
    · rename_i hl
      obtain ⟨k, hk, h1, h2⟩ := g.mades_at n _ _ hi
      have hm : g.mak (g.b + k) := ⟨by omega, by omega, by rw [h1]; rfl⟩
      exact .inr ⟨g.b + k, hm, hD _ (by omega) (by omega), h1, by simp only [Sg.nm]; rw [show g.b + k - g.b = k by omega]; omega⟩
  have wl : ∀ d : HE, d.wr → d.live := fun _ hd => HE.wr_live hd
  refine ⟨⟨by rw [ht.size, g.tmC_len], fun t x hx hj => ?_⟩, fun i e hi => ?_, fun i e hi hw x hx => ?_, fun i j d e hij hi hd hj hl x hx hy => ?_, hok.fr⟩
  · have hl : t < g.tm0.length := by rw [← g.tmC_len n]; exact (List.getElem?_eq_some_iff.1 hx).1
    rcases g.tmC_at t x n hx with ⟨j, oj, hjk, hoj, hd, _, rfl⟩ | ⟨hno, h0⟩
    · exact ht.done (g.b + j) oj t (hD _ (by omega) (by omega)) (by omega) (by omega) hoj hd hl hj
    · refine ht.old t x (fun j oj _ hb hc hoj hd => ?_) h0 hj
      exact hno (j - g.b) oj (by omega) (by rw [show g.b + (j - g.b) = j by omega]; exact hoj) hd
  · rcases key i e hi with hi | ⟨k, hm, hDk, he, rfl⟩
    · exact hok.ent i e hi
    · exact h.ent ρ' ag k e hDk hm he
  · rcases key i e hi with hi | ⟨k, hm, hDk, he, rfl⟩
    · exact hok.own i e hi hw x hx
    · rw [HE.foot_congr (ag.made k hDk hm)] at hx
      exact .inl (Nat.le_trans h0 (h.fresh k e x hDk hm he hx))
  · rcases key i d hi with hi' | ⟨k, hm, hDk, he, rfl⟩ <;> rcases key j e hj with hj' | ⟨k', hm', hDk', he', rfl⟩
    · exact hok.dis i j d e hij hi' hd hj' hl x hx hy
    · have h1 := h.low i d x hi' (wl d hd) ((HE.foot_congr (hb i (List.getElem?_eq_some_iff.1 hi').1) d).1 hx)
      have h2 := h.fresh k' e x hDk' hm' he' ((HE.foot_congr (ag.made k' hDk' hm') e).1 hy)
      omega
    · have h1 := h.low j e x hj' hl ((HE.foot_congr (hb j (List.getElem?_eq_some_iff.1 hj').1) e).1 hy)
      have h2 := h.fresh k d x hDk hm he ((HE.foot_congr (ag.made k hDk hm) d).1 hx)
      omega
    · exact h.dis k k' d e x hDk hDk' (fun e => hij (by rw [e])) he he' (wl d hd) hl hm hm' ((HE.foot_congr (ag.made k hDk hm) d).1 hx) ((HE.foot_congr (ag.made k' hDk' hm') e).1 hy)
theorem HE.ok_same {n : Nat} {ρ ρ' : Loc} {w : World} {i : Nat} {e : HE} (h : e.ok ρ w i) (hb : e.bdd n = true) (hi : i < n) (hs : Same n ρ ρ') : e.ok ρ' w i := by
  have e1 := hs i hi
  cases e with
  | none => trivial
  | blk ty cs =>
    obtain ⟨b, h1, h2⟩ := h
    exact ⟨b, e1.trans h1, by rw [denL_same hs cs hb]; exact h2⟩
  | row sz m f =>
    intro hn
    obtain ⟨b, off, h1, h2⟩ := h hn
    exact ⟨b, off, e1.trans h1, h2⟩
  | own ty sz m f =>
    have e2 : (SV.os i m).den ρ' = (SV.os i m).den ρ := by simp [SV.den, atB', capB, e1]
    show World.ownsRow _ 0 ty sz ((SV.os i m).den ρ') m _
    rw [e2]
    exact h
  | mp ag zk es st =>
    obtain ⟨r, h1, h2⟩ := h
    exact ⟨r, e1.trans h1, h2⟩
  | obj1 ty p q ag zk es =>
    obtain ⟨sb, mb, h1, h2⟩ := h
    exact ⟨sb, mb, e1.trans h1, h2⟩
  | res wr Z Q => exact h
/-- What is made, and seen, is known beside what was known ahead. -/
theorem Sg.vis_rel (g : Sg) {w0 : World} {U : Nat → Prop} {n0 : Nat} {D : Nat → Prop} {ρ : Loc} {a : Act} {w : World} (h : g.St w0 U n0 D ρ a w) (h0 : w0.heap.size ≤ n0) {vis : List HE}
    (hv : ∀ t e, vis[t]? = some e → e ≠ .none → ∃ k, g.mak k ∧ D k ∧ g.e k = some e ∧ g.nm k = g.H.length + t) (hb : ∀ e ∈ vis, e.bdd (g.H.length + vis.length) = true) : ∀ ρ', g.Ag D ρ ρ' → HRel w0 U ρ' (g.H ++ vis) w := by
  intro ρ' hag ρ'' hs
  have hbase : Same g.H.length ρ ρ'' := hag.base.trans (hs.mono (n := g.H.length) (by simp)) (Nat.le_refl _)
  have hok := h.rel ρ'' hbase
  let ρ3 : Loc := fun n => if n < (g.H ++ vis).length then ρ'' n else ρ' n
  have h3 : Same (g.H.length + vis.length) ρ3 ρ'' := fun i hi => by simp [ρ3, hi]
  have hag3 : g.Ag D ρ ρ3 := ⟨fun i hi => by
      have : i < (g.H ++ vis).length := by simp; omega
      simp only [ρ3, if_pos this]; exact hbase i hi, fun k hk hm => by
      by_cases hlt : g.nm k < (g.H ++ vis).length
      · simp only [ρ3, if_pos hlt]; rw [hs _ hlt]; exact hag.made k hk hm
      · simp only [ρ3, if_neg hlt]; exact hag.made k hk hm⟩
  have key : ∀ i e, (g.H ++ vis)[i]? = some e → e ≠ .none → (g.H[i]? = some e) ∨ ∃ k, g.mak k ∧ D k ∧ g.e k = some e ∧ i = g.nm k ∧ e ∈ vis ∧ i < (g.H ++ vis).length := fun i e hi hne => by
    have hlen := (List.getElem?_eq_some_iff.1 hi).1
    rw [List.getElem?_append] at hi
    split at hi
    · exact .inl hi
    · rename_i hl
      obtain ⟨k, h1, h2, h4, h5⟩ := hv _ _ hi hne
      exact .inr ⟨k, h1, h2, h4, by omega, List.mem_of_getElem? hi, hlen⟩
  have at_k : ∀ k, g.mak k → D k → g.nm k < (g.H ++ vis).length → ρ'' (g.nm k) = ρ (g.nm k) := fun k hm hk hlt => by rw [hs _ hlt]; exact hag.made k hk hm
  have wl : ∀ d : HE, d.wr → d.live := fun _ hd => HE.wr_live hd
  have ne_w : ∀ d : HE, d.wr → d ≠ .none := fun d hd he => by rw [he] at hd; exact hd
  have ne_l : ∀ d : HE, d.live → d ≠ .none := fun d hd he => by rw [he] at hd; exact hd
  refine ⟨fun i e hi => ?_, fun i e hi hw x hx => ?_, fun i j d e hij hi hd hj hl x hx hy => ?_, hok.fr⟩
  · by_cases hne : e = .none
    · subst hne; trivial
    rcases key i e hi hne with hi | ⟨k, hm, hDk, he, rfl, hmem, hlt⟩
    · exact hok.ent i e hi
    · exact HE.ok_same (h.ent ρ3 hag3 k e hDk hm he) (hb e hmem) (by simpa using hlt) h3
  · rcases key i e hi (ne_w e hw) with hi | ⟨k, hm, hDk, he, rfl, hmem, hlt⟩
    · exact hok.own i e hi hw x hx
    · rw [HE.foot_congr (at_k k hm hDk hlt)] at hx
      exact .inl (Nat.le_trans h0 (h.fresh k e x hDk hm he hx))
  · rcases key i d hi (ne_w d hd) with hi' | ⟨k, hm, hDk, he, rfl, hmem, hlt⟩ <;> rcases key j e hj (ne_l e hl) with hj' | ⟨k', hm', hDk', he', rfl, hmem', hlt'⟩
    · exact hok.dis i j d e hij hi' hd hj' hl x hx hy
    · have h1 := h.low i d x hi' (wl d hd) ((HE.foot_congr (hbase i (List.getElem?_eq_some_iff.1 hi').1) d).1 hx)
      have h2 := h.fresh k' e x hDk' hm' he' ((HE.foot_congr (at_k k' hm' hDk' hlt') e).1 hy)
      omega
    · have h1 := h.low j e x hj' hl ((HE.foot_congr (hbase j (List.getElem?_eq_some_iff.1 hj').1) e).1 hy)
      have h2 := h.fresh k d x hDk hm he ((HE.foot_congr (at_k k hm hDk hlt) d).1 hx)
      omega
    · exact h.dis k k' d e x hDk hDk' (fun e => hij (by rw [e])) he he' (wl d hd) hl hm hm' ((HE.foot_congr (at_k k hm hDk hlt) d).1 hx) ((HE.foot_congr (at_k k' hm' hDk' hlt') e).1 hy)
/-- At the beginning nothing is done. -/
theorem Sg.start (g : Sg) {w0 : World} {U : Nat → Prop} {ρ : Loc} {a : Act} {w : World} (h : Rel w0 U ρ g.tm0 g.H a w) : g.St w0 U w.heap.size (fun _ => False) ρ a w :=
  ⟨h.1, h.h, fun ρ' ha => ⟨(h.2 ρ' ha.base).1.1, fun _ _ _ h => h.elim, fun t x _ hx hj => (h.2 ρ' ha.base).1.2 t x hx hj⟩, fun _ _ _ _ h => h.elim, fun _ _ _ h => h.elim, fun _ _ _ _ _ h => h.elim, Nat.le_refl _, fun _ _ _ hi hl hx => live_lt (h.2 ρ (Same.refl _ _)).2 hi hl hx⟩
end Go.Proofs.Ytlphkjbadjdleaa
