/-
  The walk of a region that draws its order: segments and barriers. The operations of a segment, in whatever order. A region that draws its order: its pieces, one after the other. A region that draws its order runs as its pieces do. No condition.
-/
import Derived.Test.YtghfigeepnbjaaaGreatP3
namespace Go.Proofs.YtghfigeepnbjaaaGreat

def mkB (o : Op) : Bool := match o with
  | .alloc _ => true
  | .box _ _ => true
  | .buildSlice _ _ _ => true
  | .makeSlice _ _ _ => true
  | .makeMap _ _ => true
  | .call c => match c.callee with
    | .builtin .append => true
    | _ => false
  | _ => false
section
variable (P : Program) (w0 : World) (U : Nat → Prop) (T : Tab)
/-- An operation of a segment. -/
def sOp (nb : Nat) (tm : List SV) (H : List HE) (N : Nat) (o : Op) (K : SV → Option HE → Prop) : Prop := match callOf o with
  | some (f, args) => callX T tm f args fun g ss => CallS P w0 U nb g ss H N K
  | none => match mkB o with
    | true => xMk T tm H N o fun s e => K s (some e)
    | false => xPure T tm H o fun s => K s none
end
section
variable {P : Program} {w0 : World} {U : Nat → Prop} {T : Tab}
theorem sOp_law (hT : TabOK P T) {nb : Nat} {ops : Array Oper} {tm : List SV} {H : List HE} {N : Nat} {o : Oper} {K : SV → Option HE → Prop} (h : sOp P w0 U T nb tm H N o.op K) : ∃ s e, K s e ∧ OpLaw P w0 U nb ops o tm H N s e := by
  unfold sOp at h
  split at h
  · rename_i f args hc
    exact op_call hT hc h
  · split at h
    · obtain ⟨s, e, hK, hl⟩ := op_mk (w0 := w0) (U := U) (ops := ops) hT h
      exact ⟨s, some e, hK, hl⟩
    · obtain ⟨s, hK, hl⟩ := op_pure (w0 := w0) (U := U) (ops := ops) hT h
      exact ⟨s, none, hK, hl⟩

/-- Whatever the blocks are called, they denote the same. -/
def DEq (tm tm' : List SV) : Prop := tm'.length = tm.length ∧ ∀ (i : Nat) (x : SV), tm'[i]? = some x → x ≠ .junk → ∃ y, tm[i]? = some y ∧ y ≠ .junk ∧ ∀ ρ, x.den ρ = y.den ρ
theorem DEq.refl (tm : List SV) : DEq tm tm := ⟨rfl, fun _ x h hj => ⟨x, h, hj, fun _ => rfl⟩⟩
theorem DEq.trans {a b c : List SV} (h : DEq a b) (k : DEq b c) : DEq a c :=
  ⟨k.1.trans h.1, fun i x hx hj => by
    obtain ⟨y, hy, hyj, e⟩ := k.2 i x hx hj
    obtain ⟨z, hz, hzj, e'⟩ := h.2 i y hy hyj
    exact ⟨z, hz, hzj, fun ρ => (e ρ).trans (e' ρ)⟩⟩
theorem DEq.tmOk {tm tm' : List SV} (h : DEq tm tm') {ρ : Loc} {ts : Array Value} (hm : TmOk ρ tm ts) : TmOk ρ tm' ts :=
  ⟨hm.1.trans h.1.symm, fun i x hx hj => by
    obtain ⟨y, hy, hyj, e⟩ := h.2 i x hx hj
    rw [hm.2 i y hy hyj, e]⟩
theorem DEq.set {tm tm' : List SV} (h : DEq tm tm') (d : Nat) (s : SV) : DEq (tm.set d s) (tm'.set d s) := by
  refine ⟨by simp [h.1], fun i x hx hj => ?_⟩
  rw [List.getElem?_set] at hx ⊢
  by_cases hd : d = i
  · subst hd
    rw [if_pos rfl] at hx ⊢
    by_cases hl : d < tm'.length
    · rw [if_pos hl] at hx
      cases hx
      exact ⟨s, by rw [if_pos (by rw [← h.1]; exact hl)], hj, fun _ => rfl⟩
    · rw [if_neg hl] at hx; cases hx
  · rw [if_neg hd] at hx ⊢
    exact h.2 i x hx hj
theorem DEq.know {tm : List SV} {d : Nat} {b c : Bool} (hd : getS tm d = .v (.bool b)) (hb : b = c) : DEq tm (tm.set d (.kb c)) := by
  refine ⟨by simp, fun i x hx hj => ?_⟩
  rw [List.getElem?_set] at hx
  by_cases h : d = i
  · subst h
    have h1 := getS_spec tm d (by rw [hd]; intro h; cases h)
    rw [hd] at h1
    rw [if_pos rfl] at hx
    split at hx
    · cases hx
      exact ⟨_, h1, fun h => (by cases h), fun ρ => by rw [hb]; rfl⟩
    · cases hx
  · rw [if_neg h] at hx
    exact ⟨x, hx, hj, fun _ => rfl⟩
theorem guardK_sem {ops : Array Oper} {tm : List SV} {o : Oper} {yes no : List SV → Prop} (h : guardK ops tm o.guard yes no) :
    ∃ tm' want, DEq tm tm' ∧ (want = true → yes tm') ∧ (want = false → no tm') ∧ ∀ (ρ : Loc) (a : Act), TmOk ρ tm a.tmps → Region.wanted o (yielded ops a.tmps) = want := by
  generalize ho : o.guard = g at h
  unfold guardK at h
  split at h
  · exact ⟨tm, true, DEq.refl _, fun _ => h, (fun h => by cases h), fun ρ a _ => by simp [Region.wanted, ho]⟩
  · rename_i j want
    split at h
    · rename_i hd
      refine ⟨tm, false, DEq.refl _, (fun h => by cases h), fun _ => h, fun ρ a _ => by simp [Region.wanted, ho, yielded, hd]⟩
    · rename_i d hd
      have look : ∀ {s : SV}, getS tm d = s → s ≠ .junk → ∀ (ρ : Loc) (a : Act), TmOk ρ tm a.tmps → a.tmps[d]? = some (s.den ρ) := fun {s} hs hj ρ a hm => by
        have h1 := getS_spec tm d (by rw [hs]; exact hj)
        rw [hs] at h1
        exact hm.2 d s h1 hj
      split at h
      · rename_i hb
        have hy : ∀ (ρ : Loc) (a : Act), TmOk ρ tm a.tmps → yielded ops a.tmps j = some true := fun ρ a hm => by simp [yielded, hd, look hb (fun h => by cases h) ρ a hm, SV.den]
        cases want
        · exact ⟨tm, false, DEq.refl _, (fun h => by cases h), fun _ => h, fun ρ a hm => by simp [Region.wanted, ho, hy ρ a hm]⟩
        · exact ⟨tm, true, DEq.refl _, fun _ => h, (fun h => by cases h), fun ρ a hm => by simp [Region.wanted, ho, hy ρ a hm]⟩
      · rename_i hb
        have hy : ∀ (ρ : Loc) (a : Act), TmOk ρ tm a.tmps → yielded ops a.tmps j = some false := fun ρ a hm => by simp [yielded, hd, look hb (fun h => by cases h) ρ a hm, SV.den]
        cases want
        · exact ⟨tm, true, DEq.refl _, fun _ => h, (fun h => by cases h), fun ρ a hm => by simp [Region.wanted, ho, hy ρ a hm]⟩
        · exact ⟨tm, false, DEq.refl _, (fun h => by cases h), fun _ => h, fun ρ a hm => by simp [Region.wanted, ho, hy ρ a hm]⟩
      · rename_i b hb
        have hy : ∀ (ρ : Loc) (a : Act), TmOk ρ tm a.tmps → yielded ops a.tmps j = some b := fun ρ a hm => by simp [yielded, hd, look hb (fun h => by cases h) ρ a hm, SV.den]
        cases want <;> cases hbv : b
        · exact ⟨_, true, DEq.know hb hbv, fun _ => setK_spec _ _ _ _ (h.hf hbv), (fun h => by cases h), fun ρ a hm => by simp [Region.wanted, ho, hy ρ a hm, hbv]⟩
        · exact ⟨_, false, DEq.know hb hbv, (fun h => by cases h), fun _ => setK_spec _ _ _ _ (h.ht hbv), fun ρ a hm => by simp [Region.wanted, ho, hy ρ a hm, hbv]⟩
        · exact ⟨_, false, DEq.know hb hbv, (fun h => by cases h), fun _ => setK_spec _ _ _ _ (h.hf hbv), fun ρ a hm => by simp [Region.wanted, ho, hy ρ a hm, hbv]⟩
        · exact ⟨_, true, DEq.know hb hbv, fun _ => setK_spec _ _ _ _ (h.ht hbv), (fun h => by cases h), fun ρ a hm => by simp [Region.wanted, ho, hy ρ a hm, hbv]⟩
      · rename_i vs hb
        exact ⟨tm, false, DEq.refl _, (fun h => by cases h), fun _ => h, fun ρ a hm => by simp [Region.wanted, ho, yielded, hd, look hb (fun h => by cases h) ρ a hm, SV.den]⟩
      · exact h.elim
def setD (tm : List SV) (dst : Option Tmp) (s : SV) : List SV := match dst with | none => tm | some d => tm.set d s
theorem putK_setD {dst : Option Tmp} {tm : List SV} {s : SV} {K : List SV → Prop} (h : putK dst tm s K) : K (setD tm dst s) := by
  cases dst with
  | none => exact h
  | some d => exact setK_spec _ _ _ _ h
theorem DEq.setD {tm tm' : List SV} (h : DEq tm tm') (d : Option Tmp) (s : SV) : DEq (setD tm d s) (setD tm' d s) := by
  cases d with
  | none => exact h
  | some d => exact h.set d s
/-- One operation of a segment, with its guard. -/
theorem seg_law (hT : TabOK P T) {nb : Nat} {ops : Array Oper} {tm0 tm : List SV} (hd : DEq tm0 tm) {H : List HE} {N : Nat} {o : Oper} {K : List SV → Option HE → Prop}
    (h : guardK ops tm o.guard (fun tm => sOp P w0 U T nb tm H N o.op fun s e => putK o.dst tm s fun tm' => K tm' e) (fun tm => putK o.dst tm (.v undef) fun tm' => K tm' none)) :
    ∃ s e tm', K tm' e ∧ SegLaw P w0 U nb ops o tm0 H N s e ∧ DEq (setD tm0 o.dst s) tm' := by
  obtain ⟨tm1, want, hd1, hy, hn, hw⟩ := guardK_sem h
  cases want
  · refine ⟨.v undef, none, _, putK_setD (hn rfl), fun a w G ρ hg hm _ _ _ next Q hnx => .inr ⟨by obtain ⟨a', h1, _, _, h4⟩ := hm ρ hg; rw [← h4]; exact hw ρ a' (hd.tmOk h1), ?_⟩, (hd.trans hd1).setD _ _⟩
    exact hnx none undef w (fun b hb => by simp at hb) (.inl (only_refl _ _)) fun ρ' _ _ => ⟨rfl, fun _ h => by cases h⟩
  · obtain ⟨s, e, hK, hl⟩ := sOp_law (ops := ops) hT (hy rfl)
    refine ⟨s, e, _, putK_setD hK, fun a w G ρ hg hm hs hr hb next Q hnx => .inl ⟨by obtain ⟨a', h1, _, _, h4⟩ := hm ρ hg; rw [← h4]; exact hw ρ a' (hd.tmOk h1), ?_⟩, (hd.trans hd1).setD _ _⟩
    exact hl a w G ρ hg (fun ρ' hg' => by obtain ⟨a', h1, h2⟩ := hm ρ' hg'; exact ⟨a', (hd.trans hd1).tmOk h1, h2⟩) hs hr hb next Q hnx
end
end Go.Proofs.YtghfigeepnbjaaaGreat
namespace Go.Proofs.YtghfigeepnbjaaaGreat

/-- A segment: the operations from b on, ahead of c; what each hands back, and makes, and the name of that. -/
structure Sg where
  ops : Array Oper
  b : Nat
  c : Nat
  tm0 : List SV
  H : List HE
  s : Nat → SV
  e : Nat → Option HE
def Sg.tmC (g : Sg) : Nat → List SV
  | 0 => g.tm0
  | k + 1 => match g.ops[g.b + k]? with
    | some o => setD (g.tmC k) o.dst (g.s (g.b + k))
    | none => g.tmC k
/-- The blocks that the first k make. -/
def Sg.mades (g : Sg) : Nat → List HE
  | 0 => []
  | k + 1 => g.mades k ++ (g.e (g.b + k)).toList
/-- The name of what operation k makes. -/
def Sg.nm (g : Sg) (k : Nat) : Nat := g.H.length + (g.mades (k - g.b)).length
/-- A maker of the segment. -/
def Sg.mak (g : Sg) (k : Nat) : Prop := g.b ≤ k ∧ k < g.c ∧ (g.e k).isSome = true
structure Sg.Ag (g : Sg) (D : Nat → Prop) (ρ ρ' : Loc) : Prop where
  base : Same g.H.length ρ ρ'
  made : ∀ k, D k → g.mak k → ρ' (g.nm k) = ρ (g.nm k)
/-- What the temps hold. -/
structure Sg.TmD (g : Sg) (D : Nat → Prop) (ρ : Loc) (ts : Array Value) : Prop where
  size : ts.size = g.tm0.length
  done : ∀ k o d, D k → g.b ≤ k → k < g.c → g.ops[k]? = some o → o.dst = some d → d < g.tm0.length → g.s k ≠ .junk → ts[d]? = some ((g.s k).den ρ)
  old : ∀ (t : Nat) (x : SV), (∀ k o, D k → g.b ≤ k → k < g.c → g.ops[k]? = some o → o.dst ≠ some t) → g.tm0[t]? = some x → x ≠ .junk → ts[t]? = some (x.den ρ)
structure Sg.St (g : Sg) (w0 : World) (U : Nat → Prop) (n0 : Nat) (D : Nat → Prop) (ρ : Loc) (a : Act) (w : World) : Prop where
  dfr : a.defers = []
  rel : HRel w0 U ρ g.H w
  tm : ∀ ρ', g.Ag D ρ ρ' → g.TmD D ρ' a.tmps
  ent : ∀ ρ', g.Ag D ρ ρ' → ∀ k e0, D k → g.mak k → g.e k = some e0 → e0.ok ρ' w (g.nm k)
  fresh : ∀ (k : Nat) (e0 : HE) (b : Nat), D k → g.mak k → g.e k = some e0 → e0.foot ρ (g.nm k) b → n0 ≤ b
  dis : ∀ (k k' : Nat) (d e : HE) (b : Nat), D k → D k' → k ≠ k' → g.e k = some d → g.e k' = some e → d.live → e.live → g.mak k → g.mak k' → d.foot ρ (g.nm k) b → ¬ e.foot ρ (g.nm k') b
  le : n0 ≤ w.heap.size
  low : ∀ (i : Nat) (d : HE) (b : Nat), g.H[i]? = some d → d.live → d.foot ρ i b → b < n0

theorem Sg.tmC_len (g : Sg) : ∀ k, (g.tmC k).length = g.tm0.length
  | 0 => rfl
  | k + 1 => by
    unfold Sg.tmC
    split
    · rename_i o _
      cases o.dst <;> simp [setD, g.tmC_len k]
    · exact g.tmC_len k
/-- What stands in the lexical state, is the last one's ahead of it, or the old one. -/
theorem Sg.tmC_at (g : Sg) (t : Nat) (x : SV) : ∀ k, (g.tmC k)[t]? = some x →
    (∃ j o, j < k ∧ g.ops[g.b + j]? = some o ∧ o.dst = some t ∧ t < g.tm0.length ∧ x = g.s (g.b + j)) ∨ ((∀ j o, j < k → g.ops[g.b + j]? = some o → o.dst ≠ some t) ∧ g.tm0[t]? = some x)
  | 0, h => .inr ⟨fun j o hj => absurd hj (by omega), h⟩
  | k + 1, h => by
    unfold Sg.tmC at h
    split at h
    · rename_i o ho
      by_cases hd : o.dst = some t
      · left
        rw [hd] at h
        simp only [setD, List.getElem?_set, if_pos] at h
        split at h
        · rename_i hl
          cases h
          exact ⟨k, o, by omega, ho, hd, by rw [← g.tmC_len k]; exact hl, rfl⟩
        · cases h
      · have h' : (g.tmC k)[t]? = some x := by
          cases hdst : o.dst with
          | none => rw [hdst] at h; exact h
          | some d =>
            rw [hdst] at h
            simp only [setD] at h
            rw [List.getElem?_set_ne (fun e => hd (by rw [hdst, e]))] at h
            exact h
        rcases g.tmC_at t x k h' with ⟨j, o', hj, h1⟩ | ⟨h1, h2⟩
        · exact .inl ⟨j, o', by omega, h1⟩
        · refine .inr ⟨fun j o' hj ho' => ?_, h2⟩
          by_cases hjk : j = k
          · subst hjk
            rw [ho] at ho'; cases ho'
            exact hd
          · exact h1 j o' (by omega) ho'
    · rename_i ho
      rcases g.tmC_at t x k h with ⟨j, o', hj, h1⟩ | ⟨h1, h2⟩
      · exact .inl ⟨j, o', by omega, h1⟩
      · refine .inr ⟨fun j o' hj ho' => ?_, h2⟩
        by_cases hjk : j = k
        · subst hjk
          rw [ho] at ho'; cases ho'
        · exact h1 j o' (by omega) ho'

/-- At the real state the operation sees what it sees in the lexical one. -/
theorem Sg.atOk (g : Sg) {D : Nat → Prop} {ρ : Loc} {a : Act} (h : g.TmD D ρ a.tmps) {k : Nat} {o : Oper} (hkc : g.b + k < g.c) (hsel : ∀ cs b, o.op ≠ .select cs b)
    (v1 : ∀ t ∈ o.looksAt g.ops, ∀ j oj, j < k → g.ops[g.b + j]? = some oj → oj.dst = some t → D (g.b + j))
    (v2 : ∀ t ∈ o.looksAt g.ops, ∀ j oj, g.b ≤ j → j < g.c → g.ops[j]? = some oj → oj.dst = some t → D j → j < g.b + k) :
    AtOk g.ops o (g.tmC k) ρ a := by
  let f : Nat → Value := fun t => if t ∈ o.looksAt g.ops then a.tmps.getD t undef else match (g.tmC k)[t]? with | some x => x.den ρ | none => undef
  let a' : Act := { a with tmps := ((List.range g.tm0.length).map f).toArray }
  have hget : ∀ t, t < g.tm0.length → a'.tmps[t]? = some (f t) := fun t ht => by simp [a', ht]
  have hin : ∀ t ∈ o.looksAt g.ops, a'.tmps[t]? = a.tmps[t]? := fun t ht => by
    by_cases hl : t < g.tm0.length
    · rw [hget t hl]
      have : t < a.tmps.size := by rw [h.size]; exact hl
      simp [f, ht, Array.getD, this]
    · have h1 : ¬ t < a.tmps.size := by rw [h.size]; exact hl
      simp [a', hl, h1]
  have hev : ∀ x ∈ o.op.operands, a'.eval x = a.eval x := fun x hx => by
    cases x with
    | tmp t =>
      have ht : t ∈ o.looksAt g.ops := List.mem_append_left _ (List.mem_filterMap.2 ⟨.tmp t, by simpa using hx, rfl⟩)
      have := hin t ht
      simp only [Act.eval, Array.getD_eq_getD_getElem?, this]
    | _ => rfl
  refine ⟨a', ⟨by simp [a', g.tmC_len k], fun t x hx hj => ?_⟩, hev, execOp_congr o hsel hev, ?_⟩
  · have hl : t < g.tm0.length := by rw [← g.tmC_len k]; exact (List.getElem?_eq_some_iff.1 hx).1
    rw [hget t hl]
    by_cases ht : t ∈ o.looksAt g.ops
    · have hf : f t = a.tmps.getD t undef := if_pos ht
      rw [hf, Array.getD_eq_getD_getElem?]
      suffices hs : a.tmps[t]? = some (x.den ρ) by rw [hs]; rfl
      rcases g.tmC_at t x k hx with ⟨j, oj, hjk, hoj, hd, _, rfl⟩ | ⟨hno, h0⟩
      · exact h.done (g.b + j) oj t (v1 t ht j oj hjk hoj hd) (by omega) (by omega) hoj hd hl hj
      · refine h.old t x (fun j oj hD hb hc hoj hd => ?_) h0 hj
        have := v2 t ht j oj hb hc hoj hd hD
        exact hno (j - g.b) oj (by omega) (by rw [show g.b + (j - g.b) = j by omega]; exact hoj) hd
    · simp [f, ht, hx]
  · unfold Region.wanted
    cases hg : o.guard with
    | none => rfl
    | some gw =>
      obtain ⟨i, want⟩ := gw
      have hy : yielded g.ops a'.tmps i = yielded g.ops a.tmps i := by
        unfold yielded
        cases hi : (g.ops[i]?).bind (·.dst) with
        | none => rfl
        | some d =>
          have ht : d ∈ o.looksAt g.ops := by
            unfold Oper.looksAt
            rw [hg]
            simp [hi]
          simp [hin d ht]
      simp only [hy]

theorem Sg.mades_lt (g : Sg) : ∀ {j k : Nat}, j < k → (g.e (g.b + j)).isSome = true → (g.mades j).length < (g.mades k).length
  | j, k + 1, h, he => by
    simp only [Sg.mades, List.length_append]
    rcases Nat.lt_or_ge j k with h1 | h1
    · have := g.mades_lt h1 he
      omega
    · have : j = k := by omega
      subst this
      obtain ⟨e, he⟩ := Option.isSome_iff_exists.1 he
      simp [he]
/-- Names differ, and come behind those that are known. -/
theorem Sg.nm_ge (g : Sg) (k : Nat) : g.H.length ≤ g.nm k := Nat.le_add_right _ _
theorem Sg.nm_inj (g : Sg) {j k : Nat} (hj : g.mak j) (hk : g.mak k) (h : g.nm j = g.nm k) : j = k := by
  unfold Sg.nm at h
  rcases Nat.lt_trichotomy j k with h1 | h1 | h1
  · have := g.mades_lt (j := j - g.b) (k := k - g.b) (by have := hj.1; omega) (by rw [show g.b + (j - g.b) = j by have := hj.1; omega]; exact hj.2.2)
    omega
  · exact h1
  · have := g.mades_lt (j := k - g.b) (k := j - g.b) (by have := hk.1; omega) (by rw [show g.b + (k - g.b) = k by have := hk.1; omega]; exact hk.2.2)
    omega
def ext (D : Nat → Prop) (k : Nat) : Nat → Prop := fun j => D j ∨ j = k
/-- One more is done. -/
theorem Sg.step (g : Sg) {w0 : World} {U : Nat → Prop} {n0 : Nat} {D : Nat → Prop} {ρ : Loc} {a : Act} {w w' : World} (h : g.St w0 U n0 D ρ a w) {k : Nat} {o : Oper} (hb : g.b ≤ k) (hc : k < g.c) (ho : g.ops[k]? = some o) (hD : ¬ D k)
    (uniq : ∀ j oj t, D j → g.b ≤ j → j < g.c → g.ops[j]? = some oj → oj.dst = some t → o.dst ≠ some t)
    {x : Option Addr} {v : Value} (_ : ∀ b, x = some b → w.heap.size ≤ b.block) (hg : w.grownBy w' none ∨ ((∃ T : Nat → Prop, Fr T w w' ∧ ∀ b, T b → ∃ (i : Nat) (d : HE), g.H[i]? = some d ∧ d.live ∧ d.foot ρ i b) ∧ HRel w0 U ρ g.H w'))
    (hv : ∀ ρ', g.Ag D ρ ρ' → ((g.e k).isSome = true → ρ' (g.nm k) = x) → v = (g.s k).den ρ' ∧ ∀ e0, g.e k = some e0 → e0.okN w.heap.size ρ' w' (g.nm k)) :
    ∃ ρ1, g.St w0 U n0 (ext D k) ρ1 (a.put o.dst v) w' ∧ Same g.H.length ρ ρ1 := by
  have hsz : w.heap.size ≤ w'.heap.size := by
    rcases hg with hg | ⟨⟨T, hf, _⟩, _⟩
    · exact hg.size
    · exact hf.size
  have hrel : HRel w0 U ρ g.H w' := by
    rcases hg with hg | ⟨_, hr⟩
    · exact h.rel.grown0 hg
    · exact hr
  have hent : ∀ ρ', g.Ag D ρ ρ' → ∀ j e0, D j → g.mak j → g.e j = some e0 → e0.ok ρ' w' (g.nm j) := fun ρ' ha j e0 hj hmj he => by
    have h0 := h.ent ρ' ha j e0 hj hmj he
    rcases hg with hg | ⟨⟨T, hf, ht⟩, _⟩
    · exact HE.ok_grown h0 hg (fun _ _ _ => by simp)
    · refine HE.ok_fr h0 hf (fun _ b hb hT => ?_)
      obtain ⟨i, d, hi, hl, hx⟩ := ht b hT
      have h1 := h.low i d b hi hl hx
      have h2 := h.fresh j e0 b hj hmj he ((HE.foot_congr (ha.made j hj hmj) e0).1 hb)
      omega
  obtain ⟨ρ1, hsame, hold, hnew⟩ : ∃ ρ1 : Loc, Same g.H.length ρ ρ1 ∧ (∀ j, D j → g.mak j → ρ1 (g.nm j) = ρ (g.nm j)) ∧ (g.mak k → ρ1 (g.nm k) = x) := by
    by_cases hm : g.mak k
    · exact ⟨fun i => if i = g.nm k then x else ρ i, fun i hi => if_neg (Nat.ne_of_lt (Nat.lt_of_lt_of_le hi (g.nm_ge k))), fun j hj hmj => if_neg fun he => hD (g.nm_inj hmj hm he ▸ hj), fun _ => if_pos rfl⟩
    · exact ⟨ρ, Same.refl _ _, fun _ _ _ => rfl, fun h => absurd h hm⟩
  have hag : ∀ ρ', g.Ag (ext D k) ρ1 ρ' → g.Ag D ρ ρ' ∧ ((g.e k).isSome = true → ρ' (g.nm k) = x) := fun ρ' h' =>
    ⟨⟨hsame.trans h'.base (Nat.le_refl _), fun j hj hmj => (h'.made j (.inl hj) hmj).trans (hold j hj hmj)⟩, fun he => (h'.made k (.inr rfl) ⟨hb, hc, he⟩).trans (hnew ⟨hb, hc, he⟩)⟩
  have hag1 := hag ρ1 ⟨Same.refl _ _, fun _ _ _ => rfl⟩
  have dst_k : ∀ d, o.dst = some d → d < g.tm0.length → (a.put o.dst v).tmps[d]? = some v := fun d hd hl => by
    have : d < a.tmps.size := by rw [(h.tm ρ ⟨Same.refl _ _, fun _ _ _ => rfl⟩).size]; exact hl
    rw [hd]; simp [Act.put, this]
  have dst_o : ∀ t, o.dst ≠ some t → (a.put o.dst v).tmps[t]? = a.tmps[t]? := fun t ht => by
    cases hd : o.dst with
    | none => rfl
    | some d => simp [Act.put, Array.getElem?_setIfInBounds_ne (show d ≠ t from fun e => ht (by rw [hd, e]))]
  refine ⟨ρ1, ⟨?_, ?_, fun ρ' h' => ?_, fun ρ' h' j e0 hj hmj he => ?_, fun j e0 b hj hmj he hy => ?_, fun i j d e b hi hj hij hd he hld hle hmi hmj hy hz => ?_, Nat.le_trans h.le hsz, fun i d b hi hl hy => ?_⟩, hsame⟩
  · cases hd : o.dst <;> exact h.dfr
  · exact fun ρ' hs => hrel ρ' (hsame.trans hs (Nat.le_refl _))
  · obtain ⟨h1, h2⟩ := hag ρ' h'
    have ht := h.tm ρ' h1
    refine ⟨by cases hd : o.dst <;> simp [Act.put, ht.size], fun j oj d hj hjb hjc hoj hd hl hnj => ?_, fun t y hno hy hnj => ?_⟩
    · rcases hj with hj | rfl
      · rw [dst_o d (uniq j oj d hj hjb hjc hoj hd)]
        exact ht.done j oj d hj hjb hjc hoj hd hl hnj
      · rw [ho] at hoj; cases hoj
        rw [dst_k d hd hl, (hv ρ' h1 h2).1]
    · rw [dst_o t (hno k o (.inr rfl) hb hc ho)]
      exact ht.old t y (fun j oj hj => hno j oj (.inl hj)) hy hnj
  · obtain ⟨h1, h2⟩ := hag ρ' h'
    rcases hj with hj | rfl
    · exact hent ρ' h1 j e0 hj hmj he
    · exact ((hv ρ' h1 h2).2 e0 he).1
  · rcases hj with hj | rfl
    · rw [HE.foot_congr (hold j hj hmj)] at hy
      exact h.fresh j e0 b hj hmj he hy
    · exact Nat.le_trans h.le (((hv ρ1 hag1.1 hag1.2).2 e0 he).2 b hy)
  · have lt : ∀ (i : Nat) (d : HE), D i → g.mak i → g.e i = some d → d.live → d.foot ρ1 (g.nm i) b → b < w.heap.size := fun i d hi hmi hd hl hy => by
      rw [HE.foot_congr (hold i hi hmi)] at hy
      exact HE.ok_lt (h.ent ρ ⟨Same.refl _ _, fun _ _ _ => rfl⟩ i d hi hmi hd) hl hy
    rcases hi with hi | rfl <;> rcases hj with hj | rfl
    · rw [HE.foot_congr (hold i hi hmi)] at hy
      rw [HE.foot_congr (hold j hj hmj)] at hz
      exact h.dis i j d e b hi hj hij hd he hld hle hmi hmj hy hz
    · have h1 := lt i d hi hmi hd hld hy
      have h2 := ((hv ρ1 hag1.1 hag1.2).2 e he).2 b hz
      omega
    · have h1 := lt j e hj hmj he hle hz
      have h2 := ((hv ρ1 hag1.1 hag1.2).2 d hd).2 b hy
      omega
    · exact absurd rfl hij
  · rw [HE.foot_congr (hsame i (List.getElem?_eq_some_iff.1 hi).1)] at hy
    exact h.low i d b hi hl hy

theorem Sg.mades_at (g : Sg) : ∀ (n i : Nat) (e : HE), (g.mades n)[i]? = some e → ∃ k, k < n ∧ g.e (g.b + k) = some e ∧ i = (g.mades k).length
  | 0, i, e, h => by simp [Sg.mades] at h
  | n + 1, i, e, h => by
    simp only [Sg.mades, List.getElem?_append] at h
    split at h
    · obtain ⟨k, hk, h1, h2⟩ := g.mades_at n i e h
      exact ⟨k, by omega, h1, h2⟩
    · rename_i hl
      cases he : g.e (g.b + n) with
      | none => simp [he] at h
      | some e' =>
        rw [he] at h
        simp only [Option.toList_some] at h
        have h0 : i - (g.mades n).length = 0 := by
          have := (List.getElem?_eq_some_iff.1 h).1
          simp at this
          omega
        rw [h0] at h
        simp at h
        subst h
        exact ⟨n, by omega, he, by omega⟩
/-- At the end of a segment all is as in the lexical order. -/
theorem Sg.fin (g : Sg) {w0 : World} {U : Nat → Prop} {n0 : Nat} {D : Nat → Prop} {ρ : Loc} {a : Act} {w : World} (h : g.St w0 U n0 D ρ a w) {n : Nat} (hn : g.c = g.b + n) (hD : ∀ k, g.b ≤ k → k < g.c → D k) (h0 : w0.heap.size ≤ n0) : Rel w0 U ρ (g.tmC n) (g.H ++ g.mades n) a w := by
  refine ⟨h.dfr, fun ρ' hs => ?_⟩
  have hb : Same g.H.length ρ ρ' := hs.mono (by simp)
  have nmlt : ∀ k, g.mak k → g.nm k < (g.H ++ g.mades n).length := fun k hk => by
    obtain ⟨h1, h2, h3⟩ := hk
    have := g.mades_lt (j := k - g.b) (k := n) (by omega) (by rw [show g.b + (k - g.b) = k by omega]; exact h3)
    simp only [Sg.nm, List.length_append]
    omega
  have ag : g.Ag D ρ ρ' := ⟨hb, fun k _ hm => hs _ (nmlt k hm)⟩
  have ht := h.tm ρ' ag
  have hok := h.rel ρ' hb
  have key : ∀ i e, (g.H ++ g.mades n)[i]? = some e → (g.H[i]? = some e) ∨ ∃ k, g.mak k ∧ D k ∧ g.e k = some e ∧ i = g.nm k := fun i e hi => by
    rw [List.getElem?_append] at hi
    split at hi
    · exact .inl hi
    · rename_i hl
      obtain ⟨k, hk, h1, h2⟩ := g.mades_at n _ _ hi
      have hm : g.mak (g.b + k) := ⟨by omega, by omega, by rw [h1]; rfl⟩
      exact .inr ⟨g.b + k, hm, hD _ (by omega) (by omega), h1, by simp only [Sg.nm]; rw [show g.b + k - g.b = k by omega]; omega⟩
  have wl : ∀ d : HE, d.wr → d.live := fun _ hd => HE.wr_live hd
  refine ⟨⟨by rw [ht.size, g.tmC_len], fun t x hx hj => ?_⟩, fun i e hi => ?_, fun i e hi hw x hx => ?_, fun i j d e hij hi hd hj hl x hx hy => ?_, hok.fr⟩
  · have hl : t < g.tm0.length := by rw [← g.tmC_len n]; exact (List.getElem?_eq_some_iff.1 hx).1
    rcases g.tmC_at t x n hx with ⟨j, oj, hjk, hoj, hd, _, rfl⟩ | ⟨hno, h0⟩
    · exact ht.done (g.b + j) oj t (hD _ (by omega) (by omega)) (by omega) (by omega) hoj hd hl hj
    · refine ht.old t x (fun j oj _ hb hc hoj hd => ?_) h0 hj
      exact hno (j - g.b) oj (by omega) (by rw [show g.b + (j - g.b) = j by omega]; exact hoj) hd
  · rcases key i e hi with hi | ⟨k, hm, hDk, he, rfl⟩
    · exact hok.ent i e hi
    · exact h.ent ρ' ag k e hDk hm he
  · rcases key i e hi with hi | ⟨k, hm, hDk, he, rfl⟩
    · exact hok.own i e hi hw x hx
    · rw [HE.foot_congr (ag.made k hDk hm)] at hx
      exact .inl (Nat.le_trans h0 (h.fresh k e x hDk hm he hx))
  · rcases key i d hi with hi' | ⟨k, hm, hDk, he, rfl⟩ <;> rcases key j e hj with hj' | ⟨k', hm', hDk', he', rfl⟩
    · exact hok.dis i j d e hij hi' hd hj' hl x hx hy
    · have h1 := h.low i d x hi' (wl d hd) ((HE.foot_congr (hb i (List.getElem?_eq_some_iff.1 hi').1) d).1 hx)
      have h2 := h.fresh k' e x hDk' hm' he' ((HE.foot_congr (ag.made k' hDk' hm') e).1 hy)
      omega
    · have h1 := h.low j e x hj' hl ((HE.foot_congr (hb j (List.getElem?_eq_some_iff.1 hj').1) e).1 hy)
      have h2 := h.fresh k d x hDk hm he ((HE.foot_congr (ag.made k hDk hm) d).1 hx)
      omega
    · exact h.dis k k' d e x hDk hDk' (fun e => hij (by rw [e])) he he' (wl d hd) hl hm hm' ((HE.foot_congr (ag.made k hDk hm) d).1 hx) ((HE.foot_congr (ag.made k' hDk' hm') e).1 hy)
theorem HE.ok_same {n : Nat} {ρ ρ' : Loc} {w : World} {i : Nat} {e : HE} (h : e.ok ρ w i) (hb : e.bdd n = true) (hi : i < n) (hs : Same n ρ ρ') : e.ok ρ' w i := by
  have e1 := hs i hi
  cases e with
  | none => trivial
  | blk ty cs =>
    obtain ⟨b, h1, h2⟩ := h
    exact ⟨b, e1.trans h1, by rw [denL_same hs cs hb]; exact h2⟩
  | row sz m f =>
    intro hn
    obtain ⟨b, off, h1, h2⟩ := h hn
    exact ⟨b, off, e1.trans h1, h2⟩
  | own ty sz m f =>
    have e2 : (SV.os i m).den ρ' = (SV.os i m).den ρ := by simp [SV.den, atB', capB, e1]
    show World.ownsRow _ 0 ty sz ((SV.os i m).den ρ') m _
    rw [e2]
    exact h
  | mp ag zk es st =>
    obtain ⟨r, h1, h2⟩ := h
    exact ⟨r, e1.trans h1, h2⟩
  | obj1 ty p q ag zk es =>
    obtain ⟨sb, mb, h1, h2⟩ := h
    exact ⟨sb, mb, e1.trans h1, h2⟩
  | iter j ents clock vis =>
    obtain ⟨r, mb, h1, h2, h3⟩ := h
    simp only [HE.bdd, Nat.blt_eq] at hb
    exact ⟨r, mb, e1.trans h1, (hs j hb).trans h2, h3⟩
  | res wr Z Q => exact h
/-- What is made, and seen, is known beside what was known ahead. -/
theorem Sg.vis_rel (g : Sg) {w0 : World} {U : Nat → Prop} {n0 : Nat} {D : Nat → Prop} {ρ : Loc} {a : Act} {w : World} (h : g.St w0 U n0 D ρ a w) (h0 : w0.heap.size ≤ n0) {vis : List HE}
    (hv : ∀ t e, vis[t]? = some e → e ≠ .none → ∃ k, g.mak k ∧ D k ∧ g.e k = some e ∧ g.nm k = g.H.length + t) (hb : ∀ e ∈ vis, e.bdd (g.H.length + vis.length) = true) : ∀ ρ', g.Ag D ρ ρ' → HRel w0 U ρ' (g.H ++ vis) w := by
  intro ρ' hag ρ'' hs
  have hbase : Same g.H.length ρ ρ'' := hag.base.trans (hs.mono (n := g.H.length) (by simp)) (Nat.le_refl _)
  have hok := h.rel ρ'' hbase
  let ρ3 : Loc := fun n => if n < (g.H ++ vis).length then ρ'' n else ρ' n
  have h3 : Same (g.H.length + vis.length) ρ3 ρ'' := fun i hi => by simp [ρ3, hi]
  have hag3 : g.Ag D ρ ρ3 := ⟨fun i hi => by
      have : i < (g.H ++ vis).length := by simp; omega
      simp only [ρ3, if_pos this]; exact hbase i hi, fun k hk hm => by
      by_cases hlt : g.nm k < (g.H ++ vis).length
      · simp only [ρ3, if_pos hlt]; rw [hs _ hlt]; exact hag.made k hk hm
      · simp only [ρ3, if_neg hlt]; exact hag.made k hk hm⟩
  have key : ∀ i e, (g.H ++ vis)[i]? = some e → e ≠ .none → (g.H[i]? = some e) ∨ ∃ k, g.mak k ∧ D k ∧ g.e k = some e ∧ i = g.nm k ∧ e ∈ vis ∧ i < (g.H ++ vis).length := fun i e hi hne => by
    have hlen := (List.getElem?_eq_some_iff.1 hi).1
    rw [List.getElem?_append] at hi
    split at hi
    · exact .inl hi
    · rename_i hl
      obtain ⟨k, h1, h2, h4, h5⟩ := hv _ _ hi hne
      exact .inr ⟨k, h1, h2, h4, by omega, List.mem_of_getElem? hi, hlen⟩
  have at_k : ∀ k, g.mak k → D k → g.nm k < (g.H ++ vis).length → ρ'' (g.nm k) = ρ (g.nm k) := fun k hm hk hlt => by rw [hs _ hlt]; exact hag.made k hk hm
  have wl : ∀ d : HE, d.wr → d.live := fun _ hd => HE.wr_live hd
  have ne_w : ∀ d : HE, d.wr → d ≠ .none := fun d hd he => by rw [he] at hd; exact hd
  have ne_l : ∀ d : HE, d.live → d ≠ .none := fun d hd he => by rw [he] at hd; exact hd
  refine ⟨fun i e hi => ?_, fun i e hi hw x hx => ?_, fun i j d e hij hi hd hj hl x hx hy => ?_, hok.fr⟩
  · by_cases hne : e = .none
    · subst hne; trivial
    rcases key i e hi hne with hi | ⟨k, hm, hDk, he, rfl, hmem, hlt⟩
    · exact hok.ent i e hi
    · exact HE.ok_same (h.ent ρ3 hag3 k e hDk hm he) (hb e hmem) (by simpa using hlt) h3
  · rcases key i e hi (ne_w e hw) with hi | ⟨k, hm, hDk, he, rfl, hmem, hlt⟩
    · exact hok.own i e hi hw x hx
    · rw [HE.foot_congr (at_k k hm hDk hlt)] at hx
      exact .inl (Nat.le_trans h0 (h.fresh k e x hDk hm he hx))
  · rcases key i d hi (ne_w d hd) with hi' | ⟨k, hm, hDk, he, rfl, hmem, hlt⟩ <;> rcases key j e hj (ne_l e hl) with hj' | ⟨k', hm', hDk', he', rfl, hmem', hlt'⟩
    · exact hok.dis i j d e hij hi' hd hj' hl x hx hy
    · have h1 := h.low i d x hi' (wl d hd) ((HE.foot_congr (hbase i (List.getElem?_eq_some_iff.1 hi').1) d).1 hx)
      have h2 := h.fresh k' e x hDk' hm' he' ((HE.foot_congr (at_k k' hm' hDk' hlt') e).1 hy)
      omega
    · have h1 := h.low j e x hj' hl ((HE.foot_congr (hbase j (List.getElem?_eq_some_iff.1 hj').1) e).1 hy)
      have h2 := h.fresh k d x hDk hm he ((HE.foot_congr (at_k k hm hDk hlt) d).1 hx)
      omega
    · exact h.dis k k' d e x hDk hDk' (fun e => hij (by rw [e])) he he' (wl d hd) hl hm hm' ((HE.foot_congr (at_k k hm hDk hlt) d).1 hx) ((HE.foot_congr (at_k k' hm' hDk' hlt') e).1 hy)
/-- At the beginning nothing is done. -/
theorem Sg.start (g : Sg) {w0 : World} {U : Nat → Prop} {ρ : Loc} {a : Act} {w : World} (h : Rel w0 U ρ g.tm0 g.H a w) : g.St w0 U w.heap.size (fun _ => False) ρ a w :=
  ⟨h.1, h.h, fun ρ' ha => ⟨(h.2 ρ' ha.base).1.1, fun _ _ _ h => h.elim, fun t x _ hx hj => (h.2 ρ' ha.base).1.2 t x hx hj⟩, fun _ _ _ _ h => h.elim, fun _ _ _ h => h.elim, fun _ _ _ _ _ h => h.elim, Nat.le_refl _, fun _ _ _ hi hl hx => live_lt (h.2 ρ (Same.refl _ _)).2 hi hl hx⟩
end Go.Proofs.YtghfigeepnbjaaaGreat
namespace Go.Proofs.YtghfigeepnbjaaaGreat

/-- The pieces of a region, by masks of 128 bits each in one number (what comes out is checked by drawB). -/
noncomputable def orW (M : Nat) (l : List Edge) : Nat :=
  @List.rec Edge (fun _ => Nat) 0 (fun e _ ih => match Region.binds .any e with
    | true => Nat.lor (Nat.lor (Nat.shiftLeft 1 e.on) (Nat.land (Nat.shiftRight M (Nat.mul 128 e.on)) 340282366920938463463374607431768211455)) ih
    | false => ih) l
noncomputable def packM (l : List Oper) : Nat → Nat → Nat :=
  @List.rec Oper (fun _ => Nat → Nat → Nat) (fun _ M => M) (fun o _ ih k M => match Nat.beq M 0 with
    | true => ih (Nat.add k 1) (Nat.lor M (Nat.shiftLeft (orW M o.after.toList) (Nat.mul 128 k)))
    | false => ih (Nat.add k 1) (Nat.lor M (Nat.shiftLeft (orW M o.after.toList) (Nat.mul 128 k)))) l
noncomputable def ones (l : List Oper) : Nat := @List.rec Oper (fun _ => Nat) 0 (fun _ _ ih => Nat.add (Nat.mul ih 340282366920938463463374607431768211456) 1) l
def isCut (M on m oc : Nat) : Bool := Nat.beq (Nat.land M (Nat.mul m (Nat.sub on oc))) (Nat.mul m (Nat.sub on oc))
def consP (o : Oper) (ps : List (List Oper)) : List (List Oper) := match ps with
  | [] => [[o]]
  | p :: ps => (o :: p) :: ps
noncomputable def piecesL (M on : Nat) (l : List Oper) : Nat → Nat → List (List Oper) :=
  @List.rec Oper (fun _ => Nat → Nat → List (List Oper)) (fun _ _ => []) (fun o _ ih m oc => match isCut M on (Nat.add (Nat.mul m 2) 1) (Nat.add (Nat.mul oc 340282366920938463463374607431768211456) 1) with
    | true => [o] :: ih (Nat.add (Nat.mul m 2) 1) (Nat.add (Nat.mul oc 340282366920938463463374607431768211456) 1)
    | false => consP o (ih (Nat.add (Nat.mul m 2) 1) (Nat.add (Nat.mul oc 340282366920938463463374607431768211456) 1))) l
noncomputable def piecesOf (ops : Array Oper) : List (List Oper) := piecesL (packM ops.toList 0 0) (ones ops.toList) ops.toList 0 0
theorem piecesL_flat (M on : Nat) : ∀ (l : List Oper) (m oc : Nat), (piecesL M on l m oc).flatten = l
  | [], _, _ => rfl
  | o :: r, m, oc => by
    have ih := piecesL_flat M on r (Nat.add (Nat.mul m 2) 1) (Nat.add (Nat.mul oc 340282366920938463463374607431768211456) 1)
    show (match isCut M on (Nat.add (Nat.mul m 2) 1) (Nat.add (Nat.mul oc 340282366920938463463374607431768211456) 1) with
      | true => [o] :: piecesL M on r (Nat.add (Nat.mul m 2) 1) (Nat.add (Nat.mul oc 340282366920938463463374607431768211456) 1)
      | false => consP o (piecesL M on r (Nat.add (Nat.mul m 2) 1) (Nat.add (Nat.mul oc 340282366920938463463374607431768211456) 1))).flatten = o :: r
    split
    · rw [List.flatten_cons, ih]; rfl
    · cases h : piecesL M on r (Nat.add (Nat.mul m 2) 1) (Nat.add (Nat.mul oc 340282366920938463463374607431768211456) 1) with
      | nil => rw [h] at ih; simp at ih; simp [consP, ← ih]
      | cons p ps => rw [h] at ih; simp only [consP, List.flatten_cons, List.cons_append] at ih ⊢; rw [ih]

/-- The mask of an operation. -/
def mkOf (M k : Nat) : Nat := Nat.land (Nat.shiftRight M (Nat.mul 128 k)) 340282366920938463463374607431768211455
def maskB (M : Nat) (ms : List Nat) (n : Nat) : Bool := (List.range n).all fun k => Nat.land (mkOf M k) (ms.getD k 0) == mkOf M k
/-- Two operations of one segment. -/
def pairB (ops : Array Oper) (ms : List Nat) (j k : Nat) : Bool := match ops[j]?, ops[k]? with
  | some oj, some ok =>
    (match oj.dst with
      | some d => (!(ok.looksAt ops).contains d || (ms.getD k 0).testBit j) && ok.dst != some d
      | none => true) &&
    (match ok.dst with
      | some d => !(oj.looksAt ops).contains d || (ms.getD k 0).testBit j
      | none => true)
  | _, _ => false
def segB (ops : Array Oper) (ms : List Nat) (b c : Nat) : Bool := (List.range c).all fun k => Nat.blt k b || (List.range k).all fun j => Nat.blt j b || pairB ops ms j k
def cutsB (n : Nat) (ms : List Nat) (c : Nat) : Bool := (List.range n).all fun j => Nat.blt j c || Nat.land (ms.getD j 0) (2 ^ c - 1) == 2 ^ c - 1
def waitB (ops : Array Oper) : Bool := (List.range ops.size).all fun k => match ops[k]? with
  | some o => (waitL o).all fun m => Nat.blt m k
  | none => true
def piecesB (ops : Array Oper) (ms : List Nat) : Nat → List (List Oper) → Bool
  | _, [] => true
  | b, p :: ps => cutsB ops.size ms (b + p.length) && (p.length == 1 || segB ops ms b (b + p.length)) && piecesB ops ms (b + p.length) ps
noncomputable def drawB (ops : Array Oper) : Bool := Region.noSelect ops && waitB ops && piecesB ops (masks ops.toList) 0 (piecesOf ops) && maskB (packM ops.toList 0 0) (masks ops.toList) ops.size

section
variable (P : Program) (w0 : World) (U : Nat → Prop) (T : Tab)
def joinH : List HE → List HE → (List HE → Prop) → Prop
  | [], ys, K => K ys
  | x :: xs, ys, K => joinH xs ys fun zs => K (x :: zs)
/-- What an operation sees of what was made. -/
def visK (mk : Nat) : List (Nat × HE) → (List HE → Prop) → Prop
  | [], K => K []
  | (j, e) :: r, K => match Nat.beq (Nat.mod (Nat.shiftRight mk j) 2) 1 with
    | true => visK mk r fun es => K (e :: es)
    | false => visK mk r fun es => K (.none :: es)
def bddA (n : Nat) : List HE → Bool
  | [] => true
  | e :: es => e.bdd n && bddA n es
def outM : List (Nat × HE) → (List HE → Prop) → Prop
  | [], K => K []
  | (_, e) :: ys, K => outM ys fun zs => K (e :: zs)
def appM : List (Nat × HE) → Nat × HE → (List (Nat × HE) → Prop) → Prop
  | [], y, K => K [y]
  | x :: xs, y, K => appM xs y fun ys => K (x :: ys)
def segCons (M : Nat) (ops : Array Oper) (H : List HE) (o : Oper) (ih : Nat → List SV → List (Nat × HE) → (List SV → List HE → Prop) → Prop) (k : Nat) (tm : List SV) (made : List (Nat × HE)) (K : List SV → List HE → Prop) : Prop :=
  visK (mkOf M k) made fun vis => joinH H vis fun Hv => natL lits (H.length + vis.length) fun N => Need (bddA N vis = true) (natL lits H.length fun nb => guardK ops tm o.guard
    (fun tm => sOp P w0 U T nb tm Hv N o.op fun s e => putK o.dst tm s fun tm' => match e with
      | some e => appM made (k, e) fun made' => ih (Nat.add k 1) tm' made' K
      | none => ih (Nat.add k 1) tm' made K)
    (fun tm => putK o.dst tm (.v undef) fun tm' => ih (Nat.add k 1) tm' made K))
def segNil (H : List HE) (_ : Nat) (tm : List SV) (made : List (Nat × HE)) (K : List SV → List HE → Prop) : Prop := outM made fun ms => joinH H ms fun H' => K tm H'
/-- The operations of a segment. -/
def xSeg (M : Nat) (ops : Array Oper) (H : List HE) (l : List Oper) : Nat → List SV → List (Nat × HE) → (List SV → List HE → Prop) → Prop :=
  @List.rec Oper (fun _ => Nat → List SV → List (Nat × HE) → (List SV → List HE → Prop) → Prop) (segNil H) (fun o _ ih => segCons P w0 U T M ops H o ih) l
noncomputable def lenA (p : List Oper) (k : Nat) : Nat := @List.rec Oper (fun _ => Nat → Nat) (fun k => k) (fun _ _ ih k => ih (Nat.add k 1)) p k
def drwCons (M : Nat) (ops : Array Oper) (p : List Oper) (ih : Nat → List SV → List HE → (List SV → List HE → Prop) → Prop) (k : Nat) (tm : List SV) (H : List HE) (K : List SV → List HE → Prop) : Prop := match p with
  | [o] => opsCons P w0 U T ops o (ih (Nat.add k 1)) tm H K
  | p => xSeg P w0 U T M ops H p k tm [] fun tm' H' => ih (lenA p k) tm' H' K
def drwNil (_ : Nat) (tm : List SV) (H : List HE) (K : List SV → List HE → Prop) : Prop := K tm H
/-- A region that draws its order. -/
def xDrw (M : Nat) (ops : Array Oper) (ps : List (List Oper)) : Nat → List SV → List HE → (List SV → List HE → Prop) → Prop :=
  @List.rec (List Oper) (fun _ => Nat → List SV → List HE → (List SV → List HE → Prop) → Prop) drwNil (fun p _ ih => drwCons P w0 U T M ops p ih) ps
end

theorem joinH_spec : ∀ (H made : List HE) (K : List HE → Prop), joinH H made K → K (H ++ made)
  | [], _, _, h => h
  | _ :: xs, made, _, h => joinH_spec xs made _ h
theorem lenA_eq : ∀ (p : List Oper) (k : Nat), lenA p k = k + p.length
  | [], _ => rfl
  | _ :: p, k => by
    show lenA p (Nat.add k 1) = _
    rw [lenA_eq p]
    simp only [Nat.add_eq, List.length_cons]
    omega
theorem outM_spec : ∀ (made : List (Nat × HE)) (K : List HE → Prop), outM made K → K (made.map (·.2))
  | [], _, h => h
  | (_, _) :: ys, _, h => outM_spec ys _ h
theorem appM_spec : ∀ (l : List (Nat × HE)) (y : Nat × HE) (K : List (Nat × HE) → Prop), appM l y K → K (l ++ [y])
  | [], _, _, h => h
  | _ :: xs, y, _, h => appM_spec xs y _ h
/-- The same as a list. -/
def visL (mk : Nat) (made : List (Nat × HE)) : List HE := made.map fun q => if Nat.testBit mk q.1 then q.2 else .none
theorem visK_spec (mk : Nat) : ∀ (made : List (Nat × HE)) (K : List HE → Prop), visK mk made K → K (visL mk made)
  | [], _, h => h
  | (j, e) :: r, K, h => by
    unfold visK at h
    have hb : Nat.testBit mk j = Nat.beq (Nat.mod (Nat.shiftRight mk j) 2) 1 := by
      rw [Nat.testBit_eq_decide_div_mod_eq]
      have e1 : Nat.mod (Nat.shiftRight mk j) 2 = mk / 2 ^ j % 2 := by
        show (mk >>> j) % 2 = _
        rw [Nat.shiftRight_eq_div_pow]
      rw [e1]
      cases hd : Nat.beq (mk / 2 ^ j % 2) 1
      · have := Nat.ne_of_beq_eq_false hd
        simpa using this
      · have := Nat.eq_of_beq_eq_true hd
        simpa using this
    split at h
    · rename_i hm
      have := visK_spec mk r _ h
      simp only [visL, List.map_cons, hb, hm, if_true]
      exact this
    · rename_i hm
      have := visK_spec mk r _ h
      simp only [visL, List.map_cons, hb, hm, Bool.false_eq_true, if_false]
      exact this
theorem bddA_spec {n : Nat} : ∀ {l : List HE}, bddA n l = true → ∀ e ∈ l, e.bdd n = true
  | x :: xs, h, e, he => by
    simp only [bddA, Bool.and_eq_true] at h
    rcases List.mem_cons.1 he with rfl | he
    · exact h.1
    · exact bddA_spec h.2 e he
def foldTm : List SV → List Oper → List (SV × Option HE) → List SV
  | tm, o :: l, q :: is => foldTm (setD tm o.dst q.1) l is
  | tm, _, _ => tm
theorem foldTm_snoc : ∀ (l : List Oper) (is : List (SV × Option HE)) (tm : List SV) (o : Oper) (q : SV × Option HE), is.length = l.length → foldTm tm (l ++ [o]) (is ++ [q]) = setD (foldTm tm l is) o.dst q.1
  | [], [], tm, o, q, _ => rfl
  | x :: l, y :: is, tm, o, q, h => by simpa [foldTm] using foldTm_snoc l is (setD tm x.dst y.1) o q (by simpa using h)
  | [], y :: is, tm, o, q, h => by simp at h
  | x :: l, [], tm, o, q, h => by simp at h

section
variable {P : Program} {w0 : World} {U : Nat → Prop} {T : Tab}
theorem xSeg_spec (hT : TabOK P T) {M : Nat} {ops : Array Oper} {H : List HE} : ∀ (l : List Oper) (k : Nat) (tm tm0 : List SV) (made : List (Nat × HE)) (K : List SV → List HE → Prop), DEq tm0 tm → xSeg P w0 U T M ops H l k tm made K →
    ∃ is : List (SV × Option HE), is.length = l.length ∧ (∃ tm', DEq (foldTm tm0 l is) tm' ∧ K tm' (H ++ (made.map (·.2) ++ is.filterMap (·.2)))) ∧
      ∀ i o q, l[i]? = some o → is[i]? = some q → ∃ vis : List HE, vis.length = (made.map (·.2) ++ (is.take i).filterMap (·.2)).length ∧ bddA (H.length + vis.length) vis = true ∧
        (∀ t e, vis[t]? = some e → e ≠ .none → (∃ j, made[t]? = some (j, e) ∧ (mkOf M (k + i)).testBit j = true) ∨
          ∃ i' q', i' < i ∧ is[i']? = some q' ∧ q'.2 = some e ∧ t = (made.map (·.2) ++ (is.take i').filterMap (·.2)).length ∧ (mkOf M (k + i)).testBit (k + i') = true) ∧
        SegLaw P w0 U H.length ops o (foldTm tm0 (l.take i) (is.take i)) (H ++ vis) (H.length + (made.map (·.2) ++ (is.take i).filterMap (·.2)).length) q.1 q.2
  | [], k, tm, tm0, made, K, hd, h => ⟨[], rfl, ⟨tm, hd, by simpa using joinH_spec _ _ _ (outM_spec _ _ h)⟩, fun i o q h => by simp at h⟩
  | o :: l, k, tm, tm0, made, K, hd, h => by
    have h : segCons P w0 U T M ops H o (xSeg P w0 U T M ops H l) k tm made K := h
    unfold segCons at h
    obtain ⟨hbd, h⟩ := natL_spec _ _ _ (joinH_spec _ _ _ (visK_spec _ _ _ h))
    have h := natL_spec _ _ _ h
    obtain ⟨s, e, tm1, hK, hlaw, hd1⟩ := seg_law (K := fun tm' e => match e with
      | some e => appM made (k, e) fun made' => xSeg P w0 U T M ops H l (Nat.add k 1) tm' made' K
      | none => xSeg P w0 U T M ops H l (Nat.add k 1) tm' made K) hT hd h
    have hvl : (visL (mkOf M k) made).length = made.length := by simp [visL]
    have hK : xSeg P w0 U T M ops H l (k + 1) tm1 (made ++ (e.map fun e => (k, e)).toList) K := by
      cases e with
      | none => simpa using hK
      | some e => exact appM_spec _ _ _ hK
    obtain ⟨is, hlen, ⟨tm', hd', hK'⟩, hl⟩ := xSeg_spec hT l (k + 1) tm1 _ _ K hd1 hK
    have he : ∀ is : List (SV × Option HE), made.map (·.2) ++ ((s, e) :: is).filterMap (·.2) = (made ++ (e.map fun e => (k, e)).toList).map (·.2) ++ is.filterMap (·.2) := fun is => by cases e <;> simp
    refine ⟨(s, e) :: is, by simp [hlen], ⟨tm', hd', by rw [he]; exact hK'⟩, fun i o' q ho hq => ?_⟩
    cases i with
    | zero =>
      simp at ho hq
      subst ho; subst hq
      refine ⟨visL (mkOf M k) made, by simp [hvl], hbd, fun t e' ht hne => .inl ?_, ?_⟩
      · simp only [visL, List.getElem?_map] at ht
        obtain ⟨⟨j, e0⟩, h1, h2⟩ := Option.map_eq_some_iff.1 ht
        simp only at h2
        split at h2
        · rename_i hb
          subst h2
          exact ⟨j, h1, hb⟩
        · exact absurd h2.symm hne
      · simpa [foldTm, hvl] using hlaw
    | succ i =>
      obtain ⟨vis, h1, h2, h3, h4⟩ := hl i o' q (by simpa using ho) (by simpa using hq)
      have hki : k + 1 + i = k + (i + 1) := by omega
      rw [hki] at h3
      refine ⟨vis, by rw [h1, List.take_succ_cons, he], h2, fun t e' ht hne => ?_, ?_⟩
      · rcases h3 t e' ht hne with ⟨j, h5, h6⟩ | ⟨i', q', h5, h6, h7, h8, h9⟩
        · rw [List.getElem?_append] at h5
          split at h5
          · exact .inl ⟨j, h5, h6⟩
          · rename_i hlt
            cases e with
            | none => simp at h5
            | some e =>
              simp only [Option.map_some, Option.toList_some] at h5
              have h0 : t - made.length = 0 := by
                have := (List.getElem?_eq_some_iff.1 h5).1
                simp at this
                omega
              rw [h0] at h5
              simp at h5
              obtain ⟨rfl, rfl⟩ := h5
              exact .inr ⟨0, (s, some e), by omega, rfl, rfl, by simp; omega, h6⟩
        · refine .inr ⟨i' + 1, q', by omega, by simpa using h6, h7, by rw [h8, List.take_succ_cons, he], by rw [← hki, show k + (i' + 1) = k + 1 + i' by omega] at *; exact h9⟩
      · rw [List.take_succ_cons, List.take_succ_cons, he]
        exact h4
end

def On (listed : Array Bool) (i : Nat) : Prop := listed[i]? = some true
theorem ready_mem {ops : Array Oper} {listed : Array Bool} (hs : listed.size = ops.size) {i : Nat} : i ∈ Region.ready .any ops listed ↔ ∃ o, ops[i]? = some o ∧ ¬ On listed i ∧ ∀ m ∈ waitL o, On listed m := by
  have on : ∀ m, listed.getD m false = true ↔ On listed m := fun m => by
    unfold On
    rw [Array.getD_eq_getD_getElem?]
    cases h : listed[m]? <;> simp
  unfold Region.ready
  rw [List.mem_filter]
  simp only [List.mem_range, Bool.and_eq_true, Bool.not_eq_true']
  constructor
  · rintro ⟨hi, h1, h2⟩
    obtain ⟨o, ho⟩ : ∃ o, ops[i]? = some o := ⟨_, Array.getElem?_eq_getElem hi⟩
    refine ⟨o, ho, fun h => ?_, fun m hm => ?_⟩
    · unfold On at h
      rw [Array.getD_eq_getD_getElem?, h] at h1
      cases h1
    · rw [ho] at h2
      simp only [Option.map_some, Option.getD_some] at h2
      unfold waitL at hm
      obtain ⟨e, he, rfl⟩ := List.mem_map.1 hm
      obtain ⟨he1, he2⟩ := List.mem_filter.1 he
      have := Array.all_eq_true_iff_forall_mem.1 h2 e (Array.mem_toList_iff.1 he1)
      simp only [he2, Bool.not_true, Bool.false_or] at this
      exact (on _).1 this
  · rintro ⟨o, ho, h1, h2⟩
    have hi : i < ops.size := (Array.getElem?_eq_some_iff.1 ho).1
    refine ⟨hi, ?_, ?_⟩
    · rw [Array.getD_eq_getD_getElem?]
      have : i < listed.size := by omega
      have hg : listed[i]? = some listed[i] := Array.getElem?_eq_getElem this
      rw [hg]
      unfold On at h1
      rw [hg] at h1
      simpa using h1
    · rw [ho]
      simp only [Option.map_some, Option.getD_some]
      refine Array.all_eq_true_iff_forall_mem.2 fun e he => ?_
      cases hb : Region.binds .any e
      · rfl
      · simp only [Bool.not_true, Bool.false_or]
        exact (on _).2 (h2 _ (List.mem_map.2 ⟨e, List.mem_filter.2 ⟨Array.mem_toList_iff.2 he, hb⟩, rfl⟩))
theorem on_set {listed : Array Bool} {k : Nat} (hk : k < listed.size) (i : Nat) : On (listed.setIfInBounds k true) i ↔ On listed i ∨ i = k := by
  unfold On
  rw [Array.getElem?_setIfInBounds]
  split
  · rename_i h
    subst h
    simp [hk]
  · rename_i h
    constructor
    · exact .inl
    · rintro (h1 | h1)
      · exact h1
      · exact absurd h1.symm h
theorem cutB_spec {ops : Array Oper} {c : Nat} (h : cutsB ops.size (masks ops.toList) c = true) {k : Nat} (hk : k < ops.size) (hc : c ≤ k) {i : Nat} (hi : i < c) : Sees ops.toList k i := by
  unfold cutsB at h
  have := List.all_eq_true.1 h k (List.mem_range.2 hk)
  simp only [Bool.or_eq_true, Nat.blt_eq, beq_iff_eq] at this
  rcases this with h1 | h1
  · omega
  · refine masks_spec ?_
    have h2 : (Nat.land ((masks ops.toList).getD k 0) (2 ^ c - 1)).testBit i = true := by rw [h1, Nat.testBit_two_pow_sub_one]; simpa using hi
    rw [show Nat.land ((masks ops.toList).getD k 0) (2 ^ c - 1) = ((masks ops.toList).getD k 0) &&& (2 ^ c - 1) from rfl, Nat.testBit_and, Bool.and_eq_true] at h2
    exact h2.1
theorem waitB_spec {ops : Array Oper} (h : waitB ops = true) {k : Nat} {o : Oper} (ho : ops[k]? = some o) {m : Nat} (hm : m ∈ waitL o) : m < k := by
  unfold waitB at h
  have := List.all_eq_true.1 h k (List.mem_range.2 (Array.getElem?_eq_some_iff.1 ho).1)
  rw [ho] at this
  have := List.all_eq_true.1 this m hm
  simpa using this
theorem segB_spec {ops : Array Oper} {ms : List Nat} {b c : Nat} (h : segB ops ms b c = true) {j k : Nat} (hb : b ≤ j) (hjk : j < k) (hc : k < c) {oj ok : Oper} (hj : ops[j]? = some oj) (hk : ops[k]? = some ok) :
    (∀ d, oj.dst = some d → d ∈ ok.looksAt ops → (ms.getD k 0).testBit j = true) ∧ (∀ d, oj.dst = some d → ok.dst ≠ some d) ∧ (∀ d, ok.dst = some d → d ∈ oj.looksAt ops → (ms.getD k 0).testBit j = true) := by
  unfold segB at h
  have := List.all_eq_true.1 h k (List.mem_range.2 hc)
  simp only [Bool.or_eq_true, Nat.blt_eq] at this
  rcases this with h1 | h1
  · omega
  · have := List.all_eq_true.1 h1 j (List.mem_range.2 hjk)
    simp only [Bool.or_eq_true, Nat.blt_eq] at this
    rcases this with h2 | h2
    · omega
    · unfold pairB at h2
      rw [hj, hk] at h2
      simp only [Bool.and_eq_true] at h2
      refine ⟨fun d hd hl => ?_, fun d hd => ?_, fun d hd hl => ?_⟩
      · have h3 := h2.1
        rw [hd] at h3
        simp only [Bool.and_eq_true, Bool.or_eq_true, Bool.not_eq_true'] at h3
        rcases h3.1 with h4 | h4
        · have : (ok.looksAt ops).contains d = true := List.contains_iff_mem.2 hl
          rw [this] at h4; cases h4
        · exact h4
      · have h3 := h2.1
        rw [hd] at h3
        simp only [Bool.and_eq_true, bne_iff_ne, ne_eq] at h3
        exact h3.2
      · have h3 := h2.2
        rw [hd] at h3
        simp only [Bool.or_eq_true, Bool.not_eq_true'] at h3
        rcases h3 with h4 | h4
        · have : (oj.looksAt ops).contains d = true := List.contains_iff_mem.2 hl
          rw [this] at h4; cases h4
        · exact h4
theorem least_mem : ∀ (m : Nat) (l : List Nat), m ∈ l → ∃ i ∈ l, ∀ j ∈ l, i ≤ j := by
  intro m
  induction m using Nat.strongRecOn with
  | _ m ih =>
    intro l hm
    by_cases h : ∃ j ∈ l, j < m
    · obtain ⟨j, hj, hlt⟩ := h
      exact ih j hlt l hj
    · exact ⟨m, hm, fun j hj => by
        rcases Nat.lt_or_ge j m with h1 | h1
        · exact absurd ⟨j, hj, h1⟩ h
        · exact h1⟩
end Go.Proofs.YtghfigeepnbjaaaGreat
namespace Go.Proofs.YtghfigeepnbjaaaGreat

section
variable {P : Program} {w0 : World} {U : Nat → Prop} {T : Tab}
/-- The operations of a segment, in whatever order they come. -/
theorem seg_any {g : Sg} {Q : Exit → Act → World → Prop} (hsel : Region.noSelect g.ops = true) (hw : waitB g.ops = true) (hcut : cutsB g.ops.size (masks g.ops.toList) g.c = true)
    (hseg : segB g.ops (masks g.ops.toList) g.b g.c = true) (hbc : g.b ≤ g.c) (hcn : g.c ≤ g.ops.size)
    (laws : ∀ k o, g.b ≤ k → k < g.c → g.ops[k]? = some o → ∃ vis : List HE, bddA (g.H.length + vis.length) vis = true ∧
      (∀ t e, vis[t]? = some e → e ≠ .none → ∃ j, g.mak j ∧ g.e j = some e ∧ g.nm j = g.H.length + t ∧ ((masks g.ops.toList).getD k 0).testBit j = true) ∧
      SegLaw P w0 U g.H.length g.ops o (g.tmC (k - g.b)) (g.H ++ vis) (g.nm k) (g.s k) (g.e k)) {n0 : Nat} (h0 : w0.heap.size ≤ n0) {ρ00 : Loc}
    (fin : ∀ fuel listed ρ a w, Same g.H.length ρ00 ρ → listed.size = g.ops.size → (∀ i, On listed i ↔ i < g.c) → g.ops.size - g.c ≤ fuel → Rel w0 U ρ (g.tmC (g.c - g.b)) (g.H ++ g.mades (g.c - g.b)) a w → wpAny P .any g.ops Q fuel listed a w) :
    ∀ (fuel : Nat) (listed : Array Bool) (rem : List Nat) (D : Nat → Prop) (ρ : Loc) (a : Act) (w : World), listed.size = g.ops.size → rem.Nodup → (∀ i, i ∈ rem ↔ g.b ≤ i ∧ i < g.c ∧ ¬ D i) → (∀ i, D i → g.b ≤ i ∧ i < g.c) →
      (∀ i, On listed i ↔ i < g.b ∨ D i) → Closed g.ops.toList (On listed) → rem.length + (g.ops.size - g.c) ≤ fuel → Same g.H.length ρ00 ρ → g.St w0 U n0 D ρ a w → wpAny P .any g.ops Q fuel listed a w := by
  intro fuel
  induction fuel with
  | zero =>
    intro listed rem D ρ a w hs hnd hrem hD hon hcl hf hsm hst
    have : rem = [] := List.eq_nil_of_length_eq_zero (by omega)
    subst this
    have hall : ∀ k, g.b ≤ k → k < g.c → D k := fun k h1 h2 => Classical.byContradiction fun h => by have := (hrem k).2 ⟨h1, h2, h⟩; simp at this
    refine fin 0 listed ρ a w hsm hs (fun i => ?_) (by omega) (g.fin hst (by omega) hall h0)
    rw [hon i]
    constructor
    · rintro (h | h)
      · omega
      · exact (hD i h).2
    · intro h
      rcases Nat.lt_or_ge i g.b with h1 | h1
      · exact .inl h1
      · exact .inr (hall i h1 h)
  | succ fuel ih =>
    intro listed rem D ρ a w hs hnd hrem hD hon hcl hf hsm hst
    by_cases hre : rem = []
    · subst hre
      have hall : ∀ k, g.b ≤ k → k < g.c → D k := fun k h1 h2 => Classical.byContradiction fun h => by have := (hrem k).2 ⟨h1, h2, h⟩; simp at this
      refine fin (fuel + 1) listed ρ a w hsm hs (fun i => ?_) (by simpa using hf) (g.fin hst (by omega) hall h0)
      rw [hon i]
      constructor
      · rintro (h | h)
        · omega
        · exact (hD i h).2
      · intro h
        rcases Nat.lt_or_ge i g.b with h1 | h1
        · exact .inl h1
        · exact .inr (hall i h1 h)
    · obtain ⟨r, hr⟩ := List.exists_mem_of_ne_nil rem hre
      obtain ⟨i, hi, hmin⟩ := least_mem r rem hr
      have hi' := (hrem i).1 hi
      have hready : i ∈ Region.ready .any g.ops listed := by
        refine (ready_mem hs).2 ⟨_, Array.getElem?_eq_getElem (by omega), fun h => ?_, fun m hm => ?_⟩
        · rcases (hon i).1 h with h | h
          · omega
          · exact hi'.2.2 h
        · have hlt := waitB_spec hw (Array.getElem?_eq_getElem (by omega)) hm
          refine (hon m).2 ?_
          rcases Nat.lt_or_ge m g.b with h1 | h1
          · exact .inl h1
          · refine .inr (Classical.byContradiction fun h => ?_)
            have := hmin m ((hrem m).2 ⟨h1, by omega, h⟩)
            omega
      refine ⟨fun h => (by rw [h] at hready; cases hready), fun k hk => ?_⟩
      obtain ⟨o, ho, hnk, hwk⟩ := (ready_mem hs).1 hk
      have hkn : k < g.ops.size := (Array.getElem?_eq_some_iff.1 ho).1
      have hol : g.ops.toList[k]? = some o := by rw [Array.getElem?_toList]; exact ho
      have hkb : g.b ≤ k := by
        rcases Nat.lt_or_ge k g.b with h1 | h1
        · exact absurd ((hon k).2 (.inl h1)) hnk
        · exact h1
      have hkc : k < g.c := by
        rcases Nat.lt_or_ge k g.c with h1 | h1
        · exact h1
        · exfalso
          have := cutB_spec hcut hkn h1 hi'.2.1 (On listed) o hcl hol hwk
          rcases (hon i).1 this with h | h
          · omega
          · exact hi'.2.2 h
      have hDk : ¬ D k := fun h => hnk ((hon k).2 (.inr h))
      have hkr : k ∈ rem := (hrem k).2 ⟨hkb, hkc, hDk⟩
      -- the elder ones that it looks at are done; of the later ones none is
      have sees : ∀ j, ((masks g.ops.toList).getD k 0).testBit j = true → On listed j := fun j hj => masks_spec hj (On listed) o hcl hol hwk
      have seen : ∀ j oj, g.ops[j]? = some oj → On listed j → ∀ i, ((masks g.ops.toList).getD j 0).testBit i = true → On listed i := fun j oj hoj hj i hb =>
        masks_spec hb (On listed) oj hcl (by rw [Array.getElem?_toList]; exact hoj) (hcl j oj (by rw [Array.getElem?_toList]; exact hoj) hj)
      have hat : ∀ ρ', g.Ag D ρ ρ' → AtOk g.ops o (g.tmC (k - g.b)) ρ' a := fun ρ' hag => by
        refine g.atOk (hst.tm ρ' hag) (by omega) (fun cs b => Region.noSelect_spec hsel k o cs b ho) (fun t ht j oj hjk hoj hd => ?_) (fun t ht j oj hjb hjc hoj hd hDj => ?_)
        · have h1 := (segB_spec hseg (j := g.b + j) (k := k) (by omega) (by omega) hkc hoj ho).1 t hd ht
          rcases (hon _).1 (sees _ h1) with h | h
          · omega
          · exact h
        · rcases Nat.lt_trichotomy j k with h1 | h1 | h1
          · omega
          · exact absurd (h1 ▸ hDj) hDk
          · have h2 := (segB_spec hseg (j := k) (k := j) hkb h1 hjc ho hoj).2.2 t hd ht
            exact absurd (seen j oj hoj ((hon j).2 (.inr hDj)) k h2) hnk
      obtain ⟨vis, hvb, hvv, hlaw⟩ := laws k o hkb hkc ho
      have hv' : ∀ t e, vis[t]? = some e → e ≠ .none → ∃ j, g.mak j ∧ D j ∧ g.e j = some e ∧ g.nm j = g.H.length + t := fun t e ht hne => by
        obtain ⟨j, h1, h2, h3, h4⟩ := hvv t e ht hne
        refine ⟨j, h1, ?_, h2, h3⟩
        rcases (hon j).1 (sees j h4) with h5 | h5
        · have := h1.1; omega
        · exact h5
      have step := hlaw a w (g.Ag D ρ) ρ ⟨Same.refl _ _, fun _ _ _ => rfl⟩ hat (fun ρ' hag => ⟨hag.base, fun i e hi hne => by
        rw [List.getElem?_append] at hi
        split at hi
        · rename_i hlt; exact hag.base i hlt
        · rename_i hge
          obtain ⟨j, h1, h2, _, h4⟩ := hv' _ _ hi hne
          rw [show i = g.nm j by omega]
          exact hag.made j h2 h1⟩) (g.vis_rel hst h0 hv' (bddA_spec hvb)) (by rw [List.take_left]; exact hst.rel) (wpAny P .any g.ops Q fuel (listed.setIfInBounds k true)) Q
        (fun x v w' hx hg hv => by
          obtain ⟨ρ1, hst', hsm'⟩ := g.step hst hkb hkc ho hDk (fun j oj t hDj hjb hjc hoj hd => by
            rcases Nat.lt_trichotomy j k with h1 | h1 | h1
            · exact (segB_spec hseg (j := j) (k := k) hjb h1 hkc hoj ho).2.1 t hd
            · exact absurd (h1 ▸ hDj) hDk
            · intro hd'
              exact (segB_spec hseg (j := k) (k := j) hkb h1 hjc ho hoj).2.1 t hd' hd) hx (by unfold Kept at hg; rw [List.take_left] at hg; exact hg) hv
          have hon' : ∀ i, On (listed.setIfInBounds k true) i ↔ i < g.b ∨ ext D k i := fun i => by
            rw [on_set (by omega), hon i]
            unfold ext
            exact or_assoc
          refine ih (listed.setIfInBounds k true) (rem.erase k) (ext D k) ρ1 _ _ (by simpa using hs) (hnd.erase _) (fun i => ?_) (fun i hi => ?_) hon' (fun j oj hoj hj m hm => ?_) ?_ (hsm.trans hsm' (Nat.le_refl _)) hst'
          · rw [hnd.mem_erase_iff, hrem i]
            unfold ext
            constructor
            · rintro ⟨h1, h2, h3, h4⟩
              exact ⟨h2, h3, fun h => h.elim h4 h1⟩
            · rintro ⟨h2, h3, h4⟩
              exact ⟨fun h => h4 (.inr h), h2, h3, fun h => h4 (.inl h)⟩
          · rcases hi with hi | rfl
            · exact hD i hi
            · exact ⟨hkb, hkc⟩
          · refine (on_set (by omega) m).2 (.inl ?_)
            rcases (on_set (by omega) j).1 hj with h1 | rfl
            · exact hcl j oj hoj h1 m hm
            · rw [hol] at hoj; cases hoj
              exact hwk m hm
          · rw [List.length_erase_of_mem hkr]
            have : 0 < rem.length := List.length_pos_of_mem hkr
            omega)
      unfold wpOp
      rw [ho]
      rcases step with ⟨h1, h2⟩ | ⟨h1, h2⟩
      · simp only [h1, if_true]
        exact .inl h2
      · simp only [h1, Bool.false_eq_true, if_false]
        exact h2

/-- One operation alone. -/
theorem one_sound (hT : TabOK P T) {ops : Array Oper} {Q : Exit → Act → World → Prop} {k : Nat} {o : Oper} (ho : ops[k]? = some o) {ih : List SV → List HE → (List SV → List HE → Prop) → Prop} {tm : List SV} {H : List HE} {K : List SV → List HE → Prop}
    (h : opsCons P w0 U T ops o ih tm H K) {next : Act → World → Prop} {ρ : Loc} {a : Act} {w : World} (hr : Rel w0 U ρ tm H a w) (hn : ∀ ρ' tm' H' a' w', ih tm' H' K → Rel w0 U ρ' tm' H' a' w' → Same H.length ρ ρ' ∧ H.length ≤ H'.length → next a' w') : wpOp P ops Q k next a w := by
  unfold opsCons at h
  unfold wpOp
  rw [ho]
  obtain ⟨tm, hr, ⟨hw, h⟩ | ⟨hw, h⟩⟩ := guardK_spec h hr o rfl
  · simp only [hw, if_true]
    left
    obtain ⟨dst, op, ty, pos, af, g⟩ := o
    refine xOp_sound hT h hr dst ty pos af g fun v w' sv H' ρ' hK hA => ?_
    obtain ⟨tm', hK, hr'⟩ := putK_rel hK hr.1 (v := v) (fun ρ'' hs => ⟨(hr.2 ρ'' (hA.same.trans hs hA.le)).1, hA.rel ρ'' hs, fun _ => hA.val ρ'' hs⟩)
    exact hn ρ' tm' H' _ w' hK hr' ⟨hA.same, hA.le⟩
  · simp only [hw, Bool.false_eq_true, if_false]
    obtain ⟨tm', hK, hr'⟩ := putK_rel (w' := w) (v := undef) h hr.1 (fun ρ'' hs => ⟨(hr.2 ρ'' hs).1, (hr.2 ρ'' hs).2, fun _ => rfl⟩)
    exact hn ρ tm' H _ w hK hr' ⟨Same.refl _ _, Nat.le_refl _⟩

theorem closed_lt {ops : Array Oper} (hw : waitB ops = true) {L : Nat → Prop} {c : Nat} (hL : ∀ i, L i ↔ i < c) : Closed ops.toList L := fun k o ho hk j hj => by
  rw [Array.getElem?_toList] at ho
  have := waitB_spec hw ho hj
  have := (hL k).1 hk
  exact (hL j).2 (by omega)

theorem xDrw_sound (hT : TabOK P T) {m : Nat} {ρ0 : Loc} {ops : Array Oper} {Q : Exit → Act → World → Prop} {K : List SV → List HE → Prop} (hQ : ∀ ρ tm' H' a' w', K tm' H' → Rel w0 U ρ tm' H' a' w' → Same m ρ0 ρ ∧ m ≤ H'.length → Q .normal a' w')
    (hsel : Region.noSelect ops = true) (hw : waitB ops = true) {M : Nat} (hM : maskB M (masks ops.toList) ops.size = true) : ∀ (ps : List (List Oper)) (b : Nat) (tm : List SV) (H : List HE), piecesB ops (masks ops.toList) b ps = true → ops.toList.drop b = ps.flatten → b ≤ ops.size →
      xDrw P w0 U T M ops ps b tm H K → ∀ (fuel : Nat) (listed : Array Bool) (ρ : Loc) (a : Act) (w : World), listed.size = ops.size → (∀ i, On listed i ↔ i < b) → ops.size - b ≤ fuel → Rel w0 U ρ tm H a w → Same m ρ0 ρ ∧ m ≤ H.length → wpAny P .any ops Q fuel listed a w
  | [], b, tm, H, _, hfl, hb, h, fuel, listed, ρ, a, w, hs, hon, hf, hr, hsm => by
    have hle : ops.size ≤ b := by simpa using hfl
    have hrd : Region.ready .any ops listed = [] := by
      apply List.eq_nil_iff_forall_not_mem.2
      intro i hi
      obtain ⟨o, ho, hn, _⟩ := (ready_mem hs).1 hi
      have := (Array.getElem?_eq_some_iff.1 ho).1
      exact hn ((hon i).2 (by omega))
    have hK : K tm H := h
    cases fuel with
    | zero => exact ⟨hrd, hQ ρ tm H a w hK hr hsm⟩
    | succ fuel => exact ⟨fun _ => hQ ρ tm H a w hK hr hsm, fun i hi => by rw [hrd] at hi; cases hi⟩
  | p :: ps, b, tm, H, hB, hfl, hb, h, fuel, listed, ρ, a, w, hs, hon, hf, hr, hsm => by
    simp only [piecesB, Bool.and_eq_true, Bool.or_eq_true] at hB
    obtain ⟨⟨hcut, hseg⟩, hB⟩ := hB
    rw [List.flatten_cons] at hfl
    have hget : ∀ i, i < p.length → ops[b + i]? = p[i]? := fun i hi => by
      have h1 : (ops.toList.drop b)[i]? = p[i]? := by rw [hfl, List.getElem?_append_left hi]
      rw [List.getElem?_drop, Array.getElem?_toList] at h1
      exact h1
    have hfl' : ops.toList.drop (b + p.length) = ps.flatten := by
      rw [← List.drop_drop, hfl, List.drop_left]
    have hlen : b + p.length ≤ ops.size := by
      have h1 := congrArg List.length hfl
      simp only [List.length_drop, Array.length_toList, List.length_append] at h1
      omega
    have h : drwCons P w0 U T M ops p (xDrw P w0 U T M ops ps) b tm H K := h
    unfold drwCons at h
    split at h
    · rename_i o _
      have ho : ops[b]? = some o := by simpa using hget 0 (by simp)
      simp only [List.length_cons, List.length_nil, Nat.zero_add] at hcut hfl' hlen hB
      obtain ⟨fuel, rfl⟩ : ∃ f, fuel = f + 1 := ⟨fuel - 1, by omega⟩
      have hready : b ∈ Region.ready .any ops listed := (ready_mem hs).2 ⟨o, ho, fun h => by have := (hon b).1 h; omega, fun m hm => (hon m).2 (waitB_spec hw ho hm)⟩
      refine ⟨fun h => (by rw [h] at hready; cases hready), fun k hk => ?_⟩
      obtain ⟨ok, hok, hnk, hwk⟩ := (ready_mem hs).1 hk
      have hkn := (Array.getElem?_eq_some_iff.1 hok).1
      have hkb : k = b := by
        rcases Nat.lt_trichotomy k b with h1 | h1 | h1
        · exact absurd ((hon k).2 h1) hnk
        · exact h1
        · have := cutB_spec hcut hkn (by omega) (Nat.lt_succ_self b) (On listed) ok (closed_lt hw hon) (by rw [Array.getElem?_toList]; exact hok) hwk
          have := (hon b).1 this
          omega
      subst hkb
      refine one_sound hT ho h hr (fun ρ' tm' H' a' w' hK hr' hs1 => ?_)
      refine xDrw_sound hT hQ hsel hw hM ps (k + 1) tm' H' hB hfl' hlen hK fuel _ ρ' a' w' (by simpa using hs) (fun i => ?_) (by omega) hr' ⟨hsm.1.trans hs1.1 hsm.2, Nat.le_trans hsm.2 hs1.2⟩
      rw [on_set (by omega), hon i]
      omega
    · rename_i hp
      have hseg : segB ops (masks ops.toList) b (b + p.length) = true := by
        rcases hseg with h1 | h1
        · exfalso
          rcases p with _ | ⟨x, _ | ⟨y, p⟩⟩
          · simp at h1
          · exact hp x rfl
          · simp at h1
        · exact h1
      obtain ⟨is, hil, ⟨tm', hd, hK⟩, hlaws⟩ := xSeg_spec hT p b tm tm [] _ (DEq.refl _) h
      rw [lenA_eq] at hK
      simp only [List.map_nil, List.nil_append] at hK hlaws
      let g : Sg := { ops := ops, b := b, c := b + p.length, tm0 := tm, H := H, s := fun k => (is.getD (k - b) (.junk, none)).1, e := fun k => (is.getD (k - b) (.junk, none)).2 }
      have hgi : ∀ i q, is[i]? = some q → g.s (b + i) = q.1 ∧ g.e (b + i) = q.2 := fun i q hq => by simp [g, List.getD, hq]
      have htm : ∀ i, i ≤ p.length → g.tmC i = foldTm tm (p.take i) (is.take i) ∧ g.mades i = (is.take i).filterMap (·.2) := fun i => by
        induction i with
        | zero => intro _; exact ⟨by simp [Sg.tmC, foldTm, g], by simp [Sg.mades]⟩
        | succ i ih =>
          intro hi
          obtain ⟨h1, h2⟩ := ih (by omega)
          obtain ⟨o, ho⟩ : ∃ o, p[i]? = some o := ⟨_, List.getElem?_eq_getElem (by omega)⟩
          obtain ⟨q, hq⟩ : ∃ q, is[i]? = some q := ⟨_, List.getElem?_eq_getElem (by omega)⟩
          obtain ⟨e1, e2⟩ := hgi i q hq
          have hop : g.ops[g.b + i]? = some o := by rw [← ho]; exact hget i (by omega)
          refine ⟨?_, ?_⟩
          · rw [List.take_add_one, List.take_add_one, ho, hq, Option.toList_some, Option.toList_some, foldTm_snoc _ _ _ _ _ (by simp; omega), ← h1]
            show (match g.ops[g.b + i]? with
              | some o => setD (g.tmC i) o.dst (g.s (g.b + i))
              | none => g.tmC i) = _
            rw [hop]
            show setD (g.tmC i) o.dst (g.s (b + i)) = _
            rw [e1]
          · rw [List.take_add_one, hq, Option.toList_some, List.filterMap_append, ← h2]
            show g.mades i ++ (g.e (b + i)).toList = _
            rw [e2]
            cases hq2 : q.2 <;> simp [List.filterMap, hq2]
      have key := seg_any (g := g) (Q := Q) (P := P) (w0 := w0) (U := U) hsel hw hcut hseg (Nat.le_add_right _ _) hlen (fun k o hk1 hk2 ho => ?_) (n0 := w.heap.size) (hr.2 ρ (Same.refl _ _)).2.fr.size (ρ00 := ρ) (fun fuel listed ρ' a w hsg hs hon hf hr => ?_)
      · refine key fuel listed (List.range' b p.length) (fun _ => False) ρ a w hs (List.nodup_range' ..) (fun i => ?_) (fun i h => h.elim) (fun i => ?_) (closed_lt hw hon) ?_ (Same.refl _ _) (g.start hr)
        · simp only [List.mem_range'_1, not_false_eq_true, and_true]
          exact Iff.rfl
        · rw [hon i]; simp [g]
        · rw [List.length_range']
          show p.length + (ops.size - (b + p.length)) ≤ fuel
          omega
      · have hk1 : b ≤ k := hk1
        have hk2 : k < b + p.length := hk2
        have ho : ops[k]? = some o := ho
        have hop : p[k - b]? = some o := by rw [← hget (k - b) (by omega), show b + (k - b) = k by omega]; exact ho
        obtain ⟨q, hq⟩ : ∃ q, is[k - b]? = some q := ⟨_, List.getElem?_eq_getElem (by omega)⟩
        obtain ⟨vis, hvl, hvb, hvv, hl⟩ := hlaws (k - b) o q hop hq
        rw [show b + (k - b) = k by omega] at hvv
        have hkn : k < ops.size := by omega
        have hmask : ∀ j, (mkOf M k).testBit j = true → ((masks ops.toList).getD k 0).testBit j = true := fun j hj => by
          have := List.all_eq_true.1 hM k (List.mem_range.2 hkn)
          simp only [beq_iff_eq] at this
          rw [← this, show Nat.land (mkOf M k) ((masks ops.toList).getD k 0) = mkOf M k &&& (masks ops.toList).getD k 0 from rfl, Nat.testBit_and, Bool.and_eq_true] at hj
          exact hj.2
        obtain ⟨e1, e2⟩ := hgi (k - b) q hq
        rw [show b + (k - b) = k by omega] at e1 e2
        obtain ⟨h1, h2⟩ := htm (k - b) (by omega)
        refine ⟨vis, hvb, fun t e ht hne => ?_, ?_⟩
        · rcases hvv t e ht hne with ⟨j, h5, _⟩ | ⟨i', q', h5, h6, h7, h8, h9⟩
          · simp at h5
          · obtain ⟨f1, f2⟩ := hgi i' q' h6
            have f2 : g.e (b + i') = some e := by rw [f2, h7]
            refine ⟨b + i', ⟨Nat.le_add_right _ _, ?_, by rw [f2]; rfl⟩, f2, ?_, hmask _ h9⟩
            · show b + i' < b + p.length
              omega
            · obtain ⟨_, h2'⟩ := htm i' (by omega)
              show H.length + (g.mades (b + i' - b)).length = H.length + t
              rw [show b + i' - b = i' by omega, h2', h8]
        · rw [e1, e2]
          show SegLaw P w0 U H.length ops o (g.tmC (k - b)) (H ++ vis) (H.length + (g.mades (k - b)).length) q.1 q.2
          rw [h1, h2]
          exact hl
      · have hmc : g.c - g.b = p.length := by show b + p.length - b = p.length; omega
        rw [hmc] at hr
        obtain ⟨h1, h2⟩ := htm p.length (Nat.le_refl _)
        rw [h1, h2, List.take_length, List.take_of_length_le (by omega)] at hr
        refine xDrw_sound hT hQ hsel hw hM ps (b + p.length) tm' _ hB hfl' hlen hK fuel listed ρ' a w hs hon hf ⟨hr.1, fun ρ'' hs' => ⟨hd.tmOk (hr.2 ρ'' hs').1, ?_⟩⟩ ⟨hsm.1.trans hsg hsm.2, Nat.le_trans hsm.2 (by simp)⟩
        exact (hr.2 ρ'' hs').2
/-- A region that draws its order, by its pieces. -/
theorem draw_go (hT : TabOK P T) {id : Nat} {ops : Array Oper} {tm : List SV} {H : List HE} {K : List SV → List HE → Prop} (hB : drawB ops = true) (h : xDrw P w0 U T (packM ops.toList 0 0) ops (piecesOf ops) 0 tm H K) : DrawN P w0 U id ops tm H K := by
  unfold drawB at hB
  simp only [Bool.and_eq_true] at hB
  obtain ⟨⟨⟨hsel, hw⟩, hB⟩, hM⟩ := hB
  refine ⟨fun ρ a w hr => wp_region_any hT.mixed ?_⟩
  refine xDrw_sound hT (m := H.length) (ρ0 := ρ) (fun ρ' tm' H' a' w' hK hr' hs' => ⟨rfl, ρ', tm', H', hr', hs', hK⟩) hsel hw hM _ 0 tm H hB (by simpa [piecesOf] using (piecesL_flat _ _ _ _ _).symm) (Nat.zero_le _) h ops.size _ ρ a w.drew (by simp) (fun i => ?_) (by omega) hr.drew ⟨Same.refl _ _, Nat.le_refl _⟩
  unfold On
  simp only [Array.getElem?_replicate]
  constructor
  · intro h
    split at h <;> cases h
  · intro h; omega
end
end Go.Proofs.YtghfigeepnbjaaaGreat
