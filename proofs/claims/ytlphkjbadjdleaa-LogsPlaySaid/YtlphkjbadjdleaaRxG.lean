/-
  The walk of a region that draws its order: segments and barriers. No condition.
-/
import Derived.Test.YtlphkjbadjdleaaRxF
namespace Go.Proofs.Ytlphkjbadjdleaa

def mkB (o : Op) : Bool := match o with
  | .alloc _ => true
  | .box _ _ => true
  | .buildSlice _ _ _ => true
  | .makeSlice _ _ _ => true
  | .makeMap _ _ => true
  | .call c => match c.callee with
    | .builtin .append => true
    | _ => false
  | _ => false
section
variable (P : Program) (w0 : World) (U : Nat → Prop) (T : Tab)
/-- An operation of a segment. -/
def sOp (nb : Nat) (tm : List SV) (H : List HE) (N : Nat) (o : Op) (K : SV → Option HE → Prop) : Prop := match callOf o with
  | some (f, args) => callX T tm f args fun g ss => CallS P w0 U nb g ss H N K
  | none => match mkB o with
    | true => xMk T tm H N o fun s e => K s (some e)
    | false => xPure T tm H o fun s => K s none
end
section
variable {P : Program} {w0 : World} {U : Nat → Prop} {T : Tab}
theorem sOp_law (hT : TabOK P T) {nb : Nat} {ops : Array Oper} {tm : List SV} {H : List HE} {N : Nat} {o : Oper} {K : SV → Option HE → Prop} (h : sOp P w0 U T nb tm H N o.op K) : ∃ s e, K s e ∧ OpLaw P w0 U nb ops o tm H N s e := by
  unfold sOp at h
  split at h
  · rename_i f args hc
    exact op_call hT hc h
  · split at h
    · obtain ⟨s, e, hK, hl⟩ := op_mk (w0 := w0) (U := U) (ops := ops) hT h
      exact ⟨s, some e, hK, hl⟩
    · obtain ⟨s, hK, hl⟩ := op_pure (w0 := w0) (U := U) (ops := ops) hT h
      exact ⟨s, none, hK, hl⟩

/-- Whatever the blocks are called, they denote the same. -/
def DEq (tm tm' : List SV) : Prop := tm'.length = tm.length ∧ ∀ (i : Nat) (x : SV), tm'[i]? = some x → x ≠ .junk → ∃ y, tm[i]? = some y ∧ y ≠ .junk ∧ ∀ ρ, x.den ρ = y.den ρ
theorem DEq.refl (tm : List SV) : DEq tm tm := ⟨rfl, fun _ x h hj => ⟨x, h, hj, fun _ => rfl⟩⟩
theorem DEq.trans {a b c : List SV} (h : DEq a b) (k : DEq b c) : DEq a c :=
  ⟨k.1.trans h.1, fun i x hx hj => by
    obtain ⟨y, hy, hyj, e⟩ := k.2 i x hx hj
    obtain ⟨z, hz, hzj, e'⟩ := h.2 i y hy hyj
    exact ⟨z, hz, hzj, fun ρ => (e ρ).trans (e' ρ)⟩⟩
theorem DEq.tmOk {tm tm' : List SV} (h : DEq tm tm') {ρ : Loc} {ts : Array Value} (hm : TmOk ρ tm ts) : TmOk ρ tm' ts :=
  ⟨hm.1.trans h.1.symm, fun i x hx hj => by
    obtain ⟨y, hy, hyj, e⟩ := h.2 i x hx hj
    rw [hm.2 i y hy hyj, e]⟩
theorem DEq.set {tm tm' : List SV} (h : DEq tm tm') (d : Nat) (s : SV) : DEq (tm.set d s) (tm'.set d s) := by
  refine ⟨by simp [h.1], fun i x hx hj => ?_⟩
  rw [List.getElem?_set] at hx ⊢
  by_cases hd : d = i
  · subst hd
    rw [if_pos rfl] at hx ⊢
    by_cases hl : d < tm'.length
    · rw [if_pos hl] at hx
      cases hx
      exact ⟨s, by rw [if_pos (by rw [← h.1]; exact hl)], hj, fun _ => rfl⟩
    · rw [if_neg hl] at hx; cases hx
  · rw [if_neg hd] at hx ⊢
    exact h.2 i x hx hj
theorem DEq.know {tm : List SV} {d : Nat} {b c : Bool} (hd : getS tm d = .v (.bool b)) (hb : b = c) : DEq tm (tm.set d (.kb c)) := by
  refine ⟨by simp, fun i x hx hj => ?_⟩
  rw [List.getElem?_set] at hx
  by_cases h : d = i
  · subst h
    have h1 := getS_spec tm d (by rw [hd]; intro h; cases h)
    rw [hd] at h1
    rw [if_pos rfl] at hx
    split at hx
    · cases hx
      exact ⟨_, h1, fun h => (by cases h), fun ρ => by rw [hb]; rfl⟩
    · cases hx
  · rw [if_neg h] at hx
    exact ⟨x, hx, hj, fun _ => rfl⟩
theorem guardK_sem {ops : Array Oper} {tm : List SV} {o : Oper} {yes no : List SV → Prop} (h : guardK ops tm o.guard yes no) :
    ∃ tm' want, DEq tm tm' ∧ (want = true → yes tm') ∧ (want = false → no tm') ∧ ∀ (ρ : Loc) (a : Act), TmOk ρ tm a.tmps → Region.wanted o (yielded ops a.tmps) = want := by
  generalize ho : o.guard = g at h
  unfold guardK at h
  split at h
  · exact ⟨tm, true, DEq.refl _, fun _ => h, (fun h => by cases h), fun ρ a _ => by simp [Region.wanted, ho]⟩
  · rename_i j want
    split at h
    · rename_i hd
      refine ⟨tm, false, DEq.refl _, (fun h => by cases h), fun _ => h, fun ρ a _ => by simp [Region.wanted, ho, yielded, hd]⟩
    · rename_i d hd
      have look : ∀ {s : SV}, getS tm d = s → s ≠ .junk → ∀ (ρ : Loc) (a : Act), TmOk ρ tm a.tmps → a.tmps[d]? = some (s.den ρ) := fun {s} hs hj ρ a hm => by
        have h1 := getS_spec tm d (by rw [hs]; exact hj)
        rw [hs] at h1
        exact hm.2 d s h1 hj
      split at h
      · rename_i hb
        have hy : ∀ (ρ : Loc) (a : Act), TmOk ρ tm a.tmps → yielded ops a.tmps j = some true := fun ρ a hm => by simp [yielded, hd, look hb (fun h => by cases h) ρ a hm, SV.den]
        cases want
        · exact ⟨tm, false, DEq.refl _, (fun h => by cases h), fun _ => h, fun ρ a hm => by simp [Region.wanted, ho, hy ρ a hm]⟩
        · exact ⟨tm, true, DEq.refl _, fun _ => h, (fun h => by cases h), fun ρ a hm => by simp [Region.wanted, ho, hy ρ a hm]⟩
      · rename_i hb
        have hy : ∀ (ρ : Loc) (a : Act), TmOk ρ tm a.tmps → yielded ops a.tmps j = some false := fun ρ a hm => by simp [yielded, hd, look hb (fun h => by cases h) ρ a hm, SV.den]
        cases want
        · exact ⟨tm, true, DEq.refl _, fun _ => h, (fun h => by cases h), fun ρ a hm => by simp [Region.wanted, ho, hy ρ a hm]⟩
        · exact ⟨tm, false, DEq.refl _, (fun h => by cases h), fun _ => h, fun ρ a hm => by simp [Region.wanted, ho, hy ρ a hm]⟩
      · rename_i b hb
        have hy : ∀ (ρ : Loc) (a : Act), TmOk ρ tm a.tmps → yielded ops a.tmps j = some b := fun ρ a hm => by simp [yielded, hd, look hb (fun h => by cases h) ρ a hm, SV.den]
        cases want <;> cases hbv : b
        · exact ⟨_, true, DEq.know hb hbv, fun _ => setK_spec _ _ _ _ (h.hf hbv), (fun h => by cases h), fun ρ a hm => by simp [Region.wanted, ho, hy ρ a hm, hbv]⟩
        · exact ⟨_, false, DEq.know hb hbv, (fun h => by cases h), fun _ => setK_spec _ _ _ _ (h.ht hbv), fun ρ a hm => by simp [Region.wanted, ho, hy ρ a hm, hbv]⟩
        · exact ⟨_, false, DEq.know hb hbv, (fun h => by cases h), fun _ => setK_spec _ _ _ _ (h.hf hbv), fun ρ a hm => by simp [Region.wanted, ho, hy ρ a hm, hbv]⟩
        · exact ⟨_, true, DEq.know hb hbv, fun _ => setK_spec _ _ _ _ (h.ht hbv), (fun h => by cases h), fun ρ a hm => by simp [Region.wanted, ho, hy ρ a hm, hbv]⟩
      · rename_i vs hb
        exact ⟨tm, false, DEq.refl _, (fun h => by cases h), fun _ => h, fun ρ a hm => by simp [Region.wanted, ho, yielded, hd, look hb (fun h => by cases h) ρ a hm, SV.den]⟩
      · exact h.elim
def setD (tm : List SV) (dst : Option Tmp) (s : SV) : List SV := match dst with | none => tm | some d => tm.set d s
theorem putK_setD {dst : Option Tmp} {tm : List SV} {s : SV} {K : List SV → Prop} (h : putK dst tm s K) : K (setD tm dst s) := by
  cases dst with
  | none => exact h
  | some d => exact setK_spec _ _ _ _ h
theorem DEq.setD {tm tm' : List SV} (h : DEq tm tm') (d : Option Tmp) (s : SV) : DEq (setD tm d s) (setD tm' d s) := by
  cases d with
  | none => exact h
  | some d => exact h.set d s
/-- One operation of a segment, with its guard. -/
theorem seg_law (hT : TabOK P T) {nb : Nat} {ops : Array Oper} {tm0 tm : List SV} (hd : DEq tm0 tm) {H : List HE} {N : Nat} {o : Oper} {K : List SV → Option HE → Prop}
    (h : guardK ops tm o.guard (fun tm => sOp P w0 U T nb tm H N o.op fun s e => putK o.dst tm s fun tm' => K tm' e) (fun tm => putK o.dst tm (.v undef) fun tm' => K tm' none)) :
    ∃ s e tm', K tm' e ∧ SegLaw P w0 U nb ops o tm0 H N s e ∧ DEq (setD tm0 o.dst s) tm' := by
  obtain ⟨tm1, want, hd1, hy, hn, hw⟩ := guardK_sem h
  cases want
  · refine ⟨.v undef, none, _, putK_setD (hn rfl), fun a w G ρ hg hm _ _ _ next Q hnx => .inr ⟨by obtain ⟨a', h1, _, _, h4⟩ := hm ρ hg; rw [← h4]; exact hw ρ a' (hd.tmOk h1), ?_⟩, (hd.trans hd1).setD _ _⟩
    exact hnx none undef w (fun b hb => by simp at hb) (.inl (only_refl _ _)) fun ρ' _ _ => ⟨rfl, fun _ h => by cases h⟩
  · obtain ⟨s, e, hK, hl⟩ := sOp_law (ops := ops) hT (hy rfl)
    refine ⟨s, e, _, putK_setD hK, fun a w G ρ hg hm hs hr hb next Q hnx => .inl ⟨by obtain ⟨a', h1, _, _, h4⟩ := hm ρ hg; rw [← h4]; exact hw ρ a' (hd.tmOk h1), ?_⟩, (hd.trans hd1).setD _ _⟩
    exact hl a w G ρ hg (fun ρ' hg' => by obtain ⟨a', h1, h2⟩ := hm ρ' hg'; exact ⟨a', (hd.trans hd1).tmOk h1, h2⟩) hs hr hb next Q hnx
end
end Go.Proofs.Ytlphkjbadjdleaa
