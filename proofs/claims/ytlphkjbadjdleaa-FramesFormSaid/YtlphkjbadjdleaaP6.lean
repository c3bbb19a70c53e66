/-
  What a call hands back as a slice of its own, laid under a seal: a closed value, and a fact. No condition.
-/
import Derived.Test.YtlphkjbadjdleaaP5
namespace Go.Proofs.Ytlphkjbadjdleaa
section
variable {w0 : World} {U : Nat → Prop}
/-- One entry speaks of more: of what is new, too. -/
theorem HOk.setG {ρ : Loc} {H : List HE} {w w' : World} (h : HOk w0 U ρ H w) (hg : w.grownBy w' none) {i : Nat} {d d' : HE} (hi : H[i]? = some d) (hd : d.wr) (hf : ∀ b, d'.foot ρ i b → d.foot ρ i b ∨ w.heap.size ≤ b) (hw : d'.ok ρ w' i) : HOk w0 U ρ (H.set i d') w' := by
  have hk := keepH h hg (fun _ _ _ _ _ _ => by simp) (fun k hk => by cases hk)
  have key : ∀ j e, (H.set i d')[j]? = some e → (j ≠ i ∧ H[j]? = some e) ∨ (j = i ∧ e = d') := fun j e hj => by
    rw [List.getElem?_set] at hj
    split at hj
    · rename_i hij; subst hij
      split at hj
      · exact .inr ⟨rfl, by simpa using hj.symm⟩
      · cases hj
    · rename_i hij; exact .inl ⟨fun h => hij h.symm, hj⟩
  refine ⟨fun j e hj => ?_, fun j e hj he b hb' => ?_, fun j k d1 e1 hjk hj he1 hk' hl b ha hb' => ?_, hk.fr⟩
  · rcases key j e hj with ⟨_, hj'⟩ | ⟨rfl, rfl⟩
    · exact hk.ent j e hj'
    · exact hw
  · rcases key j _ hj with ⟨_, hj'⟩ | ⟨hji, hde⟩
    · exact h.own j _ hj' he b hb'
    · subst hji; subst hde
      rcases hf b hb' with h1 | h1
      · exact h.own j _ hi hd b h1
      · exact .inl (Nat.le_trans h.fr.size h1)
  · rcases key j _ hj with ⟨hne, hj'⟩ | ⟨hji, hde⟩ <;> rcases key k _ hk' with ⟨hne', hk''⟩ | ⟨hki, hee⟩
    · exact h.dis j k _ _ hjk hj' he1 hk'' hl b ha hb'
    · subst hki; subst hee
      rcases hf b hb' with h1 | h1
      · exact h.dis j k _ _ hjk hj' he1 hi (HE.wr_live hd) b ha h1
      · have := HE.ok_lt (h.ent j _ hj') (HE.wr_live he1) ha
        omega
    · subst hji; subst hde
      rcases hf b ha with h1 | h1
      · exact h.dis j k _ _ hjk hi hd hk'' hl b h1 hb'
      · have := HE.ok_lt (h.ent k _ hk'') hl hb'
        omega
    · exact absurd (hji.trans hki.symm) hjk
/-- The block of a slice. -/
def sliceZ (q : Value) (b : Nat) : Prop := ∃ a n c, q = .slice (some a) n c ∧ a.block = b
theorem sliceV_st {q : Value} {sz n : Nat} {f : Nat → Nat → Value} {w1 w2 : World} (hs : ∀ b, sliceZ q b → w2.heap[b]? = w1.heap[b]?) (h : SliceV w1 q sz n f) : SliceV w2 q sz n f := by
  obtain ⟨a, cap, rfl, h1, h2, h3⟩ := h
  refine ⟨a, cap, rfl, h1, h2, fun h0 => ?_⟩
  obtain ⟨b, off, rfl, hb, hc⟩ := h3 h0
  have hg := hs b ⟨_, _, _, rfl, rfl⟩
  refine ⟨b, off, rfl, ?_, fun r c hr hcz => ?_⟩
  · have := (Array.getElem?_eq_some_iff.1 (Array.getElem?_eq_getElem hb)).1
    rcases Nat.lt_or_ge b w2.heap.size with h | h
    · exact h
    · rw [Array.getElem?_eq_none h, Array.getElem?_eq_getElem hb] at hg
      cases hg
  · rw [← hc r c hr hcz]
    exact World.cell?_of_block (w := w1) hg
/-- What a callee makes: a value that holds a new slice. -/
def Fresh (w w' : World) (q : Value) (sz n : Nat) (g : Nat → Nat → Value) : Prop := SliceV w' q sz n g ∧ ∀ b, sliceZ q b → w.heap.size ≤ b ∧ b < w'.heap.size
/-- A call that hands back a new slice in a value: sealed, beside what was sealed. -/
theorem call_into {P : Program} {f : FuncId} {args : List SV} {H : List HE} {K : SV → List HE → Prop} (j sz n : Nat) (g : Nat → Nat → Value) (V : Value → Value) {Z : Nat → Prop} {Q : World → Prop} (hj : getH H j = .res true Z Q)
    (hc : ∀ ρ w, HRel w0 U ρ H w → Calls P f (SV.denL ρ args).toArray w fun e w' => ∃ q, e = .returned (V q) ∧ Fresh w w' q sz n g ∧ w.grownBy w' none)
    (hK : ∀ q, setHK H j (.res true (fun b => Z b ∨ sliceZ q b) fun u => Q u ∧ SliceV u q sz n g) fun H' => K (.v (V q)) H') : CallN P w0 U f args H K :=
  ⟨fun ρ w hr => (hc ρ w hr).mono fun e w' ⟨q, he, ⟨hS, hZ⟩, hg⟩ => by
    have hj' := getH_res hj
    refine ⟨.v (V q), _, ρ, fun _ _ => he, fun ρ'' h'' => ?_, Same.refl _ _, by simp, setHK_spec _ _ _ _ (hK q)⟩
    have h'' : Same H.length ρ ρ'' := by simpa using h''
    have hok := hr ρ'' h''
    have hk := keepH hok hg (fun _ _ _ _ _ _ => by simp) (fun k hk => by cases hk)
    obtain ⟨k1, k2, k3⟩ := hk.ent j _ hj'
    refine hok.setG hg hj' rfl (fun b hb => ?_) ⟨⟨k1, hS⟩, fun b hb => ?_, fun w1 w2 hs ⟨q1, q2⟩ => ⟨k3 w1 w2 (fun b hb => hs b (.inl hb)) q1, sliceV_st (fun b hb => hs b (.inr hb)) q2⟩⟩
    · rcases hb with h | h
      · exact .inl h
      · exact .inr (hZ b h).1
    · rcases hb with h | h
      · exact k2 b h
      · exact (hZ b h).2⟩
/-- The same, sealed alone. -/
theorem call_sealed {P : Program} {f : FuncId} {args : List SV} {H : List HE} {K : SV → List HE → Prop} (sz n : Nat) (g : Nat → Nat → Value) (V : Value → Value)
    (hc : ∀ ρ w, HRel w0 U ρ H w → Calls P f (SV.denL ρ args).toArray w fun e w' => ∃ q, e = .returned (V q) ∧ Fresh w w' q sz n g ∧ w.grownBy w' none)
    (hK : ∀ q, appK H (.res true (sliceZ q) fun u => SliceV u q sz n g) fun H' => K (.v (V q)) H') : CallN P w0 U f args H K :=
  ⟨fun ρ w hr => (hc ρ w hr).mono fun e w' ⟨q, he, ⟨hS, hZ⟩, hg⟩ => ⟨.v (V q), _, ρ, fun _ _ => he, fun ρ'' h'' => by
    have h'' : Same H.length ρ ρ'' := h''.mono (by simp)
    have hok := hr ρ'' h''
    exact addHF (keepH hok hg (fun _ _ _ _ _ _ => by simp) (fun k hk => by cases hk)) ⟨hS, fun b hb => (hZ b hb).2, fun w1 w2 hs h => sliceV_st hs h⟩ (fun _ b hb => .inl (Nat.le_trans hok.fr.size (hZ b hb).1)) (fun i d hi hl _ b hb hd => by
      have := HE.ok_lt (hok.ent i d hi) hl hd
      have := (hZ b hb).1
      omega), Same.refl _ _, by simp, appK_spec _ _ _ (hK q)⟩⟩
/-- A slice of one's own, laid under a seal that is there (j), its own entry known no more. -/
theorem HOk.seal {ρ : Loc} {H : List HE} {w : World} {ty : TypeId} {sz n : Nat} {g : Nat → Nat → Value} (h : HOk w0 U ρ (H ++ [.own ty sz n g]) w) {j : Nat} {Z : Nat → Prop} {Q : World → Prop} (hj : H[j]? = some (.res true Z Q)) {q : Value} (hq : q = (SV.os H.length n).den ρ) :
    HOk w0 U ρ (H.set j (.res true (fun b => Z b ∨ sliceZ q b) fun u => Q u ∧ SliceV u q sz n g) ++ [.none]) w := by
  have hlast : (H ++ [HE.own ty sz n g])[H.length]? = some (.own ty sz n g) := by simp
  have hjl := (List.getElem?_eq_some_iff.1 hj).1
  have lft : ∀ {i : Nat} {e : HE}, H[i]? = some e → (H ++ [HE.own ty sz n g])[i]? = some e := fun hi => by
    rw [List.getElem?_append_left (List.getElem?_eq_some_iff.1 hi).1]; exact hi
  have zf : ∀ b, sliceZ q b → HE.foot ρ H.length (.own ty sz n g) b := fun b ⟨a, m, c, hqa, hab⟩ => by
    rw [hq] at hqa
    simp only [SV.den, atB'] at hqa
    injection hqa with hqa _ _
    obtain ⟨a', ha', hae⟩ := Option.map_eq_some_iff.1 hqa
    refine ⟨a', ha', ?_⟩
    rw [← hab, ← hae]
  have key : ∀ i e, (H.set j (.res true (fun b => Z b ∨ sliceZ q b) fun u => Q u ∧ SliceV u q sz n g) ++ [HE.none])[i]? = some e → e ≠ .none →
      (i ≠ j ∧ i < H.length ∧ H[i]? = some e) ∨ (i = j ∧ e = .res true (fun b => Z b ∨ sliceZ q b) fun u => Q u ∧ SliceV u q sz n g) := fun i e hi hne => by
    rw [List.getElem?_append] at hi
    split at hi
    · rename_i hlt
      simp only [List.length_set] at hlt
      rw [List.getElem?_set] at hi
      split at hi
      · rename_i hij; subst hij
        exact .inr ⟨rfl, by simpa [hlt] using hi.symm⟩
      · rename_i hij; exact .inl ⟨fun h => hij h.symm, hlt, hi⟩
    · rename_i hlt
      simp only [List.length_set] at hi hlt
      rcases Nat.eq_or_lt_of_le (Nat.le_of_not_lt hlt) with hh | hh
      · rw [← hh] at hi; simp at hi; exact absurd hi.symm hne
      · rw [List.getElem?_eq_none (by simp; omega)] at hi; cases hi
  obtain ⟨k1, k2, k3⟩ := h.ent j _ (lft hj)
  have hown := h.ent _ _ hlast
  have hsl : SliceV w q sz n g := by rw [hq]; exact own_sl hown
  refine ⟨fun i e hi => ?_, fun i e hi hw b hb => ?_, fun i k d e hik hi hd hk hl b ha hb => ?_, h.fr⟩
  · by_cases hne : e = .none
    · subst hne; trivial
    · rcases key i e hi hne with ⟨_, _, hi'⟩ | ⟨rfl, rfl⟩
      · exact h.ent i e (lft hi')
      · refine ⟨⟨k1, hsl⟩, fun b hb => ?_, fun w1 w2 hs ⟨q1, q2⟩ => ⟨k3 w1 w2 (fun b hb => hs b (.inl hb)) q1, sliceV_st (fun b hb => hs b (.inr hb)) q2⟩⟩
        rcases hb with hb | hb
        · exact k2 b hb
        · exact HE.ok_lt hown trivial (zf b hb)
  · rcases key i e hi (fun h => by subst h; exact hw) with ⟨_, _, hi'⟩ | ⟨rfl, rfl⟩
    · exact h.own i e (lft hi') hw b hb
    · rcases hb with hb | hb
      · exact h.own i _ (lft hj) rfl b hb
      · exact h.own _ _ hlast trivial b (zf b hb)
  · rcases key i d hi (fun h => by subst h; exact hd) with ⟨hne, hil, hi'⟩ | ⟨rfl, rfl⟩ <;> rcases key k e hk (fun h => by subst h; exact hl) with ⟨hne', hkl, hk'⟩ | ⟨hke, hee⟩
    · exact h.dis i k d e hik (lft hi') hd (lft hk') hl b ha hb
    · subst hke; subst hee
      rcases hb with hb | hb
      · exact h.dis i k d _ hik (lft hi') hd (lft hj) trivial b ha hb
      · exact h.dis i H.length d _ (by omega) (lft hi') hd hlast trivial b ha (zf b hb)
    · rcases ha with ha | ha
      · exact h.dis i k _ e hik (lft hj) rfl (lft hk') hl b ha hb
      · exact h.dis H.length k _ e (by omega) hlast trivial (lft hk') hl b (zf b ha) hb
    · exact absurd hke.symm hik
/-- The same, in a call: its value is closed then. -/
theorem call_seal {P : Program} {f : FuncId} {args : List SV} {H : List HE} {K : SV → List HE → Prop} {sv : SV} {ty : TypeId} {sz n : Nat} {g : Nat → Nat → Value} (j : Nat) {Z : Nat → Prop} {Q : World → Prop} (V : Value → SV)
    (hc : CallN P w0 U f args H fun s H' => s = sv ∧ H' = H ++ [.own ty sz n g]) (hV : ∀ ρ ρ', sv.den ρ = (V ((SV.os H.length n).den ρ)).den ρ') (hj : getH H j = .res true Z Q)
    (hK : ∀ (x : Option Addr) (c : Nat), setHK H j (.res true (fun b => Z b ∨ sliceZ (.slice x n c) b) fun u => Q u ∧ SliceV u (.slice x n c) sz n g) fun H1 => appK H1 .none fun H' => K (V (.slice x n c)) H') : CallN P w0 U f args H K :=
  ⟨fun ρ w hr => (hc.out ρ w hr).mono fun e w' ⟨s, H', ρ', he, hr', hs, hl, h1, h2⟩ => by
    subst h1 h2
    have hq := hK (atB' ρ' H.length) (capB ρ' H.length)
    refine ⟨_, _, ρ', fun ρ'' _ => (by rw [he ρ' (Same.refl _ _), hV ρ' ρ'']; rfl), fun ρ'' h'' => ?_, hs, by simp, appK_spec _ _ _ (setHK_spec _ _ _ _ hq)⟩
    have h'' : Same (H.length + 1) ρ' ρ'' := by simpa using h''
    refine (hr' ρ'' (by simpa using h'')).seal (getH_res hj) ?_
    have := h'' H.length (by omega)
    simp only [SV.den, atB', capB, this]⟩
/-- Nothing is sealed yet. -/
theorem call_res0 {P : Program} {f : FuncId} {args : List SV} {H : List HE} {K : SV → List HE → Prop} (h : CallN P w0 U f args (H ++ [.res true (fun _ => False) fun _ => True]) K) (hb : SV.bddL H.length args = true) : CallN P w0 U f args H K :=
  ⟨fun ρ w hr => by
    refine (h.out ρ w fun ρ' hs => addHF (hr ρ' (hs.mono (by simp))) ⟨trivial, fun b hb => hb.elim, fun _ _ _ _ => trivial⟩ (fun _ b hb => hb.elim) (fun _ _ _ _ _ b hb => hb.elim)).mono ?_
    rintro e w' ⟨sv, H', ρ', h1, h2, h3, h4, h5⟩
    simp only [List.length_append, List.length_cons, List.length_nil] at h3 h4
    exact ⟨sv, H', ρ', h1, h2, h3.mono (by omega), by omega, h5⟩⟩
/-- Ahead of a call what is known may be put in other words (all names stay). -/
theorem call_less {P : Program} {f : FuncId} {args : List SV} {H H1 : List HE} {K : SV → List HE → Prop} (hb : SV.bddL H.length args = true) (hl : Less H.length [] H [] H1) (hlen : H1.length = H.length) (h : CallN P w0 U f args H1 K) : CallN P w0 U f args H K :=
  ⟨fun ρ w hr => by
    have hrel : Rel w0 U ρ [] H { tmps := #[], defers := [] } w := ⟨rfl, fun ρ'' hs => ⟨⟨rfl, fun i x hi => by simp at hi⟩, hr ρ'' hs⟩⟩
    obtain ⟨ρ1, h1, h2, _⟩ := hrel.less hl
    rw [← denL_same h2 args hb]
    refine (h.out ρ1 w h1.h).mono ?_
    rintro e w' ⟨sv, H', ρ', a1, a2, a3, a4, a5⟩
    exact ⟨sv, H', ρ', a1, a2, h2.trans (hlen ▸ a3) (Nat.le_refl _), hlen ▸ a4, a5⟩⟩
end
end Go.Proofs.Ytlphkjbadjdleaa
