/-
  What a call hands back as a slice of its own, laid under a seal: a closed value, and a fact. A region that draws its order, by cases: which of two operations comes first. In a region that draws its order, what only names a value again may stand first. Regions in which more than one pair of operations is in no order: by cases, one behind the other. An object under a seal: a closed pointer, and a fact about the blocks that it lies in. No condition.
-/
import Derived.Test.YtghfigeepnbjaaaP5
import Derived.Test.YtghfigeepnbjaaaP4
namespace Go.Proofs.Ytghfigeepnbjaaa
section
variable {w0 : World} {U : Nat → Prop}
/-- One entry speaks of more: of what is new, too. -/
theorem HOk.setG {ρ : Loc} {H : List HE} {w w' : World} (h : HOk w0 U ρ H w) (hg : w.grownBy w' none) {i : Nat} {d d' : HE} (hi : H[i]? = some d) (hd : d.wr) (hf : ∀ b, d'.foot ρ i b → d.foot ρ i b ∨ w.heap.size ≤ b) (hw : d'.ok ρ w' i) : HOk w0 U ρ (H.set i d') w' := by
  have hk := keepH h hg (fun _ _ _ _ _ _ => by simp) (fun k hk => by cases hk)
  have key : ∀ j e, (H.set i d')[j]? = some e → (j ≠ i ∧ H[j]? = some e) ∨ (j = i ∧ e = d') := fun j e hj => by
    rw [List.getElem?_set] at hj
    split at hj
    · rename_i hij; subst hij
      split at hj
      · exact .inr ⟨rfl, by simpa using hj.symm⟩
      · cases hj
    · rename_i hij; exact .inl ⟨fun h => hij h.symm, hj⟩
  refine ⟨fun j e hj => ?_, fun j e hj he b hb' => ?_, fun j k d1 e1 hjk hj he1 hk' hl b ha hb' => ?_, hk.fr⟩
  · rcases key j e hj with ⟨_, hj'⟩ | ⟨rfl, rfl⟩
    · exact hk.ent j e hj'
    · exact hw
  · rcases key j _ hj with ⟨_, hj'⟩ | ⟨hji, hde⟩
    · exact h.own j _ hj' he b hb'
    · subst hji; subst hde
      rcases hf b hb' with h1 | h1
      · exact h.own j _ hi hd b h1
      · exact .inl (Nat.le_trans h.fr.size h1)
  · rcases key j _ hj with ⟨hne, hj'⟩ | ⟨hji, hde⟩ <;> rcases key k _ hk' with ⟨hne', hk''⟩ | ⟨hki, hee⟩
    · exact h.dis j k _ _ hjk hj' he1 hk'' hl b ha hb'
    · subst hki; subst hee
      rcases hf b hb' with h1 | h1
      · exact h.dis j k _ _ hjk hj' he1 hi (HE.wr_live hd) b ha h1
      · have := HE.ok_lt (h.ent j _ hj') (HE.wr_live he1) ha
        omega
    · subst hji; subst hde
      rcases hf b ha with h1 | h1
      · exact h.dis j k _ _ hjk hi hd hk'' hl b h1 hb'
      · have := HE.ok_lt (h.ent k _ hk'') hl hb'
        omega
    · exact absurd (hji.trans hki.symm) hjk
/-- The block of a slice. -/
def sliceZ (q : Value) (b : Nat) : Prop := ∃ a n c, q = .slice (some a) n c ∧ a.block = b
theorem sliceV_st {q : Value} {sz n : Nat} {f : Nat → Nat → Value} {w1 w2 : World} (hs : ∀ b, sliceZ q b → w2.heap[b]? = w1.heap[b]?) (h : SliceV w1 q sz n f) : SliceV w2 q sz n f := by
  obtain ⟨a, cap, rfl, h1, h2, h3⟩ := h
  refine ⟨a, cap, rfl, h1, h2, fun h0 => ?_⟩
  obtain ⟨b, off, rfl, hb, hc⟩ := h3 h0
  have hg := hs b ⟨_, _, _, rfl, rfl⟩
  refine ⟨b, off, rfl, ?_, fun r c hr hcz => ?_⟩
  · have := (Array.getElem?_eq_some_iff.1 (Array.getElem?_eq_getElem hb)).1
    rcases Nat.lt_or_ge b w2.heap.size with h | h
    · exact h
    · rw [Array.getElem?_eq_none h, Array.getElem?_eq_getElem hb] at hg
      cases hg
  · rw [← hc r c hr hcz]
    exact World.cell?_of_block (w := w1) hg
/-- What a callee makes: a value that holds a new slice. -/
def Fresh (w w' : World) (q : Value) (sz n : Nat) (g : Nat → Nat → Value) : Prop := SliceV w' q sz n g ∧ ∀ b, sliceZ q b → w.heap.size ≤ b ∧ b < w'.heap.size
/-- A call that hands back a new slice in a value: sealed, beside what was sealed. -/
theorem call_into {P : Program} {f : FuncId} {args : List SV} {H : List HE} {K : SV → List HE → Prop} (j sz n : Nat) (g : Nat → Nat → Value) (V : Value → Value) {Z : Nat → Prop} {Q : World → Prop} (hj : getH H j = .res true Z Q)
    (hc : ∀ ρ w, HRel w0 U ρ H w → Calls P f (SV.denL ρ args).toArray w fun e w' => ∃ q, e = .returned (V q) ∧ Fresh w w' q sz n g ∧ w.grownBy w' none)
    (hK : ∀ q, setHK H j (.res true (fun b => Z b ∨ sliceZ q b) fun u => Q u ∧ SliceV u q sz n g) fun H' => K (.v (V q)) H') : CallN P w0 U f args H K :=
  ⟨fun ρ w hr => (hc ρ w hr).mono fun e w' ⟨q, he, ⟨hS, hZ⟩, hg⟩ => by
    have hj' := getH_res hj
    refine ⟨.v (V q), _, ρ, fun _ _ => he, fun ρ'' h'' => ?_, Same.refl _ _, by simp, setHK_spec _ _ _ _ (hK q)⟩
    have h'' : Same H.length ρ ρ'' := by simpa using h''
    have hok := hr ρ'' h''
    have hk := keepH hok hg (fun _ _ _ _ _ _ => by simp) (fun k hk => by cases hk)
    obtain ⟨k1, k2, k3⟩ := hk.ent j _ hj'
    refine hok.setG hg hj' rfl (fun b hb => ?_) ⟨⟨k1, hS⟩, fun b hb => ?_, fun w1 w2 hs ⟨q1, q2⟩ => ⟨k3 w1 w2 (fun b hb => hs b (.inl hb)) q1, sliceV_st (fun b hb => hs b (.inr hb)) q2⟩⟩
    · rcases hb with h | h
      · exact .inl h
      · exact .inr (hZ b h).1
    · rcases hb with h | h
      · exact k2 b h
      · exact (hZ b h).2⟩
/-- The same, sealed alone. -/
theorem call_sealed {P : Program} {f : FuncId} {args : List SV} {H : List HE} {K : SV → List HE → Prop} (sz n : Nat) (g : Nat → Nat → Value) (V : Value → Value)
    (hc : ∀ ρ w, HRel w0 U ρ H w → Calls P f (SV.denL ρ args).toArray w fun e w' => ∃ q, e = .returned (V q) ∧ Fresh w w' q sz n g ∧ w.grownBy w' none)
    (hK : ∀ q, appK H (.res true (sliceZ q) fun u => SliceV u q sz n g) fun H' => K (.v (V q)) H') : CallN P w0 U f args H K :=
  ⟨fun ρ w hr => (hc ρ w hr).mono fun e w' ⟨q, he, ⟨hS, hZ⟩, hg⟩ => ⟨.v (V q), _, ρ, fun _ _ => he, fun ρ'' h'' => by
    have h'' : Same H.length ρ ρ'' := h''.mono (by simp)
    have hok := hr ρ'' h''
    exact addHF (keepH hok hg (fun _ _ _ _ _ _ => by simp) (fun k hk => by cases hk)) ⟨hS, fun b hb => (hZ b hb).2, fun w1 w2 hs h => sliceV_st hs h⟩ (fun _ b hb => .inl (Nat.le_trans hok.fr.size (hZ b hb).1)) (fun i d hi hl _ b hb hd => by
      have := HE.ok_lt (hok.ent i d hi) hl hd
      have := (hZ b hb).1
      omega), Same.refl _ _, by simp, appK_spec _ _ _ (hK q)⟩⟩
/-- A slice of one's own, laid under a seal that is there (j), its own entry known no more. -/
theorem HOk.sealIn {ρ : Loc} {H : List HE} {w : World} {ty : TypeId} {sz n : Nat} {g : Nat → Nat → Value} (h : HOk w0 U ρ (H ++ [.own ty sz n g]) w) {j : Nat} {Z : Nat → Prop} {Q : World → Prop} (hj : H[j]? = some (.res true Z Q)) {q : Value} (hq : q = (SV.os H.length n).den ρ) :
    HOk w0 U ρ (H.set j (.res true (fun b => Z b ∨ sliceZ q b) fun u => Q u ∧ SliceV u q sz n g) ++ [.none]) w := by
  have hlast : (H ++ [HE.own ty sz n g])[H.length]? = some (.own ty sz n g) := by simp
  have hjl := (List.getElem?_eq_some_iff.1 hj).1
  have lft : ∀ {i : Nat} {e : HE}, H[i]? = some e → (H ++ [HE.own ty sz n g])[i]? = some e := fun hi => by
    rw [List.getElem?_append_left (List.getElem?_eq_some_iff.1 hi).1]; exact hi
  have zf : ∀ b, sliceZ q b → HE.foot ρ H.length (.own ty sz n g) b := fun b ⟨a, m, c, hqa, hab⟩ => by
    rw [hq] at hqa
    simp only [SV.den, atB'] at hqa
    injection hqa with hqa _ _
    obtain ⟨a', ha', hae⟩ := Option.map_eq_some_iff.1 hqa
    refine ⟨a', ha', ?_⟩
    rw [← hab, ← hae]
  have key : ∀ i e, (H.set j (.res true (fun b => Z b ∨ sliceZ q b) fun u => Q u ∧ SliceV u q sz n g) ++ [HE.none])[i]? = some e → e ≠ .none →
      (i ≠ j ∧ i < H.length ∧ H[i]? = some e) ∨ (i = j ∧ e = .res true (fun b => Z b ∨ sliceZ q b) fun u => Q u ∧ SliceV u q sz n g) := fun i e hi hne => by
    rw [List.getElem?_append] at hi
    split at hi
    · rename_i hlt
      simp only [List.length_set] at hlt
      rw [List.getElem?_set] at hi
      split at hi
      · rename_i hij; subst hij
        exact .inr ⟨rfl, by simpa [hlt] using hi.symm⟩
      · rename_i hij; exact .inl ⟨fun h => hij h.symm, hlt, hi⟩
    · rename_i hlt
      simp only [List.length_set] at hi hlt
      rcases Nat.eq_or_lt_of_le (Nat.le_of_not_lt hlt) with hh | hh
      · rw [← hh] at hi; simp at hi; exact absurd hi.symm hne
      · rw [List.getElem?_eq_none (by simp; omega)] at hi; cases hi
  obtain ⟨k1, k2, k3⟩ := h.ent j _ (lft hj)
  have hown := h.ent _ _ hlast
  have hsl : SliceV w q sz n g := by rw [hq]; exact own_sl hown
  refine ⟨fun i e hi => ?_, fun i e hi hw b hb => ?_, fun i k d e hik hi hd hk hl b ha hb => ?_, h.fr⟩
  · by_cases hne : e = .none
    · subst hne; trivial
    · rcases key i e hi hne with ⟨_, _, hi'⟩ | ⟨rfl, rfl⟩
      · exact h.ent i e (lft hi')
      · refine ⟨⟨k1, hsl⟩, fun b hb => ?_, fun w1 w2 hs ⟨q1, q2⟩ => ⟨k3 w1 w2 (fun b hb => hs b (.inl hb)) q1, sliceV_st (fun b hb => hs b (.inr hb)) q2⟩⟩
        rcases hb with hb | hb
        · exact k2 b hb
        · exact HE.ok_lt hown trivial (zf b hb)
  · rcases key i e hi (fun h => by subst h; exact hw) with ⟨_, _, hi'⟩ | ⟨rfl, rfl⟩
    · exact h.own i e (lft hi') hw b hb
    · rcases hb with hb | hb
      · exact h.own i _ (lft hj) rfl b hb
      · exact h.own _ _ hlast trivial b (zf b hb)
  · rcases key i d hi (fun h => by subst h; exact hd) with ⟨hne, hil, hi'⟩ | ⟨rfl, rfl⟩ <;> rcases key k e hk (fun h => by subst h; exact hl) with ⟨hne', hkl, hk'⟩ | ⟨hke, hee⟩
    · exact h.dis i k d e hik (lft hi') hd (lft hk') hl b ha hb
    · subst hke; subst hee
      rcases hb with hb | hb
      · exact h.dis i k d _ hik (lft hi') hd (lft hj) trivial b ha hb
      · exact h.dis i H.length d _ (by omega) (lft hi') hd hlast trivial b ha (zf b hb)
    · rcases ha with ha | ha
      · exact h.dis i k _ e hik (lft hj) rfl (lft hk') hl b ha hb
      · exact h.dis H.length k _ e (by omega) hlast trivial (lft hk') hl b (zf b ha) hb
    · exact absurd hke.symm hik
/-- The same, in a call: its value is closed then. -/
theorem call_seal {P : Program} {f : FuncId} {args : List SV} {H : List HE} {K : SV → List HE → Prop} {sv : SV} {ty : TypeId} {sz n : Nat} {g : Nat → Nat → Value} (j : Nat) {Z : Nat → Prop} {Q : World → Prop} (V : Value → SV)
    (hc : CallN P w0 U f args H fun s H' => s = sv ∧ H' = H ++ [.own ty sz n g]) (hV : ∀ ρ ρ', sv.den ρ = (V ((SV.os H.length n).den ρ)).den ρ') (hj : getH H j = .res true Z Q)
    (hK : ∀ (x : Option Addr) (c : Nat), setHK H j (.res true (fun b => Z b ∨ sliceZ (.slice x n c) b) fun u => Q u ∧ SliceV u (.slice x n c) sz n g) fun H1 => appK H1 .none fun H' => K (V (.slice x n c)) H') : CallN P w0 U f args H K :=
  ⟨fun ρ w hr => (hc.out ρ w hr).mono fun e w' ⟨s, H', ρ', he, hr', hs, hl, h1, h2⟩ => by
    subst h1 h2
    have hq := hK (atB' ρ' H.length) (capB ρ' H.length)
    refine ⟨_, _, ρ', fun ρ'' _ => (by rw [he ρ' (Same.refl _ _), hV ρ' ρ'']; rfl), fun ρ'' h'' => ?_, hs, by simp, appK_spec _ _ _ (setHK_spec _ _ _ _ hq)⟩
    have h'' : Same (H.length + 1) ρ' ρ'' := by simpa using h''
    refine (hr' ρ'' (by simpa using h'')).sealIn (getH_res hj) ?_
    have := h'' H.length (by omega)
    simp only [SV.den, atB', capB, this]⟩
/-- Nothing is sealed yet. -/
theorem call_res0 {P : Program} {f : FuncId} {args : List SV} {H : List HE} {K : SV → List HE → Prop} (h : CallN P w0 U f args (H ++ [.res true (fun _ => False) fun _ => True]) K) (hb : SV.bddL H.length args = true) : CallN P w0 U f args H K :=
  ⟨fun ρ w hr => by
    refine (h.out ρ w fun ρ' hs => addHF (hr ρ' (hs.mono (by simp))) ⟨trivial, fun b hb => hb.elim, fun _ _ _ _ => trivial⟩ (fun _ b hb => hb.elim) (fun _ _ _ _ _ b hb => hb.elim)).mono ?_
    rintro e w' ⟨sv, H', ρ', h1, h2, h3, h4, h5⟩
    simp only [List.length_append, List.length_cons, List.length_nil] at h3 h4
    exact ⟨sv, H', ρ', h1, h2, h3.mono (by omega), by omega, h5⟩⟩
/-- Ahead of a call what is known may be put in other words (all names stay). -/
theorem call_less {P : Program} {f : FuncId} {args : List SV} {H H1 : List HE} {K : SV → List HE → Prop} (hb : SV.bddL H.length args = true) (hl : Less H.length [] H [] H1) (hlen : H1.length = H.length) (h : CallN P w0 U f args H1 K) : CallN P w0 U f args H K :=
  ⟨fun ρ w hr => by
    have hrel : Rel w0 U ρ [] H { tmps := #[], defers := [] } w := ⟨rfl, fun ρ'' hs => ⟨⟨rfl, fun i x hi => by simp at hi⟩, hr ρ'' hs⟩⟩
    obtain ⟨ρ1, h1, h2, _⟩ := hrel.less hl
    rw [← denL_same h2 args hb]
    refine (h.out ρ1 w h1.h).mono ?_
    rintro e w' ⟨sv, H', ρ', a1, a2, a3, a4, a5⟩
    exact ⟨sv, H', ρ', a1, a2, h2.trans (hlen ▸ a3) (Nat.le_refl _), hlen ▸ a4, a5⟩⟩
end
end Go.Proofs.Ytghfigeepnbjaaa
namespace Go.Proofs.Ytghfigeepnbjaaa

/-- An order that the region's edges allow, from a set that is done. -/
inductive Topo (ops : Array Oper) : (Nat → Prop) → List Nat → Prop where
  | nil (D : Nat → Prop) (h : ∀ i, i < ops.size → D i) : Topo ops D []
  | cons (D : Nat → Prop) (i : Nat) (o : Oper) (L : List Nat) (ho : ops[i]? = some o) (hD : ¬ D i) (hw : ∀ m ∈ waitL o, D m) (h : Topo ops (fun j => D j ∨ j = i) L) : Topo ops D (i :: L)
theorem Topo.congr {ops : Array Oper} {D D' : Nat → Prop} {L : List Nat} (h : Topo ops D L) (hD : ∀ i, D i ↔ D' i) : Topo ops D' L := by
  have : D = D' := funext fun i => propext (hD i)
  rw [← this]; exact h
section
variable {P : Program} {w0 : World} {U : Nat → Prop} {T : Tab}
theorem wpAny_topo {ops : Array Oper} {Q : Exit → Act → World → Prop} : ∀ {L : List Nat} {D : Nat → Prop}, Topo ops D L → ∀ (fuel : Nat) (listed : Array Bool) (a : Act) (w : World), listed.size = ops.size → (∀ i, On listed i ↔ D i) → L.length ≤ fuel → wpAny P .any ops Q fuel listed a w → wpOps P ops Q L a w
  | [], D, ht, fuel, listed, a, w, hs, hon, hf, h => by
    cases ht with
    | nil _ hall =>
      have hrd : Region.ready .any ops listed = [] := by
        apply List.eq_nil_iff_forall_not_mem.2
        intro i hi
        obtain ⟨o, ho, hn, _⟩ := (ready_mem hs).1 hi
        exact hn ((hon i).2 (hall i (Array.getElem?_eq_some_iff.1 ho).1))
      cases fuel with
      | zero => exact h.2
      | succ fuel => exact h.1 hrd
  | i :: L, D, ht, fuel, listed, a, w, hs, hon, hf, h => by
    cases ht with
    | cons _ _ o _ ho hD hw ht =>
      obtain ⟨fuel, rfl⟩ : ∃ f, fuel = f + 1 := ⟨fuel - 1, by simp at hf; omega⟩
      have hlt := (Array.getElem?_eq_some_iff.1 ho).1
      have hready : i ∈ Region.ready .any ops listed := (ready_mem hs).2 ⟨o, ho, fun h => hD ((hon i).1 h), fun m hm => (hon m).2 (hw m hm)⟩
      rw [wpOps_cons]
      refine wpOp_mono (fun a' w' h' => ?_) (h.2 i hready)
      refine wpAny_topo ht fuel _ a' w' (by simpa using hs) (fun j => ?_) (by simpa using hf) h'
      rw [on_set (by omega), hon j]
theorem lin_topo {ops : Array Oper} (hw : waitB ops = true) : ∀ (fuel t : Nat) (listed : Array Bool), listed.size = ops.size → (∃ s : List Nat, s.Nodup ∧ (∀ i, i ∈ s ↔ i < ops.size ∧ ¬ On listed i) ∧ s.length ≤ fuel) → Topo ops (On listed) (Region.linearise.go .any ops fuel t listed [])
  | 0, t, listed, hs, ⟨s, _, hm, hl⟩ => by
    simp only [Region.linearise.go, List.reverse_nil]
    refine .nil _ fun i hi => ?_
    obtain rfl : s = [] := List.length_eq_zero_iff.1 (by omega)
    by_cases h : On listed i
    · exact h
    · exact absurd ((hm i).2 ⟨hi, h⟩) (by simp)
  | fuel + 1, t, listed, hs, ⟨s, hn, hm, hl⟩ => by
    simp only [Region.linearise.go]
    split
    · rename_i i hi
      have hi : i ∈ Region.ready .any ops listed := List.mem_of_getElem? hi
      obtain ⟨o, ho, hno, hwt⟩ := (ready_mem hs).1 hi
      have hlt := (Array.getElem?_eq_some_iff.1 ho).1
      rw [linearise_go_acc, List.reverse_singleton, List.singleton_append]
      refine .cons _ i o _ ho hno hwt ?_
      refine (lin_topo hw fuel _ (listed.setIfInBounds i true) (by simpa using hs) ⟨s.erase i, hn.erase _, fun j => ?_, ?_⟩).congr (fun j => on_set (by omega) j)
      · rw [hn.mem_erase_iff, hm j, on_set (by omega)]
        constructor
        · rintro ⟨h1, h2, h3⟩; exact ⟨h2, fun h => h.elim h3 h1⟩
        · rintro ⟨h1, h2⟩; exact ⟨fun h => h2 (.inr h), h1, fun h => h2 (.inl h)⟩
      · rw [List.length_erase_of_mem ((hm i).2 ⟨hlt, hno⟩)]
        omega
    · rename_i hi
      simp only [List.reverse_nil]
      have hnil : Region.ready .any ops listed = [] := by
        cases hr : Region.ready .any ops listed with
        | nil => rfl
        | cons x xs =>
          exfalso
          have hi : (Region.ready .any ops listed)[t % (Region.ready .any ops listed).length]? = none := hi
          rw [hr] at hi
          have hlt : t % (x :: xs).length < (x :: xs).length := Nat.mod_lt _ (by simp)
          rw [List.getElem?_eq_none_iff] at hi
          omega
      refine .nil _ fun i => ?_
      induction i using Nat.strongRecOn with
      | _ i ih =>
        intro hi
        by_cases h : On listed i
        · exact h
        · exfalso
          have : i ∈ Region.ready .any ops listed := (ready_mem hs).2 ⟨ops[i], by simp [hi], h, fun m hmw => by
            have := waitB_spec hw (show ops[i]? = some ops[i] by simp [hi]) hmw
            exact ih m this (by omega)⟩
          rw [hnil] at this; cases this
/-- In whatever order, the region comes to where K holds. -/
def AllOrd (P : Program) (w0 : World) (U : Nat → Prop) (ops : Array Oper) (tm : List SV) (H : List HE) (K : List SV → List HE → Prop) : Prop :=
  ∀ ρ a w, Rel w0 U ρ tm H a w → ∀ L, Topo ops (fun _ => False) L → wpOps P ops (fun e a' w' => e = .normal ∧ ∃ ρ' tm' H', Rel w0 U ρ' tm' H' a' w' ∧ (Same H.length ρ ρ' ∧ H.length ≤ H'.length) ∧ K tm' H') L a w
theorem on_false {n i : Nat} : ¬ On (Array.replicate n false) i := fun h => by
  unfold On at h
  simp only [Array.getElem?_replicate] at h
  split at h <;> cases h
theorem ord_out (hT : TabOK P T) {id : Nat} {ops : Array Oper} {tm : List SV} {H : List HE} {K : List SV → List HE → Prop} (hw : waitB ops = true) (h : AllOrd P w0 U ops tm H K) : DrawN P w0 U id ops tm H K := by
  refine ⟨fun ρ a w hr => wp_region_draw fun t => ?_⟩
  refine h ρ a w.drew hr.drew _ ?_
  simp only [Region.schedule, hT.mixed, Bool.true_or, if_true]
  have := lin_topo hw ops.size t (Array.replicate ops.size false) (by simp) ⟨List.range ops.size, List.nodup_range, fun i => by rw [List.mem_range]; exact ⟨fun h => ⟨h, on_false⟩, fun h => h.1⟩, by simp⟩
  exact this.congr (fun i => ⟨fun h => on_false h, fun h => h.elim⟩)
/-- By its pieces. -/
theorem ord_base (hT : TabOK P T) {ops : Array Oper} {tm : List SV} {H : List HE} {K : List SV → List HE → Prop} (hB : drawB ops = true) (h : xDrw P w0 U T (packM ops.toList 0 0) ops (piecesOf ops) 0 tm H K) : AllOrd P w0 U ops tm H K := by
  unfold drawB at hB
  simp only [Bool.and_eq_true] at hB
  obtain ⟨⟨⟨hsel, hw⟩, hB⟩, hM⟩ := hB
  intro ρ a w hr L hL
  refine wpAny_topo hL (L.length + ops.size) (Array.replicate ops.size false) a w (by simp) (fun i => ⟨fun h => on_false h, fun h => h.elim⟩) (by omega) ?_
  exact xDrw_sound hT (m := H.length) (ρ0 := ρ) (fun ρ' tm' H' a' w' hK hr' hs' => ⟨rfl, ρ', tm', H', hr', hs', hK⟩) hsel hw hM _ 0 tm H hB (by simpa [piecesOf] using (piecesL_flat _ _ _ _ _).symm) (Nat.zero_le _) h (L.length + ops.size) _ ρ a w (by simp) (fun i => ⟨fun h => absurd h on_false, fun h => by omega⟩) (by omega) hr ⟨Same.refl _ _, Nat.le_refl _⟩
/-- The same operations in another lexical order, with some more edges. -/
def permO (ops : Array Oper) (ord : List Nat) (E : List (Nat × Nat)) : Array Oper := (ord.map fun i => match ops[i]? with
  | some o => { o with
      after := ((waitL o ++ (E.filter fun q => Nat.beq q.1 i).map (·.2)).map fun j => { on := ord.idxOf j, ground := .data }).toArray
      guard := match o.guard with
        | some (g, b) => some (ord.idxOf g, b)
        | none => none }
  | none => default).toArray
def ordB (ops : Array Oper) (ord : List Nat) : Bool := ord.length == ops.size && ((List.range ops.size).all fun i => Nat.blt (ord.idxOf i) ord.length && (Nat.blt (ord.getD i 0) ops.size && (ord.idxOf (ord.getD i 0) == i && match ops[i]? with
  | some o => match o.guard with
    | some (g, _) => Nat.blt g ops.size
    | none => true
  | none => true)))
theorem permO_wp {ops : Array Oper} {ord : List Nat} {E : List (Nat × Nat)} (hB : ordB ops ord = true) {Q : Exit → Act → World → Prop} : ∀ {L : List Nat} {D : Nat → Prop}, Topo ops D L → ∀ (a : Act) (w : World), wpOps P (permO ops ord E) Q (L.map fun i => ord.idxOf i) a w → wpOps P ops Q L a w
  | [], _, _, _, _, h => h
  | i :: L, D, ht, a, w, h => by
    cases ht with
    | cons _ _ o _ ho hD hw ht =>
      have hlt := (Array.getElem?_eq_some_iff.1 ho).1
      unfold ordB at hB
      simp only [Bool.and_eq_true, List.all_eq_true, List.mem_range, Nat.blt_eq, beq_iff_eq] at hB
      have at_ : ∀ j, j < ops.size → ord[ord.idxOf j]? = some j := fun j hj => by
        have := (hB.2 j hj).1
        rw [List.getElem?_eq_getElem this, List.getElem_idxOf]
      have get : ∀ j oj, ops[j]? = some oj → ∃ A, (permO ops ord E)[ord.idxOf j]? = some { oj with after := A, guard := match oj.guard with | some (g, b) => some (ord.idxOf g, b) | none => none } := fun j oj hoj => by
        refine ⟨((waitL oj ++ (E.filter fun q => Nat.beq q.1 j).map (·.2)).map fun j => { on := ord.idxOf j, ground := .data }).toArray, ?_⟩
        unfold permO
        rw [List.getElem?_toArray, List.getElem?_map, at_ j (Array.getElem?_eq_some_iff.1 hoj).1]
        simp only [Option.map_some, hoj]
      obtain ⟨A, ho'⟩ := get i o ho
      simp only [List.map_cons] at h
      rw [wpOps_cons] at h ⊢
      unfold wpOp at h ⊢
      rw [ho'] at h
      rw [ho]
      simp only at h ⊢
      have hw : Region.wanted { o with after := A, guard := match o.guard with | some (g, b) => some (ord.idxOf g, b) | none => none } (yielded (permO ops ord E) a.tmps) = Region.wanted o (yielded ops a.tmps) := by
        unfold Region.wanted
        cases hg : o.guard with
        | none => rfl
        | some q =>
          obtain ⟨g, b⟩ := q
          have hgl := (hB.2 i hlt).2.2.2
          rw [ho] at hgl
          simp only [hg, Nat.blt_eq] at hgl
          obtain ⟨A', hg'⟩ := get g ops[g] (by simp [hgl])
          simp only [yielded, hg', Option.bind_some, Array.getElem?_eq_getElem hgl]
      have ih := fun a' w' => permO_wp (E := E) (by unfold ordB; simp only [Bool.and_eq_true, List.all_eq_true, List.mem_range, Nat.blt_eq, beq_iff_eq]; exact hB) (Q := Q) ht a' w'
      rw [hw] at h
      split
      · rename_i hwt
        rw [if_pos hwt] at h
        rcases h with h | h
        · exact .inl (Oper.wp_mono ih h)
        · exact .inr h
      · rename_i hwt
        rw [if_neg hwt] at h
        exact ih _ _ h
theorem permO_topo {ops : Array Oper} {ord : List Nat} {E : List (Nat × Nat)} (hW : waitB ops = true) (hB : ordB ops ord = true) : ∀ {L : List Nat} {D : Nat → Prop}, Topo ops D L → (∀ q ∈ E, q.1 < ops.size ∧ q.2 < ops.size) → (∀ (L1 L2 : List Nat) (i : Nat), L = L1 ++ i :: L2 → ∀ q ∈ E, q.1 = i → D q.2 ∨ q.2 ∈ L1) → Topo (permO ops ord E) (fun p => ∃ i, i < ops.size ∧ D i ∧ ord.idxOf i = p) (L.map fun i => ord.idxOf i)
  | [], D, ht, _, _ => by
    cases ht with
    | nil _ h =>
      unfold ordB at hB
      simp only [Bool.and_eq_true, List.all_eq_true, List.mem_range, Nat.blt_eq, beq_iff_eq] at hB
      refine .nil _ fun p hp => ?_
      have hp : p < ops.size := by simp only [permO, List.size_toArray, List.length_map] at hp; omega
      have h1 := hB.2 p hp
      exact ⟨ord.getD p 0, h1.2.1, h _ h1.2.1, h1.2.2.1⟩
  | i :: L, D, ht, hE, hcon => by
    cases ht with
    | cons _ _ o _ ho hD hw ht =>
      have hlt := (Array.getElem?_eq_some_iff.1 ho).1
      have hB0 := hB
      unfold ordB at hB
      simp only [Bool.and_eq_true, List.all_eq_true, List.mem_range, Nat.blt_eq, beq_iff_eq] at hB
      have at_ : ∀ j, j < ops.size → ord[ord.idxOf j]? = some j := fun j hj => by
        have := (hB.2 j hj).1
        rw [List.getElem?_eq_getElem this, List.getElem_idxOf]
      have inj : ∀ j k, j < ops.size → k < ops.size → ord.idxOf j = ord.idxOf k → j = k := fun j k hj hk h => by
        have h1 := at_ j hj
        rw [h, at_ k hk] at h1
        simpa using h1.symm
      have get : (permO ops ord E)[ord.idxOf i]? = some { o with
          after := ((waitL o ++ (E.filter fun q => Nat.beq q.1 i).map (·.2)).map fun j => { on := ord.idxOf j, ground := .data }).toArray
          guard := match o.guard with | some (g, b) => some (ord.idxOf g, b) | none => none } := by
        unfold permO
        rw [List.getElem?_toArray, List.getElem?_map, at_ i hlt]
        simp only [Option.map_some, ho]
      refine .cons _ _ _ _ get ?_ (fun m hm => ?_) ?_
      · rintro ⟨j, hj, hDj, he⟩
        have := inj j i hj hlt he
        subst this
        exact hD hDj
      · generalize hwl : waitL o = wl at hm
        unfold waitL at hm
        simp only [List.toList_toArray, List.mem_map, List.mem_filter] at hm
        obtain ⟨ed, ⟨⟨j, hj, rfl⟩, _⟩, rfl⟩ := hm
        simp only [List.mem_append, List.mem_map, List.mem_filter] at hj
        rw [← hwl] at hj
        rcases hj with hj | ⟨q, ⟨hq, hqi⟩, rfl⟩
        · have hDj := hw j hj
          exact ⟨j, by have := waitB_spec hW ho hj; omega, hDj, rfl⟩
        · have hqi := Nat.eq_of_beq_eq_true hqi
          rcases hcon [] L i rfl q hq hqi with h | h
          · exact ⟨q.2, (hE q hq).2, h, rfl⟩
          · cases h
      · refine (permO_topo hW hB0 ht hE (fun L1 L2 k hk q hq hqk => ?_)).congr (fun p => ?_)
        · rcases hcon (i :: L1) L2 k (by rw [hk]; rfl) q hq hqk with h | h
          · exact .inl (.inl h)
          · rcases List.mem_cons.1 h with h | h
            · exact .inl (.inr h)
            · exact .inr h
        · constructor
          · rintro ⟨j, hj, h | rfl, he⟩
            · exact .inl ⟨j, hj, h, he⟩
            · exact .inr he.symm
          · rintro (⟨j, hj, h, he⟩ | rfl)
            · exact ⟨j, hj, .inl h, he⟩
            · exact ⟨i, hlt, .inr rfl, rfl⟩
theorem Topo.mem {ops : Array Oper} : ∀ {L : List Nat} {D : Nat → Prop}, Topo ops D L → L.Nodup ∧ (∀ i ∈ L, ¬ D i) ∧ ∀ i, i < ops.size → D i ∨ i ∈ L
  | [], D, ht => by cases ht with
    | nil _ h => exact ⟨List.nodup_nil, (fun i h => by cases h), fun i hi => .inl (h i hi)⟩
  | i :: L, D, ht => by
    cases ht with
    | cons _ _ o _ ho hD hw ht =>
      obtain ⟨h1, h2, h3⟩ := ht.mem
      refine ⟨List.nodup_cons.2 ⟨fun h => h2 i h (.inr rfl), h1⟩, fun j hj => ?_, fun j hj => ?_⟩
      · rcases List.mem_cons.1 hj with rfl | hj
        · exact hD
        · exact fun h => h2 j hj (.inl h)
      · rcases h3 j hj with (h | rfl) | h
        · exact .inl h
        · exact .inr (by simp)
        · exact .inr (by simp [h])
/-- Two operations that no edge orders: one of them comes first. -/
theorem ord_split {ops : Array Oper} {tm : List SV} {H : List HE} {K : List SV → List HE → Prop} (f s : Nat) (ord1 ord2 : List Nat) (hW : waitB ops = true) (h0 : (Nat.blt f ops.size && (Nat.blt s ops.size && (!Nat.beq f s && (ordB ops ord1 && ordB ops ord2)))) = true)
    (h1 : AllOrd P w0 U (permO ops ord1 [(s, f)]) tm H K) (h2 : AllOrd P w0 U (permO ops ord2 [(f, s)]) tm H K) : AllOrd P w0 U ops tm H K := by
  simp only [Bool.and_eq_true, Nat.blt_eq, Bool.not_eq_true'] at h0
  obtain ⟨hf, hs, hfs, hB1, hB2⟩ := h0
  have hfs : f ≠ s := fun e => by rw [e] at hfs; simp at hfs
  intro ρ a w hr L hL
  obtain ⟨hn, _, hall⟩ := hL.mem
  have mf := (hall f hf).resolve_left (fun h => h)
  have ms := (hall s hs).resolve_left (fun h => h)
  have go : ∀ (ord : List Nat) (x y : Nat), x < ops.size → y < ops.size → ordB ops ord = true → AllOrd P w0 U (permO ops ord [(x, y)]) tm H K → (∀ L1 L2 : List Nat, L = L1 ++ x :: L2 → y ∈ L1) → wpOps P ops (fun e a' w' => e = .normal ∧ ∃ ρ' tm' H', Rel w0 U ρ' tm' H' a' w' ∧ (Same H.length ρ ρ' ∧ H.length ≤ H'.length) ∧ K tm' H') L a w := fun ord x y hx hy hB hA hxy => by
    refine permO_wp (E := [(x, y)]) hB hL a w (hA ρ a w hr _ ?_)
    refine (permO_topo (E := [(x, y)]) hW hB hL (fun q hq => by simp at hq; subst hq; exact ⟨hx, hy⟩) (fun L1 L2 i hL' q hq hqi => ?_)).congr (fun p => ⟨fun ⟨_, _, h, _⟩ => h, fun h => h.elim⟩)
    simp at hq; subst hq
    simp only at hqi
    subst hqi
    exact .inr (hxy L1 L2 hL')
  -- which comes first
  have dec : (∀ L1 L2 : List Nat, L = L1 ++ s :: L2 → f ∈ L1) ∨ (∀ L1 L2 : List Nat, L = L1 ++ f :: L2 → s ∈ L1) := by
    by_cases h : ∀ L1 L2 : List Nat, L = L1 ++ s :: L2 → f ∈ L1
    · exact .inl h
    · right
      intro L1 L2 hL1
      apply Classical.byContradiction
      intro hs1
      apply h
      intro M1 M2 hM
      rw [hM] at hL1 ms mf hn
      -- s in M1 ++ s :: M2 = L1 ++ f :: L2, s not in L1
      have : s ∈ f :: L2 := by
        have : s ∈ L1 ++ f :: L2 := by rw [← hL1]; simp
        rcases List.mem_append.1 this with h | h
        · exact absurd h hs1
        · exact h
      rcases List.append_eq_append_iff.1 hL1 with ⟨us, e1, e2⟩ | ⟨bs, e1, e2⟩
      · cases us with
        | nil => simp at e2; exact absurd e2.1.symm hfs
        | cons z us =>
          simp only [List.cons_append, List.cons.injEq] at e2
          exact absurd (by rw [e1, ← e2.1]; simp) hs1
      · cases bs with
        | nil => simp at e2; exact absurd e2.1 hfs
        | cons z bs =>
          simp only [List.cons_append, List.cons.injEq] at e2
          rw [e1, ← e2.1]; simp
  rcases dec with h | h
  · exact go ord1 s f hs hf hB1 h1 h
  · exact go ord2 f s hf hs hB2 h2 h
/-- Whatever comes first, what is known at the end is one thing. -/
theorem ord_go (hT : TabOK P T) {id : Nat} {ops : Array Oper} {tm T' : List SV} {H H' : List HE} {K : List SV → List HE → Prop} (hW : waitB ops = true)
    (h : AllOrd P w0 U ops tm H (fun tm' H'' => (tm' = T' ∧ H'' = H') ∨ Less H.length tm' H'' T' H')) (hk : K T' H') : DrawN P w0 U id ops tm H K := by
  refine ⟨fun ρ a w hr => wp_mono ((ord_out (id := id) hT hW h).out ρ a w hr) fun e a' w' he => ?_⟩
  obtain ⟨rfl, ρ', tm', H'', hr', hs, ⟨rfl, rfl⟩ | hl⟩ := he
  · exact ⟨rfl, ρ', _, _, hr', hs, hk⟩
  · obtain ⟨ρ1, h1, h2, h3⟩ := hr'.less hl
    exact ⟨rfl, ρ1, _, _, h1, ⟨hs.1.trans h2 (Nat.le_refl _), h3⟩, hk⟩
theorem ord_one (hT : TabOK P T) {id : Nat} {ops : Array Oper} {tm T' : List SV} {H H' : List HE} {K : List SV → List HE → Prop} (f s : Nat) (ord1 ord2 : List Nat) {n : Nat} (_ : ops.size = n) (hW : waitB ops = true) (h0 : (Nat.blt f ops.size && (Nat.blt s ops.size && (!Nat.beq f s && (ordB ops ord1 && ordB ops ord2)))) = true)
    (hB1 : drawB (permO ops ord1 [(s, f)]) = true) (hB2 : drawB (permO ops ord2 [(f, s)]) = true)
    (h1 : xDrw P w0 U T (packM (permO ops ord1 [(s, f)]).toList 0 0) (permO ops ord1 [(s, f)]) (piecesOf (permO ops ord1 [(s, f)])) 0 tm H (fun tm' H'' => (tm' = T' ∧ H'' = H') ∨ Less H.length tm' H'' T' H'))
    (h2 : xDrw P w0 U T (packM (permO ops ord2 [(f, s)]).toList 0 0) (permO ops ord2 [(f, s)]) (piecesOf (permO ops ord2 [(f, s)])) 0 tm H (fun tm' H'' => (tm' = T' ∧ H'' = H') ∨ Less H.length tm' H'' T' H'))
    (hk : K T' H') : DrawN P w0 U id ops tm H K := ord_go hT hW (ord_split f s ord1 ord2 hW h0 (ord_base hT hB1 h1) (ord_base hT hB2 h2)) hk
end
end Go.Proofs.Ytghfigeepnbjaaa
namespace Go.Proofs.Ytghfigeepnbjaaa
/-- A temporary that is named again, of nothing that the region does. -/
def hoistB (ops : Array Oper) (f : Nat) : Bool := match ops[f]? with
  | some o => (match o.op, o.guard, o.dst with
    | .move (.tmp t), none, some d => (waitL o).isEmpty && (Nat.blt f ops.size && (List.range ops.size).all fun j => Nat.beq j f || match ops[j]? with
      | some oj => (!(oj.looksAt ops).contains d || (waitL oj).contains f) && ((oj.dst != some d) && ((oj.dst != some t) && (match oj.op with | .select _ _ => false | _ => true)))
      | none => false)
    | _, _, _ => false)
  | none => false
theorem hoistB_spec {ops : Array Oper} {f : Nat} (h : hoistB ops f = true) : ∃ o t d, ops[f]? = some o ∧ o.op = .move (.tmp t) ∧ o.guard = none ∧ o.dst = some d ∧ waitL o = [] ∧ f < ops.size ∧
    ∀ j oj, j ≠ f → ops[j]? = some oj → (d ∈ oj.looksAt ops → f ∈ waitL oj) ∧ oj.dst ≠ some d ∧ oj.dst ≠ some t ∧ ∀ cs b, oj.op ≠ .select cs b := by
  unfold hoistB at h
  cases ho : ops[f]? with
  | none => rw [ho] at h; cases h
  | some o =>
    rw [ho] at h
    simp only at h
    split at h
    · rename_i t d h1 h2 h3
      simp only [Bool.and_eq_true, List.isEmpty_iff, Nat.blt_eq, List.all_eq_true, List.mem_range, Bool.or_eq_true, Nat.beq_eq] at h
      obtain ⟨h4, h5, h6⟩ := h
      refine ⟨o, t, d, rfl, h1, h2, h3, h4, h5, fun j oj hj hoj => ?_⟩
      rcases h6 j (Array.getElem?_eq_some_iff.1 hoj).1 with h | h
      · exact absurd h hj
      · rw [hoj] at h
        simp only [Bool.and_eq_true, Bool.or_eq_true, Bool.not_eq_true', bne_iff_ne] at h
        obtain ⟨k1, k2, k3, k4⟩ := h
        refine ⟨fun hd => ?_, k2, k3, fun cs b hs => by rw [hs] at k4; cases k4⟩
        rcases k1 with k1 | k1
        · have : (oj.looksAt ops).contains d = true := by simpa using hd
          rw [k1] at this; cases this
        · simpa using k1
    · cases h
section
variable {P : Program} {w0 : World} {U : Nat → Prop}
theorem wp_named {ops : Array Oper} {Q : Exit → Act → World → Prop} {f : Nat} {o : Oper} {t d : Tmp} (ho : ops[f]? = some o) (h1 : o.op = .move (.tmp t)) (h2 : o.guard = none) (h3 : o.dst = some d) (L : List Nat) (a : Act) (w : World) :
    wpOps P ops Q (f :: L) a w ↔ wpOps P ops Q L (a.put (some d) (a.eval (.tmp t))) w := by
  have hw : Region.wanted o (yielded ops a.tmps) = true := by unfold Region.wanted; rw [h2]
  have hx : execOp a.eval o = pure (.value (a.eval (.tmp t))) := by
    unfold execOp
    rw [h1]
  simp only [wpOps, ho, hw, if_true]
  have hwp : o.wp P a w (wpOps P ops Q L) Q ↔ wpOps P ops Q L (a.put (some d) (a.eval (.tmp t))) w := by
    unfold Oper.wp
    rw [hx]
    simp [Oper.upon, h3]
  have has : ¬ o.asks P a w := by
    unfold Oper.asks
    rw [hx]
    rintro ⟨h, _⟩
    have h : noRoomEvent ∈ (#[] : Array Event) := h
    simp at h
  rw [hwp]
  exact ⟨fun h => h.elim id (fun h => absurd h.1 has), .inl⟩
theorem put_swap (a : Act) {d : Tmp} {od : Option Tmp} (h : od ≠ some d) (u v : Value) : (a.put (some d) v).put od u = (a.put od u).put (some d) v := by
  cases od with
  | none => rfl
  | some e =>
    have : d ≠ e := fun h' => h (by rw [h'])
    simp only [Act.put]
    congr 1
    exact Array.setIfInBounds_comm _ _ this
theorem wp_past {ops : Array Oper} {Q : Exit → Act → World → Prop} (hQ : ∀ e a a' w, e ≠ .normal → Q e a w → Q e a' w) {f j : Nat} {o oj : Oper} {t d : Tmp} (ho : ops[f]? = some o) (h1 : o.op = .move (.tmp t)) (h2 : o.guard = none) (h3 : o.dst = some d)
    (hj : ops[j]? = some oj) (k1 : d ∉ oj.looksAt ops) (k2 : oj.dst ≠ some d) (k3 : oj.dst ≠ some t) (k4 : ∀ cs b, oj.op ≠ .select cs b) (L : List Nat) (a : Act) (w : World) (h : wpOps P ops Q (f :: j :: L) a w) : wpOps P ops Q (j :: f :: L) a w := by
  rw [wp_named ho h1 h2 h3] at h
  have hlk : ∀ e, some d = some e → e ∉ oj.looksAt ops := fun e he => by cases he; exact k1
  have hex : execOp (a.put (some d) (a.eval (.tmp t))).eval oj = execOp a.eval oj := execOp_put oj k4 a (some d) _ hlk
  have hw : Region.wanted oj (yielded ops (a.put (some d) (a.eval (.tmp t))).tmps) = Region.wanted oj (yielded ops a.tmps) := wanted_put oj a (some d) _ hlk
  have nx : ∀ u w', wpOps P ops Q L ((a.put (some d) (a.eval (.tmp t))).put oj.dst u) w' → wpOps P ops Q (f :: L) (a.put oj.dst u) w' := fun u w' hn => by
    rw [wp_named ho h1 h2 h3, Act.eval_put (fun e he hx => by cases hx; exact k3 he), ← put_swap a k2]
    exact hn
  have nd : ∀ (df : Deferred) u w', wpOps P ops Q L ({ (a.put (some d) (a.eval (.tmp t))) with defers := df :: (a.put (some d) (a.eval (.tmp t))).defers }.put oj.dst u) w' → wpOps P ops Q (f :: L) ({ a with defers := df :: a.defers }.put oj.dst u) w' := fun df u w' hn => by
    rw [wp_named ho h1 h2 h3, Act.eval_put (fun e he hx => by cases hx; exact k3 he), ← put_swap _ k2]
    exact hn
  rw [wpOps_cons] at h ⊢
  unfold wpOp at h ⊢
  rw [hj] at h ⊢
  simp only [hw] at h ⊢
  split
  · rename_i hwt
    rw [if_pos hwt] at h
    rcases h with h | ⟨h, hl⟩
    · left
      unfold Oper.wp at h ⊢
      rw [hex] at h
      generalize (execOp a.eval oj).run P w = r at h ⊢
      cases r with
      | ok n w' =>
        cases n <;> simp only [Oper.upon] at h ⊢ <;>
          first
            | exact nx _ _ h
            | exact nd _ _ _ h
            | exact Calls.mono h (fun e w'' he => by cases e <;> first | exact nx _ _ he | exact hQ _ _ _ _ (by simp) he | exact he)
            | exact Rows.mono h (fun _ _ he => nx _ _ he)
            | exact h
      | halt x w' => cases x <;> simp only [Oper.upon] at h ⊢ <;> first | exact hQ _ _ _ _ (by simp) h | exact h
    · right
      refine ⟨?_, hl⟩
      unfold Oper.asks at h ⊢
      rw [hex] at h
      exact h
  · rename_i hwt
    rw [if_neg hwt] at h
    exact nx _ _ h
theorem wp_front {ops : Array Oper} {Q : Exit → Act → World → Prop} (hQ : ∀ e a a' w, e ≠ .normal → Q e a w → Q e a' w) {f : Nat} {o : Oper} {t d : Tmp} (ho : ops[f]? = some o) (h1 : o.op = .move (.tmp t)) (h2 : o.guard = none) (h3 : o.dst = some d) (L2 : List Nat) :
    ∀ (L1 : List Nat) (a : Act) (w : World), (∀ j ∈ L1, ∃ oj, ops[j]? = some oj ∧ d ∉ oj.looksAt ops ∧ oj.dst ≠ some d ∧ oj.dst ≠ some t ∧ ∀ cs b, oj.op ≠ .select cs b) → wpOps P ops Q (f :: (L1 ++ L2)) a w → wpOps P ops Q (L1 ++ f :: L2) a w
  | [], _, _, _, h => h
  | j :: L1, a, w, hj, h => by
    obtain ⟨oj, hoj, k1, k2, k3, k4⟩ := hj j (by simp)
    have := wp_past hQ ho h1 h2 h3 hoj k1 k2 k3 k4 (L1 ++ L2) a w h
    rw [List.cons_append, wpOps_cons]
    rw [wpOps_cons] at this
    exact wpOp_mono (fun a' w' h' => wp_front hQ ho h1 h2 h3 L2 L1 a' w' (fun k hk => hj k (by simp [hk])) h') this
end
theorem Topo.drop {ops : Array Oper} {f : Nat} {L2 : List Nat} : ∀ {L1 : List Nat} {D : Nat → Prop}, Topo ops D (L1 ++ f :: L2) → Topo ops (fun i => D i ∨ i = f) (L1 ++ L2)
  | [], D, h => by cases h with | cons _ _ o _ ho hD hw h => exact h
  | i :: L1, D, h => by
    have hm := h.mem
    cases h with
    | cons _ _ o _ ho hD hw h =>
      refine .cons _ i o _ ho ?_ (fun m hm => .inl (hw m hm)) (h.drop.congr fun k => ?_)
      · rintro (h' | rfl)
        · exact hD h'
        · have := (List.nodup_cons.1 hm.1).1
          exact this (by simp)
      · constructor
        · rintro ((h | h) | h)
          · exact .inl (.inl h)
          · exact .inr h
          · exact .inl (.inr h)
        · rintro ((h | h) | h)
          · exact .inl (.inl h)
          · exact .inr h
          · exact .inl (.inr h)
theorem Topo.waits {ops : Array Oper} {j : Nat} {B : List Nat} : ∀ {A : List Nat} {D : Nat → Prop}, Topo ops D (A ++ j :: B) → ∃ oj, ops[j]? = some oj ∧ ∀ m ∈ waitL oj, D m ∨ m ∈ A
  | [], D, h => by cases h with | cons _ _ o _ ho hD hw h => exact ⟨o, ho, fun m hm => .inl (hw m hm)⟩
  | i :: A, D, h => by
    cases h with
    | cons _ _ o _ ho hD hw h =>
      obtain ⟨oj, hoj, hx⟩ := h.waits
      refine ⟨oj, hoj, fun m hm => ?_⟩
      rcases hx m hm with (h | h) | h
      · exact .inl h
      · exact .inr (by simp [h])
      · exact .inr (by simp [h])
/-- It stands ahead of these. -/
def hoistE (S : List Nat) (f : Nat) : List (Nat × Nat) := S.map fun j => (j, f)
section
variable {P : Program} {w0 : World} {U : Nat → Prop}
theorem ord_hoist {ops : Array Oper} {tm : List SV} {H : List HE} {K : List SV → List HE → Prop} (f : Nat) (S ord : List Nat) (hW : waitB ops = true) (h0 : (hoistB ops f && (ordB ops ord && S.all fun j => Nat.blt j ops.size && !Nat.beq j f)) = true)
    (h : AllOrd P w0 U (permO ops ord (hoistE S f)) tm H K) : AllOrd P w0 U ops tm H K := by
  simp only [Bool.and_eq_true] at h0
  obtain ⟨o, t, d, ho, h1, h2, h3, h4, hlt, hall⟩ := hoistB_spec h0.1
  intro ρ a w hr L hL
  obtain ⟨hn, _, hmem⟩ := hL.mem
  obtain ⟨L1, L2, rfl⟩ := List.append_of_mem ((hmem f hlt).resolve_left (fun h => h))
  have hE : ∀ q ∈ hoistE S f, q.1 < ops.size ∧ q.2 = f ∧ q.1 ≠ f := fun q hq => by
    unfold hoistE at hq
    simp only [List.mem_map] at hq
    obtain ⟨j, hj, rfl⟩ := hq
    have := List.all_eq_true.1 h0.2.2 j hj
    simp only [Bool.and_eq_true, Nat.blt_eq, Bool.not_eq_true'] at this
    exact ⟨this.1, rfl, fun h => by have h : j = f := h; rw [h, Nat.beq_refl] at this; cases this.2⟩
  have hL' : Topo ops (fun _ => False) (f :: (L1 ++ L2)) := .cons _ f o _ ho (fun h => h) (fun m hm => by rw [h4] at hm; cases hm) hL.drop
  refine wp_front (Q := fun e a' w' => e = .normal ∧ ∃ ρ' tm' H', Rel w0 U ρ' tm' H' a' w' ∧ (Same H.length ρ ρ' ∧ H.length ≤ H'.length) ∧ K tm' H') (fun e a a' w he h => absurd h.1 he) ho h1 h2 h3 L2 L1 a w (fun j hj => ?_) ?_
  · obtain ⟨A, B, rfl⟩ := List.append_of_mem hj
    have hL2 : Topo ops (fun _ => False) (A ++ j :: (B ++ f :: L2)) := by simpa using hL
    obtain ⟨oj, hoj, hx⟩ := hL2.waits
    have hjf : j ≠ f := fun e => by
      subst e
      rw [List.nodup_append] at hn
      exact hn.2.2 j (by simp) j (by simp) rfl
    obtain ⟨k1, k2, k3, k4⟩ := hall j oj hjf hoj
    refine ⟨oj, hoj, fun hd => ?_, k2, k3, k4⟩
    rcases hx f (k1 hd) with h | h
    · exact h
    · rw [List.nodup_append] at hn
      exact hn.2.2 f (by simp [h]) f (by simp) rfl
  · refine permO_wp (E := hoistE S f) h0.2.1 hL' a w (h ρ a w hr _ ?_)
    refine (permO_topo (E := hoistE S f) hW h0.2.1 hL' (fun q hq => ⟨(hE q hq).1, by rw [(hE q hq).2.1]; exact hlt⟩) (fun M1 M2 i hM q hq hqi => ?_)).congr (fun p => ⟨fun ⟨_, _, h, _⟩ => h, fun h => h.elim⟩)
    obtain ⟨e1, e2, e3⟩ := hE q hq
    rw [e2]
    cases M1 with
    | nil =>
      simp only [List.nil_append, List.cons.injEq] at hM
      exact absurd (hqi.trans hM.1.symm) e3
    | cons z M1 =>
      simp only [List.cons_append, List.cons.injEq] at hM
      exact .inr (by simp [hM.1])
end
end Go.Proofs.Ytghfigeepnbjaaa
namespace Go.Proofs.Ytghfigeepnbjaaa
/-- Which pairs are looked at, one behind the other. -/
inductive OT where
  | leaf
  | sp (f s : Nat) (o1 o2 : List Nat) (t1 t2 : OT)
  | ho (f : Nat) (S o : List Nat) (t : OT)
noncomputable def otB : OT → Array Oper → Bool
  | .leaf, ops => drawB ops
  | .sp f s o1 o2 t1 t2, ops => waitB ops && (Nat.blt f ops.size && (Nat.blt s ops.size && (!Nat.beq f s && (ordB ops o1 && ordB ops o2)))) && (otB t1 (permO ops o1 [(s, f)]) && otB t2 (permO ops o2 [(f, s)]))
  | .ho f S o t, ops => waitB ops && (hoistB ops f && (ordB ops o && S.all fun j => Nat.blt j ops.size && !Nat.beq j f)) && otB t (permO ops o (hoistE S f))
section
variable {P : Program} {w0 : World} {U : Nat → Prop} {T : Tab}
variable (P w0 U T) in
def allX : OT → Array Oper → List SV → List HE → (List SV → List HE → Prop) → Prop
  | .leaf, ops, tm, H, K => xDrw P w0 U T (packM ops.toList 0 0) ops (piecesOf ops) 0 tm H K
  | .sp f s o1 o2 t1 t2, ops, tm, H, K => allX t1 (permO ops o1 [(s, f)]) tm H K ∧ allX t2 (permO ops o2 [(f, s)]) tm H K
  | .ho f S o t, ops, tm, H, K => allX t (permO ops o (hoistE S f)) tm H K
theorem ord_tree (hT : TabOK P T) {tm : List SV} {H : List HE} {K : List SV → List HE → Prop} : ∀ (t : OT) (ops : Array Oper), otB t ops = true → allX P w0 U T t ops tm H K → AllOrd P w0 U ops tm H K
  | .leaf, ops, hB, h => ord_base hT hB h
  | .sp f s o1 o2 t1 t2, ops, hB, h => by
    simp only [otB, Bool.and_eq_true] at hB
    exact ord_split f s o1 o2 hB.1.1 (by simpa only [Bool.and_eq_true] using hB.1.2) (ord_tree hT t1 _ hB.2.1 h.1) (ord_tree hT t2 _ hB.2.2 h.2)
  | .ho f S o t, ops, hB, h => by
    simp only [otB, Bool.and_eq_true] at hB
    exact ord_hoist f S o hB.1.1 (by simpa only [Bool.and_eq_true] using hB.1.2) (ord_tree hT t _ hB.2 h)
theorem ord_more (hT : TabOK P T) {id : Nat} {ops : Array Oper} {tm T' : List SV} {H H' : List HE} {K : List SV → List HE → Prop} (t : OT) {n : Nat} (_ : ops.size = n) (hW : waitB ops = true) (hB : otB t ops = true)
    (h : allX P w0 U T t ops tm H (fun tm' H'' => (tm' = T' ∧ H'' = H') ∨ Less H.length tm' H'' T' H')) (hk : K T' H') : DrawN P w0 U id ops tm H K := ord_go hT hW (ord_tree hT t ops hB h) hk
/-- The same; what is known behind it is told as at a loop's head. -/
theorem ord_to (hT : TabOK P T) {id : Nat} {ops : Array Oper} {tm : List SV} {H : List HE} {K : List SV → List HE → Prop} (t : OT) {n : Nat} (_ : ops.size = n) (hW : waitB ops = true) (hB : otB t ops = true) (a : Nat) (sl : List (Nat × SV)) (hu : List (Nat × HU)) (ex : List HE)
    (h : allX P w0 U T t ops tm H (fun tm' H'' => forceL (headTm a sl 0 tm) fun T' => forceH (headH hu ex H 0) fun H' => Less H.length tm' H'' T' H')) (hk : forceL (headTm a sl 0 tm) fun T' => forceH (headH hu ex H 0) fun H' => K T' H') : DrawN P w0 U id ops tm H K := by
  rw [forceL_eq, forceH_eq] at hk
  have e : (fun tm' H'' => forceL (headTm a sl 0 tm) fun T' => forceH (headH hu ex H 0) fun H' => Less H.length tm' H'' T' H') = fun tm' H'' => Less H.length tm' H'' (headTm a sl 0 tm) (headH hu ex H 0) := by
    funext tm' H''
    rw [forceL_eq, forceH_eq]
  rw [e] at h
  refine ⟨fun ρ a w hr => wp_mono ((ord_out (id := id) hT hW (ord_tree hT t ops hB h)).out ρ a w hr) fun e a' w' he => ?_⟩
  obtain ⟨rfl, ρ', tm', H'', hr', hs, hl⟩ := he
  obtain ⟨ρ1, h1, h2, h3⟩ := hr'.less hl
  exact ⟨rfl, ρ1, _, _, h1, ⟨hs.1.trans h2 (Nat.le_refl _), h3⟩, hk⟩
/-- The same, of a region whose first operation has this place. -/
theorem ord_toD (hT : TabOK P T) {id : Nat} {ops : Array Oper} {tm : List SV} {H : List HE} {K : List SV → List HE → Prop} (t : OT) {n : Nat} (hn : ops.size = n) {d : Option Tmp} (_ : (ops[0]?).bind (·.dst) = d) (hW : waitB ops = true) (hB : otB t ops = true) (a : Nat) (sl : List (Nat × SV)) (hu : List (Nat × HU)) (ex : List HE)
    (h : allX P w0 U T t ops tm H (fun tm' H'' => forceL (headTm a sl 0 tm) fun T' => forceH (headH hu ex H 0) fun H' => Less H.length tm' H'' T' H')) (hk : forceL (headTm a sl 0 tm) fun T' => forceH (headH hu ex H 0) fun H' => K T' H') : DrawN P w0 U id ops tm H K := ord_to hT t hn hW hB a sl hu ex h hk
end
end Go.Proofs.Ytghfigeepnbjaaa
namespace Go.Proofs.Ytghfigeepnbjaaa
/-- What is known of a thing that may be written hangs on its blocks alone. -/
theorem HE.ok_at {ρ : Loc} {w w' : World} {i : Nat} {e : HE} (h : e.ok ρ w i) (hw : e.wr ∨ e = .none) (hs : ∀ b, e.foot ρ i b → w'.heap[b]? = w.heap[b]?) : e.ok ρ w' i := by
  cases e with
  | none => trivial
  | row sz n f => rcases hw with hw | hw; exact hw.elim; cases hw
  | blk ty cs =>
    obtain ⟨b, hb, hk⟩ := h
    exact ⟨b, hb, (hs b ⟨_, hb, rfl⟩).trans hk⟩
  | own ty sz n f =>
    obtain ⟨hl, h⟩ := h
    refine ⟨hl, ?_⟩
    rcases h with h | ⟨g, cap, cur, hv, hb, hk, hc⟩
    · exact .inl h
    · refine .inr ⟨g, cap, cur, hv, hb, ?_, hc⟩
      rw [hs g ?_]
      · exact hk
      · simp only [SV.den, atB'] at hv
        injection hv with hv _ _
        obtain ⟨a, ha, hae⟩ := Option.map_eq_some_iff.1 hv
        refine ⟨a, ha, ?_⟩
        injection hae
  | mp ag zk es st =>
    obtain ⟨r, h1, hk⟩ := h
    exact ⟨r, h1, hk.same (hs r ⟨_, h1, rfl⟩)⟩
  | obj1 ty pre post ag zk es =>
    obtain ⟨sb, mb, h1, h0, h2, h3⟩ := h
    exact ⟨sb, mb, h1, h0, (hs sb ⟨_, h1, .inl rfl⟩).trans h2, h3.same (hs mb ⟨_, h1, .inr rfl⟩)⟩
  | res wr Z Q =>
    obtain ⟨h1, h2, h3⟩ := h
    refine ⟨h3 w w' hs h1, fun b hb => ?_, h3⟩
    have := h2 b hb
    have e := hs b hb
    rcases Nat.lt_or_ge b w'.heap.size with h | h
    · exact h
    · rw [Array.getElem?_eq_none h, Array.getElem?_eq_getElem this] at e
      cases e
/-- Everything in it may be written, or is not known. -/
def allWr (H : List HE) : Prop := ∀ e ∈ H, e.wr ∨ e = .none
/-- An object: the first of its blocks is b, all of them are in Z. -/
structure SealW (H0 : List HE) (b : Nat) (Z : Nat → Prop) (w : World) : Prop where
  out : ∃ ρ : Loc, ρ 0 = some ⟨b, 0, none⟩ ∧ HRel w (SpecU ρ H0) ρ H0 w ∧ ∀ x, SpecU ρ H0 x → Z x
theorem specU_same {ρ ρ' : Loc} {H : List HE} (h : Same H.length ρ ρ') {x : Nat} : SpecU ρ' H x ↔ SpecU ρ H x :=
  ⟨fun ⟨i, e, hi, hw, hf⟩ => ⟨i, e, hi, hw, (HE.foot_congr (h i (List.getElem?_eq_some_iff.1 hi).1) e).1 hf⟩, fun ⟨i, e, hi, hw, hf⟩ => ⟨i, e, hi, hw, (HE.foot_congr (h i (List.getElem?_eq_some_iff.1 hi).1) e).2 hf⟩⟩
theorem SealW.st {H0 : List HE} {b : Nat} {Z : Nat → Prop} {w1 w2 : World} (hwr : allWr H0) (hs : ∀ x, Z x → w2.heap[x]? = w1.heap[x]?) (h : SealW H0 b Z w1) : SealW H0 b Z w2 := by
  obtain ⟨ρ, h0, hr, hz⟩ := h
  refine ⟨ρ, h0, fun ρ' hsame => ?_, hz⟩
  have hok := hr ρ' hsame
  refine ⟨fun i e hi => HE.ok_at (hok.ent i e hi) (hwr e (List.mem_of_getElem? hi)) fun x hx => ?_, fun i e hi hw x hx => .inr ((specU_same hsame).1 ⟨i, e, hi, hw, hx⟩), hok.dis, Fr.refl _ _⟩
  rcases hwr e (List.mem_of_getElem? hi) with hw | rfl
  · exact hs x (hz x ((specU_same hsame).1 ⟨i, e, hi, hw, hx⟩))
  · exact hx.elim
/-- The little memory in a great one. -/
theorem HRel.small {w0 w : World} {U : Nat → Prop} {ρ : Loc} {H H0 : List HE} (hr : HRel w0 U ρ H w) (σ : List Nat) (hn : σ.Nodup) (hb0 : H0.all (HE.bdd H0.length) = true) (hN : namedAt H (spσ σ H.length 0) σ H0) :
    HRel w (SpecU (fun j => ρ (renI (spσ σ H.length 0) j)) H0) (fun j => ρ (renI (spσ σ H.length 0) j)) H0 w := by
  have hl := namedAt_len hN
  have hH := namedAt_get hN
  have hb1 : ∀ e ∈ H0, e.bdd H0.length = true := fun e he => List.all_eq_true.1 hb0 e he
  have big : ∀ (j : Nat) (e : HE), H0[j]? = some e → H[σ.getD j 0]? = some (e.ren (spσ σ H.length 0)) := fun j e he => by
    rw [hH j (List.getElem?_eq_some_iff.1 he).1, he]; rfl
  have inj : ∀ j k, j < σ.length → k < σ.length → σ.getD j 0 = σ.getD k 0 → j = k := fun j k hj hk h => by
    simp only [List.getD, List.getElem?_eq_getElem hj, List.getElem?_eq_getElem hk, Option.getD_some] at h
    have hp := List.pairwise_iff_getElem.1 hn
    rcases Nat.lt_trichotomy j k with h1 | h1 | h1
    · exact absurd h (hp j k hj hk h1)
    · exact h1
    · exact absurd h.symm (hp k j hk hj h1)
  let ρs : Loc := fun j => ρ (renI (spσ σ H.length 0) j)
  have ρs_lt : ∀ j, j < σ.length → ρs j = ρ (σ.getD j 0) := fun j hj => by simp only [ρs, spσ_lt hj]
  have hok0 := hr.at
  show HRel w (SpecU ρs H0) ρs H0 w
  intro ρ' hs
  have ft : ∀ (j : Nat) (e : HE) (b : Nat), H0[j]? = some e → (e.foot ρ' j b ↔ (e.ren (spσ σ H.length 0)).foot ρ (σ.getD j 0) b) := fun j e b he => by
    have hj := (List.getElem?_eq_some_iff.1 he).1
    rw [HE.foot_congr (hs j hj)]
    exact (HE.ren_foot (ρs_lt j (by omega))).symm
  refine ⟨fun j e he => ?_, fun j e he hw b hb => ?_, fun i j d e hij hi hd hj hl' b hx hy => ?_, Fr.refl _ _⟩
  · have hj := (List.getElem?_eq_some_iff.1 he).1
    have := (HE.ren_ok (σ := spσ σ H.length 0) (ρ := ρ) (ρ'' := ρs) (fun _ => rfl) (ρs_lt j (by omega)) (w := w) (e := e)).1 (hok0.ent _ _ (big j e he))
    exact HE.ok_same this (hb1 e (List.mem_of_getElem? he)) hj hs
  · refine .inr ⟨j, e, he, hw, ?_⟩
    have hj := (List.getElem?_eq_some_iff.1 he).1
    rwa [← HE.foot_congr (hs j hj)]
  · have hi' := (List.getElem?_eq_some_iff.1 hi).1
    have hj' := (List.getElem?_eq_some_iff.1 hj).1
    exact hok0.dis _ _ _ _ (fun h => hij (inj i j (by omega) (by omega) h)) (big i d hi) (HE.ren_wr.2 hd) (big j e hj) (HE.ren_live.2 hl') b ((ft i d b hi).1 hx) ((ft j e b hj).1 hy)
/-- The blocks of some of what is known. -/
def footOf (ρ : Loc) (H : List HE) (is : List Nat) (x : Nat) : Prop := ∃ (i : Nat) (e : HE), i ∈ is ∧ H[i]? = some e ∧ e.wr ∧ e.foot ρ i x
/-- Part of what is known, sealed: the object of the blocks σ. -/
theorem HRel.seal {w0 w : World} {U : Nat → Prop} {ρ : Loc} {H H0 : List HE} (hr : HRel w0 U ρ H w) (σ : List Nat) (hn : σ.Nodup) (hb0 : H0.all (HE.bdd H0.length) = true) (hN : namedAt H (spσ σ H.length 0) σ H0) {b : Nat} (hb : ρ (σ.getD 0 0) = some ⟨b, 0, none⟩) (h0 : 0 < H0.length) :
    SealW H0 b (footOf ρ H σ) w := by
  have hl := namedAt_len hN
  refine ⟨_, ?_, hr.small σ hn hb0 hN, fun x ⟨j, e, hj, hw, hf⟩ => ?_⟩
  · show ρ (renI (spσ σ H.length 0) 0) = _
    rw [spσ_lt (by omega)]; exact hb
  · have hjl := (List.getElem?_eq_some_iff.1 hj).1
    refine ⟨σ.getD j 0, e.ren (spσ σ H.length 0), ?_, ?_, HE.ren_wr.2 hw, (HE.ren_foot (ρ'' := fun j => ρ (renI (spσ σ H.length 0) j)) (by simp only [spσ_lt (show j < σ.length by omega)])).2 hf⟩
    · rw [List.getD, List.getElem?_eq_getElem (show j < σ.length by omega), Option.getD_some]; exact List.getElem_mem _
    · rw [namedAt_get hN j hjl, hj]; rfl
theorem footOf_lt {w0 w : World} {U : Nat → Prop} {ρ : Loc} {H : List HE} (hr : HRel w0 U ρ H w) {is : List Nat} {x : Nat} (h : footOf ρ H is x) : x < w.heap.size := by
  obtain ⟨i, e, _, hi, hw, hf⟩ := h
  exact HE.ok_lt (hr.at.ent i e hi) (HE.wr_live hw) hf
theorem footOf_own {w0 w : World} {U : Nat → Prop} {ρ : Loc} {H : List HE} (hr : HRel w0 U ρ H w) {is : List Nat} {x : Nat} (h : footOf ρ H is x) : w0.heap.size ≤ x ∨ U x := by
  obtain ⟨i, e, _, hi, hw, hf⟩ := h
  exact hr.at.own i e hi hw x hf
theorem footOf_dis {w0 w : World} {U : Nat → Prop} {ρ : Loc} {H : List HE} (hr : HRel w0 U ρ H w) {is js : List Nat} (hd : ∀ i ∈ is, i ∉ js) {x : Nat} (h : footOf ρ H is x) (k : footOf ρ H js x) : False := by
  obtain ⟨i, e, hi, h1, hw, hf⟩ := h
  obtain ⟨j, d, hj, h2, hw2, hf2⟩ := k
  exact hr.at.dis i j e d (fun h => hd i hi (h ▸ hj)) h1 hw h2 (HE.wr_live hw2) x hf hf2
/-- A contract over a little memory, of an object that is sealed. -/
theorem Spec.sealed {P : Program} {f : FuncId} {args0 : List SV} {H0 : List HE} {R : SV → List HE → Prop} (hS : Spec P f args0 H0 R) {b : Nat} {Z : Nat → Prop} {w : World} (hq : SealW H0 b Z w) (h0 : 0 < H0.length) {A : Array Value} (ha : ∀ ρ : Loc, ρ 0 = some ⟨b, 0, none⟩ → (SV.denL ρ args0).toArray = A) :
    Calls P f A w fun e w' => ∃ s H1 ρ1 U, R s H1 ∧ (∀ ρ'', Same H1.length ρ1 ρ'' → e = .returned (s.den ρ'')) ∧ HRel w U ρ1 H1 w' ∧ (∀ x, U x → Z x) ∧ ρ1 0 = some ⟨b, 0, none⟩ := by
  obtain ⟨ρ, hρ, hr, hz⟩ := hq
  rw [← ha ρ hρ]
  refine (hS.out ρ w hr).mono ?_
  rintro e w' ⟨s, H1, ρ1, hR, _, he, hr1, hs, hle⟩
  exact ⟨s, H1, ρ1, _, hR, he, hr1, hz, by rw [hs 0 h0]; exact hρ⟩
section
variable {w0 : World} {U : Nat → Prop}
/-- One thing that is sealed becomes another, and a further one is laid beside it. -/
theorem HOk.seal2 {ρ : Loc} {H : List HE} {w w' : World} (h : HOk w0 U ρ H w) {j : Nat} {Z Z1 Z2 : Nat → Prop} {Q Q1 Q2 : World → Prop} (hj : H[j]? = some (.res true Z Q)) (hfr : Fr Z w w')
    (h1 : Q1 w') (h2 : Q2 w') (hz1 : ∀ b, Z1 b → (Z b ∨ w.heap.size ≤ b) ∧ b < w'.heap.size) (hz2 : ∀ b, Z2 b → (Z b ∨ w.heap.size ≤ b) ∧ b < w'.heap.size) (hd : ∀ b, Z1 b → ¬ Z2 b)
    (s1 : ∀ u1 u2 : World, (∀ b, Z1 b → u2.heap[b]? = u1.heap[b]?) → Q1 u1 → Q1 u2) (s2 : ∀ u1 u2 : World, (∀ b, Z2 b → u2.heap[b]? = u1.heap[b]?) → Q2 u1 → Q2 u2) :
    HOk w0 U ρ (H.set j (.res true Z1 Q1) ++ [.res true Z2 Q2]) w' := by
  have hjl := (List.getElem?_eq_some_iff.1 hj).1
  have key : ∀ i e, (H.set j (.res true Z1 Q1) ++ [HE.res true Z2 Q2])[i]? = some e →
      (i ≠ j ∧ i < H.length ∧ H[i]? = some e) ∨ (i = j ∧ e = .res true Z1 Q1) ∨ (i = H.length ∧ e = .res true Z2 Q2) := fun i e hi => by
    rw [List.getElem?_append] at hi
    split at hi
    · rename_i hlt
      simp only [List.length_set] at hlt
      rw [List.getElem?_set] at hi
      split at hi
      · rename_i hij; subst hij
        exact .inr (.inl ⟨rfl, by simpa [hlt] using hi.symm⟩)
      · rename_i hij; exact .inl ⟨fun h => hij h.symm, hlt, hi⟩
    · rename_i hlt
      simp only [List.length_set] at hi hlt
      rcases Nat.eq_or_lt_of_le (Nat.le_of_not_lt hlt) with hh | hh
      · rw [← hh] at hi; simp at hi; exact .inr (.inr ⟨hh.symm, hi.symm⟩)
      · rw [List.getElem?_eq_none (by simp; omega)] at hi; cases hi
  have far : ∀ i e b, i ≠ j → H[i]? = some e → e.live → e.foot ρ i b → ¬ Z b ∧ b < w.heap.size := fun i e b hij hi hl hf =>
    ⟨fun hz => h.dis j i _ e (Ne.symm hij) hj rfl hi hl b hz hf, HE.ok_lt (h.ent i e hi) hl hf⟩
  have new : ∀ i e b, i ≠ j → H[i]? = some e → e.live → e.foot ρ i b → (Z b ∨ w.heap.size ≤ b) → False := fun i e b hij hi hl hf hz => by
    have := far i e b hij hi hl hf
    rcases hz with hz | hz
    · exact this.1 hz
    · omega
  refine ⟨fun i e hi => ?_, fun i e hi hw b hb => ?_, fun i k d e hik hi hdw hk hl b hx hy => ?_, ?_⟩
  · rcases key i e hi with ⟨hij, _, hi'⟩ | ⟨rfl, rfl⟩ | ⟨rfl, rfl⟩
    · exact HE.ok_fr (h.ent i e hi') hfr (fun hl b hf => (far i e b hij hi' hl hf).1)
    · exact ⟨h1, fun b hb => (hz1 b hb).2, s1⟩
    · exact ⟨h2, fun b hb => (hz2 b hb).2, s2⟩
  · have res : ∀ {b}, (Z b ∨ w.heap.size ≤ b) → w0.heap.size ≤ b ∨ U b := fun {b} hz => hz.elim (fun hz => h.own j _ hj rfl b hz) (fun hz => .inl (Nat.le_trans h.fr.size hz))
    rcases key i e hi with ⟨hij, _, hi'⟩ | ⟨rfl, rfl⟩ | ⟨rfl, rfl⟩
    · exact h.own i e hi' hw b hb
    · exact res (hz1 b hb).1
    · exact res (hz2 b hb).1
  · rcases key i d hi with ⟨hij, _, hi'⟩ | ⟨rfl, rfl⟩ | ⟨rfl, rfl⟩ <;> rcases key k e hk with ⟨hkj, _, hk'⟩ | ⟨hk1, rfl⟩ | ⟨hk1, rfl⟩
    · exact h.dis i k d e hik hi' hdw hk' hl b hx hy
    · exact new i d b hij hi' (HE.wr_live hdw) hx (hz1 b hy).1
    · exact new i d b hij hi' (HE.wr_live hdw) hx (hz2 b hy).1
    · exact new k e b hkj hk' hl hy (hz1 b hx).1
    · exact hik hk1.symm
    · exact hd b hx hy
    · exact new k e b hkj hk' hl hy (hz2 b hx).1
    · exact hd b hy hx
    · exact hik hk1.symm
  · exact ⟨hfr.os.trans h.fr.os, hfr.tape.trans h.fr.tape, hfr.output.trans h.fr.output, Nat.le_trans h.fr.size hfr.size, fun b hb hU => (hfr.block b (Nat.lt_of_lt_of_le hb h.fr.size) (fun hz => by
      rcases h.own j _ hj rfl b hz with h | h
      · omega
      · exact hU h)).trans (h.fr.block b hb hU)⟩
/-- A call that changes an object that is sealed, and makes another thing, sealed beside it. -/
theorem call_obj {P : Program} {α : Type} {f : FuncId} {args : List SV} {H : List HE} {K : SV → List HE → Prop} (j : Nat) {Z : Nat → Prop} {Q : World → Prop} (hj : getH H j = .res true Z Q) (V : α → SV) (Q1 Q2 : α → (Nat → Prop) → World → Prop)
    (hV : ∀ x ρ, (V x).den ρ = (V x).den noLoc)
    (hc : ∀ ρ w, HRel w0 U ρ H w → Q w → Calls P f (SV.denL ρ args).toArray w fun e w' => ∃ (x : α) (Z1 Z2 : Nat → Prop), e = .returned ((V x).den noLoc) ∧ Q1 x Z1 w' ∧ Q2 x Z2 w' ∧ Fr Z w w' ∧ (∀ b, Z1 b → (Z b ∨ w.heap.size ≤ b) ∧ b < w'.heap.size) ∧ (∀ b, Z2 b → (Z b ∨ w.heap.size ≤ b) ∧ b < w'.heap.size) ∧ ∀ b, Z1 b → ¬ Z2 b)
    (s1 : ∀ x Y u1 u2, (∀ b, Y b → u2.heap[b]? = u1.heap[b]?) → Q1 x Y u1 → Q1 x Y u2) (s2 : ∀ x Y u1 u2, (∀ b, Y b → u2.heap[b]? = u1.heap[b]?) → Q2 x Y u1 → Q2 x Y u2)
    (hK : ∀ x Z1 Z2, setHK H j (.res true Z1 (Q1 x Z1)) fun H1 => appK H1 (.res true Z2 (Q2 x Z2)) fun H' => K (V x) H') : CallN P w0 U f args H K :=
  ⟨fun ρ w hr => (hc ρ w hr (res_at' hr hj)).mono fun e w' ⟨x, Z1, Z2, he, h1, h2, hfr, hz1, hz2, hd⟩ =>
    ⟨V x, _, ρ, fun ρ'' _ => by rw [hV]; exact he, fun ρ'' h'' => (hr ρ'' (h''.mono (by simp))).seal2 (getH_res hj) hfr h1 h2 hz1 hz2 hd (s1 x Z1) (s2 x Z2), Same.refl _ _, by simp, appK_spec _ _ _ (setHK_spec _ _ _ _ (hK x Z1 Z2))⟩⟩
where
  res_at' {w : World} {ρ : Loc} {H : List HE} {i : Nat} {wr : Bool} {Z : Nat → Prop} {Q : World → Prop} (h : HRel w0 U ρ H w) (hi : getH H i = .res wr Z Q) : Q w := (h.at.ent i _ (getH_res hi)).1
/-- A call that makes an object, sealed. -/
theorem call_new {P : Program} {α : Type} {f : FuncId} {args : List SV} {H : List HE} {K : SV → List HE → Prop} (V : α → SV) (Q1 : α → (Nat → Prop) → World → Prop)
    (hV : ∀ x ρ, (V x).den ρ = (V x).den noLoc)
    (hc : ∀ ρ w, HRel w0 U ρ H w → Calls P f (SV.denL ρ args).toArray w fun e w' => ∃ (x : α) (Z1 : Nat → Prop), e = .returned ((V x).den noLoc) ∧ Q1 x Z1 w' ∧ w.grownBy w' none ∧ (∀ b, Z1 b → w.heap.size ≤ b ∧ b < w'.heap.size))
    (s1 : ∀ x Y u1 u2, (∀ b, Y b → u2.heap[b]? = u1.heap[b]?) → Q1 x Y u1 → Q1 x Y u2)
    (hK : ∀ x Z1, appK H (.res true Z1 (Q1 x Z1)) fun H' => K (V x) H') : CallN P w0 U f args H K :=
  ⟨fun ρ w hr => (hc ρ w hr).mono fun e w' ⟨x, Z1, he, h1, hg, hz1⟩ =>
    ⟨V x, _, ρ, fun ρ'' _ => by rw [hV]; exact he, fun ρ'' h'' => by
      have h'' : Same H.length ρ ρ'' := h''.mono (by simp)
      have hok := hr ρ'' h''
      exact addHF (keepH hok hg (fun _ _ _ _ _ _ => by simp) (fun k hk => by cases hk)) ⟨h1, fun b hb => (hz1 b hb).2, s1 x Z1⟩ (fun _ b hb => .inl (Nat.le_trans hok.fr.size (hz1 b hb).1)) (fun i d hi hl _ b hb hd => by
        have := HE.ok_lt (hok.ent i d hi) hl hd
        have := (hz1 b hb).1
        omega), Same.refl _ _, by simp, appK_spec _ _ _ (hK x Z1)⟩⟩
/-- One thing that is sealed becomes another, and others are laid beside it. -/
theorem HOk.sealE {ρ ρ' : Loc} {H E : List HE} {w w' : World} (h : HOk w0 U ρ' H w) {j : Nat} {Z Z1 : Nat → Prop} {Q Q1 : World → Prop} (hj : H[j]? = some (.res true Z Q)) (hfr : Fr Z w w')
    (h1 : Q1 w') (hz1 : ∀ b, Z1 b → (Z b ∨ w.heap.size ≤ b) ∧ b < w'.heap.size)
    (s1 : ∀ u1 u2 : World, (∀ b, Z1 b → u2.heap[b]? = u1.heap[b]?) → Q1 u1 → Q1 u2)
    (hE : ∀ (k : Nat) (e : HE), E[k]? = some e → e.ok ρ' w' (H.length + k) ∧ ∀ b, e.foot ρ' (H.length + k) b → (Z b ∨ w.heap.size ≤ b) ∧ ¬ Z1 b)
    (hEd : ∀ (k k' : Nat) (e e' : HE), k ≠ k' → E[k]? = some e → E[k']? = some e' → ∀ b, e.foot ρ' (H.length + k) b → ¬ e'.foot ρ' (H.length + k') b) :
    HOk w0 U ρ' (H.set j (.res true Z1 Q1) ++ E) w' := by
  have hjl := (List.getElem?_eq_some_iff.1 hj).1
  have key : ∀ i e, (H.set j (.res true Z1 Q1) ++ E)[i]? = some e →
      (i ≠ j ∧ i < H.length ∧ H[i]? = some e) ∨ (i = j ∧ e = .res true Z1 Q1) ∨ ∃ k, i = H.length + k ∧ E[k]? = some e := fun i e hi => by
    rw [List.getElem?_append] at hi
    split at hi
    · rename_i hlt
      simp only [List.length_set] at hlt
      rw [List.getElem?_set] at hi
      split at hi
      · rename_i hij; subst hij
        exact .inr (.inl ⟨rfl, by simpa [hlt] using hi.symm⟩)
      · rename_i hij; exact .inl ⟨fun h => hij h.symm, hlt, hi⟩
    · rename_i hlt
      simp only [List.length_set] at hi hlt
      exact .inr (.inr ⟨i - H.length, by omega, hi⟩)
  have far : ∀ i e b, i ≠ j → H[i]? = some e → e.live → e.foot ρ' i b → ¬ Z b ∧ b < w.heap.size := fun i e b hij hi hl hf =>
    ⟨fun hz => h.dis j i _ e (Ne.symm hij) hj rfl hi hl b hz hf, HE.ok_lt (h.ent i e hi) hl hf⟩
  have new : ∀ i e b, i ≠ j → H[i]? = some e → e.live → e.foot ρ' i b → (Z b ∨ w.heap.size ≤ b) → False := fun i e b hij hi hl hf hz => by
    have := far i e b hij hi hl hf
    rcases hz with hz | hz
    · exact this.1 hz
    · omega
  refine ⟨fun i e hi => ?_, fun i e hi hw b hb => ?_, fun i k d e hik hi hdw hk hl b hx hy => ?_, ?_⟩
  · rcases key i e hi with ⟨hij, _, hi'⟩ | ⟨rfl, rfl⟩ | ⟨k, rfl, hk⟩
    · exact HE.ok_fr (h.ent i e hi') hfr (fun hl b hf => (far i e b hij hi' hl hf).1)
    · exact ⟨h1, fun b hb => (hz1 b hb).2, s1⟩
    · exact (hE k e hk).1
  · have res : ∀ {b}, (Z b ∨ w.heap.size ≤ b) → w0.heap.size ≤ b ∨ U b := fun {b} hz => hz.elim (fun hz => h.own j _ hj rfl b hz) (fun hz => .inl (Nat.le_trans h.fr.size hz))
    rcases key i e hi with ⟨hij, _, hi'⟩ | ⟨rfl, rfl⟩ | ⟨k, rfl, hk⟩
    · exact h.own i e hi' hw b hb
    · exact res (hz1 b hb).1
    · exact res ((hE k e hk).2 b hb).1
  · rcases key i d hi with ⟨hij, _, hi'⟩ | ⟨rfl, rfl⟩ | ⟨k1, rfl, hk1⟩ <;> rcases key k e hk with ⟨hkj, _, hk'⟩ | ⟨hk1', rfl⟩ | ⟨k2, rfl, hk2⟩
    · exact h.dis i k d e hik hi' hdw hk' hl b hx hy
    · exact new i d b hij hi' (HE.wr_live hdw) hx (hz1 b hy).1
    · exact new i d b hij hi' (HE.wr_live hdw) hx ((hE k2 e hk2).2 b hy).1
    · exact new k e b hkj hk' hl hy (hz1 b hx).1
    · exact hik hk1'.symm
    · exact ((hE k2 e hk2).2 b hy).2 hx
    · exact new k e b hkj hk' hl hy ((hE k1 d hk1).2 b hx).1
    · exact ((hE k1 d hk1).2 b hx).2 hy
    · exact hEd k1 k2 d e (fun h => hik (by rw [h])) hk1 hk2 b hx hy
  · exact ⟨hfr.os.trans h.fr.os, hfr.tape.trans h.fr.tape, hfr.output.trans h.fr.output, Nat.le_trans h.fr.size hfr.size, fun b hb hU => (hfr.block b (Nat.lt_of_lt_of_le hb h.fr.size) (fun hz => by
      rcases h.own j _ hj rfl b hz with h | h
      · omega
      · exact hU h)).trans (h.fr.block b hb hU)⟩
/-- A thing whose cells name no block. -/
def HE.flat : HE → Prop
  | .blk _ _ => False
  | _ => True
theorem HE.ok_move {e : HE} (hf : e.flat) {ρ ρ' : Loc} {i k : Nat} (h : ρ' i = ρ k) {w : World} (hk : e.ok ρ w k) : e.ok ρ' w i := by
  cases e with
  | none => trivial
  | blk t cs => exact hf.elim
  | row sz n f => simpa only [HE.ok, h] using hk
  | own t sz n f =>
    have : (SV.os k n).den ρ = (SV.os i n).den ρ' := by simp only [SV.den, atB', capB, h]
    simpa only [HE.ok, this] using hk
  | mp ag zk es st => simpa only [HE.ok, h] using hk
  | obj1 t p q ag zk es => simpa only [HE.ok, h] using hk
  | res wr Z Q => exact hk
def appsK : List HE → List HE → (List HE → Prop) → Prop
  | H, [], K => K H
  | H, e :: r, K => appK H e fun H1 => appsK H1 r K
theorem appsK_spec : ∀ (E H : List HE) (K : List HE → Prop), appsK H E K → K (H ++ E)
  | [], H, K, h => by rw [List.append_nil]; exact h
  | e :: r, H, K, h => by
    have := appsK_spec r _ K (appK_spec _ _ _ h)
    simpa using this
/-- A call that changes an object that is sealed, and makes other things beside it, which have names. -/
theorem call_objE {P : Program} {α : Type} {f : FuncId} {args : List SV} {H : List HE} {K : SV → List HE → Prop} (j : Nat) {Z : Nat → Prop} {Q : World → Prop} (hj : getH H j = .res true Z Q) (V : α → Nat → SV) (E : α → List HE) (Q1 : α → (Nat → Prop) → World → Prop)
    (hc : ∀ ρ w, HRel w0 U ρ H w → Q w → Calls P f (SV.denL ρ args).toArray w fun e w' => ∃ (x : α) (Z1 : Nat → Prop) (ρn : Loc), (∀ (N : Nat) (ρ' : Loc), (∀ k, k < (E x).length → ρ' (N + k) = ρn k) → e = .returned ((V x N).den ρ')) ∧ Q1 x Z1 w' ∧ Fr Z w w' ∧ (∀ b, Z1 b → (Z b ∨ w.heap.size ≤ b) ∧ b < w'.heap.size) ∧
      (∀ (k : Nat) (e : HE), (E x)[k]? = some e → e.flat ∧ e.ok ρn w' k ∧ ∀ b, e.foot ρn k b → (Z b ∨ w.heap.size ≤ b) ∧ ¬ Z1 b) ∧ (∀ (k k' : Nat) (e e' : HE), k ≠ k' → (E x)[k]? = some e → (E x)[k']? = some e' → ∀ b, e.foot ρn k b → ¬ e'.foot ρn k' b))
    (s1 : ∀ x Y u1 u2, (∀ b, Y b → u2.heap[b]? = u1.heap[b]?) → Q1 x Y u1 → Q1 x Y u2)
    (hK : ∀ x Z1, setHK H j (.res true Z1 (Q1 x Z1)) fun H1 => appsK H1 (E x) fun H' => lenK H fun N => K (V x N) H') : CallN P w0 U f args H K :=
  ⟨fun ρ w hr => (hc ρ w hr ((hr.at.ent j _ (getH_res hj)).1)).mono fun e w' ⟨x, Z1, ρn, he, h1, hfr, hz1, hE, hEd⟩ => by
    have hK' := lenK_spec (appsK_spec _ _ _ (setHK_spec _ _ _ _ (hK x Z1)))
    let ρ' : Loc := fun i => if i < H.length then ρ i else ρn (i - H.length)
    have hρ' : Same H.length ρ ρ' := fun i hi => if_pos hi
    have hnew : ∀ ρ'', Same (H.set j (.res true Z1 (Q1 x Z1)) ++ E x).length ρ' ρ'' → ∀ k, k < (E x).length → ρ'' (H.length + k) = ρn k := fun ρ'' hs k hk => by
      rw [hs _ (by simp; omega)]
      simp only [ρ']
      rw [if_neg (by omega)]
      congr 1; omega
    refine ⟨V x H.length, _, ρ', fun ρ'' hs => he H.length ρ'' (hnew ρ'' hs), fun ρ'' hs => ?_, hρ', by simp, hK'⟩
    have hsH : Same H.length ρ ρ'' := hρ'.trans (hs.mono (by simp)) (Nat.le_refl _)
    refine (hr ρ'' hsH).sealE (ρ := ρ) (getH_res hj) hfr h1 hz1 (s1 x Z1) (fun k e hk => ?_) (fun k k' e e' hkk hk hk' b hb hb' => ?_)
    · have hkl := (List.getElem?_eq_some_iff.1 hk).1
      have hn := hnew ρ'' hs k hkl
      obtain ⟨a1, a2, a3⟩ := hE k e hk
      exact ⟨HE.ok_move a1 hn a2, fun b hb => a3 b ((HE.ren_foot' a1 hn).1 hb)⟩
    · have hkl := (List.getElem?_eq_some_iff.1 hk).1
      have hkl' := (List.getElem?_eq_some_iff.1 hk').1
      exact hEd k k' e e' hkk hk hk' b ((HE.ren_foot' (hE k e hk).1 (hnew ρ'' hs k hkl)).1 hb) ((HE.ren_foot' (hE k' e' hk').1 (hnew ρ'' hs k' hkl')).1 hb')⟩
where
  HE.ren_foot' {e : HE} (hf : e.flat) {ρ ρ' : Loc} {i k : Nat} (h : ρ' i = ρ k) {b : Nat} : e.foot ρ' i b ↔ e.foot ρ k b := by
    cases e <;> simp only [HE.foot, h]
/-- A call that reads an object that is sealed. -/
theorem Spec.sealed_same {P : Program} {f : FuncId} {args0 : List SV} {H0 : List HE} {s0 : SV} (hS : Spec P f args0 H0 fun s H1 => s = s0 ∧ H1 = H0) (hcl : ∀ ρ, s0.den ρ = s0.den noLoc) {b : Nat} {Z : Nat → Prop} {w : World} (hq : SealW H0 b Z w) (h0 : 0 < H0.length) {A : Array Value} (ha : ∀ ρ : Loc, ρ 0 = some ⟨b, 0, none⟩ → (SV.denL ρ args0).toArray = A) :
    Calls P f A w fun e w' => e = .returned (s0.den noLoc) ∧ SealW H0 b Z w' ∧ Fr Z w w' := by
  obtain ⟨ρ, hρ, hr, hz⟩ := hq
  rw [← ha ρ hρ]
  refine (hS.out ρ w hr).mono ?_
  rintro e w' ⟨s, H1, ρ1, ⟨rfl, rfl⟩, _, he, hr1, hs, hle⟩
  refine ⟨by rw [he ρ1 (Same.refl _ _), hcl], ⟨ρ, hρ, fun ρ' hs' => ?_, hz⟩, hr1.at.fr.mono fun k _ hk => hz k hk⟩
  have hok := hr1 ρ' (fun i hi => (hs' i hi).trans (hs i hi).symm)
  exact ⟨hok.ent, fun i e hi hw x hx => .inr ((specU_same hs').1 ⟨i, e, hi, hw, hx⟩), hok.dis, Fr.refl _ _⟩
theorem HOk.sealS {ρ : Loc} {H : List HE} {w w' : World} (h : HOk w0 U ρ H w) {j : Nat} {Z : Nat → Prop} {Q : World → Prop} (hj : H[j]? = some (.res true Z Q)) (hfr : Fr Z w w') (h1 : Q w') : HOk w0 U ρ H w' := by
  obtain ⟨k1, k2, k3⟩ := h.ent j _ hj
  have := h.sealE (ρ := ρ) (E := []) hj hfr h1 (fun b hb => ⟨.inl hb, Nat.lt_of_lt_of_le (k2 b hb) hfr.size⟩) k3 (fun k e hk => by simp at hk) (fun k k' e e' _ hk => by simp at hk)
  rwa [set_self hj, List.append_nil] at this
section
variable {P : Program} {f : FuncId} {args : List SV} {H : List HE} {s : SV} (j : Nat) {Z : Nat → Prop} {Q : World → Prop}
theorem call_look {K : SV → List HE → Prop} (hj : getH H j = .res true Z Q) (hcl : ∀ ρ, s.den ρ = s.den noLoc)
    (hc : ∀ ρ w, Q w → Calls P f (SV.denL ρ args).toArray w fun e w' => e = .returned (s.den noLoc) ∧ Q w' ∧ Fr Z w w') (hK : K s H) : CallN P w0 U f args H K :=
  ⟨fun ρ w hr => (hc ρ w ((hr.at.ent j _ (getH_res hj)).1)).mono fun e w' ⟨he, hq, hfr⟩ =>
    ⟨s, H, ρ, fun ρ'' _ => by rw [hcl]; exact he, fun ρ'' hs => (hr ρ'' hs).sealS (getH_res hj) hfr hq, Same.refl _ _, Nat.le_refl _, hK⟩⟩
theorem quiet_look {v : Value} {K : SV → Prop} (hj : getH H j = .res true Z Q)
    (hc : ∀ ρ w, Q w → Calls P f (SV.denL ρ args).toArray w fun e w' => e = .returned v ∧ Q w' ∧ Fr Z w w') (hK : K (.v v)) : CallQ P w0 U f args H K :=
  ⟨v, fun ρ w hr => (hc ρ w ((hr.at.ent j _ (getH_res hj)).1)).mono fun e w' ⟨he, hq, hfr⟩ => ⟨he, fun ρ'' hs => (hr ρ'' hs).sealS (getH_res hj) hfr hq⟩, hK⟩
theorem seg_look {nb N : Nat} {K : SV → Option HE → Prop} (hj : getH (H.take nb) j = .res true Z Q) (hcl : ∀ ρ, s.den ρ = s.den noLoc)
    (hc : ∀ ρ w, Q w → Calls P f (SV.denL ρ args).toArray w fun e w' => e = .returned (s.den noLoc) ∧ Q w' ∧ Fr Z w w') (hK : K s none) : CallS P w0 U nb f args H N K :=
  ⟨s, none, hK, fun ρ w _ hb => (hc ρ w ((hb.at.ent j _ (getH_res hj)).1)).mono fun e w' ⟨he, hq, hfr⟩ => by
    refine ⟨.inr ⟨⟨Z, hfr, fun x hx => ⟨j, _, getH_res hj, trivial, hx⟩⟩, fun ρ'' hs => (hb ρ'' hs).sealS (getH_res hj) hfr hq⟩, none, s.den noLoc, fun b hb => (by simp at hb), he, fun ρ'' _ _ => ⟨(hcl ρ'').symm, fun _ h => by cases h⟩⟩⟩
end
/-- A call that reads an object that is sealed, and hands back a slice of its own. -/
theorem Spec.sealed_own {P : Program} {f : FuncId} {args0 : List SV} {H0 : List HE} {mk : SV → SV} {ty : TypeId} {sz n : Nat} {g : Nat → Nat → Value} {m : Nat} (hS : Spec P f args0 H0 fun s H1 => s = mk (.os m n) ∧ H1 = H0 ++ [.own ty sz n g]) (hm : m = H0.length)
    (hmk : ∀ s s' ρ ρ', s.den ρ = s'.den ρ' → (mk s).den ρ = (mk s').den ρ') (hb0 : H0.all (HE.bdd H0.length) = true) {b : Nat} {Z : Nat → Prop} {w : World} (hq : SealW H0 b Z w) {A : Array Value} (ha : ∀ ρ : Loc, ρ 0 = some ⟨b, 0, none⟩ → (SV.denL ρ args0).toArray = A) :
    Calls P f A w fun e w' => (∃ x : Option Addr, (∀ a, x = some a → w.heap.size ≤ a.block) ∧ ∀ (N : Nat) (ρ' : Loc), ρ' N = x → e = .returned ((mk (.os N n)).den ρ') ∧ (HE.own ty sz n g).ok ρ' w' N) ∧ SealW H0 b Z w' ∧ Fr Z w w' := by
  subst hm
  obtain ⟨ρ, hρ, hr, hz⟩ := hq
  rw [← ha ρ hρ]
  refine (hS.out ρ w hr).mono ?_
  rintro e w' ⟨s, H1, ρ1, ⟨rfl, rfl⟩, _, he, hr1, hs, hle⟩
  have hlast : (H0 ++ [HE.own ty sz n g])[H0.length]? = some (.own ty sz n g) := by simp
  have lft : ∀ {i : Nat} {e : HE}, H0[i]? = some e → (H0 ++ [HE.own ty sz n g])[i]? = some e := fun hi => by
    rw [List.getElem?_append_left (List.getElem?_eq_some_iff.1 hi).1]; exact hi
  have hok1 := hr1.at
  refine ⟨⟨ρ1 H0.length, fun a hx => ?_, fun N ρ' hN => ⟨?_, HE.ok_move (e := .own ty sz n g) trivial hN (hok1.ent _ _ hlast)⟩⟩, ⟨ρ, hρ, fun ρ' hs' => ?_, hz⟩, hok1.fr.mono fun k _ hk => hz k hk⟩
  · have hf : (HE.own ty sz n g).foot ρ1 H0.length a.block := ⟨a, hx, rfl⟩
    rcases hok1.own _ _ hlast trivial _ hf with h | ⟨i, d, hi, hw, hd⟩
    · exact h
    · have hil := (List.getElem?_eq_some_iff.1 hi).1
      exact absurd hf (hok1.dis i H0.length d _ (by omega) (lft hi) hw hlast trivial _ ((HE.foot_congr (hs i hil) d).2 hd))
  · rw [he ρ1 (Same.refl _ _)]
    refine congrArg Ending.returned (hmk _ _ _ _ ?_)
    simp only [SV.den, atB', capB, hN]
  · have hs1 : Same H0.length ρ1 ρ' := fun i hi => (hs' i hi).trans (hs i hi).symm
    refine ⟨fun i e hi => ?_, fun i e hi hw x hx => .inr ((specU_same hs').1 ⟨i, e, hi, hw, hx⟩), fun i j d e hij hi hd hj hl x hx hy => ?_, Fr.refl _ _⟩
    · exact HE.ok_same (hok1.ent i e (lft hi)) (List.all_eq_true.1 hb0 e (List.mem_of_getElem? hi)) (List.getElem?_eq_some_iff.1 hi).1 hs1
    · have hil := (List.getElem?_eq_some_iff.1 hi).1
      have hjl := (List.getElem?_eq_some_iff.1 hj).1
      exact hok1.dis i j d e hij (lft hi) hd (lft hj) hl x ((HE.foot_congr (hs1 i hil) d).1 hx) ((HE.foot_congr (hs1 j hjl) e).1 hy)
/-- The same, in any memory. -/
theorem call_ownS {P : Program} {f : FuncId} {args : List SV} {H : List HE} {K : SV → List HE → Prop} (j : Nat) {Z : Nat → Prop} {Q : World → Prop} (ty : TypeId) (sz n : Nat) (g : Nat → Nat → Value) (mk : SV → SV) (hj : getH H j = .res true Z Q)
    (hc : ∀ ρ w, Q w → Calls P f (SV.denL ρ args).toArray w fun e w' => (∃ x : Option Addr, (∀ a, x = some a → w.heap.size ≤ a.block) ∧ ∀ (N : Nat) (ρ' : Loc), ρ' N = x → e = .returned ((mk (.os N n)).den ρ') ∧ (HE.own ty sz n g).ok ρ' w' N) ∧ Q w' ∧ Fr Z w w')
    (hK : appK H (.own ty sz n g) fun H' => lenK H fun N => K (mk (.os N n)) H') : CallN P w0 U f args H K :=
  ⟨fun ρ w hr => by
    obtain ⟨q1, q2, q3⟩ := hr.at.ent j _ (getH_res hj)
    refine (hc ρ w q1).mono ?_
    rintro e w' ⟨⟨x, hx, hN⟩, hq, hfr⟩
    have hK' := lenK_spec (appK_spec _ _ _ hK)
    let ρ' : Loc := fun i => if i < H.length then ρ i else x
    have hρ' : Same H.length ρ ρ' := fun i hi => if_pos hi
    have hnew : ∀ ρ'', Same (H ++ [HE.own ty sz n g]).length ρ' ρ'' → ρ'' H.length = x := fun ρ'' hs => by
      rw [hs _ (by simp)]
      simp only [ρ', if_neg (Nat.lt_irrefl _)]
    refine ⟨mk (.os H.length n), _, ρ', fun ρ'' hs => (hN H.length ρ'' (hnew ρ'' hs)).1, fun ρ'' hs => ?_, hρ', by simp, hK'⟩
    have hsH : Same H.length ρ ρ'' := hρ'.trans (hs.mono (by simp)) (Nat.le_refl _)
    have hok := (hr ρ'' hsH).sealS (getH_res hj) hfr hq
    refine addHF hok (hN H.length ρ'' (hnew ρ'' hs)).2 (fun _ b hb => ?_) (fun i d hi hl _ b hb hd => ?_)
    · obtain ⟨a, ha, rfl⟩ := hb
      rw [hnew ρ'' hs] at ha
      exact .inl (Nat.le_trans hr.at.fr.size (hx a ha))
    · obtain ⟨a, ha, rfl⟩ := hb
      rw [hnew ρ'' hs] at ha
      have := HE.ok_lt ((hr ρ'' hsH).ent i d hi) hl hd
      have := hx a ha
      omega⟩
theorem seg_ownS {P : Program} {nb N : Nat} {f : FuncId} {args : List SV} {H : List HE} {K : SV → Option HE → Prop} (j : Nat) {Z : Nat → Prop} {Q : World → Prop} (ty : TypeId) (sz n : Nat) (g : Nat → Nat → Value) (mk : SV → SV) (hj : getH (H.take nb) j = .res true Z Q)
    (hc : ∀ ρ w, Q w → Calls P f (SV.denL ρ args).toArray w fun e w' => (∃ x : Option Addr, (∀ a, x = some a → w.heap.size ≤ a.block) ∧ ∀ (N : Nat) (ρ' : Loc), ρ' N = x → e = .returned ((mk (.os N n)).den ρ') ∧ (HE.own ty sz n g).ok ρ' w' N) ∧ Q w' ∧ Fr Z w w')
    (hK : K (mk (.os N n)) (some (.own ty sz n g))) : CallS P w0 U nb f args H N K :=
  ⟨mk (.os N n), _, hK, fun ρ w _ hb => by
    refine (hc ρ w ((hb.at.ent j _ (getH_res hj)).1)).mono ?_
    rintro e w' ⟨⟨x, hx, hN⟩, hq, hfr⟩
    refine ⟨.inr ⟨⟨Z, hfr, fun x hx => ⟨j, _, getH_res hj, trivial, hx⟩⟩, fun ρ'' hs => (hb ρ'' hs).sealS (getH_res hj) hfr hq⟩, x, (mk (.os N n)).den (fun _ => x), hx, (hN N (fun _ => x) rfl).1, fun ρ' _ hN' => ?_⟩
    have hN' := hN' rfl
    have e1 := (hN N (fun _ => x) rfl).1
    have e2 := (hN N ρ' hN').1
    rw [e1] at e2
    injection e2 with e2
    refine ⟨e2, fun e0 h0 => ?_⟩
    cases h0
    exact okN_nam (hN N ρ' hN').2 hN' hx⟩
end
end Go.Proofs.Ytghfigeepnbjaaa
