/-
  An object that is sealed, opened for a call and sealed again. An operation of any object that is sealed: what it leaves, told in any memory. A call that hands back a closed value, which one is not told. No condition.
-/
import Derived.Test.YtghfigeepnbjaaaP6
import Derived.Test.YtghfigeepnbjaaaP7
namespace Go.Proofs.Ytghfigeepnbjaaa
section
variable {w0 : World} {U : Nat → Prop}
theorem spσ0_lt {n k j : Nat} (h : j < k) : renI (spσ [] n k) j = n + j := by
  have := spσ_ge (σ := []) (n := n) (k := k) (t := j) h
  simpa using this
/-- What is known, the object's blocks told one by one. -/
def openH (H : List HE) (j : Nat) (H0 : List HE) : List HE := H.set j .none ++ H0.map (HE.ren (spσ [] H.length H0.length))
theorem HRel.open' {ρ : Loc} {H : List HE} {w : World} (hr : HRel w0 U ρ H w) {j : Nat} {H0 : List HE} {b : Nat} {Z : Nat → Prop} (hj : H[j]? = some (.res true Z (SealW H0 b Z))) (hwr : allWr H0) :
    ∃ ρo : Loc, Same H.length ρ ρo ∧ ρo H.length = some ⟨b, 0, none⟩ ∧ HRel w0 U ρo (openH H j H0) w := by
  obtain ⟨hq, hz, _⟩ := hr.at.ent j _ hj
  obtain ⟨ρs, hb, hs, hzs⟩ := hq
  have hjl := (List.getElem?_eq_some_iff.1 hj).1
  let ρo : Loc := fun i => if i < H.length then ρ i else ρs (i - H.length)
  refine ⟨ρo, fun i hi => if_pos hi, ?_, fun ρ'' hsame => ?_⟩
  · simp only [ρo, if_neg (Nat.lt_irrefl _), Nat.sub_self]; exact hb
  have hlen : (openH H j H0).length = H.length + H0.length := by simp [openH]
  have hH : Same H.length ρ ρ'' := fun i hi => by rw [hsame i (by rw [hlen]; omega)]; exact if_pos hi
  have hok := hr ρ'' hH
  let ρt : Loc := fun k => ρ'' (renI (spσ [] H.length H0.length) k)
  have ht : ∀ k, k < H0.length → ρt k = ρ'' (H.length + k) := fun k hk => by simp only [ρt, spσ0_lt hk]
  have hts : Same H0.length ρs ρt := fun k hk => by
    rw [ht k hk, hsame _ (by rw [hlen]; omega)]
    simp only [ρo]
    rw [if_neg (by omega)]
    congr 1; omega
  have hok0 := hs ρt hts
  have key : ∀ i e, (openH H j H0)[i]? = some e → (i < H.length ∧ i ≠ j ∧ H[i]? = some e) ∨ (i = j ∧ e = .none) ∨ ∃ k d, i = H.length + k ∧ H0[k]? = some d ∧ e = d.ren (spσ [] H.length H0.length) := fun i e hi => by
    unfold openH at hi
    rw [List.getElem?_append] at hi
    split at hi
    · rename_i hlt
      simp only [List.length_set] at hlt
      rw [List.getElem?_set] at hi
      split at hi
      · rename_i hij; subst hij
        exact .inr (.inl ⟨rfl, by simpa [hlt] using hi.symm⟩)
      · rename_i hij; exact .inl ⟨hlt, fun h => hij h.symm, hi⟩
    · rename_i hlt
      simp only [List.length_set] at hi hlt
      rw [List.getElem?_map] at hi
      obtain ⟨d, hd, rfl⟩ := Option.map_eq_some_iff.1 hi
      exact .inr (.inr ⟨i - H.length, d, by omega, hd, rfl⟩)
  have ftk : ∀ (k : Nat) (d : HE) (x : Nat), H0[k]? = some d → ((d.ren (spσ [] H.length H0.length)).foot ρ'' (H.length + k) x ↔ d.foot ρt k x) := fun k d x hk =>
    HE.ren_foot (ht k (List.getElem?_eq_some_iff.1 hk).1)
  have inZ : ∀ (k : Nat) (d : HE) (x : Nat), H0[k]? = some d → d.wr → d.foot ρt k x → Z x := fun k d x hk hw hf =>
    hzs x ((specU_same hts).1 ⟨k, d, hk, hw, hf⟩)
  refine ⟨fun i e hi => ?_, fun i e hi hw x hx => ?_, fun i k d e hik hi hdw hk hl x hx hy => ?_, hok.fr⟩
  · rcases key i e hi with ⟨_, _, hi'⟩ | ⟨_, rfl⟩ | ⟨k, d, rfl, hd, rfl⟩
    · exact hok.ent i e hi'
    · trivial
    · exact (HE.ren_ok (σ := spσ [] H.length H0.length) (ρ := ρ'') (ρ'' := ρt) (fun _ => rfl) (ht k (List.getElem?_eq_some_iff.1 hd).1)).2 (hok0.ent k d hd)
  · rcases key i e hi with ⟨_, _, hi'⟩ | ⟨_, rfl⟩ | ⟨k, d, rfl, hd, rfl⟩
    · exact hok.own i e hi' hw x hx
    · exact hw.elim
    · exact hok.own j _ hj rfl x (inZ k d x hd (HE.ren_wr.1 hw) ((ftk k d x hd).1 hx))
  · rcases key i d hi with ⟨_, hij, hi'⟩ | ⟨_, rfl⟩ | ⟨k1, d1, rfl, hd1, rfl⟩
    · rcases key k e hk with ⟨_, hkj, hk'⟩ | ⟨_, rfl⟩ | ⟨k2, d2, rfl, hd2, rfl⟩
      · exact hok.dis i k d e hik hi' hdw hk' hl x hx hy
      · exact hl.elim
      · have hf := (ftk k2 d2 x hd2).1 hy
        have hw2 : d2.wr := (hwr d2 (List.mem_of_getElem? hd2)).elim id (fun h => by subst h; exact hf.elim)
        exact hok.dis i j d _ hij hi' hdw hj trivial x hx (inZ k2 d2 x hd2 hw2 hf)
    · exact hdw.elim
    · have hf := (ftk k1 d1 x hd1).1 hx
      have hw1 := HE.ren_wr.1 hdw
      have hzx := inZ k1 d1 x hd1 hw1 hf
      rcases key k e hk with ⟨_, hkj, hk'⟩ | ⟨_, rfl⟩ | ⟨k2, d2, rfl, hd2, rfl⟩
      · exact hok.dis j k _ e (Ne.symm hkj) hj rfl hk' hl x hzx hy
      · exact hl.elim
      · exact hok0.dis k1 k2 d1 d2 (fun h => hik (by rw [h])) hd1 hw1 hd2 (HE.ren_live.1 hl) x hf ((ftk k2 d2 x hd2).1 hy)
/-- Without what stands in some places. -/
def noneAt : List HE → List Nat → List HE
  | H, [] => H
  | H, k :: σ => noneAt (H.set k .none) σ
theorem noneAt_len : ∀ (σ : List Nat) (H : List HE), (noneAt H σ).length = H.length
  | [], _ => rfl
  | k :: σ, H => by rw [noneAt, noneAt_len σ]; simp
theorem noneAt_get : ∀ (σ : List Nat) (H : List HE) (i : Nat) (e : HE), (noneAt H σ)[i]? = some e → e = .none ∨ (i ∉ σ ∧ H[i]? = some e)
  | [], _, i, e, h => .inr ⟨by simp, h⟩
  | k :: σ, H, i, e, h => by
    rw [noneAt] at h
    rcases noneAt_get σ _ i e h with h | ⟨h1, h2⟩
    · exact .inl h
    · rw [List.getElem?_set] at h2
      split at h2
      · rename_i hk
        subst hk
        split at h2
        · exact .inl (by simpa using h2.symm)
        · cases h2
      · rename_i hk
        exact .inr ⟨by simp only [List.mem_cons, not_or]; exact ⟨fun h => hk h.symm, h1⟩, h2⟩
/-- The blocks of an object, sealed again in a place where nothing is known. -/
theorem HRel.shut {ρ : Loc} {H : List HE} {w : World} (hr : HRel w0 U ρ H w) {j : Nat} (hj : H[j]? = some .none) (σ : List Nat) {H0 : List HE} (hn : σ.Nodup) (hb0 : H0.all (HE.bdd H0.length) = true) (hN : namedAt H (spσ σ H.length 0) σ H0) {b : Nat} (hb : ρ (σ.getD 0 0) = some ⟨b, 0, none⟩) (h0 : 0 < H0.length) (hwr : allWr H0) :
    HRel w0 U ρ ((noneAt H σ).set j (.res true (footOf ρ H σ) (SealW H0 b (footOf ρ H σ)))) w := fun ρ' hs => by
  have hs : Same H.length ρ ρ' := fun i hi => hs i (by simp [noneAt_len]; exact hi)
  have hok := hr ρ' hs
  have hft : ∀ x, footOf ρ H σ x → footOf ρ' H σ x := fun x ⟨i, e, h1, h2, h3, h4⟩ => ⟨i, e, h1, h2, h3, (HE.foot_congr (hs i (List.getElem?_eq_some_iff.1 h2).1) e).2 h4⟩
  have hjl := (List.getElem?_eq_some_iff.1 hj).1
  have key : ∀ i e, ((noneAt H σ).set j (.res true (footOf ρ H σ) (SealW H0 b (footOf ρ H σ))))[i]? = some e → (i ≠ j ∧ (e = .none ∨ (i ∉ σ ∧ H[i]? = some e))) ∨ (i = j ∧ e = .res true (footOf ρ H σ) (SealW H0 b (footOf ρ H σ))) := fun i e hi => by
    rw [List.getElem?_set] at hi
    split at hi
    · rename_i hij; subst hij
      split at hi
      · exact .inr ⟨rfl, by simpa using hi.symm⟩
      · cases hi
    · rename_i hij; exact .inl ⟨fun h => hij h.symm, noneAt_get σ H i e hi⟩
  have far : ∀ (i : Nat) (e : HE) (x : Nat), i ∉ σ → H[i]? = some e → e.live → e.foot ρ' i x → footOf ρ H σ x → False := fun i e x hi he hl hf hz => by
    obtain ⟨k, d, h1, h2, h3, h4⟩ := hft x hz
    exact hok.dis k i d e (fun h => hi (h ▸ h1)) h2 h3 he hl x h4 hf
  refine ⟨fun i e hi => ?_, fun i e hi hw x hx => ?_, fun i k d e hik hi hdw hk hl x hx hy => ?_, hok.fr⟩
  · rcases key i e hi with ⟨_, rfl | ⟨_, hi'⟩⟩ | ⟨_, rfl⟩
    · trivial
    · exact hok.ent i e hi'
    · exact ⟨hr.seal σ hn hb0 hN hb h0, fun x hx => footOf_lt hr hx, fun w1 w2 hs h => h.st hwr hs⟩
  · rcases key i e hi with ⟨_, rfl | ⟨_, hi'⟩⟩ | ⟨_, rfl⟩
    · exact hw.elim
    · exact hok.own i e hi' hw x hx
    · exact footOf_own hr hx
  · rcases key i d hi with ⟨_, rfl | ⟨hid, hi'⟩⟩ | ⟨hij, rfl⟩
    · exact hdw.elim
    · rcases key k e hk with ⟨_, rfl | ⟨_, hk'⟩⟩ | ⟨_, rfl⟩
      · exact hl.elim
      · exact hok.dis i k d e hik hi' hdw hk' hl x hx hy
      · exact far i d x hid hi' (HE.wr_live hdw) hx hy
    · rcases key k e hk with ⟨_, rfl | ⟨hkd, hk'⟩⟩ | ⟨hkj, rfl⟩
      · exact hl.elim
      · exact far k e x hkd hk' hl hy hx
      · exact hik (hij.trans hkj.symm)
/-- What is asked of the walk behind a call of an object that was opened. -/
structure ShutN (j N b : Nat) (s : SV) (H1 : List HE) (K : SV → List HE → Prop) : Prop where
  out : ∃ (σ : List Nat) (H0 : List HE), (σ.Nodup ∧ σ.getD 0 0 = N ∧ H0.all (HE.bdd H0.length) = true ∧ 0 < H0.length) ∧ namedAt H1 (spσ σ H1.length 0) σ H0 ∧ allWr H0 ∧ getH H1 j = .none ∧ j < H1.length ∧ ∀ Z1, forceH ((noneAt H1 σ).set j (.res true Z1 (SealW H0 b Z1))) fun H' => K s H'
/-- A call of an object that is sealed, as one of its blocks that have names. -/
theorem call_open {P : Program} {f : FuncId} {args args' : List SV} {H : List HE} {K : SV → List HE → Prop} (j : Nat) {H0 : List HE} {b : Nat} {Z : Nat → Prop} (hj : getH H j = .res true Z (SealW H0 b Z)) (hwr : allWr H0) (h0 : 0 < H0.length)
    (ha : ∀ N ρ ρ', N = H.length → Same N ρ ρ' → ρ' N = some ⟨b, 0, none⟩ → SV.denL ρ' (args' ) = SV.denL ρ args)
    (h : lenK H fun N => natL lits H0.length fun n => spK N n [] fun σ1 => entsRK σ1 H0 fun H0' => forceH (H.set j .none ++ H0') fun Ho => CallN P w0 U f args' Ho fun s H1 => ShutN j N b s H1 K) : CallN P w0 U f args H K :=
  ⟨fun ρ w hr => by
    have hj' := getH_res hj
    have hjl := (List.getElem?_eq_some_iff.1 hj').1
    have h := forceH_spec _ _ (entsRK_spec _ _ (spK_spec _ _ (natL_spec _ _ _ (lenK_spec h))))
    obtain ⟨ρo, h1, h2, h3⟩ := hr.open' hj' hwr
    rw [← ha H.length ρ ρo rfl h1 h2]
    refine (h.out ρo w h3).mono ?_
    rintro e w' ⟨s, H1, ρ1, he, hr1, hs1, hl1, ⟨σ, H0', ⟨c1, c2, c3, c4⟩, c5, c6, c7, c8, hK⟩⟩
    have hlen : (openH H j H0).length = H.length + H0.length := by simp [openH]
    have hle : H.length + H0.length ≤ H1.length := by rw [← hlen]; exact hl1
    have hs1 : Same (openH H j H0).length ρo ρ1 := hs1
    have hb1 : ρ1 (σ.getD 0 0) = some ⟨b, 0, none⟩ := by rw [c2, hs1 H.length (by rw [hlen]; omega)]; exact h2
    have hj1 : H1[j]? = some .none := by
      have : ∀ (l : List HE) (i : Nat), i < l.length → getH l i = .none → l[i]? = some .none := fun l => by
        induction l with
        | nil => intro i hi; simp at hi
        | cons x xs ih =>
          intro i hi hg
          cases i with
          | zero => simp only [getH] at hg; simp [hg]
          | succ i => simpa using ih i (by simpa using hi) hg
      exact this H1 j c8 c7
    refine ⟨s, _, ρ1, fun ρ'' hs => he ρ'' (hs.mono (by simp [noneAt_len])), hr1.shut hj1 σ c1 c3 c5 hb1 c4 c6, fun i hi => (hs1 i (by rw [hlen]; omega)).trans (h1 i hi), ?_, forceH_spec _ _ (hK _)⟩
    simp [noneAt_len]; omega⟩
end
end Go.Proofs.Ytghfigeepnbjaaa
namespace Go.Proofs.Ytghfigeepnbjaaa
/-- What an operation leaves: the object, somewhere, and a slice of its own. -/
def OutO (H0 : List HE) (ty : TypeId) (sz n : Nat) (g : Nat → Nat → Value) (mk : SV → SV) (s : SV) (H1 : List HE) : Prop :=
  ∃ σ : List Nat, (σ.Nodup ∧ σ.getD 0 0 = 0) ∧ namedAt H1 (spσ σ H1.length 0) σ H0 ∧ ((n = 0 ∧ s = mk (.v (.slice none 0 0))) ∨ ∃ i, i ∉ σ ∧ s = mk (.os i n) ∧ H1[i]? = some (.own ty sz n g))
/-- The same where a closed value is handed back. -/
def OutV (H0 : List HE) (s0 : SV) (s : SV) (H1 : List HE) : Prop :=
  ∃ σ : List Nat, (σ.Nodup ∧ σ.getD 0 0 = 0) ∧ namedAt H1 (spσ σ H1.length 0) σ H0 ∧ s = s0
theorem out_sealO {H0 : List HE} (hwr : allWr H0) (hbd : H0.all (HE.bdd H0.length) = true) (h0 : 0 < H0.length) {ty : TypeId} {sz n : Nat} {g : Nat → Nat → Value} {mk : SV → SV} (hmk : ∀ s s' ρ ρ', s.den ρ = s'.den ρ' → (mk s).den ρ = (mk s').den ρ')
    {w w' : World} {U Z : Nat → Prop} {s : SV} {H1 : List HE} {ρ1 : Loc} {e : Ending} {b : Nat} (hR : OutO H0 ty sz n g mk s H1)
    (he : ∀ ρ'', Same H1.length ρ1 ρ'' → e = .returned (s.den ρ'')) (hr : HRel w U ρ1 H1 w') (hU : ∀ x, U x → Z x) (hb : ρ1 0 = some ⟨b, 0, none⟩) :
    ∃ (Z1 : Nat → Prop) (ρn : Loc), (∀ (N : Nat) (ρ' : Loc), (∀ k, k < [HE.own ty sz n g].length → ρ' (N + k) = ρn k) → e = .returned ((mk (.os N n)).den ρ')) ∧ SealW H0 b Z1 w' ∧ Fr Z w w' ∧ (∀ b, Z1 b → (Z b ∨ w.heap.size ≤ b) ∧ b < w'.heap.size) ∧
      (∀ (k : Nat) (e : HE), [HE.own ty sz n g][k]? = some e → e.flat ∧ e.ok ρn w' k ∧ ∀ b, e.foot ρn k b → (Z b ∨ w.heap.size ≤ b) ∧ ¬ Z1 b) ∧ (∀ (k k' : Nat) (e e' : HE), k ≠ k' → [HE.own ty sz n g][k]? = some e → [HE.own ty sz n g][k']? = some e' → ∀ b, e.foot ρn k b → ¬ e'.foot ρn k' b) := by
  have hfr : Fr Z w w' := hr.at.fr.mono fun k _ hk => hU k hk
  have zz : ∀ {is : List Nat} {x : Nat}, footOf ρ1 H1 is x → Z x ∨ w.heap.size ≤ x := fun h => (footOf_own hr h).elim .inr (fun h => .inl (hU _ h))
  have one : ∀ (ρn : Loc) (k k' : Nat) (e e' : HE), k ≠ k' → [HE.own ty sz n g][k]? = some e → [HE.own ty sz n g][k']? = some e' → ∀ b, e.foot ρn k b → ¬ e'.foot ρn k' b := fun ρn k k' e e' hkk hk hk' => by
    rcases k with _ | k
    · rcases k' with _ | k'
      · exact absurd rfl hkk
      · simp at hk'
    · simp at hk
  obtain ⟨σ, ⟨hn, h00⟩, hN, hcase⟩ := hR
  have hsl : SealW H0 b (footOf ρ1 H1 σ) w' := hr.seal σ hn hbd hN (by rw [h00]; exact hb) h0
  rcases hcase with ⟨hl, hs⟩ | ⟨i, hi, hs, hH⟩
  · refine ⟨footOf ρ1 H1 σ, fun _ => none, fun N ρ' hn => ?_, hsl, hfr, fun b hb => ⟨zz hb, footOf_lt hr hb⟩, fun k e hk => ?_, one _⟩
    · rw [he ρ1 (Same.refl _ _), hs, hl]
      refine congrArg Ending.returned (hmk _ _ _ _ ?_)
      have := hn 0 (by simp)
      simp only [Nat.add_zero] at this
      simp [SV.den, atB', capB, this]
    · rcases k with _ | k
      · simp only [List.getElem?_cons_zero, Option.some.injEq] at hk
        subst hk
        refine ⟨trivial, ?_, fun x hx => ?_⟩
        · rw [hl]
          exact ⟨by simp [cellsF], .inl ⟨rfl, rfl⟩⟩
        · obtain ⟨a, ha, _⟩ := hx
          cases ha
      · simp at hk
  · have f1 : ∀ x, (HE.own ty sz n g).foot ρ1 i x → footOf ρ1 H1 [i] x := fun x hx => ⟨i, _, by simp, hH, trivial, hx⟩
    refine ⟨footOf ρ1 H1 σ, fun k => ρ1 (i + k), fun N ρ' hn => ?_, hsl, hfr, fun b hb => ⟨zz hb, footOf_lt hr hb⟩, fun k e hk => ?_, one _⟩
    · rw [he ρ1 (Same.refl _ _), hs]
      refine congrArg Ending.returned (hmk _ _ _ _ ?_)
      have := hn 0 (by simp)
      simp only [Nat.add_zero] at this
      simp only [SV.den, atB', capB, this]
    · rcases k with _ | k
      · simp only [List.getElem?_cons_zero, Option.some.injEq] at hk
        subst hk
        refine ⟨trivial, HE.ok_move (e := .own ty sz n g) (k := i) trivial rfl (hr.at.ent i _ hH), fun x hx => ?_⟩
        have := f1 x hx
        exact ⟨zz this, fun h => footOf_dis hr (by simpa using hi) this h⟩
      · simp at hk
/-- A slice that is read beside an object: it lies apart from it. -/
theorem SealW.row {H0 : List HE} {b : Nat} {Z : Nat → Prop} {w : World} (h : SealW H0 b Z w) (h0 : 0 < H0.length) {a : Option Addr} {sz n : Nat} {f : Nat → Nat → Value} (hr : RowOk w a sz n f) (hd : 0 < n → ∀ x, a = some x → ¬ Z x.block) :
    ∃ ρ : Loc, ρ 0 = some ⟨b, 0, none⟩ ∧ ρ H0.length = a ∧ HRel w (SpecU ρ (H0 ++ [.row sz n f])) ρ (H0 ++ [.row sz n f]) w ∧ ∀ x, SpecU ρ (H0 ++ [.row sz n f]) x → Z x := by
  obtain ⟨ρs, hb, hs, hz⟩ := h
  let ρ : Loc := fun i => if i < H0.length then ρs i else a
  have hsame : Same H0.length ρs ρ := fun i hi => if_pos hi
  have key : ∀ (i : Nat) (e : HE), (H0 ++ [HE.row sz n f])[i]? = some e → (i < H0.length ∧ H0[i]? = some e) ∨ (i = H0.length ∧ e = .row sz n f) := fun i e hi => by
    rw [List.getElem?_append] at hi
    split at hi
    · rename_i hlt; exact .inl ⟨hlt, hi⟩
    · rename_i hlt
      rcases Nat.eq_or_lt_of_le (Nat.le_of_not_lt hlt) with hh | hh
      · rw [← hh] at hi; simp at hi; exact .inr ⟨hh.symm, hi.symm⟩
      · rw [List.getElem?_eq_none (by simp; omega)] at hi; cases hi
  have lft : ∀ {i : Nat} {e : HE}, H0[i]? = some e → (H0 ++ [HE.row sz n f])[i]? = some e := fun hi => by
    rw [List.getElem?_append_left (List.getElem?_eq_some_iff.1 hi).1]; exact hi
  have hU : ∀ ρ' : Loc, Same H0.length ρs ρ' → ∀ x, SpecU ρ' (H0 ++ [.row sz n f]) x → SpecU ρs H0 x := fun ρ' h' x ⟨i, e, hi, hw, hf⟩ => by
    rcases key i e hi with ⟨_, hi'⟩ | ⟨_, rfl⟩
    · exact (specU_same h').1 ⟨i, e, hi', hw, hf⟩
    · exact hw.elim
  refine ⟨ρ, by rw [← hb]; exact if_pos h0, if_neg (Nat.lt_irrefl _), fun ρ' hs' => ?_, fun x hx => hz x (hU ρ hsame x hx)⟩
  have hlen : (H0 ++ [HE.row sz n f]).length = H0.length + 1 := by simp
  have h2 : Same H0.length ρs ρ' := hsame.trans (hs'.mono (by omega)) (Nat.le_refl _)
  have ha : ρ' H0.length = a := by rw [hs' _ (by omega)]; exact if_neg (Nat.lt_irrefl _)
  have hok := hs ρ' h2
  refine ⟨fun i e hi => ?_, fun i e hi hw x hx => ?_, fun i j d e hij hi hdw hj hl x hx hy => ?_, Fr.refl _ _⟩
  · rcases key i e hi with ⟨_, hi'⟩ | ⟨rfl, rfl⟩
    · exact hok.ent i e hi'
    · intro hn
      obtain ⟨b', off, h3, h4⟩ := hr hn
      exact ⟨b', off, ha.trans h3, h4⟩
  · rcases key i e hi with ⟨hil, hi'⟩ | ⟨_, rfl⟩
    · exact .inr ⟨i, e, hi, hw, (HE.foot_congr (hs' i (by omega)) e).1 hx⟩
    · exact hw.elim
  · rcases key i d hi with ⟨_, hi'⟩ | ⟨_, rfl⟩
    · rcases key j e hj with ⟨_, hj'⟩ | ⟨rfl, rfl⟩
      · exact hok.dis i j d e hij hi' hdw hj' hl x hx hy
      · obtain ⟨y, hy1, hy2⟩ := hy
        rw [ha] at hy1
        refine hd hl y hy1 (hz _ ((specU_same h2).1 ⟨i, d, hi', hdw, ?_⟩))
        rw [hy2]; exact hx
    · exact hdw.elim
section
variable {w0 : World} {U : Nat → Prop}
/-- An operation of an object that is sealed, which hands back a slice of its own. -/
theorem obj_op {P : Program} {f : FuncId} {args : List SV} {H : List HE} {K : SV → List HE → Prop} {H0 H1 : List HE} {ty : TypeId} {sz n : Nat} {g : Nat → Nat → Value} {mk : SV → SV} (hS : Spec P f (.p 0 0 :: args) H0 (OutO H1 ty sz n g mk))
    (hmk : ∀ s s' ρ ρ', s.den ρ = s'.den ρ' → (mk s).den ρ = (mk s').den ρ') (ha : ∀ ρ ρ', SV.denL ρ args = SV.denL ρ' args) (h0 : 0 < H0.length) (hwr : allWr H1) (hbd : H1.all (HE.bdd H1.length) = true) (h1 : 0 < H1.length)
    (j : Nat) {b : Nat} {Z : Nat → Prop} (hj : getH H j = .res true Z (SealW H0 b Z))
    (hK : ∀ Z1, setHK H j (.res true Z1 (SealW H1 b Z1)) fun H2 => appK H2 (.own ty sz n g) fun H' => lenK H fun N => K (mk (.os N n)) H') : CallN P w0 U f (.v (.pointer (some ⟨b, 0, none⟩)) :: args) H K :=
  call_objE j hj (fun (_ : Unit) N => mk (.os N n)) (fun _ => [.own ty sz n g]) (fun _ Z1 => SealW H1 b Z1) (fun ρ w hr hq => by
    refine (hS.sealed hq h0 (A := (SV.denL ρ (.v (.pointer (some ⟨b, 0, none⟩)) :: args)).toArray) (fun ρ' h' => ?_)).mono ?_
    · simp only [SV.denL, SV.den, atB, h', Option.map_some, ha ρ' ρ]
    · rintro e w' ⟨s, H2, ρ1, U', hR, he, hr1, hU, hb⟩
      obtain ⟨Z1, ρn, a1, a2, a3, a4, a5, a6⟩ := out_sealO hwr hbd h1 hmk hR he hr1 hU hb
      exact ⟨(), Z1, ρn, a1, a2, a3, a4, a5, a6⟩) (fun _ Y u1 u2 hs h => h.st hwr hs) (fun _ Z1 => hK Z1)
/-- The same, where a closed value is handed back. -/
theorem obj_do {P : Program} {f : FuncId} {args : List SV} {H : List HE} {K : SV → List HE → Prop} {H0 H1 : List HE} {s0 : SV} (hS : Spec P f (.p 0 0 :: args) H0 (OutV H1 s0)) (hcl : ∀ ρ, s0.den ρ = s0.den noLoc)
    (ha : ∀ ρ ρ', SV.denL ρ args = SV.denL ρ' args) (h0 : 0 < H0.length) (hwr : allWr H1) (hbd : H1.all (HE.bdd H1.length) = true) (h1 : 0 < H1.length)
    (j : Nat) {b : Nat} {Z : Nat → Prop} (hj : getH H j = .res true Z (SealW H0 b Z))
    (hK : ∀ Z1, setHK H j (.res true Z1 (SealW H1 b Z1)) fun H' => lenK H fun _ => K s0 H') : CallN P w0 U f (.v (.pointer (some ⟨b, 0, none⟩)) :: args) H K :=
  call_objE j hj (fun (_ : Unit) _ => s0) (fun _ => []) (fun _ Z1 => SealW H1 b Z1) (fun ρ w hr hq => by
    refine (hS.sealed hq h0 (A := (SV.denL ρ (.v (.pointer (some ⟨b, 0, none⟩)) :: args)).toArray) (fun ρ' h' => ?_)).mono ?_
    · simp only [SV.denL, SV.den, atB, h', Option.map_some, ha ρ' ρ]
    · rintro e w' ⟨s, H2, ρ1, U', ⟨σ, ⟨hn, h00⟩, hN, rfl⟩, he, hr1, hU, hb⟩
      refine ⟨(), footOf ρ1 H2 σ, fun _ => none, fun N ρ' _ => ?_, hr1.seal σ hn hbd hN (by rw [h00]; exact hb) h1, hr1.at.fr.mono fun k _ hk => hU k hk, fun x hx => ⟨(footOf_own hr1 hx).elim .inr (fun h => .inl (hU _ h)), footOf_lt hr1 hx⟩, fun k e hk => (by simp at hk), fun k k' e e' _ hk => (by simp at hk)⟩
      rw [he ρ1 (Same.refl _ _), hcl, hcl ρ']) (fun _ Y u1 u2 hs h => h.st hwr hs) (fun _ Z1 => hK Z1)
/-- The same, with a slice beside it that is read. -/
theorem obj_opR {P : Program} {f : FuncId} {args : List SV} {args0 : Nat → List SV} {H : List HE} {K : SV → List HE → Prop} {H0 H1 : List HE} {rs rn : Nat} {rf : Nat → Nat → Value} {ty : TypeId} {sz n : Nat} {g : Nat → Nat → Value} {mk : SV → SV}
    (hS : ∀ cap, rn ≤ cap → cap ≤ maxLen → Spec P f (.p 0 0 :: args0 cap) (H0 ++ [.row rs rn rf]) (OutO H1 ty sz n g mk))
    (hmk : ∀ s s' ρ ρ', s.den ρ = s'.den ρ' → (mk s).den ρ = (mk s').den ρ') (h0 : 0 < H0.length) (hwr : allWr H1) (hbd : H1.all (HE.bdd H1.length) = true) (h1 : 0 < H1.length)
    (j : Nat) {b : Nat} {Z : Nat → Prop} (hj : getH H j = .res true Z (SealW H0 b Z))
    (ha : ∀ ρ w, HRel w0 U ρ H w → ∃ a cap, rn ≤ cap ∧ cap ≤ maxLen ∧ RowOk w a rs rn rf ∧ (0 < rn → ∀ x, a = some x → ¬ Z x.block) ∧ ∀ ρs : Loc, ρs H0.length = a → SV.denL ρs (args0 cap) = SV.denL ρ args)
    (hK : ∀ Z1, setHK H j (.res true Z1 (SealW H1 b Z1)) fun H2 => appK H2 (.own ty sz n g) fun H' => lenK H fun N => K (mk (.os N n)) H') : CallN P w0 U f (.v (.pointer (some ⟨b, 0, none⟩)) :: args) H K :=
  call_objE j hj (fun (_ : Unit) N => mk (.os N n)) (fun _ => [.own ty sz n g]) (fun _ Z1 => SealW H1 b Z1) (fun ρ w hr hq => by
    obtain ⟨a, cap, c1, c2, c3, c4, c5⟩ := ha ρ w hr
    obtain ⟨ρs, hb, hsa, hs, hz⟩ := hq.row h0 c3 c4
    have e : (SV.denL ρ (.v (.pointer (some ⟨b, 0, none⟩)) :: args)).toArray = (SV.denL ρs (.p 0 0 :: args0 cap)).toArray := by
      simp only [SV.denL, SV.den, atB, hb, Option.map_some, c5 ρs hsa]
    rw [e]
    refine ((hS cap c1 c2).out ρs w hs).mono ?_
    rintro e w' ⟨s, H2, ρ1, hR, _, he, hr1, hsm, hle⟩
    obtain ⟨Z1, ρn, a1, a2, a3, a4, a5, a6⟩ := out_sealO hwr hbd h1 hmk hR he hr1 hz (b := b) (by rw [hsm 0 (by simp)]; exact hb)
    exact ⟨(), Z1, ρn, a1, a2, a3, a4, a5, a6⟩) (fun _ Y u1 u2 hs h => h.st hwr hs) (fun _ Z1 => hK Z1)
/-- A slice of one's own lies beside what is sealed. -/
theorem os_beside {H : List HE} {j i : Nat} {Z : Nat → Prop} {Q : World → Prop} {ty : TypeId} {sz n : Nat} {f : Nat → Nat → Value} (hj : getH H j = .res true Z Q) (hi : getH H i = .own ty sz n f) :
    ∀ ρ w, HRel w0 U ρ H w → ∃ a cap, n ≤ cap ∧ cap ≤ maxLen ∧ RowOk w a sz n f ∧ (0 < n → ∀ x, a = some x → ¬ Z x.block) ∧ (SV.os i n).den ρ = .slice a n cap := fun ρ w hr => by
  obtain ⟨a, cap, he, h1, h2, h3⟩ := sl_os hr hi
  refine ⟨a, cap, h1, h2, h3, fun _ x hx hz => ?_, he⟩
  simp only [SV.den, atB'] at he
  injection he with he _ _
  rw [hx] at he
  obtain ⟨y, hy, hyx⟩ := Option.map_eq_some_iff.1 he
  have hij : i ≠ j := fun e => by rw [e, hj] at hi; cases hi
  refine hr.at.dis i j _ _ hij (getH_own hi) trivial (getH_res hj) trivial x.block ⟨y, hy, ?_⟩ hz
  rw [← hyx]
/-- So does nothing. -/
theorem nil_beside {H : List HE} {Z : Nat → Prop} {sz : Nat} {f : Nat → Nat → Value} : ∀ (ρ : Loc) (w : World), HRel w0 U ρ H w → ∃ a cap, 0 ≤ cap ∧ cap ≤ maxLen ∧ RowOk w a sz 0 f ∧ (0 < 0 → ∀ x, a = some x → ¬ Z x.block) ∧ (SV.v (.slice none 0 0)).den ρ = .slice a 0 cap := fun ρ w _ =>
  ⟨none, 0, Nat.le_refl _, Nat.zero_le _, fun h => absurd h (Nat.not_lt_zero _), fun h => absurd h (Nat.not_lt_zero _), rfl⟩
/-- So does what came in. -/
theorem in_beside {H : List HE} {j : Nat} {Z : Nat → Prop} {Q : World → Prop} {sz n : Nat} {f : Nat → Nat → Value} {q : Value} (hj : getH H j = .res true Z Q) (hq : SliceV w0 q sz n f) :
    ∀ (ρ : Loc) (w : World), HRel w0 noU ρ H w → ∃ a cap, n ≤ cap ∧ cap ≤ maxLen ∧ RowOk w a sz n f ∧ (0 < n → ∀ x, a = some x → ¬ Z x.block) ∧ (SV.v q).den ρ = .slice a n cap := fun ρ w hr => by
  obtain ⟨a, cap, rfl, h1, h2, h3⟩ := hq
  have hfr := hr.at.fr
  refine ⟨a, cap, h1, h2, fun hn => ?_, fun hn x hx hz => ?_, rfl⟩
  · obtain ⟨b, off, rfl, hb, hc⟩ := h3 hn
    refine ⟨b, off, rfl, Nat.lt_of_lt_of_le hb hfr.size, fun r c hr hc' => ?_⟩
    rw [← hc r c hr hc']
    exact World.cell?_of_block (w := w0) (hfr.block b hb (fun h => h.elim))
  · obtain ⟨b, off, ha, hb, _⟩ := h3 hn
    rw [hx] at ha
    cases ha
    rcases hr.at.own j _ (getH_res hj) rfl b hz with h | h
    · omega
    · exact h.elim
end
/-- The value that is handed back, in other words. -/
theorem Spec.val {P : Program} {f : FuncId} {args : List SV} {H0 H1 : List HE} {s0 s1 : SV} (h : Spec P f args H0 fun s H' => s = s0 ∧ H' = H1) (hv : ∀ ρ, s0.den ρ = s1.den ρ) : Spec P f args H0 fun s H' => s = s1 ∧ H' = H1 :=
  ⟨fun ρ w hr => (h.out ρ w hr).mono fun e w' ⟨s, H', ρ1, ⟨h1, h2⟩, h3, h4, h5⟩ => ⟨s1, H', ρ1, ⟨rfl, h2⟩, h3, fun ρ'' hs => by rw [h4 ρ'' hs, h1, hv], h5⟩⟩
/-- A contract over rows that are read alone, as a call. -/
theorem Spec.rows {P : Program} {f : FuncId} {args : List SV} {H0 : List HE} {R : SV → List HE → Prop} (hS : Spec P f args H0 R) (hrow : ∀ e ∈ H0, ¬ e.wr) {ρ : Loc} {w : World} (hr : HRel w noU ρ H0 w) :
    Calls P f (SV.denL ρ args).toArray w fun e w' => ∃ s H1 ρ1, R s H1 ∧ (∀ ρ'', Same H1.length ρ1 ρ'' → e = .returned (s.den ρ'')) ∧ HRel w noU ρ1 H1 w' := by
  have e : SpecU ρ H0 = noU := funext fun b => propext ⟨fun ⟨i, e, hi, hw, _⟩ => (hrow e (List.mem_of_getElem? hi) hw).elim, fun h => h.elim⟩
  have := hS.out ρ w (by rw [e]; exact hr)
  rw [e] at this
  exact this.mono fun e w' ⟨s, H1, ρ1, h1, _, h2, h3, _⟩ => ⟨s, H1, ρ1, h1, h2, h3⟩
end Go.Proofs.Ytghfigeepnbjaaa
namespace Go.Proofs.Ytghfigeepnbjaaa
theorem call_ex {P : Program} {w0 : World} {U : Nat → Prop} {α : Type} {f : FuncId} {args : List SV} {H : List HE} {K : SV → List HE → Prop} (V : α → SV) (hV : ∀ x ρ, (V x).den ρ = (V x).den noLoc)
    (hc : ∀ ρ w, HRel w0 U ρ H w → Calls P f (SV.denL ρ args).toArray w fun e w' => ∃ x, e = .returned ((V x).den noLoc) ∧ w.grownBy w' none) (hK : ∀ x, K (V x) H) : CallN P w0 U f args H K :=
  ⟨fun ρ w hr => (hc ρ w hr).mono fun _ _ ⟨x, he, hg⟩ => ⟨V x, H, ρ, fun ρ'' _ => by rw [hV]; exact he, hr.grown0 hg, Same.refl _ _, Nat.le_refl _, hK x⟩⟩
/-- A slice of one's own lies beside what is sealed; its rows in other words. -/
theorem os_besideC {w0 : World} {U : Nat → Prop} {H : List HE} {j i : Nat} {Z : Nat → Prop} {Q : World → Prop} {ty : TypeId} {sz n : Nat} {f g : Nat → Nat → Value} (hj : getH H j = .res true Z Q) (hi : getH H i = .own ty sz n f) (hf : ∀ r c, r < n → c < sz → f r c = g r c) :
    ∀ ρ w, HRel w0 U ρ H w → ∃ a cap, n ≤ cap ∧ cap ≤ maxLen ∧ RowOk w a sz n g ∧ (0 < n → ∀ x, a = some x → ¬ Z x.block) ∧ (SV.os i n).den ρ = .slice a n cap := fun ρ w hr => by
  obtain ⟨a, cap, h1, h2, h3, h4, h5⟩ := os_beside hj hi ρ w hr
  exact ⟨a, cap, h1, h2, fun hn => by
    obtain ⟨b, off, ha, hb, hc⟩ := h3 hn
    exact ⟨b, off, ha, hb, fun r c hr hc' => (hc r c hr hc').trans (congrArg some (hf r c hr hc'))⟩, h4, h5⟩
theorem one_getD (x : SndM) : [x].getD (Int.toNat 0) sndZ = x := rfl
theorem one_len (x : SndM) : (([x] : List SndM).length : Int) = 1 := rfl
/-- The rows of two members; of one. -/
theorem mem2F (a s b t : Int) : ∀ r c, r < 2 → c < 2 → [Value.int .i64 a, .int .i64 s, .int .i64 b, .int .i64 t].getD (r * 2 + c) undef = memF [(a, s), (b, t)] r c := fun r c hr hc => by
  rcases r with _ | _ | r <;> rcases c with _ | _ | c <;> first | rfl | omega
theorem mem1F (a s : Int) : ∀ r c, r < 1 → c < 2 → [Value.int .i64 a, .int .i64 s].getD (r * 2 + c) undef = memF [(a, s)] r c := fun r c hr hc => by
  rcases r with _ | r <;> rcases c with _ | _ | c <;> first | rfl | omega
end Go.Proofs.Ytghfigeepnbjaaa
