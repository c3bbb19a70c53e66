/-
  An object that is sealed, opened for a call and sealed again. An operation of any object that is sealed: what it leaves, told in any memory. A call that hands back a closed value, which one is not told. No condition.
-/
import Derived.Test.YtghfigeepnbjaaaGreatP6
import Derived.Test.YtghfigeepnbjaaaGreatP7
namespace Go.Proofs.YtghfigeepnbjaaaGreat
section
variable {w0 : World} {U : Nat → Prop}
/-- What is known, the object's blocks told one by one. -/
def openH (H : List HE) (j : Nat) (H0 : List HE) : List HE := H.set j .none ++ H0.map (HE.ren (spσ [] H.length H0.length))
/-- Without what stands in some places. -/
def noneAt : List HE → List Nat → List HE
  | H, [] => H
  | H, k :: σ => noneAt (H.set k .none) σ
/-- What is asked of the walk behind a call of an object that was opened. -/
structure ShutN (j N b : Nat) (s : SV) (H1 : List HE) (K : SV → List HE → Prop) : Prop where
  out : ∃ (σ : List Nat) (H0 : List HE), (σ.Nodup ∧ σ.getD 0 0 = N ∧ H0.all (HE.bdd H0.length) = true ∧ 0 < H0.length) ∧ namedAt H1 (spσ σ H1.length 0) σ H0 ∧ allWr H0 ∧ getH H1 j = .none ∧ j < H1.length ∧ ∀ Z1, forceH ((noneAt H1 σ).set j (.res true Z1 (SealW H0 b Z1))) fun H' => K s H'
end
end Go.Proofs.YtghfigeepnbjaaaGreat
namespace Go.Proofs.YtghfigeepnbjaaaGreat
/-- What an operation leaves: the object, somewhere, and a slice of its own. -/
def OutO (H0 : List HE) (ty : TypeId) (sz n : Nat) (g : Nat → Nat → Value) (mk : SV → SV) (s : SV) (H1 : List HE) : Prop :=
  ∃ σ : List Nat, (σ.Nodup ∧ σ.getD 0 0 = 0) ∧ namedAt H1 (spσ σ H1.length 0) σ H0 ∧ ((n = 0 ∧ s = mk (.v (.slice none 0 0))) ∨ ∃ i, i ∉ σ ∧ s = mk (.os i n) ∧ H1[i]? = some (.own ty sz n g))
/-- The same where a closed value is handed back. -/
def OutV (H0 : List HE) (s0 : SV) (s : SV) (H1 : List HE) : Prop :=
  ∃ σ : List Nat, (σ.Nodup ∧ σ.getD 0 0 = 0) ∧ namedAt H1 (spσ σ H1.length 0) σ H0 ∧ s = s0
theorem out_sealO {H0 : List HE} (hwr : allWr H0) (hbd : H0.all (HE.bdd H0.length) = true) (h0 : 0 < H0.length) {ty : TypeId} {sz n : Nat} {g : Nat → Nat → Value} {mk : SV → SV} (hmk : ∀ s s' ρ ρ', s.den ρ = s'.den ρ' → (mk s).den ρ = (mk s').den ρ')
    {w w' : World} {U Z : Nat → Prop} {s : SV} {H1 : List HE} {ρ1 : Loc} {e : Ending} {b : Nat} (hR : OutO H0 ty sz n g mk s H1)
    (he : ∀ ρ'', Same H1.length ρ1 ρ'' → e = .returned (s.den ρ'')) (hr : HRel w U ρ1 H1 w') (hU : ∀ x, U x → Z x) (hb : ρ1 0 = some ⟨b, 0, none⟩) :
    ∃ (Z1 : Nat → Prop) (ρn : Loc), (∀ (N : Nat) (ρ' : Loc), (∀ k, k < [HE.own ty sz n g].length → ρ' (N + k) = ρn k) → e = .returned ((mk (.os N n)).den ρ')) ∧ SealW H0 b Z1 w' ∧ Fr Z w w' ∧ (∀ b, Z1 b → (Z b ∨ w.heap.size ≤ b) ∧ b < w'.heap.size) ∧
      (∀ (k : Nat) (e : HE), [HE.own ty sz n g][k]? = some e → e.flat ∧ e.ok ρn w' k ∧ ∀ b, e.foot ρn k b → (Z b ∨ w.heap.size ≤ b) ∧ ¬ Z1 b) ∧ (∀ (k k' : Nat) (e e' : HE), k ≠ k' → [HE.own ty sz n g][k]? = some e → [HE.own ty sz n g][k']? = some e' → ∀ b, e.foot ρn k b → ¬ e'.foot ρn k' b) := by
  have hfr : Fr Z w w' := hr.at.fr.mono fun k _ hk => hU k hk
  have zz : ∀ {is : List Nat} {x : Nat}, footOf ρ1 H1 is x → Z x ∨ w.heap.size ≤ x := fun h => (footOf_own hr h).elim .inr (fun h => .inl (hU _ h))
  have one : ∀ (ρn : Loc) (k k' : Nat) (e e' : HE), k ≠ k' → [HE.own ty sz n g][k]? = some e → [HE.own ty sz n g][k']? = some e' → ∀ b, e.foot ρn k b → ¬ e'.foot ρn k' b := fun ρn k k' e e' hkk hk hk' => by
    rcases k with _ | k
    · rcases k' with _ | k'
      · exact absurd rfl hkk
      · simp at hk'
    · simp at hk
  obtain ⟨σ, ⟨hn, h00⟩, hN, hcase⟩ := hR
  have hsl : SealW H0 b (footOf ρ1 H1 σ) w' := hr.seal σ hn hbd hN (by rw [h00]; exact hb) h0
  rcases hcase with ⟨hl, hs⟩ | ⟨i, hi, hs, hH⟩
  · refine ⟨footOf ρ1 H1 σ, fun _ => none, fun N ρ' hn => ?_, hsl, hfr, fun b hb => ⟨zz hb, footOf_lt hr hb⟩, fun k e hk => ?_, one _⟩
    · rw [he ρ1 (Same.refl _ _), hs, hl]
      refine congrArg Ending.returned (hmk _ _ _ _ ?_)
      have := hn 0 (by simp)
      simp only [Nat.add_zero] at this
      simp [SV.den, atB', capB, this]
    · rcases k with _ | k
      · simp only [List.getElem?_cons_zero, Option.some.injEq] at hk
        subst hk
        refine ⟨trivial, ?_, fun x hx => ?_⟩
        · rw [hl]
          exact ⟨by simp [cellsF], .inl ⟨rfl, rfl⟩⟩
        · obtain ⟨a, ha, _⟩ := hx
          cases ha
      · simp at hk
  · have f1 : ∀ x, (HE.own ty sz n g).foot ρ1 i x → footOf ρ1 H1 [i] x := fun x hx => ⟨i, _, by simp, hH, trivial, hx⟩
    refine ⟨footOf ρ1 H1 σ, fun k => ρ1 (i + k), fun N ρ' hn => ?_, hsl, hfr, fun b hb => ⟨zz hb, footOf_lt hr hb⟩, fun k e hk => ?_, one _⟩
    · rw [he ρ1 (Same.refl _ _), hs]
      refine congrArg Ending.returned (hmk _ _ _ _ ?_)
      have := hn 0 (by simp)
      simp only [Nat.add_zero] at this
      simp only [SV.den, atB', capB, this]
    · rcases k with _ | k
      · simp only [List.getElem?_cons_zero, Option.some.injEq] at hk
        subst hk
        refine ⟨trivial, HE.ok_move (e := .own ty sz n g) (k := i) trivial rfl (hr.at.ent i _ hH), fun x hx => ?_⟩
        have := f1 x hx
        exact ⟨zz this, fun h => footOf_dis hr (by simpa using hi) this h⟩
      · simp at hk
/-- A slice that is read beside an object: it lies apart from it. -/
theorem SealW.row {H0 : List HE} {b : Nat} {Z : Nat → Prop} {w : World} (h : SealW H0 b Z w) (h0 : 0 < H0.length) {a : Option Addr} {sz n : Nat} {f : Nat → Nat → Value} (hr : RowOk w a sz n f) (hd : 0 < n → ∀ x, a = some x → ¬ Z x.block) :
    ∃ ρ : Loc, ρ 0 = some ⟨b, 0, none⟩ ∧ ρ H0.length = a ∧ HRel w (SpecU ρ (H0 ++ [.row sz n f])) ρ (H0 ++ [.row sz n f]) w ∧ ∀ x, SpecU ρ (H0 ++ [.row sz n f]) x → Z x := by
  obtain ⟨ρs, hb, hs, hz⟩ := h
  let ρ : Loc := fun i => if i < H0.length then ρs i else a
  have hsame : Same H0.length ρs ρ := fun i hi => if_pos hi
  have key : ∀ (i : Nat) (e : HE), (H0 ++ [HE.row sz n f])[i]? = some e → (i < H0.length ∧ H0[i]? = some e) ∨ (i = H0.length ∧ e = .row sz n f) := fun i e hi => by
    rw [List.getElem?_append] at hi
    split at hi
    · rename_i hlt; exact .inl ⟨hlt, hi⟩
    · rename_i hlt
      rcases Nat.eq_or_lt_of_le (Nat.le_of_not_lt hlt) with hh | hh
      · rw [← hh] at hi; simp at hi; exact .inr ⟨hh.symm, hi.symm⟩
      · rw [List.getElem?_eq_none (by simp; omega)] at hi; cases hi
  have lft : ∀ {i : Nat} {e : HE}, H0[i]? = some e → (H0 ++ [HE.row sz n f])[i]? = some e := fun hi => by
    rw [List.getElem?_append_left (List.getElem?_eq_some_iff.1 hi).1]; exact hi
  have hU : ∀ ρ' : Loc, Same H0.length ρs ρ' → ∀ x, SpecU ρ' (H0 ++ [.row sz n f]) x → SpecU ρs H0 x := fun ρ' h' x ⟨i, e, hi, hw, hf⟩ => by
    rcases key i e hi with ⟨_, hi'⟩ | ⟨_, rfl⟩
    · exact (specU_same h').1 ⟨i, e, hi', hw, hf⟩
    · exact hw.elim
  refine ⟨ρ, by rw [← hb]; exact if_pos h0, if_neg (Nat.lt_irrefl _), fun ρ' hs' => ?_, fun x hx => hz x (hU ρ hsame x hx)⟩
  have hlen : (H0 ++ [HE.row sz n f]).length = H0.length + 1 := by simp
  have h2 : Same H0.length ρs ρ' := hsame.trans (hs'.mono (by omega)) (Nat.le_refl _)
  have ha : ρ' H0.length = a := by rw [hs' _ (by omega)]; exact if_neg (Nat.lt_irrefl _)
  have hok := hs ρ' h2
  refine ⟨fun i e hi => ?_, fun i e hi hw x hx => ?_, fun i j d e hij hi hdw hj hl x hx hy => ?_, Fr.refl _ _⟩
  · rcases key i e hi with ⟨_, hi'⟩ | ⟨rfl, rfl⟩
    · exact hok.ent i e hi'
    · intro hn
      obtain ⟨b', off, h3, h4⟩ := hr hn
      exact ⟨b', off, ha.trans h3, h4⟩
  · rcases key i e hi with ⟨hil, hi'⟩ | ⟨_, rfl⟩
    · exact .inr ⟨i, e, hi, hw, (HE.foot_congr (hs' i (by omega)) e).1 hx⟩
    · exact hw.elim
  · rcases key i d hi with ⟨_, hi'⟩ | ⟨_, rfl⟩
    · rcases key j e hj with ⟨_, hj'⟩ | ⟨rfl, rfl⟩
      · exact hok.dis i j d e hij hi' hdw hj' hl x hx hy
      · obtain ⟨y, hy1, hy2⟩ := hy
        rw [ha] at hy1
        refine hd hl y hy1 (hz _ ((specU_same h2).1 ⟨i, d, hi', hdw, ?_⟩))
        rw [hy2]; exact hx
    · exact hdw.elim
section
variable {w0 : World} {U : Nat → Prop}
/-- An operation of an object that is sealed, which hands back a slice of its own. -/
theorem obj_op {P : Program} {f : FuncId} {args : List SV} {H : List HE} {K : SV → List HE → Prop} {H0 H1 : List HE} {ty : TypeId} {sz n : Nat} {g : Nat → Nat → Value} {mk : SV → SV} (hS : Spec P f (.p 0 0 :: args) H0 (OutO H1 ty sz n g mk))
    (hmk : ∀ s s' ρ ρ', s.den ρ = s'.den ρ' → (mk s).den ρ = (mk s').den ρ') (ha : ∀ ρ ρ', SV.denL ρ args = SV.denL ρ' args) (h0 : 0 < H0.length) (hwr : allWr H1) (hbd : H1.all (HE.bdd H1.length) = true) (h1 : 0 < H1.length)
    (j : Nat) {b : Nat} {Z : Nat → Prop} (hj : getH H j = .res true Z (SealW H0 b Z))
    (hK : ∀ Z1, setHK H j (.res true Z1 (SealW H1 b Z1)) fun H2 => appK H2 (.own ty sz n g) fun H' => lenK H fun N => K (mk (.os N n)) H') : CallN P w0 U f (.v (.pointer (some ⟨b, 0, none⟩)) :: args) H K :=
  call_objE j hj (fun (_ : Unit) N => mk (.os N n)) (fun _ => [.own ty sz n g]) (fun _ Z1 => SealW H1 b Z1) (fun ρ w hr hq => by
    refine (hS.sealed hq h0 (A := (SV.denL ρ (.v (.pointer (some ⟨b, 0, none⟩)) :: args)).toArray) (fun ρ' h' => ?_)).mono ?_
    · simp only [SV.denL, SV.den, atB, h', Option.map_some, ha ρ' ρ]
    · rintro e w' ⟨s, H2, ρ1, U', hR, he, hr1, hU, hb⟩
      obtain ⟨Z1, ρn, a1, a2, a3, a4, a5, a6⟩ := out_sealO hwr hbd h1 hmk hR he hr1 hU hb
      exact ⟨(), Z1, ρn, a1, a2, a3, a4, a5, a6⟩) (fun _ Y u1 u2 hs h => h.st hwr hs) (fun _ Z1 => hK Z1)
/-- The same, with a slice beside it that is read. -/
theorem obj_opR {P : Program} {f : FuncId} {args : List SV} {args0 : Nat → List SV} {H : List HE} {K : SV → List HE → Prop} {H0 H1 : List HE} {rs rn : Nat} {rf : Nat → Nat → Value} {ty : TypeId} {sz n : Nat} {g : Nat → Nat → Value} {mk : SV → SV}
    (hS : ∀ cap, rn ≤ cap → cap ≤ maxLen → Spec P f (.p 0 0 :: args0 cap) (H0 ++ [.row rs rn rf]) (OutO H1 ty sz n g mk))
    (hmk : ∀ s s' ρ ρ', s.den ρ = s'.den ρ' → (mk s).den ρ = (mk s').den ρ') (h0 : 0 < H0.length) (hwr : allWr H1) (hbd : H1.all (HE.bdd H1.length) = true) (h1 : 0 < H1.length)
    (j : Nat) {b : Nat} {Z : Nat → Prop} (hj : getH H j = .res true Z (SealW H0 b Z))
    (ha : ∀ ρ w, HRel w0 U ρ H w → ∃ a cap, rn ≤ cap ∧ cap ≤ maxLen ∧ RowOk w a rs rn rf ∧ (0 < rn → ∀ x, a = some x → ¬ Z x.block) ∧ ∀ ρs : Loc, ρs H0.length = a → SV.denL ρs (args0 cap) = SV.denL ρ args)
    (hK : ∀ Z1, setHK H j (.res true Z1 (SealW H1 b Z1)) fun H2 => appK H2 (.own ty sz n g) fun H' => lenK H fun N => K (mk (.os N n)) H') : CallN P w0 U f (.v (.pointer (some ⟨b, 0, none⟩)) :: args) H K :=
  call_objE j hj (fun (_ : Unit) N => mk (.os N n)) (fun _ => [.own ty sz n g]) (fun _ Z1 => SealW H1 b Z1) (fun ρ w hr hq => by
    obtain ⟨a, cap, c1, c2, c3, c4, c5⟩ := ha ρ w hr
    obtain ⟨ρs, hb, hsa, hs, hz⟩ := hq.row h0 c3 c4
    have e : (SV.denL ρ (.v (.pointer (some ⟨b, 0, none⟩)) :: args)).toArray = (SV.denL ρs (.p 0 0 :: args0 cap)).toArray := by
      simp only [SV.denL, SV.den, atB, hb, Option.map_some, c5 ρs hsa]
    rw [e]
    refine ((hS cap c1 c2).out ρs w hs).mono ?_
    rintro e w' ⟨s, H2, ρ1, hR, _, he, hr1, hsm, hle⟩
    obtain ⟨Z1, ρn, a1, a2, a3, a4, a5, a6⟩ := out_sealO hwr hbd h1 hmk hR he hr1 hz (b := b) (by rw [hsm 0 (by simp)]; exact hb)
    exact ⟨(), Z1, ρn, a1, a2, a3, a4, a5, a6⟩) (fun _ Y u1 u2 hs h => h.st hwr hs) (fun _ Z1 => hK Z1)
/-- A slice of one's own lies beside what is sealed. -/
theorem os_beside {H : List HE} {j i : Nat} {Z : Nat → Prop} {Q : World → Prop} {ty : TypeId} {sz n : Nat} {f : Nat → Nat → Value} (hj : getH H j = .res true Z Q) (hi : getH H i = .own ty sz n f) :
    ∀ ρ w, HRel w0 U ρ H w → ∃ a cap, n ≤ cap ∧ cap ≤ maxLen ∧ RowOk w a sz n f ∧ (0 < n → ∀ x, a = some x → ¬ Z x.block) ∧ (SV.os i n).den ρ = .slice a n cap := fun ρ w hr => by
  obtain ⟨a, cap, he, h1, h2, h3⟩ := sl_os hr hi
  refine ⟨a, cap, h1, h2, h3, fun _ x hx hz => ?_, he⟩
  simp only [SV.den, atB'] at he
  injection he with he _ _
  rw [hx] at he
  obtain ⟨y, hy, hyx⟩ := Option.map_eq_some_iff.1 he
  have hij : i ≠ j := fun e => by rw [e, hj] at hi; cases hi
  refine hr.at.dis i j _ _ hij (getH_own hi) trivial (getH_res hj) trivial x.block ⟨y, hy, ?_⟩ hz
  rw [← hyx]
/-- So does nothing. -/
theorem nil_beside {H : List HE} {Z : Nat → Prop} {sz : Nat} {f : Nat → Nat → Value} : ∀ (ρ : Loc) (w : World), HRel w0 U ρ H w → ∃ a cap, 0 ≤ cap ∧ cap ≤ maxLen ∧ RowOk w a sz 0 f ∧ (0 < 0 → ∀ x, a = some x → ¬ Z x.block) ∧ (SV.v (.slice none 0 0)).den ρ = .slice a 0 cap := fun ρ w _ =>
  ⟨none, 0, Nat.le_refl _, Nat.zero_le _, fun h => absurd h (Nat.not_lt_zero _), fun h => absurd h (Nat.not_lt_zero _), rfl⟩
end
/-- The value that is handed back, in other words. -/
theorem Spec.val {P : Program} {f : FuncId} {args : List SV} {H0 H1 : List HE} {s0 s1 : SV} (h : Spec P f args H0 fun s H' => s = s0 ∧ H' = H1) (hv : ∀ ρ, s0.den ρ = s1.den ρ) : Spec P f args H0 fun s H' => s = s1 ∧ H' = H1 :=
  ⟨fun ρ w hr => (h.out ρ w hr).mono fun e w' ⟨s, H', ρ1, ⟨h1, h2⟩, h3, h4, h5⟩ => ⟨s1, H', ρ1, ⟨rfl, h2⟩, h3, fun ρ'' hs => by rw [h4 ρ'' hs, h1, hv], h5⟩⟩
/-- A contract over rows that are read alone, as a call. -/
theorem Spec.rows {P : Program} {f : FuncId} {args : List SV} {H0 : List HE} {R : SV → List HE → Prop} (hS : Spec P f args H0 R) (hrow : ∀ e ∈ H0, ¬ e.wr) {ρ : Loc} {w : World} (hr : HRel w noU ρ H0 w) :
    Calls P f (SV.denL ρ args).toArray w fun e w' => ∃ s H1 ρ1, R s H1 ∧ (∀ ρ'', Same H1.length ρ1 ρ'' → e = .returned (s.den ρ'')) ∧ HRel w noU ρ1 H1 w' := by
  have e : SpecU ρ H0 = noU := funext fun b => propext ⟨fun ⟨i, e, hi, hw, _⟩ => (hrow e (List.mem_of_getElem? hi) hw).elim, fun h => h.elim⟩
  have := hS.out ρ w (by rw [e]; exact hr)
  rw [e] at this
  exact this.mono fun e w' ⟨s, H1, ρ1, h1, _, h2, h3, _⟩ => ⟨s, H1, ρ1, h1, h2, h3⟩
end Go.Proofs.YtghfigeepnbjaaaGreat
namespace Go.Proofs.YtghfigeepnbjaaaGreat
theorem mem1F (a s : Int) : ∀ r c, r < 1 → c < 2 → [Value.int .i64 a, .int .i64 s].getD (r * 2 + c) undef = memF [(a, s)] r c := fun r c hr hc => by
  rcases r with _ | r <;> rcases c with _ | _ | c <;> first | rfl | omega
end Go.Proofs.YtghfigeepnbjaaaGreat
