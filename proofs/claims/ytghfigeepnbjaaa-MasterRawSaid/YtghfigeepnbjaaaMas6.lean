/-
  The master under a seal: what is asked of it, as calls in any memory. No condition.
-/
import Derived.Test.YtghfigeepnbjaaaMas5
import Derived.Test.YtghfigeepnbjaaaP6
import Derived.Test.YtghfigeepnbjaaaPD
namespace Go.Proofs.Ytghfigeepnbjaaa
open Go.RowKit
/-- A master lies at b, in the blocks Z. -/
abbrev MasQ (b : Nat) (m : MasM) (Z : Nat → Prop) (w : World) : Prop := SealW (masH m) b Z w
theorem masH_wr (m : MasM) : allWr (masH m) := fun e he => by
  simp only [masH, masHi, List.mem_cons, List.not_mem_nil, or_false] at he
  rcases he with rfl | rfl <;> exact .inl trivial
theorem MasQ.st {b : Nat} {m : MasM} : ∀ (Y : Nat → Prop) (u1 u2 : World), (∀ x, Y x → u2.heap[x]? = u1.heap[x]?) → MasQ b m Y u1 → MasQ b m Y u2 := fun _ _ _ hs h => SealW.st (masH_wr m) hs h
/-- A master's address. -/
abbrev masP (b : Nat) : SV := .v (.pointer (some ⟨b, 0, none⟩))
/-- What is sent, and where it lies. -/
abbrev sndEs (l : List SndM) (x : (Nat → Value) × (Nat → Prop)) : List HE := [sndE l x.1, .res true x.2 (sndQ l x.1)]
/-- What an operation leaves, told of the whole. -/
theorem out_seal {o : Out} {mk : SV → SV} (hmk : ∀ s s' ρ ρ', s.den ρ = s'.den ρ' → (mk s).den ρ = (mk s').den ρ') {w w' : World} {U Z : Nat → Prop} {s : SV} {H1 : List HE} {ρ1 : Loc} {e : Ending} {b : Nat} (hR : outR o mk s H1)
    (he : ∀ ρ'', Same H1.length ρ1 ρ'' → e = .returned (s.den ρ'')) (hr : HRel w U ρ1 H1 w') (hU : ∀ x, U x → Z x) (hb : ρ1 0 = some ⟨b, 0, none⟩) :
    ∃ (x : (Nat → Value) × (Nat → Prop)) (Z1 : Nat → Prop) (ρn : Loc), (∀ (N : Nat) (ρ' : Loc), (∀ k, k < (sndEs o.l x).length → ρ' (N + k) = ρn k) → e = .returned ((mk (.os N o.l.length)).den ρ')) ∧ MasQ b o.m Z1 w' ∧ Fr Z w w' ∧ (∀ b, Z1 b → (Z b ∨ w.heap.size ≤ b) ∧ b < w'.heap.size) ∧
      (∀ (k : Nat) (e : HE), (sndEs o.l x)[k]? = some e → e.flat ∧ e.ok ρn w' k ∧ ∀ b, e.foot ρn k b → (Z b ∨ w.heap.size ≤ b) ∧ ¬ Z1 b) ∧ (∀ (k k' : Nat) (e e' : HE), k ≠ k' → (sndEs o.l x)[k]? = some e → (sndEs o.l x)[k']? = some e' → ∀ b, e.foot ρn k b → ¬ e'.foot ρn k' b) := by
  have hfr : Fr Z w w' := hr.at.fr.mono fun k _ hk => hU k hk
  have zz : ∀ {is : List Nat} {x : Nat}, footOf ρ1 H1 is x → Z x ∨ w.heap.size ≤ x := fun h => (footOf_own hr h).elim .inr (fun h => .inl (hU _ h))
  have many : ∀ (p : Nat → Value) (Zs : Nat → Prop) (σ : List Nat) (i : Nat), s = mk (.os i o.l.length) → H1[i]? = some (sndE o.l p) → H1[i + 1]? = some (.res true Zs (sndQ o.l p)) → i ∉ σ → i + 1 ∉ σ → MasQ b o.m (footOf ρ1 H1 σ) w' →
      ∃ (x : (Nat → Value) × (Nat → Prop)) (Z1 : Nat → Prop) (ρn : Loc), (∀ (N : Nat) (ρ' : Loc), (∀ k, k < (sndEs o.l x).length → ρ' (N + k) = ρn k) → e = .returned ((mk (.os N o.l.length)).den ρ')) ∧ MasQ b o.m Z1 w' ∧ Fr Z w w' ∧ (∀ b, Z1 b → (Z b ∨ w.heap.size ≤ b) ∧ b < w'.heap.size) ∧
      (∀ (k : Nat) (e : HE), (sndEs o.l x)[k]? = some e → e.flat ∧ e.ok ρn w' k ∧ ∀ b, e.foot ρn k b → (Z b ∨ w.heap.size ≤ b) ∧ ¬ Z1 b) ∧ (∀ (k k' : Nat) (e e' : HE), k ≠ k' → (sndEs o.l x)[k]? = some e → (sndEs o.l x)[k']? = some e' → ∀ b, e.foot ρn k b → ¬ e'.foot ρn k' b) := fun p Zs σ i hs h1 h2 n1 n2 hq => by
    have f1 : ∀ x, (sndE o.l p).foot ρ1 i x → footOf ρ1 H1 [i] x := fun x hx => ⟨i, _, by simp, h1, trivial, hx⟩
    have f2 : ∀ x, Zs x → footOf ρ1 H1 [i + 1] x := fun x hx => ⟨i + 1, _, by simp, h2, rfl, hx⟩
    refine ⟨(p, Zs), footOf ρ1 H1 σ, fun k => ρ1 (i + k), fun N ρ' hn => ?_, hq, hfr, fun b hb => ⟨zz hb, footOf_lt hr hb⟩, fun k e hk => ?_, fun k k' e e' hkk hk hk' x hx hx' => ?_⟩
    · rw [he ρ1 (Same.refl _ _), hs]
      refine congrArg Ending.returned (hmk _ _ _ _ ?_)
      have := hn 0 (by simp)
      simp only [Nat.add_zero] at this
      simp only [SV.den, atB', capB, this]
    · rcases k with _ | _ | k
      · simp only [List.getElem?_cons_zero, Option.some.injEq] at hk
        subst hk
        refine ⟨trivial, HE.ok_move (e := sndE o.l p) (k := i) trivial rfl (hr.at.ent i _ h1), fun x hx => ?_⟩
        have := f1 x hx
        exact ⟨zz this, fun h => footOf_dis hr (by simpa using n1) this h⟩
      · simp only [List.getElem?_cons_succ, List.getElem?_cons_zero, Option.some.injEq] at hk
        subst hk
        refine ⟨trivial, hr.at.ent (i + 1) _ h2, fun x hx => ?_⟩
        have := f2 x hx
        exact ⟨zz this, fun h => footOf_dis hr (by simpa using n2) this h⟩
      · simp at hk
    · have dd : ∀ x, (sndE o.l p).foot ρ1 i x → Zs x → False := fun x hx hz => footOf_dis hr (is := [i]) (js := [i + 1]) (by simp) (f1 x hx) (f2 x hz)
      rcases k with _ | _ | k <;> rcases k' with _ | _ | k'
      · exact hkk rfl
      · simp only [List.getElem?_cons_succ, List.getElem?_cons_zero, Option.some.injEq] at hk hk'
        subst hk hk'
        exact dd x hx hx'
      · simp at hk'
      · simp only [List.getElem?_cons_succ, List.getElem?_cons_zero, Option.some.injEq] at hk hk'
        subst hk hk'
        exact dd x hx' hx
      · exact hkk rfl
      · simp at hk'
      · simp at hk
      · simp at hk
      · simp at hk
  rcases hR with ⟨hl, hs, rfl⟩ | ⟨p, Zs, hs, rfl⟩ | ⟨p, Zs, hs, rfl⟩
  · refine ⟨(fun _ => undef, fun _ => False), footOf ρ1 (masH o.m) [0, 1], fun _ => none, fun N ρ' hn => ?_, hr.seal (H0 := masH o.m) [0, 1] (by decide) rfl ⟨rfl, rfl, trivial⟩ hb (Nat.succ_pos 1), hfr, fun b hb => ⟨zz hb, footOf_lt hr hb⟩, fun k e hk => ?_, fun k k' e e' hkk hk hk' x hx hx' => ?_⟩
    · rw [he ρ1 (Same.refl _ _), hs, hl]
      refine congrArg Ending.returned (hmk _ _ _ _ ?_)
      have := hn 0 (by simp)
      simp only [Nat.add_zero] at this
      simp [SV.den, atB', capB, this]
    · rcases k with _ | _ | k
      · simp only [List.getElem?_cons_zero, Option.some.injEq] at hk
        subst hk
        refine ⟨trivial, ?_, fun x hx => ?_⟩
        · rw [hl]
          exact ⟨rfl, .inl ⟨rfl, rfl⟩⟩
        · obtain ⟨a, ha, _⟩ := hx
          cases ha
      · simp only [List.getElem?_cons_succ, List.getElem?_cons_zero, Option.some.injEq] at hk
        subst hk
        refine ⟨trivial, ⟨?_, fun b hb => hb.elim, fun _ _ _ h r hr => ?_⟩, fun x hx => hx.elim⟩
        · rw [hl]; exact fun r hr => absurd hr (Nat.not_lt_zero r)
        · rw [hl] at hr; exact absurd hr (Nat.not_lt_zero r)
      · simp at hk
    · rcases k with _ | _ | k
      · simp only [List.getElem?_cons_zero, Option.some.injEq] at hk
        subst hk
        obtain ⟨a, ha, _⟩ := hx
        cases ha
      · simp only [List.getElem?_cons_succ, List.getElem?_cons_zero, Option.some.injEq] at hk
        subst hk
        exact hx.elim
      · simp at hk
  · exact many p Zs [0, 1] 2 hs rfl rfl (by decide) (by decide) (hr.seal (H0 := masH o.m) [0, 1] (by decide) rfl ⟨rfl, rfl, trivial⟩ hb (Nat.succ_pos 1))
  · exact many p Zs [0, 2] 3 hs rfl rfl (by decide) (by decide) (hr.seal (H0 := masH o.m) [0, 2] (by decide) rfl ⟨rfl, rfl, trivial⟩ hb (Nat.succ_pos 1))
section
variable {w0 : World} {U : Nat → Prop}
/-- An operation of a master that is sealed. -/
theorem mas_op {f : FuncId} {args : List SV} {H : List HE} {K : SV → List HE → Prop} {m' : MasM} {l : List SndM} {er : Int} {mk : SV → SV} {m : MasM} (hS : Spec Try.prog f (.p 0 0 :: args) (masH m) (outR ⟨m', l, er⟩ mk)) (hmk : ∀ s s' ρ ρ', s.den ρ = s'.den ρ' → (mk s).den ρ = (mk s').den ρ') (ha : ∀ ρ ρ', SV.denL ρ args = SV.denL ρ' args)
    (j : Nat) {b : Nat} {Z : Nat → Prop} (hj : getH H j = .res true Z (MasQ b m Z))
    (hK : ∀ p Z2 Z1, setHK H j (.res true Z1 (MasQ b m' Z1)) fun H1 => appK H1 (sndE l p) fun H2 => appK H2 (.res true Z2 (sndQ l p)) fun H' => lenK H fun N => K (mk (.os N l.length)) H') : CallN Try.prog w0 U f (masP b :: args) H K :=
  call_objE j hj (fun _ N => mk (.os N l.length)) (sndEs l) (fun _ Z1 => MasQ b m' Z1) (fun ρ w hr hq => by
    refine (hS.sealed hq (Nat.succ_pos 1) (A := (SV.denL ρ (masP b :: args)).toArray) (fun ρ' h' => ?_)).mono ?_
    · simp only [SV.denL, SV.den, atB, h', Option.map_some, ha ρ' ρ]
    · rintro e w' ⟨s, H1, ρ1, U', hR, he, hr1, hU, hb⟩
      exact out_seal hmk hR he hr1 hU hb) (fun _ => MasQ.st) (fun x Z1 => hK x.1 x.2 Z1)
theorem mk_id : ∀ (s s' : SV) (ρ ρ' : Loc), s.den ρ = s'.den ρ' → ((fun q : SV => q) s).den ρ = ((fun q : SV => q) s').den ρ' := fun _ _ _ _ h => h
theorem mk_pair (er : Int) : ∀ (s s' : SV) (ρ ρ' : Loc), s.den ρ = s'.den ρ' → ((fun q : SV => SV.tup [q, .v (.int .i64 er)]) s).den ρ = ((fun q : SV => SV.tup [q, .v (.int .i64 er)]) s').den ρ' := fun s s' ρ ρ' h => by simp only [SV.den, SV.denL, h]
end
end Go.Proofs.Ytghfigeepnbjaaa
