/-
  A function's contract over the little memory that it speaks of, used in a greater one. No condition.
-/
import Derived.Test.YtlphkjbadjdleaaRxN
namespace Go.Proofs.Ytlphkjbadjdleaa

def HE.ren (σ : List (Option Nat)) : HE → HE
  | .blk t cs => .blk t (SV.renL σ cs)
  | e => e
/-- The blocks of what may be written. -/
def SpecU (ρ : Loc) (H : List HE) : Nat → Prop := fun b => ∃ (i : Nat) (e : HE), H[i]? = some e ∧ e.wr ∧ e.foot ρ i b
/-- What is read alone is as it was. -/
def keptR : List HE → List HE → Prop
  | _, [] => True
  | H0, .row sz n f :: r => H0.head? = some (.row sz n f) ∧ keptR H0.tail r
  | H0, .res w _ _ :: r => w = true ∧ keptR H0.tail r
  | H0, _ :: r => keptR H0.tail r
/-- A function's contract over a little memory. -/
structure Spec (P : Program) (f : FuncId) (args : List SV) (H0 : List HE) (R : SV → List HE → Prop) : Prop where
  out : ∀ ρ w, HRel w (SpecU ρ H0) ρ H0 w → Calls P f (SV.denL ρ args).toArray w fun e w' => ∃ s H1 ρ1, R s H1 ∧ keptR H0 H1 ∧ (∀ ρ'', Same H1.length ρ1 ρ'' → e = .returned (s.den ρ'')) ∧ HRel w (SpecU ρ H0) ρ1 H1 w' ∧ Same H0.length ρ ρ1 ∧ H0.length ≤ H1.length
mutual
theorem den_all {σ : List (Option Nat)} {ρ ρ'' : Loc} (hρ : ∀ j, ρ'' j = ρ (renI σ j)) : ∀ y : SV, y.den ρ'' = (y.ren σ).den ρ
  | .junk => rfl
  | .v _ => rfl
  | .kb _ => rfl
  | .p i o => by simp only [SV.den, SV.ren, atB, hρ i]
  | .s i o n c => by simp only [SV.den, SV.ren, atB, hρ i]
  | .rp i z r c => by simp only [SV.den, SV.ren, atR, hρ i]
  | .rs i n c => by simp only [SV.den, SV.ren, hρ i]
  | .os i n => by simp only [SV.den, SV.ren, atB', capB, hρ i]
  | .ov i z l n => by simp only [SV.den, SV.ren, capB, hρ i]
  | .m i => by simp only [SV.den, SV.ren, mapV, hρ i]
  | .fn f caps => by
    simp only [SV.den, SV.ren, List.map_map]
    congr 2
    refine List.map_congr_left fun q _ => ?_
    simp only [Function.comp, capV, atB, hρ _]
  | .agg cs => by simp only [SV.den, SV.ren, denL_all hρ cs]
  | .tup vs => by simp only [SV.den, SV.ren, denL_all hρ vs]
theorem denL_all {σ : List (Option Nat)} {ρ ρ'' : Loc} (hρ : ∀ j, ρ'' j = ρ (renI σ j)) : ∀ cs : List SV, SV.denL ρ'' cs = SV.denL ρ (SV.renL σ cs)
  | [] => rfl
  | c :: cs => by simp only [SV.denL, SV.renL, den_all hρ c, denL_all hρ cs]
end
theorem HE.ren_wr {σ : List (Option Nat)} {e : HE} : (e.ren σ).wr ↔ e.wr := by cases e <;> exact Iff.rfl
theorem HE.ren_live {σ : List (Option Nat)} {e : HE} : (e.ren σ).live ↔ e.live := by cases e <;> exact Iff.rfl
theorem HE.ren_foot {σ : List (Option Nat)} {e : HE} {ρ ρ'' : Loc} {i j : Nat} (h : ρ'' i = ρ j) {b : Nat} : (e.ren σ).foot ρ j b ↔ e.foot ρ'' i b := by
  cases e <;> simp only [HE.ren, HE.foot, h]
theorem HE.ren_ok {σ : List (Option Nat)} {e : HE} {ρ ρ'' : Loc} (hρ : ∀ j, ρ'' j = ρ (renI σ j)) {i j : Nat} (h : ρ'' i = ρ j) {w : World} : (e.ren σ).ok ρ w j ↔ e.ok ρ'' w i := by
  cases e with
  | none => exact Iff.rfl
  | blk t cs => simp only [HE.ren, HE.ok, h, denL_all hρ cs]
  | row sz n f => simp only [HE.ren, HE.ok, h]
  | own t sz n f =>
    have : (SV.os j n).den ρ = (SV.os i n).den ρ'' := by simp only [SV.den, atB', capB, h]
    simp only [HE.ren, HE.ok, this]
  | mp ag zk es st => simp only [HE.ren, HE.ok, h]
  | obj1 t p q ag zk es => simp only [HE.ren, HE.ok, h]
  | res wr Z Q => exact Iff.rfl
def mrgH : List HE → List Nat → List HE → List HE
  | H, [], H1 => H ++ H1
  | H, k :: σ, e :: H1 => mrgH (H.set k e) σ H1
  | H, _ :: _, [] => H
theorem mrgH_len : ∀ (σ : List Nat) (H H1 : List HE), (mrgH H σ H1).length = H.length + (H1.length - σ.length)
  | [], H, H1 => by simp [mrgH]
  | k :: σ, H, e :: H1 => by
    rw [mrgH, mrgH_len σ (H.set k e) H1]
    simp
  | _ :: _, H, [] => by simp [mrgH]
theorem mrgH_get : ∀ (σ : List Nat) (H H1 : List HE), σ.Nodup → (∀ k ∈ σ, k < H.length) → σ.length ≤ H1.length → ∀ (k : Nat) (e : HE), (mrgH H σ H1)[k]? = some e →
    (k < H.length ∧ k ∉ σ ∧ H[k]? = some e) ∨ ∃ j, H1[j]? = some e ∧ ((j < σ.length ∧ σ[j]? = some k) ∨ (σ.length ≤ j ∧ k = H.length + (j - σ.length)))
  | [], H, H1, _, _, _, k, e, h => by
    simp only [mrgH, List.getElem?_append] at h
    split at h
    · exact .inl ⟨by assumption, by simp, h⟩
    · exact .inr ⟨k - H.length, h, .inr ⟨by simp, by simp; omega⟩⟩
  | a :: σ, H, e0 :: H1, hn, hl, hle, k, e, h => by
    simp only [List.nodup_cons] at hn
    rw [mrgH] at h
    rcases mrgH_get σ (H.set a e0) H1 hn.2 (fun k hk => by simpa using hl k (by simp [hk])) (by simpa using hle) k e h with ⟨h1, h2, h3⟩ | ⟨j, h1, h2⟩
    · rw [List.getElem?_set] at h3
      split at h3
      · rename_i hak
        subst hak
        split at h3
        · cases h3
          exact .inr ⟨0, rfl, .inl ⟨by simp, rfl⟩⟩
        · cases h3
      · rename_i hak
        exact .inl ⟨by simpa using h1, by simp only [List.mem_cons, not_or]; exact ⟨fun h => hak h.symm, h2⟩, h3⟩
    · refine .inr ⟨j + 1, by simpa using h1, ?_⟩
      rcases h2 with ⟨h2, h3⟩ | ⟨h2, h3⟩
      · exact .inl ⟨by simpa using h2, by simpa using h3⟩
      · simp only [List.length_set] at h3
        exact .inr ⟨by simpa using h2, by simp only [List.length_cons]; omega⟩
  | _ :: _, _, [], _, _, hle, _, _, _ => by simp at hle
theorem keptR_row : ∀ {H0 H1 : List HE}, keptR H0 H1 → ∀ {j : Nat} {e : HE}, H1[j]? = some e → ¬ e.wr → e.live → H0[j]? = some e
  | _, [], _, j, e, h, _, _ => by simp at h
  | H0, x :: r, hk, j, e, h, hw, hl => by
    have tl : keptR H0.tail r := by cases x <;> first | exact hk | exact hk.2
    cases j with
    | zero =>
      simp only [List.getElem?_cons_zero, Option.some.injEq] at h
      subst h
      cases x with
      | none => exact hl.elim
      | row sz n f => rw [← List.head?_eq_getElem?]; exact hk.1
      | res w Z Q => exact absurd hk.1 hw
      | _ => exact absurd trivial hw
    | succ j =>
      have := keptR_row tl (by simpa using h) hw hl
      rw [← this, List.getElem?_tail]
/-- New names: those of the little memory, then the new ones. -/
def spσ (σ : List Nat) (n : Nat) (k : Nat) : List (Option Nat) := σ.map some ++ (List.range k).map (fun t => some (n + t))
theorem spσ_lt {σ : List Nat} {n k j : Nat} (h : j < σ.length) : renI (spσ σ n k) j = σ.getD j 0 := by
  unfold renI spσ
  rw [List.getElem?_append_left (by simpa using h)]
  simp [h, List.getD]
theorem spσ_ge {σ : List Nat} {n k t : Nat} (h : t < k) : renI (spσ σ n k) (σ.length + t) = n + t := by
  unfold renI spσ
  rw [List.getElem?_append_right (by simp)]
  simp [h]
/-- The contract, used where more is known. -/
theorem spec_frame {P : Program} {w0 : World} {U : Nat → Prop} {f : FuncId} {args args0 : List SV} {H H0 : List HE} {R : SV → List HE → Prop} (hS : Spec P f args0 H0 R) (σ : List Nat)
    (hl : σ.length = H0.length) (hn : σ.Nodup) (hb0 : (H0.all (HE.bdd H0.length) && SV.bddL H0.length args0) = true) (hH : ∀ j : Nat, j < H0.length → H[σ.getD j 0]? = (H0[j]?).map (HE.ren (spσ σ H.length 0))) (ha : args = SV.renL (spσ σ H.length 0) args0) {ρ : Loc} {w : World} (hr : HRel w0 U ρ H w) :
    Calls P f (SV.denL ρ args).toArray w fun e w' => ∃ s H1 ρ', R s H1 ∧ H0.length ≤ H1.length ∧ (∀ ρ'', Same (mrgH H σ (H1.map (HE.ren (spσ σ H.length (H1.length - σ.length))))).length ρ' ρ'' → e = .returned ((SV.ren (spσ σ H.length (H1.length - σ.length)) s).den ρ'')) ∧
      HRel w0 U ρ' (mrgH H σ (H1.map (HE.ren (spσ σ H.length (H1.length - σ.length))))) w' ∧ Same H.length ρ ρ' ∧ H.length ≤ (mrgH H σ (H1.map (HE.ren (spσ σ H.length (H1.length - σ.length))))).length ∧
      (∃ T : Nat → Prop, Fr T w w' ∧ ∀ b, T b → ∃ (i : Nat) (d : HE), H[i]? = some d ∧ d.live ∧ d.foot ρ i b) ∧
      ∀ d, H1 = H0 ++ [d] → d.wr → ∀ b, (d.ren (spσ σ H.length 0)).foot ρ' H.length b → w.heap.size ≤ b := by
  have hb1 : ∀ e ∈ H0, e.bdd H0.length = true := fun e he => by
    simp only [Bool.and_eq_true, List.all_eq_true] at hb0
    exact hb0.1 e he
  have hb2 : SV.bddL H0.length args0 = true := by simp only [Bool.and_eq_true] at hb0; exact hb0.2
  have big : ∀ (j : Nat) (e : HE), H0[j]? = some e → H[σ.getD j 0]? = some (e.ren (spσ σ H.length 0)) := fun j e he => by
    rw [hH j (List.getElem?_eq_some_iff.1 he).1, he]; rfl
  have inj : ∀ j k, j < σ.length → k < σ.length → σ.getD j 0 = σ.getD k 0 → j = k := fun j k hj hk h => by
    simp only [List.getD, List.getElem?_eq_getElem hj, List.getElem?_eq_getElem hk, Option.getD_some] at h
    have hp := List.pairwise_iff_getElem.1 hn
    rcases Nat.lt_trichotomy j k with h1 | h1 | h1
    · exact absurd h (hp j k hj hk h1)
    · exact h1
    · exact absurd h.symm (hp k j hk hj h1)
  -- the little memory
  let ρs : Loc := fun j => ρ (renI (spσ σ H.length 0) j)
  have ρs_lt : ∀ j, j < σ.length → ρs j = ρ (σ.getD j 0) := fun j hj => by simp only [ρs, spσ_lt hj]
  have hok0 := hr.at
  have small : HRel w (SpecU ρs H0) ρs H0 w := fun ρ' hs => by
    have ft : ∀ (j : Nat) (e : HE) (b : Nat), H0[j]? = some e → (e.foot ρ' j b ↔ (e.ren (spσ σ H.length 0)).foot ρ (σ.getD j 0) b) := fun j e b he => by
      have hj := (List.getElem?_eq_some_iff.1 he).1
      rw [HE.foot_congr (hs j hj)]
      exact (HE.ren_foot (ρs_lt j (by omega))).symm
    refine ⟨fun j e he => ?_, fun j e he hw b hb => ?_, fun i j d e hij hi hd hj hl' b hx hy => ?_, Fr.refl _ _⟩
    · have hj := (List.getElem?_eq_some_iff.1 he).1
      have := (HE.ren_ok (σ := spσ σ H.length 0) (ρ := ρ) (ρ'' := ρs) (fun _ => rfl) (ρs_lt j (by omega)) (w := w) (e := e)).1 (hok0.ent _ _ (big j e he))
      exact HE.ok_same this (hb1 e (List.mem_of_getElem? he)) hj hs
    · refine .inr ⟨j, e, he, hw, ?_⟩
      have hj := (List.getElem?_eq_some_iff.1 he).1
      rwa [← HE.foot_congr (hs j hj)]
    · have hi' := (List.getElem?_eq_some_iff.1 hi).1
      have hj' := (List.getElem?_eq_some_iff.1 hj).1
      exact hok0.dis _ _ _ _ (fun h => hij (inj i j (by omega) (by omega) h)) (big i d hi) (HE.ren_wr.2 hd) (big j e hj) (HE.ren_live.2 hl') b ((ft i d b hi).1 hx) ((ft j e b hj).1 hy)
  have hargs : SV.denL ρ args = SV.denL ρs args0 := by rw [ha]; exact (denL_all (fun _ => rfl) args0).symm
  rw [hargs]
  refine (hS.out ρs w small).mono fun e w' ⟨s, H1, ρ1, hR, hkept, he, hr1, hsame, hle⟩ => ?_
  let σ1 := spσ σ H.length (H1.length - σ.length)
  let ρ' : Loc := fun k => if k < H.length then ρ k else ρ1 (σ.length + (k - H.length))
  have hρ' : Same H.length ρ ρ' := fun k hk => if_pos hk
  have lenM : (mrgH H σ (H1.map (HE.ren σ1))).length = H.length + (H1.length - σ.length) := by rw [mrgH_len]; simp
  have σlt : ∀ k ∈ σ, k < H.length := fun k hk => by
    obtain ⟨j, hj, rfl⟩ := List.getElem_of_mem hk
    have h1 := hH j (by omega)
    simp only [List.getD, List.getElem?_eq_getElem hj, Option.getD_some, List.getElem?_eq_getElem (show j < H0.length by omega), Option.map_some] at h1
    exact (List.getElem?_eq_some_iff.1 h1).1
  have main : ∀ ρ'', Same (mrgH H σ (H1.map (HE.ren σ1))).length ρ' ρ'' → HOk w0 U ρ'' (mrgH H σ (H1.map (HE.ren σ1))) w' ∧ e = .returned ((SV.ren σ1 s).den ρ'') := fun ρ'' hs => by
    have hsH : Same H.length ρ ρ'' := hρ'.trans (hs.mono (by omega)) (Nat.le_refl _)
    have hok := hr ρ'' hsH
    let ρt : Loc := fun j => ρ'' (renI σ1 j)
    have ρt1 : Same H1.length ρ1 ρt := fun j hj => by
      rcases Nat.lt_or_ge j σ.length with h1 | h1
      · show ρ'' (renI σ1 j) = ρ1 j
        rw [spσ_lt h1, hsame j (by omega), ρs_lt j h1]
        exact hsH _ (σlt _ (by rw [List.getD, List.getElem?_eq_getElem h1, Option.getD_some]; exact List.getElem_mem h1))
      · show ρ'' (renI σ1 j) = ρ1 j
        obtain ⟨t, rfl⟩ : ∃ t, j = σ.length + t := ⟨j - σ.length, by omega⟩
        rw [spσ_ge (by omega), hs _ (by rw [lenM]; omega)]
        simp only [ρ']
        rw [if_neg (by omega)]
        congr 1; omega
    have hok1 := hr1 ρt ρt1
    have e1 := he ρt ρt1
    rw [den_all (σ := σ1) (ρ := ρ'') (fun _ => rfl)] at e1
    refine ⟨?_, e1⟩
    -- what is what
    have cls : ∀ (k : Nat) (d : HE), (mrgH H σ (H1.map (HE.ren σ1)))[k]? = some d → (k < H.length ∧ k ∉ σ ∧ H[k]? = some d) ∨ ∃ (j : Nat) (d1 : HE), H1[j]? = some d1 ∧ d = d1.ren σ1 ∧ ρt j = ρ'' k ∧ k = renI σ1 j := fun k d hk => by
      rcases mrgH_get σ H _ hn σlt (by simp; omega) k d hk with h1 | ⟨j, h1, h2⟩
      · exact .inl h1
      · rw [List.getElem?_map] at h1
        obtain ⟨d1, h3, rfl⟩ := Option.map_eq_some_iff.1 h1
        have hj1 := (List.getElem?_eq_some_iff.1 h3).1
        have ek : k = renI σ1 j := by
          rcases h2 with ⟨h4, h5⟩ | ⟨h4, h5⟩
          · rw [spσ_lt h4, List.getD, h5]; rfl
          · obtain ⟨t, rfl⟩ : ∃ t, j = σ.length + t := ⟨j - σ.length, by omega⟩
            rw [spσ_ge (by omega), h5]
            omega
        exact .inr ⟨j, d1, h3, rfl, by rw [ek], ek⟩
    have fU : ∀ b, SpecU ρs H0 b → ∃ (j : Nat) (d : HE), j < σ.length ∧ H[σ.getD j 0]? = some d ∧ d.wr ∧ d.foot ρ'' (σ.getD j 0) b := fun b ⟨j, d, h1, h2, h3⟩ => by
      have hj := (List.getElem?_eq_some_iff.1 h1).1
      refine ⟨j, _, by omega, big j d h1, HE.ren_wr.2 h2, ?_⟩
      rw [HE.foot_congr (hsH _ (σlt _ (by rw [List.getD, List.getElem?_eq_getElem (show j < σ.length by omega), Option.getD_some]; exact List.getElem_mem _)))]
      exact (HE.ren_foot (ρs_lt j (by omega))).2 h3
    have out : ∀ (k : Nat) (d : HE) (b : Nat), k ∉ σ → H[k]? = some d → d.live → d.foot ρ'' k b → ¬ SpecU ρs H0 b := fun k d b hk hd hdl hf hU => by
      obtain ⟨j, d', hj, h1, h2, h3⟩ := fU b hU
      refine hok.dis _ _ _ _ (fun h => hk ?_) h1 h2 hd hdl b h3 hf
      rw [← h, List.getD, List.getElem?_eq_getElem hj, Option.getD_some]
      exact List.getElem_mem hj
    have apart : ∀ (k j : Nat) (d d1 : HE) (b : Nat), k ∉ σ → H[k]? = some d → d.live → d.foot ρ'' k b → H1[j]? = some d1 → d1.wr → d1.foot ρt j b → False := fun k j d d1 b hk hd hdl hf h1 hw hf1 => by
      rcases hok1.own j d1 h1 hw b hf1 with h | h
      · have := HE.ok_lt (hok.ent k d hd) hdl hf
        omega
      · exact out k d b hk hd hdl hf h
    refine ⟨fun k d hk => ?_, fun k d hk hw b hb => ?_, fun i k d e hik hi hd hk hl' b hx hy => ?_, ?_⟩
    · rcases cls k d hk with ⟨_, h2, h3⟩ | ⟨j, d1, h1, rfl, h2, _⟩
      · exact HE.ok_fr (hok.ent k d h3) hok1.fr (fun hdl b hf => out k d b h2 h3 hdl hf)
      · exact (HE.ren_ok (σ := σ1) (ρ := ρ'') (ρ'' := ρt) (fun _ => rfl) h2).2 (hok1.ent j d1 h1)
    · rcases cls k d hk with ⟨_, h2, h3⟩ | ⟨j, d1, h1, rfl, h2, _⟩
      · exact hok.own k d h3 hw b hb
      · rcases hok1.own j d1 h1 (HE.ren_wr.1 hw) b ((HE.ren_foot h2).1 hb) with h | h
        · exact .inl (Nat.le_trans hok.fr.size h)
        · obtain ⟨j', d', _, h3, h4, h5⟩ := fU b h
          exact hok.own _ _ h3 h4 b h5
    · rcases cls i d hi with ⟨_, h2, h3⟩ | ⟨j, d1, h1, rfl, h2, hj⟩ <;> rcases cls k e hk with ⟨_, h2', h3'⟩ | ⟨j', e1, h1', rfl, h2', hj'⟩
      · exact hok.dis i k d e hik h3 hd h3' hl' b hx hy
      · have hy' := (HE.ren_foot h2').1 hy
        by_cases hw : e1.wr
        · exact apart i j' d e1 b h2 h3 (HE.wr_live hd) hx h1' hw hy'
        · have h4 := keptR_row hkept h1' hw (HE.ren_live.1 hl')
          have hj0 := (List.getElem?_eq_some_iff.1 h4).1
          have h5 := big j' e1 h4
          have ek : σ.getD j' 0 = k := by rw [hj']; exact (spσ_lt (by omega)).symm
          rw [ek] at h5
          refine hok.dis i k d _ hik h3 hd h5 (HE.ren_live.2 (HE.ren_live.1 hl')) b hx ?_
          exact (HE.ren_foot h2').2 hy'
      · exact apart k j e d1 b h2' h3' hl' hy h1 (HE.ren_wr.1 hd) ((HE.ren_foot h2).1 hx)
      · refine hok1.dis j j' d1 e1 (fun hjj => hik ?_) h1 (HE.ren_wr.1 hd) h1' (HE.ren_live.1 hl') b ((HE.ren_foot h2).1 hx) ((HE.ren_foot h2').1 hy)
        subst hjj
        rw [hj, hj']
    · exact ⟨hok1.fr.os.trans hok.fr.os, hok1.fr.tape.trans hok.fr.tape, hok1.fr.output.trans hok.fr.output, Nat.le_trans hok.fr.size hok1.fr.size, fun b hb hnU => (hok1.fr.block b (Nat.lt_of_lt_of_le hb hok.fr.size) (fun hU => by
        obtain ⟨j', d', _, h3, h4, h5⟩ := fU b hU
        rcases hok.own _ _ h3 h4 b h5 with h | h
        · omega
        · exact hnU h)).trans (hok.fr.block b hb hnU)⟩
  refine ⟨s, H1, ρ', hR, hle, fun ρ'' hs => (main ρ'' hs).2, fun ρ'' hs => (main ρ'' hs).1, hρ', by rw [lenM]; omega, ⟨_, hr1.at.fr, fun b ⟨j, d, h1, h2, h3⟩ => ?_⟩, fun d hd hw b hb => ?_⟩
  rotate_left
  · subst hd
    have e1 : ρ1 H0.length = ρ' H.length := by simp only [ρ', if_neg (Nat.lt_irrefl _), Nat.sub_self, Nat.add_zero, hl]
    have hb1 := (HE.ren_foot e1).1 hb
    have hlast : (H0 ++ [d])[H0.length]? = some d := by simp
    rcases hr1.at.own _ d hlast hw b hb1 with h | ⟨i, e, h1, h2, h3⟩
    · exact h
    · have hi := (List.getElem?_eq_some_iff.1 h1).1
      exact absurd hb1 (hr1.at.dis i H0.length e d (by omega) (by rw [List.getElem?_append_left hi]; exact h1) h2 hlast (HE.wr_live hw) b ((HE.foot_congr (hsame i hi) e).2 h3))
  have hj := (List.getElem?_eq_some_iff.1 h1).1
  exact ⟨_, _, big j d h1, HE.ren_live.2 (HE.wr_live h2), (HE.ren_foot (ρs_lt j (by omega))).2 h3⟩
theorem call_spec {P : Program} {w0 : World} {U : Nat → Prop} {f : FuncId} {args args0 : List SV} {H H0 : List HE} {K : SV → List HE → Prop} {R : SV → List HE → Prop} (hS : Spec P f args0 H0 R) (σ : List Nat)
    (hl : σ.length = H0.length) (hn : σ.Nodup) (hb0 : (H0.all (HE.bdd H0.length) && SV.bddL H0.length args0) = true) (hH : ∀ j : Nat, j < H0.length → H[σ.getD j 0]? = (H0[j]?).map (HE.ren (spσ σ H.length 0))) (ha : args = SV.renL (spσ σ H.length 0) args0)
    (hK : ∀ s H1, R s H1 → H0.length ≤ H1.length → K (SV.ren (spσ σ H.length (H1.length - σ.length)) s) (mrgH H σ (H1.map (HE.ren (spσ σ H.length (H1.length - σ.length)))))) : CallN P w0 U f args H K :=
  ⟨fun ρ w hr => (spec_frame hS σ hl hn hb0 hH ha hr).mono fun e w' ⟨s, H1, ρ', hR, hle, h1, h2, h3, h4, _⟩ => ⟨_, _, ρ', h1, h2, h3, h4, hK s H1 hR hle⟩⟩
end Go.Proofs.Ytlphkjbadjdleaa
