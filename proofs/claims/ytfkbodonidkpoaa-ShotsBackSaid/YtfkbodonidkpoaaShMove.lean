/-
  A call that takes a slice of one's own and hands back another in its place. No condition.
-/
import Derived.Test.YtfkbodonidkpoaaP6
namespace Go.Proofs.Ytfkbodonidkpoaa
section
variable {P : Program} {w0 : World} {U : Nat → Prop}
/-- A region that draws its order, by a tree of orders: each is walked to the end. -/
theorem ord_each {T : Tab} (hT : TabOK P T) {id : Nat} {ops : Array Oper} {tm : List SV} {H : List HE} {K : List SV → List HE → Prop} (t : OT) {n : Nat} (_ : ops.size = n) (hW : waitB ops = true) (hB : otB t ops = true)
    (h : allX P w0 U T t ops tm H K) : DrawN P w0 U id ops tm H K := ord_out hT hW (ord_tree hT t ops hB h)
theorem call_move {f : FuncId} {args : List SV} {H : List HE} {K : SV → List HE → Prop} (i : Nat) {ty : TypeId} {sz n : Nat} {F : Nat → Nat → Value} (n' : Nat) (F' : Nat → Nat → Value) (hi : getH H i = .own ty sz n F)
    (hc : ∀ ρ w, HRel w0 U ρ H w → Calls P f (SV.denL ρ args).toArray w fun e w' => ∃ v', e = .returned v' ∧ w'.ownsRow 0 ty sz v' n' (cellsF sz F' n') ∧ w.grownBy w' ((SV.os i n).den ρ).ownBlock ∧
      ∃ ad : Option Addr, (∀ ρ'' : Loc, ρ'' H.length = ad → (SV.os H.length n').den ρ'' = v') ∧ ∀ b, ad = some b → ((SV.os i n).den ρ).ownBlock = some b.block ∨ w.heap.size ≤ b.block)
    (hK : setHK H i .none fun H1 => appK H1 (.own ty sz n' F') fun H' => lenK H fun N => K (.os N n') H') : CallN P w0 U f args H K :=
  ⟨fun ρ w hr => (hc ρ w hr).mono fun e w' ⟨v', he, hown, hg, ad, had, hab⟩ => by
    have hK := lenK_spec (appK_spec _ _ _ (setHK_spec _ _ _ _ hK))
    have hi' := getH_own hi
    have hilt : i < H.length := (List.getElem?_eq_some_iff.1 hi').1
    have hob : ∀ ρ'', Same H.length ρ ρ'' → ∀ ad, ρ'' i = some ad → ((SV.os i n).den ρ).ownBlock = some ad.block := fun ρ'' h'' ad had => by
      have : ρ i = some ad := by rw [← h'' i hilt]; exact had
      simp [SV.den, atB', this, Value.ownBlock]
    have hU : ∀ k, ((SV.os i n).den ρ).ownBlock = some k → w0.heap.size ≤ k ∨ U k := fun k hk => by
      cases hri : ρ i with
      | none => simp [SV.den, atB', hri, Value.ownBlock] at hk
      | some a =>
        rw [hob ρ (Same.refl _ _) a hri] at hk
        injection hk with hk
        rw [← hk]
        exact hr.at.own i _ hi' trivial a.block ⟨a, hri, rfl⟩
    have hdis : ∀ ρ'', Same H.length ρ ρ'' → ∀ (j : Nat) (d : HE), (H.set i .none)[j]? = some d → d.live → ∀ b, d.foot ρ'' j b → some b ≠ ((SV.os i n).den ρ).ownBlock := fun ρ'' h'' j d hj hl b hb => by
      have hji : j ≠ i ∧ H[j]? = some d := by
        rw [List.getElem?_set] at hj
        by_cases hij : i = j
        · rw [if_pos hij, if_pos hilt] at hj
          cases hj; exact hl.elim
        · rw [if_neg hij] at hj
          exact ⟨fun h => hij h.symm, hj⟩
      intro hcon
      cases hri : ρ'' i with
      | none =>
        have : ρ i = none := by rw [← h'' i hilt]; exact hri
        simp [SV.den, atB', this, Value.ownBlock] at hcon
      | some ad' =>
        rw [hob ρ'' h'' ad' hri] at hcon
        injection hcon with hcon
        exact (hr ρ'' h'').dis i j _ d (Ne.symm hji.1) hi' trivial hji.2 hl ad'.block ⟨ad', hri, rfl⟩ (hcon ▸ hb)
    let ρ' : Loc := fun k => if k = H.length then ad else ρ k
    have hs : Same H.length ρ ρ' := fun i hi => by simp [ρ', Nat.ne_of_lt hi]
    have key : ∀ ρ'', Same ((H.set i HE.none) ++ [HE.own ty sz n' F']).length ρ' ρ'' → Same H.length ρ ρ'' ∧ ρ'' H.length = ad := fun ρ'' h'' =>
      ⟨hs.trans (h''.mono (n := H.length) (by simp)) (Nat.le_refl _), by rw [h'' H.length (by simp)]; simp [ρ']⟩
    refine ⟨.os H.length n', _, ρ', fun ρ'' h'' => by rw [he, had ρ'' (key ρ'' h'').2], fun ρ'' h'' => ?_, hs, by simp, hK⟩
    obtain ⟨k1, k2⟩ := key ρ'' h''
    have hok := keepH (forget (hr ρ'' k1) i) hg (hdis ρ'' k1) hU
    have hlen : (H.set i HE.none).length = H.length := by simp
    refine addH hok ?_ (fun b hb => ?_) (fun j d hj hl b1 hb1 hf => ?_)
    · rw [hlen]
      show w'.ownsRow 0 ty sz ((SV.os H.length n').den ρ'') n' _
      rw [had ρ'' k2]
      exact hown
    · rw [hlen, k2] at hb
      rcases hab b hb with h | h
      · exact hU _ h
      · exact .inl (Nat.le_trans (hr ρ'' k1).fr.size h)
    · rw [hlen, k2] at hb1
      rcases hab b1 hb1 with h | h
      · exact hdis ρ'' k1 j d hj hl _ hf h.symm
      · exact absurd (live_lt (forget (hr ρ'' k1) i) hj hl hf) (Nat.not_lt.2 h)⟩
end
end Go.Proofs.Ytfkbodonidkpoaa
