/-
  Which operations of a region that draws its order wait for which; barriers. No condition.
-/
import Derived.Test.YtlphkjbadjdleaaRxB
import Derived.Still
namespace Go.Proofs.Ytlphkjbadjdleaa

/-- The operations that an operation waits for. -/
def waitL (o : Oper) : List Nat := (o.after.toList.filter (Region.binds .any)).map (·.on)
def orAll (ms : List Nat) : List Nat → Nat
  | [] => 0
  | j :: js => Nat.lor (Nat.lor (2 ^ j) (ms.getD j 0)) (orAll ms js)
/-- For each operation, as bits: those that come ahead of it in every order. -/
def masksFrom : List Oper → List Nat → List Nat
  | [], ms => ms
  | o :: r, ms => masksFrom r (ms ++ [orAll ms (waitL o)])
def masks (l : List Oper) : List Nat := masksFrom l []

/-- A set that holds, with each operation, all that it waits for. -/
def Closed (l : List Oper) (L : Nat → Prop) : Prop := ∀ (k : Nat) (o : Oper), l[k]? = some o → L k → ∀ j ∈ waitL o, L j
/-- Whenever all that it waits for is there, this is there. -/
def Sees (l : List Oper) (k j : Nat) : Prop := ∀ (L : Nat → Prop) (o : Oper), Closed l L → l[k]? = some o → (∀ m ∈ waitL o, L m) → L j

theorem orAll_bit {ms : List Nat} : ∀ {js : List Nat} {j : Nat}, (orAll ms js).testBit j = true → ∃ m ∈ js, m = j ∨ (ms.getD m 0).testBit j = true
  | [], j, h => by simp [orAll] at h
  | m :: js, j, h => by
    simp only [orAll] at h
    rw [show Nat.lor (Nat.lor (2 ^ m) (ms.getD m 0)) (orAll ms js) = (2 ^ m ||| ms.getD m 0) ||| orAll ms js from rfl, Nat.testBit_or, Nat.testBit_or] at h
    simp only [Bool.or_eq_true] at h
    rcases h with (h | h) | h
    · refine ⟨m, by simp, .inl ?_⟩
      rw [Nat.testBit_two_pow] at h
      simpa using h
    · exact ⟨m, by simp, .inr h⟩
    · obtain ⟨k, hk, e⟩ := orAll_bit h
      exact ⟨k, by simp [hk], e⟩
theorem masksFrom_spec (l : List Oper) : ∀ (r : List Oper) (ms : List Nat), (∀ j, r[j]? = l[ms.length + j]?) → (∀ k, k < ms.length → ∀ j, (ms.getD k 0).testBit j = true → Sees l k j) →
    ∀ k j, ((masksFrom r ms).getD k 0).testBit j = true → Sees l k j
  | [], ms, _, hm, k, j, h => by
    simp only [masksFrom] at h
    by_cases hk : k < ms.length
    · exact hm k hk j h
    · simp [List.getD, List.getElem?_eq_none (show ms.length ≤ k by omega)] at h
  | o :: r, ms, hr, hm, k, j, h => by
    have h0 : l[ms.length]? = some o := by have := hr 0; simpa using this.symm
    refine masksFrom_spec l r (ms ++ [orAll ms (waitL o)]) (fun j => ?_) (fun k hk j hj => ?_) k j h
    · have := hr (j + 1)
      simp only [List.getElem?_cons_succ] at this
      rw [this]; congr 1; simp; omega
    · simp only [List.length_append, List.length_cons, List.length_nil] at hk
      by_cases hkl : k < ms.length
      · rw [List.getD, List.getElem?_append_left hkl] at hj
        exact hm k hkl j hj
      · have : k = ms.length := by omega
        subst this
        simp at hj
        obtain ⟨m, hmo, e⟩ := orAll_bit hj
        intro L o' hc ho' hL
        rw [h0] at ho'; cases ho'
        rcases e with rfl | e
        · exact hL _ hmo
        · by_cases hml : m < ms.length
          · have hlm : ∃ om, l[m]? = some om := by
              have h1 : ms.length < l.length := (List.getElem?_eq_some_iff.1 h0).1
              exact ⟨_, List.getElem?_eq_getElem (by omega)⟩
            obtain ⟨om, hom⟩ := hlm
            exact hm m hml j e L om hc hom (fun q hq => hc m om hom (hL m hmo) q hq)
          · simp [List.getD, List.getElem?_eq_none (show ms.length ≤ m by omega)] at e
theorem masks_spec {l : List Oper} {k j : Nat} (h : ((masks l).getD k 0).testBit j = true) : Sees l k j :=
  masksFrom_spec l l [] (fun j => by simp) (fun k hk => by simp at hk) k j h
end Go.Proofs.Ytlphkjbadjdleaa
