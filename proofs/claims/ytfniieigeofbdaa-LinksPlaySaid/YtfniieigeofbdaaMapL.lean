/-
  What is found in a map, behind what was set and taken out. No condition.
-/
import Derived.Test.YtfniieigeofbdaaP5
namespace Go.Proofs.Ytfniieigeofbdaa
theorem lookE_upd {ag : Bool} {zk : List Value} {k v k' : Value} (hk : keyOK ag zk k = true) (hk' : keyOK ag zk k' = true) : ∀ {es : List (Value × Value)}, (∀ p ∈ es, keyOK ag zk p.1 = true) → lookE (updE es k v) k' = if keyEq k' k = true then some v else lookE es k'
  | [], _ => by
    by_cases h : k' = k
    · subst h
      simp [updE, lookE, keyEq_self hk]
    · have : keyEq k' k = false := by simpa using fun e => h ((keyEq_iff hk' hk).1 e)
      simp [updE, lookE, this]
  | p :: es, he => by
    have hp := he p (by simp)
    have ih := lookE_upd (v := v) hk hk' (es := es) fun q hq => he q (List.mem_cons_of_mem _ hq)
    by_cases hkp : keyEq k p.1 = true
    · have e := (keyEq_iff hk hp).1 hkp
      simp only [updE, hkp, if_true, lookE]
      by_cases h : k' = k
      · subst h
        simp [keyEq_self hk]
      · have h1 : keyEq k' k = false := by simpa using fun e => h ((keyEq_iff hk' hk).1 e)
        rw [← e]
        simp [h1]
    · simp only [updE, hkp, Bool.false_eq_true, if_false, lookE, ih]
      by_cases h : k' = k
      · subst h
        simp [hkp, keyEq_self hk]
      · have h1 : keyEq k' k = false := by simpa using fun e => h ((keyEq_iff hk' hk).1 e)
        simp [h1]
theorem lookE_none {ag : Bool} {zk : List Value} {k : Value} (hk : keyOK ag zk k = true) : ∀ {es : List (Value × Value)}, (∀ p ∈ es, keyOK ag zk p.1 = true) → (lookE es k = none ↔ ∀ p ∈ es, p.1 ≠ k)
  | [], _ => by simp [lookE]
  | p :: es, he => by
    have hp := he p (by simp)
    have ih := lookE_none hk (es := es) fun q hq => he q (List.mem_cons_of_mem _ hq)
    by_cases h : keyEq k p.1 = true
    · have e := (keyEq_iff hk hp).1 h
      simp only [lookE, h, if_true]
      constructor
      · intro h; cases h
      · intro h; exact absurd e.symm (h p (by simp))
    · have hne : p.1 ≠ k := fun e => h ((keyEq_iff hk hp).2 e.symm)
      simp only [lookE, h, Bool.false_eq_true, if_false, ih]
      constructor
      · intro h q hq
        rcases List.mem_cons.1 hq with rfl | hq
        · exact hne
        · exact h q hq
      · intro h q hq
        exact h q (List.mem_cons_of_mem _ hq)
theorem lookE_del {ag : Bool} {zk : List Value} {k k' : Value} (hk : keyOK ag zk k = true) (hk' : keyOK ag zk k' = true) : ∀ {es : List (Value × Value)}, (∀ p ∈ es, keyOK ag zk p.1 = true) → (es.map (·.1)).Nodup → lookE (delE es k) k' = if keyEq k' k = true then none else lookE es k'
  | [], _, _ => by simp [delE, lookE]
  | p :: es, he, hn => by
    have hp := he p (by simp)
    have hes : ∀ q ∈ es, keyOK ag zk q.1 = true := fun q hq => he q (List.mem_cons_of_mem _ hq)
    rw [List.map_cons, List.nodup_cons] at hn
    have ih := lookE_del hk hk' hes hn.2
    by_cases hkp : keyEq k p.1 = true
    · have e := (keyEq_iff hk hp).1 hkp
      simp only [delE, hkp, if_true, lookE]
      by_cases h : k' = k
      · subst h
        rw [if_pos (keyEq_self hk)]
        refine (lookE_none hk hes).2 fun q hq hqe => hn.1 ?_
        rw [← e, ← hqe]
        exact List.mem_map_of_mem (f := (·.1)) hq
      · have h1 : keyEq k' k = false := by simpa using fun e => h ((keyEq_iff hk' hk).1 e)
        rw [← e]
        simp [h1]
    · simp only [delE, hkp, Bool.false_eq_true, if_false, lookE, ih]
      by_cases h : k' = k
      · subst h
        simp [hkp, keyEq_self hk]
      · have h1 : keyEq k' k = false := by simpa using fun e => h ((keyEq_iff hk' hk).1 e)
        simp [h1]
end Go.Proofs.Ytfniieigeofbdaa
