/-
  Calls that are done one after the other, step by step; values stay short. Plain lists, no condition.
-/
import Derived.Test.YtlphkjbadjdleaaLinK
import Derived.Test.YtlphkjbadjdleaaLinS
namespace Go.Proofs.Ytlphkjbadjdleaa
theorem serD_snoc : ∀ (xs : List (Int × OpM)) (x : Int × OpM) (d : List EntM) (i : Nat), serD (xs ++ [x]) d i = serN x (serD xs d i) (i + xs.length)
  | [], x, d, i => rfl
  | y :: xs, x, d, i => by
    have := serD_snoc xs x (serN y d i) (i + 1)
    rw [List.cons_append]
    show serD (xs ++ [x]) (serN y d i) (i + 1) = serN x (serD xs (serN y d i) (i + 1)) (i + (xs.length + 1))
    rw [this, show i + 1 + xs.length = i + (xs.length + 1) by omega]
theorem serL_snoc : ∀ (xs : List (Int × OpM)) (x : Int × OpM) (d : List EntM) (i : Nat), serL (xs ++ [x]) d i = serL xs d i ++ [serR x (serD xs d i) (i + xs.length)]
  | [], x, d, i => rfl
  | y :: xs, x, d, i => by
    have := serL_snoc xs x (serN y d i) (i + 1)
    rw [List.cons_append]
    show serR y d i :: serL (xs ++ [x]) (serN y d i) (i + 1) = (serR y d i :: serL xs (serN y d i) (i + 1)) ++ [serR x (serD xs (serN y d i) (i + 1)) (i + (xs.length + 1))]
    rw [this, show i + 1 + xs.length = i + (xs.length + 1) by omega]
    rfl
theorem serL_len : ∀ (xs : List (Int × OpM)) (d : List EntM) (i : Nat), (serL xs d i).length = xs.length
  | [], _, _ => rfl
  | x :: xs, d, i => congrArg (· + 1) (serL_len xs (serN x d i) (i + 1))
theorem take_snocA {α : Type} {l : List α} {n : Nat} {z : α} (h : n < l.length) : l.take (n + 1) = l.take n ++ [l.getD n z] := by
  rw [List.take_add_one, List.getD_eq_getElem?_getD, List.getElem?_eq_getElem h]
  rfl
theorem serD_step {xs : List (Int × OpM)} {i : Nat} (h : i < xs.length) (z : Int × OpM) : serD (xs.take (i + 1)) [] 0 = serN (xs.getD i z) (serD (xs.take i) [] 0) i := by
  rw [take_snocA (z := z) h, serD_snoc, List.length_take, Nat.min_eq_left (by omega), Nat.zero_add]
theorem serL_at {xs : List (Int × OpM)} {i : Nat} (h : i < xs.length) (z : Int × OpM) : (serL xs [] 0).getD i recZ = serR (xs.getD i z) (serD (xs.take i) [] 0) i := by
  have e : xs = xs.take (i + 1) ++ xs.drop (i + 1) := (List.take_append_drop _ _).symm
  have key : ∀ (ys zs : List (Int × OpM)) (d : List EntM) (j : Nat), ∃ t, serL (ys ++ zs) d j = serL ys d j ++ t := by
    intro ys
    induction ys with
    | nil => intro zs d j; exact ⟨_, rfl⟩
    | cons y ys ih =>
      intro zs d j
      obtain ⟨t, ht⟩ := ih zs (serN y d j) (j + 1)
      exact ⟨t, congrArg (serR y d j :: ·) ht⟩
  obtain ⟨t, ht⟩ := key (xs.take (i + 1)) (xs.drop (i + 1)) [] 0
  rw [← e] at ht
  rw [ht, getD_lt (by rw [serL_len, List.length_take]; omega), take_snocA (z := z) h, serL_snoc, List.length_take, Nat.min_eq_left (by omega), Nat.zero_add]
  have hl : (serL (xs.take i) [] 0).length = i := by rw [serL_len, List.length_take]; omega
  rw [List.getD_eq_getElem?_getD, List.getElem?_append_right (by omega), hl, Nat.sub_self]
  rfl
theorem serD_len : ∀ (xs : List (Int × OpM)) (d : List EntM) (i : Nat), (serD xs d i).length ≤ d.length + xs.length
  | [], _, _ => Nat.le_refl _
  | x :: xs, d, i => by
    have := serD_len xs (serN x d i) (i + 1)
    have h2 : (serN x d i).length ≤ d.length + 1 := by unfold serN; split <;> simp
    show (serD xs (serN x d i) (i + 1)).length ≤ _
    simp only [List.length_cons]
    omega
/-- What keys have is short. -/
theorem storeN_short (d : List EntM) : ∀ (i : Nat) (k v : List UInt8) (n : Int), findC (storeN d i) k = some (v, n) → v.length ≤ 64
  | 0, k, v, n, h => by simp [storeN, findC] at h
  | i + 1, k, v, n, h => by
    have ih := storeN_short d i
    have hu := storeN_uni d i
    simp only [storeN, applyM] at h
    generalize (d.getD i entZ).op = o at h
    generalize storeN d i = cs at h ih hu
    by_cases hc : chkO o = 0
    · have hs := (chkO_0.1 hc).2.2.2.2.2.2.2.2
      generalize hf : (effM (findC cs o.key) ((i : Int) + 1) o).1 = f at h
      cases f with
      | stay => exact ih k v n h
      | gone =>
        simp only [effC] at h
        rw [findC_del _ _ _ hu] at h
        split at h
        · cases h
        · exact ih k v n h
      | put v' m =>
        have hv : v' = o.value := by
          unfold effM at hf
          (repeat' split at hf) <;> simp_all
        simp only [effC, findC_set] at h
        split at h
        · simp only [Option.some.injEq, Prod.mk.injEq] at h
          rw [← h.1, hv]
          exact hs
        · exact ih k v n h
    · have : (effM (findC cs o.key) ((i : Int) + 1) o).1 = .stay := by simp [effM, hc]
      rw [this] at h
      exact ih k v n h
theorem readN_short (d : List EntM) (k : List UInt8) (i : Nat) : (readN d k i).value.length ≤ 64 := by
  unfold readN
  cases h : findC (storeN d i) k with
  | none => simp [lookM]
  | some q => exact storeN_short d i k q.1 q.2 h
theorem apply_short (d : List EntM) (i : Nat) (n : Int) (o : OpM) : (applyM (storeN d i) n o).2.value.length ≤ 64 := by
  have hs := fun v m => storeN_short d i o.key v m
  unfold applyM effM
  generalize findC (storeN d i) o.key = q at hs
  cases q with
  | none => (repeat' split) <;> simp_all [lookM, resZ]
  | some q =>
    obtain ⟨v, m⟩ := q
    have := hs v m rfl
    (repeat' split) <;> simp_all [lookM, resZ]
theorem serR_short (x : Int × OpM) (d : List EntM) (i : Nat) : (serR x d i).res.value.length ≤ 64 := by
  unfold serR
  dsimp only
  split
  · exact readN_short _ _ _
  · exact apply_short _ _ _ _
end Go.Proofs.Ytlphkjbadjdleaa
