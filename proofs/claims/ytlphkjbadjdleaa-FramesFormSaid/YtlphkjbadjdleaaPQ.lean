/-
  Chains: the document's numbers. Chains: what is put is got, what is got was put. Plain, no program in sight; no condition. No condition.
-/
import Derived.Test.YtlphkjbadjdleaaPN
import Derived.Test.YtlphkjbadjdleaaPA
namespace Go.Proofs.Ytlphkjbadjdleaa
open Go.RowKit
/-- All the numbers that stand there; none, if there is anything else. -/
def numsF : Nat → List UInt8 → Option (List Int)
  | 0, _ => none
  | f + 1, l => if l = [] then some [] else match unintB l with
    | none => none
    | some (n, r) => (numsF f r).map (n :: ·)
def numsB (l : List UInt8) : Option (List Int) := numsF (l.length + 1) l
def intF (xs : List Int) : Nat → Nat → Value := fun r _ => .int .i64 (xs.getD r 0)
def OutNums (w : World) (xs : List Int) (e : Ending) (w' : World) : Prop :=
  ∃ v, e = .returned v ∧ w'.ownsRow w.heap.size 3 1 v xs.length (cellsF 1 (intF xs) xs.length) ∧ w.grownBy w' none
end Go.Proofs.Ytlphkjbadjdleaa
namespace Go.Proofs.Ytlphkjbadjdleaa
def prB (m : Int × Int) : List UInt8 := intB m.1 ++ intB m.2
def memsB : List (Int × Int) → List UInt8
  | [] => []
  | m :: ms => prB m ++ memsB ms
theorem memsB_append (xs ys : List (Int × Int)) : memsB (xs ++ ys) = memsB xs ++ memsB ys := by
  induction xs with
  | nil => rfl
  | cons x xs ih => simp [memsB, ih]
theorem bodyB_take (ms : List (Int × Int)) : ∀ k, k ≤ ms.length → bodyB ms k = memsB (ms.take k)
  | 0, _ => rfl
  | k + 1, h => by
    rw [bodyB, bodyB_take ms k (by omega), List.take_add_one, memsB_append]
    have : ms[k]? = some (ms.getD k (0, 0)) := by simp [List.getD, List.getElem?_eq_getElem (show k < ms.length by omega)]
    rw [this]
    simp [memsB, prB]
theorem putM_yes {c : ChM} (h : okCh c = true) : putM c = (intB c.epoch ++ (intB c.mem.length ++ (memsB c.mem ++ intB c.drain)), 0) := by
  simp only [putM, h, if_true, headB]
  rw [bodyB_take c.mem _ (Nat.le_refl _), List.take_length]
  simp
theorem rdS_back {p : List UInt8 × Bool} (h : (rdS p).2 = true) : p.2 = true ∧ -1 ≤ rdN p ∧ rdN p ≤ 1099511627776 ∧ p.1 = intB (rdN p) ++ (rdS p).1 := by
  obtain ⟨l, b⟩ := p
  cases b with
  | false => simp [rdS] at h
  | true =>
    simp only [rdS, if_true] at h ⊢
    rcases hu : unintB l with _ | ⟨n, r⟩
    · rw [hu] at h; simp at h
    · have := unintB_form hu
      simp only [rdN, if_true, hu, uN, rR]
      exact ⟨trivial, this.2.1, this.2.2, this.1.symm⟩
theorem stG_back (p : List UInt8 × Bool) : ∀ k, (stG p k).2 = true → p.2 = true ∧ p.1 = memsB ((List.range k).map (memG p)) ++ (stG p k).1
  | 0, h => ⟨h, rfl⟩
  | k + 1, h => by
    rw [stG] at h
    obtain ⟨h1, _, _, e1⟩ := rdS_back h
    obtain ⟨h2, _, _, e2⟩ := rdS_back h1
    obtain ⟨h3, e3⟩ := stG_back p k h2
    refine ⟨h3, ?_⟩
    rw [List.range_succ, List.map_append, memsB_append]
    simp only [List.map_cons, List.map_nil, memsB, prB, memG, List.append_nil, List.append_assoc, stG]
    rw [← e1, ← e2]
    exact e3
theorem getM_form (l : List UInt8) : getM l = (chZ, 10) ∨ ∃ c, getM l = (c, 0) ∧ okCh c = true ∧ (putM c).1 = l := by
  rcases h1 : unintB l with _ | ⟨ep, r1⟩
  · left; simp [getM, h1]
  rcases h2 : unintB r1 with _ | ⟨n, r2⟩
  · left; simp [getM, h1, h2]
  by_cases hn : n < 1 ∨ 6 < n
  · left; simp only [getM, h1, h2]; exact if_pos hn
  rw [getM_eq h1 h2 hn]
  split
  · rename_i h
    right
    obtain ⟨h3, h4, h5⟩ := h
    refine ⟨_, rfl, h5, ?_⟩
    rw [putM_yes h5]
    obtain ⟨h6, _, _, e6⟩ := rdS_back h3
    obtain ⟨_, e7⟩ := stG_back _ _ h6
    rw [e6, h4, List.append_nil] at e7
    have f1 := unintB_form h1
    have f2 := unintB_form h2
    have hl : ((chG ep n r2).mem.length : Int) = n := by rw [chG_len]; omega
    rw [hl]
    show intB ep ++ (intB n ++ (memsB ((List.range n.toNat).map (memG (r2, true))) ++ intB (rdN (stG (r2, true) n.toNat)))) = l
    simp only at e7
    rw [← e7, f2.1, f1.1]
  · left; rfl
def pairsF : List Int → List (Int × Int)
  | a :: b :: r => (a, b) :: pairsF r
  | _ => []
/-- The chain of numbers. -/
def ofNums (xs : List Int) : ChM := ⟨xs.getD 0 0, pairsF ((xs.drop 2).dropLast), xs.getD (xs.length - 1) 0⟩
/-- The document's chain of bytes. -/
def rgetM (l : List UInt8) : ChM × Int :=
  if ((numsB l).getD []).length < 5 ∨ ((numsB l).getD []).length % 2 = 0 then (chZ, 10) else
    if okCh (ofNums ((numsB l).getD [])) = true ∧ (putM (ofNums ((numsB l).getD []))).1 = l then (ofNums ((numsB l).getD []), 0) else (chZ, 10)
def flatM : List (Int × Int) → List Int
  | [] => []
  | m :: ms => m.1 :: m.2 :: flatM ms
end Go.Proofs.Ytlphkjbadjdleaa
