/-
  Mail that is on its way: plain lists. No program in sight, no condition.
-/
import Derived.Test.YtfniieigeofbdaaP7
namespace Go.Proofs.Ytfniieigeofbdaa
structure MailM where
  frm : Int
  to : Int
  text : List UInt8
  deriving DecidableEq
def isP (f t : Int) (m : MailM) : Bool := m.frm == f && m.to == t
/-- The texts of a pair. -/
def listM (L : List MailM) (f t : Int) : List (List UInt8) := (L.filter (isP f t)).map (·.text)
theorem listM_app (L R : List MailM) (f t : Int) : listM (L ++ R) f t = listM L f t ++ listM R f t := by simp [listM]
theorem listM_one (m : MailM) (f t : Int) : listM [m] f t = if m.frm = f ∧ m.to = t then [m.text] else [] := by
  by_cases h1 : m.frm = f <;> by_cases h2 : m.to = t <;> simp [listM, isP, h1, h2]
/-- One of a pair is taken out. -/
def delM : List MailM → Int → Int → Nat → List MailM
  | [], _, _, _ => []
  | m :: r, f, t, i => if isP f t m then (match i with | 0 => r | i + 1 => m :: delM r f t i) else m :: delM r f t i
theorem listM_del : ∀ (L : List MailM) (f t : Int) (i : Nat), listM (delM L f t i) f t = (listM L f t).eraseIdx i
  | [], _, _, _ => by simp [delM, listM]
  | m :: r, f, t, i => by
    by_cases h : isP f t m = true
    · cases i with
      | zero => simp [delM, listM, h]
      | succ i =>
        have ih := listM_del r f t i
        simp only [listM] at ih
        simp [delM, listM, h, ih]
    · have ih := listM_del r f t i
      simp only [listM] at ih
      simp [delM, listM, h, ih]
theorem listM_del_ne : ∀ (L : List MailM) (f t : Int) (i : Nat) (f' t' : Int), ¬ (f' = f ∧ t' = t) → listM (delM L f t i) f' t' = listM L f' t'
  | [], _, _, _, _, _, _ => by simp [delM]
  | m :: r, f, t, i, f', t', hne => by
    have key : isP f t m = true → isP f' t' m = false := by
      intro h
      simp only [isP, Bool.and_eq_true, beq_iff_eq] at h
      simp only [isP, Bool.and_eq_false_iff, beq_eq_false_iff_ne]
      by_cases h1 : m.frm = f'
      · refine .inr fun h2 => hne ⟨by rw [← h1, h.1], by rw [← h2, h.2]⟩
      · exact .inl h1
    by_cases h : isP f t m = true
    · cases i with
      | zero => simp [delM, listM, h, key h]
      | succ i =>
        have ih := listM_del_ne r f t i f' t' hne
        simp only [listM] at ih
        simp [delM, listM, h, key h, ih]
    · have ih := listM_del_ne r f t i f' t' hne
      simp only [listM] at ih
      by_cases h' : isP f' t' m = true <;> simp [delM, listM, h, h', ih]
theorem delM_len : ∀ (L : List MailM) (f t : Int) (i : Nat), i < (listM L f t).length → (delM L f t i).length + 1 = L.length
  | [], _, _, _, h => by simp [listM] at h
  | m :: r, f, t, i, h => by
    by_cases hp : isP f t m = true
    · cases i with
      | zero => simp [delM, hp]
      | succ i =>
        have ih := delM_len r f t i (by simpa [listM, hp] using h)
        simp only [delM, hp, if_true, List.length_cons]
        omega
    · have ih := delM_len r f t i (by simpa [listM, hp] using h)
      simp only [delM, hp, Bool.false_eq_true, if_false, List.length_cons]
      omega
theorem delM_none : ∀ (L : List MailM) (f t : Int) (i : Nat), (listM L f t).length ≤ i → delM L f t i = L
  | [], _, _, _, _ => rfl
  | m :: r, f, t, i, h => by
    by_cases hp : isP f t m = true
    · cases i with
      | zero => simp [listM, hp] at h
      | succ i =>
        have ih := delM_none r f t i (by simpa [listM, hp] using h)
        simp only [delM, hp, if_true, ih]
    · have ih := delM_none r f t i (by simpa [listM, hp] using h)
      simp only [delM, hp, Bool.false_eq_true, if_false, ih]
/-- The addresses' pairs that have mail, in their order. -/
def pairsM (L : List MailM) : List (Int × Int) := (List.range 38).flatMap fun f : Nat => ((List.range 38).filter fun t : Nat => decide (0 < (listM L (f : Int) (t : Int)).length)).map fun t : Nat => ((f : Int), (t : Int))
theorem pairsM_mem {L : List MailM} {x : Int × Int} : x ∈ pairsM L ↔ (0 ≤ x.1 ∧ x.1 < 38) ∧ (0 ≤ x.2 ∧ x.2 < 38) ∧ 0 < (listM L x.1 x.2).length := by
  obtain ⟨f, t⟩ := x
  simp only [pairsM, List.mem_flatMap, List.mem_range, List.mem_map, List.mem_filter, decide_eq_true_eq, Prod.mk.injEq]
  constructor
  · rintro ⟨a, ha, b, ⟨hb, hc⟩, rfl, rfl⟩
    exact ⟨by omega, by omega, hc⟩
  · rintro ⟨⟨h1, h2⟩, ⟨h3, h4⟩, hc⟩
    refine ⟨f.toNat, by omega, t.toNat, ⟨by omega, ?_⟩, by omega, by omega⟩
    rw [Int.toNat_of_nonneg h1, Int.toNat_of_nonneg h3]
    exact hc
def ltP (a b : Int × Int) : Prop := a.1 < b.1 ∨ (a.1 = b.1 ∧ a.2 < b.2)
theorem pairsM_rise (L : List MailM) : (pairsM L).Pairwise ltP := by
  unfold pairsM
  rw [List.pairwise_flatMap]
  refine ⟨fun f _ => ?_, ?_⟩
  · rw [List.pairwise_map]
    exact (List.pairwise_lt_range.filter _).imp fun h => .inr ⟨rfl, by simpa using h⟩
  · refine List.pairwise_lt_range.imp fun {a b} h => ?_
    intro x hx y hy
    obtain ⟨_, _, rfl⟩ := List.mem_map.1 hx
    obtain ⟨_, _, rfl⟩ := List.mem_map.1 hy
    exact .inl (by simpa using h)
/-- Two rising lists of the same are one. -/
theorem rise_eq : ∀ {a b : List (Int × Int)}, a.Pairwise ltP → b.Pairwise ltP → (∀ x, x ∈ a ↔ x ∈ b) → a = b
  | [], [], _, _, _ => rfl
  | [], y :: b, _, _, h => by have := (h y).2 (by simp); simp at this
  | x :: a, [], _, _, h => by have := (h x).1 (by simp); simp at this
  | x :: a, y :: b, ha, hb, h => by
    rw [List.pairwise_cons] at ha hb
    have irr : ∀ z, ¬ ltP z z := fun z hz => by rcases hz with h | h <;> omega
    have asy : ∀ {u v}, ltP u v → ¬ ltP v u := fun {u v} h1 h2 => by rcases h1 with h1 | h1 <;> rcases h2 with h2 | h2 <;> omega
    have e : x = y := by
      rcases List.mem_cons.1 ((h x).1 (by simp)) with e | hx
      · exact e
      · rcases List.mem_cons.1 ((h y).2 (by simp)) with e | hy
        · exact e.symm
        · exact absurd (hb.1 x hx) (asy (ha.1 y hy))
    subst e
    rw [rise_eq ha.2 hb.2 fun z => ?_]
    constructor
    · intro hz
      rcases List.mem_cons.1 ((h z).1 (List.mem_cons_of_mem _ hz)) with rfl | h1
      · exact absurd (ha.1 _ hz) (irr _)
      · exact h1
    · intro hz
      rcases List.mem_cons.1 ((h z).2 (List.mem_cons_of_mem _ hz)) with rfl | h1
      · exact absurd (hb.1 _ hz) (irr _)
      · exact h1
/-- All mail is that of all pairs. -/
theorem sum_pairs {keys : List (Int × Int)} (hn : keys.Nodup) : ∀ {L : List MailM}, (∀ m ∈ L, (m.frm, m.to) ∈ keys) → (keys.map fun k => (listM L k.1 k.2).length).sum = L.length
  | [], _ => by
    have : (keys.map fun k => (listM [] k.1 k.2).length) = keys.map fun _ => 0 := by simp [listM]
    rw [this]
    clear hn this
    induction keys with
    | nil => rfl
    | cons k ks ih => simpa using ih (fun m hm => by simp at hm)
  | m :: L, h => by
    have ih := sum_pairs hn (L := L) fun x hx => h x (List.mem_cons_of_mem _ hx)
    have hm := h m (by simp)
    have hone : ∀ {ks : List (Int × Int)}, ks.Nodup → (ks.map fun k => (listM (m :: L) k.1 k.2).length).sum = (ks.map fun k => (listM L k.1 k.2).length).sum + if (m.frm, m.to) ∈ ks then 1 else 0 := by
      intro ks
      induction ks with
      | nil => intro _; simp
      | cons k ks ih =>
        intro hk
        rw [List.nodup_cons] at hk
        have e := ih hk.2
        have e2 : (listM (m :: L) k.1 k.2).length = (listM L k.1 k.2).length + if (m.frm, m.to) = k then 1 else 0 := by
          obtain ⟨a, b⟩ := k
          by_cases h1 : m.frm = a <;> by_cases h2 : m.to = b <;> simp [listM, isP, h1, h2]
        simp only [List.map_cons, List.sum_cons, e, e2, List.mem_cons]
        by_cases h1 : (m.frm, m.to) = k
        · have h2 : ¬ (m.frm, m.to) ∈ ks := by rw [h1]; exact hk.1
          simp only [h1, h2, true_or, if_true]
          rw [← h1, if_neg h2]
          omega
        · simp only [h1, false_or, if_false]
          omega
    rw [hone hn, ih, if_pos hm]
    rfl
end Go.Proofs.Ytfniieigeofbdaa
