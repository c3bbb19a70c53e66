/-
  Records that are made of small calls, and what is told of them. No condition.
-/
import Derived.Test.YtlphkjbadjdleaaLinN
import Derived.Test.YtlphkjbadjdleaaLinG
namespace Go.Proofs.Ytlphkjbadjdleaa
theorem lchk_len (l : List RecM) (d : List EntM) (z : Int) (n m : Nat) (v1 v2 : Value) (w : World) (hn : l.length = n) (hm : d.length = m) (hv1 : SliceV w v1 14 n (recF l)) (hv2 : SliceV w v2 7 m (entF' d)) (hl : l.length ≤ 100000) (hd : d.length ≤ 4000) (hz : chkL l d = z) :
    Calls Try.prog 25 #[v1, v2] w fun e w' => e = .returned (.int .i64 z) ∧ w.grownBy w' none := by
  subst hn hm
  exact lchk_at l d z v1 v2 w hv1 hv2 hl hd hz
theorem beq_false {r p : Nat} (h : ¬ r = p) : Nat.beq r p = false := by
  cases hb : Nat.beq r p with
  | false => rfl
  | true => exact absurd (Nat.eq_of_beq_eq_true hb) h
theorem getD_set_self {α : Type} {l : List α} {p : Nat} {x z : α} (h : p < l.length) : (l.set p x).getD p z = x := by
  rw [List.getD_eq_getElem?_getD, List.getElem?_set_self h]; rfl
theorem getD_set_ne {α : Type} {l : List α} {p r : Nat} {x z : α} (h : ¬ r = p) : (l.set p x).getD r z = l.getD r z := by
  rw [List.getD_eq_getElem?_getD, List.getElem?_set_ne (fun e => h e.symm), ← List.getD_eq_getElem?_getD]
theorem recF_set {R : List RecM} {p n c0 : Nat} {f : Nat → Nat → Value} {vs : List Value} {r' : RecM} (hp : p < R.length) (hf : ∀ r c, r < n → c < 14 → f r c = recF R r c)
    (hc : ∀ c, c < 14 → (match Nat.ble c0 c && Nat.blt c (c0 + vs.length) with | true => vs.getD (c - c0) undef | false => (recC (R.getD p recZ)).getD c undef) = (recC r').getD c undef) :
    ∀ r c, r < n → c < 14 → updR f p c0 vs r c = recF (R.set p r') r c := fun r c hr hcz => by
  have hfr := hf r c hr hcz
  show updR f p c0 vs r c = (recC ((R.set p r').getD r recZ)).getD c undef
  by_cases h : r = p
  · subst h
    rw [getD_set_self hp, ← hc c hcz]
    unfold updR
    rw [show Nat.beq r r = true from Nat.beq_refl r, Bool.true_and, hfr]
    rfl
  · rw [getD_set_ne h]
    unfold updR
    rw [beq_false h, Bool.false_and, hfr]
    rfl
theorem recF_snoc {R : List RecM} {n : Nat} {f g : Nat → Nat → Value} (x : RecM) (hn : R.length = n) (hf : ∀ r c, r < n → c < 14 → f r c = recF R r c) (hg : ∀ c, c < 14 → g 0 c = (recC x).getD c undef) : ∀ r c, r < n + 1 → c < 14 → rowsApp n f g r c = recF (R ++ [x]) r c := by
  subst hn
  refine rowsApp_one (fun r c hr hc => ?_) (fun c hc => ?_)
  · rw [hf r c hr hc]
    show (recC (R.getD r recZ)).getD c undef = (recC ((R ++ [x]).getD r recZ)).getD c undef
    rw [getD_lt hr]
  · rw [hg c hc]
    show _ = (recC ((R ++ [x]).getD R.length recZ)).getD c undef
    rw [getD_len]
def boolF (us : List Bool) : Nat → Nat → Value := fun r _ => .bool (us.getD r false)
theorem boolF_set {us : List Bool} {p n : Nat} {b : Bool} (hp : p < us.length) : ∀ r c, r < n → c < 1 → updR (boolF us) p 0 [.bool b] r c = boolF (us.set p b) r c := fun r c _ hc => by
  obtain rfl : c = 0 := by omega
  unfold boolF updR
  by_cases h : r = p
  · subst h
    rw [getD_set_self hp, show Nat.beq r r = true from Nat.beq_refl r]
    rfl
  · rw [getD_set_ne h, beq_false h]
    rfl
theorem boolF_0 {n m : Nat} : ∀ r c, r < m → c < 1 → ([Value.bool false] : List Value).getD c undef = boolF (List.replicate n false) r c := fun r c _ hc => by
  obtain rfl : c = 0 := by omega
  have : (List.replicate n false).getD r false = false := by
    rw [List.getD_eq_getElem?_getD, List.getElem?_replicate]
    split <;> rfl
  unfold boolF
  rw [this]
  rfl
/-- The records, as they begin. -/
def recL (l : List SmlM) : List RecM := (List.range l.length).map fun i => smlR (l.getD i smlZ) i
theorem recL_len (l : List SmlM) : (recL l).length = l.length := by simp [recL]
theorem recL_at {l : List SmlM} {i : Nat} (h : i < l.length) : (recL l).getD i recZ = smlR (l.getD i smlZ) i := by
  unfold recL
  rw [List.getD_eq_getElem?_getD, List.getElem?_map, List.getElem?_range h]
  rfl
/-- But for what they told they are as they were. -/
structure RecOK (l : List SmlM) (R : List RecM) : Prop where
  len : R.length = l.length
  same : ∀ i, i < l.length → ∃ q, R.getD i recZ = { smlR (l.getD i smlZ) i with res := q }
theorem recOK_0 (l : List SmlM) : RecOK l (recL l) := ⟨recL_len l, fun i hi => ⟨(smlR (l.getD i smlZ) i).res, recL_at hi⟩⟩
theorem RecOK.set {l : List SmlM} {R : List RecM} (h : RecOK l R) {p : Nat} (hp : p < l.length) (q : ResM) : RecOK l (R.set p { R.getD p recZ with res := q }) := by
  refine ⟨by rw [List.length_set]; exact h.len, fun i hi => ?_⟩
  by_cases e : i = p
  · subst e
    obtain ⟨q', hq⟩ := h.same i hi
    rw [getD_set_self (by rw [h.len]; exact hi), hq]
    exact ⟨q, rfl⟩
  · rw [getD_set_ne e]
    exact h.same i hi
theorem RecOK.seq {l : List SmlM} {R : List RecM} (h : RecOK l R) {i : Nat} (hi : i < l.length) : (R.getD i recZ).seq = (i : Int) + 1 := by
  obtain ⟨q, hq⟩ := h.same i hi
  rw [hq]; rfl
theorem RecOK.op {l : List SmlM} {R : List RecM} (h : RecOK l R) {i : Nat} (hi : i < l.length) : (R.getD i recZ).op = smlO (l.getD i smlZ) := by
  obtain ⟨q, hq⟩ := h.same i hi
  rw [hq]; rfl
/-- One more is done. -/
def entR (D : List EntM) (r : RecM) : EntM := ⟨(D.length : Int) + 1, r.client, r.seq, r.op⟩
theorem storeN_entR (D : List EntM) (r : RecM) : storeN (D ++ [entR D r]) (D ++ [entR D r]).length = (applyM (storeN D D.length) ((D.length : Int) + 1) r.op).1 := by
  rw [List.length_append]
  show (applyM (storeN (D ++ [entR D r]) D.length) ((D.length : Int) + 1) ((D ++ [entR D r]).getD D.length entZ).op).1 = _
  rw [storeN_app D [entR D r] D.length (Nat.le_refl _), getD_len]
  rfl
/-- What it tells, if it was done. -/
def setDone (R : List RecM) (p : Nat) (q : ResM) : List RecM := if (R.getD p recZ).okind = 1 then R.set p { R.getD p recZ with res := q } else R
theorem RecOK.done {l : List SmlM} {R : List RecM} (h : RecOK l R) {p : Nat} (hp : p < l.length) (q : ResM) : RecOK l (setDone R p q) := by
  unfold setDone
  split
  · exact h.set hp q
  · exact h
end Go.Proofs.Ytlphkjbadjdleaa
