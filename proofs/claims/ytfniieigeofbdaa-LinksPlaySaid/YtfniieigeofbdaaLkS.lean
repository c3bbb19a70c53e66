/-
  Mail, pair by pair: lists that are told by a fact. No condition.
-/
import Derived.Test.YtfniieigeofbdaaP6
import Derived.Test.YtfniieigeofbdaaLkM
namespace Go.Proofs.Ytfniieigeofbdaa
abbrev PairT : Type := Int × Int
def textF (ws : List (List UInt8)) : Nat → Nat → Value := fun r _ => S (ws.getD r [])
structure PairS (W : PairT → List (List UInt8)) (F : PairT → Value) (Z : Nat → Prop) (Q : World → Prop) : Prop where
  form : ∀ r, (F r = .slice none 0 0 ∧ W r = []) ∨ ∃ gb cap, F r = .slice (some ⟨gb, 0, none⟩) (W r).length cap
  dis : ∀ r r' b, r ≠ r' → (F r).ownBlock = some b → (F r').ownBlock ≠ some b
  blk : ∀ r b, (F r).ownBlock = some b → Z b
  fact : ∀ u : World, Q u → ∀ r, u.ownsRow 0 9 1 (F r) (W r).length (cellsF 1 (textF (W r)) (W r).length)
theorem PairS.zero (W : PairT → List (List UInt8)) (hW : ∀ r, W r = []) : PairS W (fun _ => .slice none 0 0) (fun _ => False) (fun _ => True) :=
  ⟨fun r => .inl ⟨rfl, hW r⟩, fun r r' b _ h => by simp [Value.ownBlock] at h, fun r b h => by simp [Value.ownBlock] at h, fun u _ r => by rw [hW r]; exact ⟨rfl, .inl ⟨rfl, rfl⟩⟩⟩
theorem PairS.congr {W W' : PairT → List (List UInt8)} {F F' : PairT → Value} {Z : Nat → Prop} {Q : World → Prop} (h : PairS W F Z Q) (e : ∀ r, W' r = W r) (e2 : ∀ r, F' r = F r) : PairS W' F' Z Q := by
  have : W' = W := funext e
  rw [this]
  have : F' = F := funext e2
  rw [this]
  exact h
/-- All facts but those of one pair; and what else is said (R, of the blocks Zr), with one pair's list another one. -/
theorem PairS.other {p : PairT} {W : PairT → List (List UInt8)} {F : PairT → Value} {Z : Nat → Prop} {Q : World → Prop} (hk : PairS W F Z Q) {w1 w2 : World} (hs : ∀ b, (∃ r, r ≠ p ∧ (F r).ownBlock = some b) → w2.heap[b]? = w1.heap[b]?)
    (h : ∀ r, r ≠ p → w1.ownsRow 0 9 1 (F r) (W r).length (cellsF 1 (textF (W r)) (W r).length)) : ∀ r, r ≠ p → w2.ownsRow 0 9 1 (F r) (W r).length (cellsF 1 (textF (W r)) (W r).length) := by
  intro r hne
  have hh := h r hne
  rcases hk.form r with ⟨e, e2⟩ | ⟨gb, cap, e⟩
  · rw [e, e2]
    exact ⟨rfl, .inl ⟨rfl, rfl⟩⟩
  · have := hs gb ⟨r, hne, by rw [e]; rfl⟩
    rw [e] at hh ⊢
    exact ownsRow_stay this hh
/-- One pair's list is another one, in a block that is none of the others'. -/
theorem PairS.set {p : PairT} {W : PairT → List (List UInt8)} {F : PairT → Value} {Z : Nat → Prop} {Q : World → Prop} (hk : PairS W F Z Q) {l : List (List UInt8)} {gb cap : Nat} (hgb : ¬ ∃ r, r ≠ p ∧ (F r).ownBlock = some gb) :
    PairS (fun r => if r = p then l else W r) (fun r => if r = p then .slice (some ⟨gb, 0, none⟩) l.length cap else F r) (fun b => (∃ r, r ≠ p ∧ (F r).ownBlock = some b) ∨ b = gb)
      (fun u => (∀ r, r ≠ p → u.ownsRow 0 9 1 (F r) (W r).length (cellsF 1 (textF (W r)) (W r).length)) ∧ u.ownsRow 0 9 1 (.slice (some ⟨gb, 0, none⟩) l.length cap) l.length (cellsF 1 (textF l) l.length)) := by
  have ob : ∀ r b, (if r = p then Value.slice (some ⟨gb, 0, none⟩) l.length cap else F r).ownBlock = some b → (r = p ∧ b = gb) ∨ (r ≠ p ∧ (F r).ownBlock = some b) := fun r b h => by
    by_cases hr : r = p
    · rw [if_pos hr] at h
      simp only [Value.ownBlock, Option.some.injEq] at h
      exact .inl ⟨hr, h.symm⟩
    · rw [if_neg hr] at h
      exact .inr ⟨hr, h⟩
  refine ⟨fun r => ?_, fun r r' b hne h h' => ?_, fun r b h => ?_, fun u ⟨hu, hn⟩ r => ?_⟩
  · by_cases h : r = p
    · simp only [if_pos h]
      exact .inr ⟨gb, cap, rfl⟩
    · simp only [if_neg h]
      exact hk.form r
  · rcases ob r b h with ⟨e1, e2⟩ | ⟨e1, e2⟩ <;> rcases ob r' b h' with ⟨e3, e4⟩ | ⟨e3, e4⟩
    · exact hne (e1.trans e3.symm)
    · exact hgb ⟨r', e3, by rw [e4, e2]⟩
    · exact hgb ⟨r, e1, by rw [e2, e4]⟩
    · exact hk.dis r r' b hne e2 e4
  · rcases ob r b h with ⟨e1, e2⟩ | ⟨e1, e2⟩
    · exact .inr e2
    · exact .inl ⟨r, e1, e2⟩
  · by_cases h : r = p
    · simp only [if_pos h]
      exact hn
    · simp only [if_neg h]
      exact hu r h
/-- One more text is laid behind a pair's. -/
theorem PairS.app {p : PairT} {m : Nat} {W : PairT → List (List UInt8)} {F : PairT → Value} {Z : Nat → Prop} {Q : World → Prop} (hk : PairS W F Z Q) {v : Value} (hv : F p = v) (hm : (W p).length = m)
    {H : List HE} {by_ : Nat} {g : Nat → Nat → Value} {K : SV → List HE → Prop} {k : List UInt8} {j : Nat} (hj : getH H j = .res true Z Q) (hb : m + 1 ≤ 9223372036854775807 ∧ (m + 1) * by_ ≤ 140737488355328) (hg : g 0 0 = S k)
    (hK : ∀ gb cap Z' Q', PairS (fun r => if r = p then W p ++ [k] else W r) (fun r => if r = p then .slice (some ⟨gb, 0, none⟩) (m + 1) cap else F r) Z' Q' → setHK H j (.res true Z' Q') fun H' => K (.v (.slice (some ⟨gb, 0, none⟩) (m + 1) cap)) H') :
    AppI H 9 1 by_ v m 1 g K := by
  subst hv
  let Zr : Nat → Prop := fun b => ∃ r, r ≠ p ∧ (F r).ownBlock = some b
  let R : World → Prop := fun u => ∀ r, r ≠ p → u.ownsRow 0 9 1 (F r) (W r).length (cellsF 1 (textF (W r)) (W r).length)
  have e : (W p ++ [k]).length = m + 1 := by simp [hm]
  refine ⟨j, Z, Zr, Q, R, textF (W p), getH_res hj, ⟨by omega, hb⟩, ⟨fun b ⟨r, _, h⟩ => hk.blk r b h, fun b h => ⟨hk.blk p b h, fun ⟨r, hne, h'⟩ => hk.dis r p b hne h' h⟩⟩, fun w hq => ⟨hm ▸ hk.fact w hq p, fun r _ => hk.fact w hq r⟩, ?_, fun gb cap hgb => ?_⟩
  · exact fun w1 w2 hs h => hk.other hs h
  · have hP := hk.set (l := W p ++ [k]) (cap := cap) hgb
    rw [e] at hP
    have hcell : cellsF 1 (textF (W p ++ [k])) (m + 1) = cellsF 1 (rowsApp m (textF (W p)) g) (m + 1) := by
      refine (cellsF_congr (m + 1) fun r' c hr' hc => ?_).symm
      obtain rfl : c = 0 := by omega
      unfold rowsApp textF
      by_cases hlt : r' < m
      · rw [if_pos hlt, getD_lt (by omega)]
      · rw [if_neg hlt, show r' - m = 0 by omega, hg, show r' = (W p).length by omega, getD_len]
    rw [hcell] at hP
    exact hK gb cap _ _ hP
/-- One of those is read. -/
theorem PairS.cell {p : PairT} {j : Nat} {W : PairT → List (List UInt8)} {F : PairT → Value} {Z : Nat → Prop} {Q : World → Prop} (hk : PairS W F Z Q) {gb len cap : Nat} (hv : F p = .slice (some ⟨gb, 0, none⟩) len cap)
    {H : List HE} {i : Nat} (hi : getH H i = .res true Z Q) {a : Addr} (ha : a.block = gb ∧ a.off = j) (hj : j < (W p).length) :
    ∀ (w0 : World) (U : Nat → Prop) (ρ : Loc) (w : World), HOk w0 U ρ H w → ∀ q v, [S ((W p).getD j [])][q]? = some v → w.cell? ⟨a.block, a.off + q, none⟩ = some v := fun w0 U ρ w hh q v hq => by
  have hq0 : q = 0 := by
    rcases q with _ | q
    · rfl
    · simp at hq
  subst hq0
  simp only [List.getElem?_cons_zero, Option.some.injEq] at hq
  have hQ := (hh.ent i _ (getH_res hi)).1
  obtain ⟨x, c, e, _, _, hr⟩ := own_sl (hk.fact w hQ p)
  rw [hv] at e
  injection e with e1 _ _
  obtain ⟨b, off, e2, hb, hc⟩ := hr (by omega)
  rw [e2] at e1
  injection e1 with e1
  injection e1 with e3 e4
  have := hc j 0 hj (by omega)
  rw [ha.1, ha.2, ← hq, e3, show j + 0 = off + j * 1 + 0 by omega]
  exact this
/-- A pair that has nothing left has no list. -/
theorem PairS.drop {p : PairT} {W : PairT → List (List UInt8)} {F : PairT → Value} {Z : Nat → Prop} {Q : World → Prop} (hk : PairS W F Z Q) (hp : W p = []) : PairS W (fun r => if r = p then .slice none 0 0 else F r) Z Q := by
  have ob : ∀ r b, (if r = p then Value.slice none 0 0 else F r).ownBlock = some b → r ≠ p ∧ (F r).ownBlock = some b := fun r b h => by
    by_cases hr : r = p
    · rw [if_pos hr] at h
      simp [Value.ownBlock] at h
    · rw [if_neg hr] at h
      exact ⟨hr, h⟩
  refine ⟨fun r => ?_, fun r r' b hne h h' => hk.dis r r' b hne (ob r b h).2 (ob r' b h').2, fun r b h => hk.blk r b (ob r b h).2, fun u hu r => ?_⟩
  · by_cases h : r = p
    · subst h
      exact .inl ⟨if_pos rfl, hp⟩
    · simp only [if_neg h]
      exact hk.form r
  · by_cases h : r = p
    · subst h
      rw [if_pos rfl, hp]
      exact ⟨rfl, .inl ⟨rfl, rfl⟩⟩
    · simp only [if_neg h]
      exact hk.fact u hu r
abbrev pairZ : List Value := [.int .i64 0, .int .i64 0]
def pairV (f t : Int) : Value := .agg ⟨[.int .i64 f, .int .i64 t]⟩
theorem pairV_eq (f t f' t' : Int) : keyEq (pairV f t) (pairV f' t') = (decide (f = f') && decide (t = t')) := by
  by_cases h1 : f = f' <;> by_cases h2 : t = t' <;> simp [pairV, keyEq, keyEqL, keyEq1, h1, h2]
theorem pairV_ok (f t : Int) : keyOK true pairZ (pairV f t) = true := rfl
theorem pairV_of {v : Value} (h : keyOK true pairZ v = true) : ∃ f t, v = pairV f t := by
  obtain ⟨xs, rfl, hx⟩ := keyOK_agg h
  rcases xs with _ | ⟨a, _ | ⟨b, _ | ⟨c, r⟩⟩⟩
  · simp [sameKinds] at hx
  · simp [sameKinds] at hx
  · simp only [sameKinds, Bool.and_eq_true, Bool.and_true] at hx
    obtain ⟨h1, h2⟩ := hx
    cases a <;> first | (simp [sameKind] at h1; done) | skip
    cases b <;> first | (simp [sameKind] at h2; done) | skip
    simp only [sameKind, beq_iff_eq] at h1 h2
    subst h1
    subst h2
    exact ⟨_, _, rfl⟩
  · simp [sameKinds] at hx
/-- The map's entries are the mail's pairs. -/
structure MailE (L : List MailM) (es : List (Value × Value)) (F : PairT → Value) : Prop where
  keys : ∀ p ∈ es, keyOK true pairZ p.1 = true
  nodup : (es.map (·.1)).Nodup
  look : ∀ f t, lookE es (pairV f t) = if listM L f t = [] then none else some (F (f, t))
  nil : ∀ f t, listM L f t = [] → F (f, t) = .slice none 0 0
end Go.Proofs.Ytfniieigeofbdaa
