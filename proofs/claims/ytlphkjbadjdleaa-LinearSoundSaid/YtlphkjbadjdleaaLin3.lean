/-
  What is read behind so many entries: lists that are told by a fact. No condition.
-/
import Derived.Test.YtlphkjbadjdleaaLin1
namespace Go.Proofs.Ytlphkjbadjdleaa
theorem leV_v {σ : List (Option Nat)} {x : Value} : leV σ (.v x) (.v x) := by cases x <;> first | rfl | exact .inl ⟨rfl, rfl⟩
def keyRow (F : Nat → Value) : Nat → Nat → Value := fun r _ => F r
def wordF (ws : List (List UInt8)) : Nat → Nat → Value := fun r _ => S (ws.getD r [])
structure KeyS (n : Nat) (W : Nat → List (List UInt8)) (F : Nat → Value) (Z : Nat → Prop) (Q : World → Prop) : Prop where
  form : ∀ r, r < n → (F r = .slice none 0 0 ∧ W r = []) ∨ ∃ gb cap, F r = .slice (some ⟨gb, 0, none⟩) (W r).length cap
  dis : ∀ r r' b, r < n → r' < n → r ≠ r' → (F r).ownBlock = some b → (F r').ownBlock ≠ some b
  blk : ∀ r b, r < n → (F r).ownBlock = some b → Z b
  fact : ∀ u : World, Q u → ∀ r, r < n → u.ownsRow 0 9 1 (F r) (W r).length (cellsF 1 (wordF (W r)) (W r).length)
theorem KeyS.zero (n : Nat) (W : Nat → List (List UInt8)) (hW : ∀ r, W r = []) : KeyS n W (fun _ => .slice none 0 0) (fun _ => False) (fun _ => True) :=
  ⟨fun r _ => .inl ⟨rfl, hW r⟩, fun r r' b _ _ _ h => by simp [Value.ownBlock] at h, fun r b _ h => by simp [Value.ownBlock] at h, fun u _ r _ => by rw [hW r]; exact ⟨rfl, .inl ⟨rfl, rfl⟩⟩⟩
theorem KeyS.congr {n : Nat} {W W' : Nat → List (List UInt8)} {F : Nat → Value} {Z : Nat → Prop} {Q : World → Prop} (h : KeyS n W F Z Q) (e : ∀ r, W' r = W r) : KeyS n W' F Z Q := by
  have : W' = W := funext e
  rw [this]
  exact h
theorem keyRow_upd {F : Nat → Value} {p : Nat} {v : Value} {n : Nat} : ∀ r c, r < n → c < 1 → updR (keyRow F) p 0 [v] r c = keyRow (fun r => if r = p then v else F r) r c := fun r c _ hc => by
  obtain rfl : c = 0 := by omega
  by_cases h : r = p
  · subst h
    simp [updR, keyRow, show Nat.ble 0 0 = true from rfl, show Nat.blt 0 1 = true from rfl]
  · have : Nat.beq r p = false := by
      cases hb : Nat.beq r p with
      | false => rfl
      | true => exact absurd (Nat.eq_of_beq_eq_true hb) h
    simp [updR, keyRow, h, this]
/-- One more is read behind so many entries. -/
theorem KeyS.app {n p m : Nat} {W : Nat → List (List UInt8)} {F : Nat → Value} {Z : Nat → Prop} {Q : World → Prop} (hk : KeyS n W F Z Q) (hp : p < n) {v : Value} (hv : F p = v) (hm : (W p).length = m)
    {H : List HE} {by_ : Nat} {g : Nat → Nat → Value} {K : SV → List HE → Prop} {k : List UInt8} {j : Nat} (hj : getH H j = .res true Z Q) (hb : m + 1 ≤ 9223372036854775807 ∧ (m + 1) * by_ ≤ 140737488355328) (hg : g 0 0 = S k)
    (hK : ∀ gb cap Z' Q', KeyS n (fun r => if r = p then W r ++ [k] else W r) (fun r => if r = p then .slice (some ⟨gb, 0, none⟩) (m + 1) cap else F r) Z' Q' → setHK H j (.res true Z' Q') fun H' => K (.v (.slice (some ⟨gb, 0, none⟩) (m + 1) cap)) H') :
    AppI H 9 1 by_ v m 1 g K := by
  subst hv
  let Zr : Nat → Prop := fun b => ∃ r, r < n ∧ r ≠ p ∧ (F r).ownBlock = some b
  let R : World → Prop := fun u => ∀ r, r < n → r ≠ p → u.ownsRow 0 9 1 (F r) (W r).length (cellsF 1 (wordF (W r)) (W r).length)
  refine ⟨j, Z, Zr, Q, R, wordF (W p), getH_res hj, ⟨by omega, hb⟩, ⟨fun b ⟨r, hr, _, h⟩ => hk.blk r b hr h, fun b h => ⟨hk.blk p b hp h, fun ⟨r, hr, hne, h'⟩ => hk.dis r p b hr hp hne h' h⟩⟩, fun w hq => ⟨hm ▸ hk.fact w hq p hp, fun r hr _ => hk.fact w hq r hr⟩, ?_, fun gb cap hgb => hK gb cap _ _ ?_⟩
  · intro w1 w2 hs h r hr hne
    have hh := h r hr hne
    rcases hk.form r hr with ⟨e, e2⟩ | ⟨gb, cap, e⟩
    · rw [e, e2]
      exact ⟨rfl, .inl ⟨rfl, rfl⟩⟩
    · have := hs gb ⟨r, hr, hne, by rw [e]; rfl⟩
      rw [e] at hh ⊢
      exact ownsRow_stay this hh
  · have ob : ∀ r b, (if r = p then Value.slice (some ⟨gb, 0, none⟩) (m + 1) cap else F r).ownBlock = some b → (r = p ∧ b = gb) ∨ (r ≠ p ∧ (F r).ownBlock = some b) := fun r b h => by
      by_cases hr : r = p
      · rw [if_pos hr] at h
        simp only [Value.ownBlock, Option.some.injEq] at h
        exact .inl ⟨hr, h.symm⟩
      · rw [if_neg hr] at h
        exact .inr ⟨hr, h⟩
    refine ⟨fun r hr => ?_, fun r r' b hr hr' hne h h' => ?_, fun r b hr h => ?_, fun u ⟨hu, hn⟩ r hr => ?_⟩
    · by_cases h : r = p
      · simp only [if_pos h]
        exact .inr ⟨gb, cap, by simp [h, hm]⟩
      · simp only [if_neg h]
        exact hk.form r hr
    · rcases ob r b h with ⟨e1, e2⟩ | ⟨e1, e2⟩ <;> rcases ob r' b h' with ⟨e3, e4⟩ | ⟨e3, e4⟩
      · exact hne (e1.trans e3.symm)
      · exact hgb ⟨r', hr', e3, by rw [e4, e2]⟩
      · exact hgb ⟨r, hr, e1, by rw [e2, e4]⟩
      · exact hk.dis r r' b hr hr' hne e2 e4
    · rcases ob r b h with ⟨e1, e2⟩ | ⟨e1, e2⟩
      · exact .inr e2
      · exact .inl ⟨r, hr, e1, e2⟩
    · by_cases h : r = p
      · simp only [if_pos h]
        subst h
        have e : (W r ++ [k]).length = m + 1 := by simp [hm]
        rw [e]
        rw [← cellsF_congr (m + 1) (f := rowsApp m (wordF (W r)) g) (g := wordF (W r ++ [k])) fun r' c hr' hc => ?_]
        · exact hn
        · obtain rfl : c = 0 := by omega
          unfold rowsApp wordF
          by_cases hlt : r' < m
          · rw [if_pos hlt, getD_lt (by omega)]
          · rw [if_neg hlt, show r' - m = 0 by omega, hg, show r' = (W r).length by omega, getD_len]
      · simp only [if_neg h]
        exact hu r hr h
/-- One of those is read. -/
theorem KeyS.cell {n p j : Nat} {W : Nat → List (List UInt8)} {F : Nat → Value} {Z : Nat → Prop} {Q : World → Prop} (hk : KeyS n W F Z Q) (hp : p < n) {gb len cap : Nat} (hv : F p = .slice (some ⟨gb, 0, none⟩) len cap)
    {H : List HE} {i : Nat} (hi : getH H i = .res true Z Q) {a : Addr} (ha : a.block = gb ∧ a.off = j) (hj : j < (W p).length) :
    ∀ (w0 : World) (U : Nat → Prop) (ρ : Loc) (w : World), HOk w0 U ρ H w → ∀ q v, [S ((W p).getD j [])][q]? = some v → w.cell? ⟨a.block, a.off + q, none⟩ = some v := fun w0 U ρ w hh q v hq => by
  have hq0 : q = 0 := by
    rcases q with _ | q
    · rfl
    · simp at hq
  subst hq0
  simp only [List.getElem?_cons_zero, Option.some.injEq] at hq
  have hQ := (hh.ent i _ (getH_res hi)).1
  obtain ⟨x, c, e, _, _, hr⟩ := own_sl (hk.fact w hQ p hp)
  rw [hv] at e
  injection e with e1 _ _
  obtain ⟨b, off, e2, hb, hc⟩ := hr (by omega)
  rw [e2] at e1
  injection e1 with e1
  injection e1 with e3 e4
  have := hc j 0 hj (by omega)
  rw [ha.1, ha.2, ← hq, e3, show j + 0 = off + j * 1 + 0 by omega]
  exact this
end Go.Proofs.Ytlphkjbadjdleaa
