/-
  Mail that is on its way: Copy. No condition.
-/
import Derived.Test.YtfniieigeofbdaaLk5
namespace Go.Proofs.Ytfniieigeofbdaa
section
variable {w0 : World} {U : Nat → Prop}
/-- A pair's mail, cloned, beside what is sealed. -/
theorem PairS.clone {p : PairT} {n : Nat} {W : PairT → List (List UInt8)} {F : PairT → Value} {Z : Nat → Prop} {Q : World → Prop} (hk : PairS W F Z Q) {l : List (List UInt8)} (hn : l.length = n) (h0 : 0 < n) (hle : n ≤ 1000000)
    {H : List HE} {K : SV → List HE → Prop} {j : Nat} (hj : getH H j = .res true Z Q) {v : Value} (hy : ∀ ρ w, HRel w0 U ρ H w → SliceV w v 1 n (textF l))
    (hK : ∀ gb cap Z' Q', PairS (fun r => if r = p then l else W r) (fun r => if r = p then .slice (some ⟨gb, 0, none⟩) n cap else F r) Z' Q' → setHK H j (.res true Z' Q') fun H' => K (.v (.slice (some ⟨gb, 0, none⟩) n cap)) H') :
    CallN Try.prog w0 U 58 [.v v] H K :=
  ⟨fun ρ w hr => by
    subst hn
    have hj' := getH_res hj
    obtain ⟨hQ, hZ, _⟩ := hr.at.ent j _ hj'
    refine (cloneS v l.length (textF l) w (hy ρ w hr) (fun r c _ _ => textF_one _ r c) hle).mono fun e' w' ⟨v', he, ho, hg⟩ => ?_
    obtain ⟨hcl, ⟨_, h00⟩ | ⟨g, cap, cur, hv, hb, h1, h2, h3, h4⟩⟩ := ho
    · omega
    · have hgo : ¬ ∃ r, r ≠ p ∧ (F r).ownBlock = some g := fun ⟨r, _, h⟩ => by
        have := hZ g (hk.blk r g h)
        omega
      have hgl : g < w'.heap.size := Blk.lt (t := 9) (cs := cur) h1
      have hP := hk.set (l := l) (cap := cap) hgo
      refine ⟨.v (.slice (some ⟨g, 0, none⟩) l.length cap), _, ρ, fun ρ'' _ => by rw [he, hv]; rfl, fun ρ'' hs => ?_, Same.refl _ _, by simp, setHK_spec _ _ _ _ (hK g cap _ _ hP)⟩
      have hs : Same H.length ρ ρ'' := by simpa using hs
      have hfr : Fr Z w w' := ⟨hg.os, hg.tape, hg.output, hg.size, fun b hb _ => hg.block b hb (fun h => by cases h)⟩
      have := HOk.sealE (ρ := ρ) (E := []) (hr ρ'' hs) hj' hfr (Z1 := fun b => (∃ r, r ≠ p ∧ (F r).ownBlock = some b) ∨ b = g)
          (Q1 := fun u => (∀ r, r ≠ p → u.ownsRow 0 9 1 (F r) (W r).length (cellsF 1 (textF (W r)) (W r).length)) ∧ u.ownsRow 0 9 1 (.slice (some ⟨g, 0, none⟩) l.length cap) l.length (cellsF 1 (textF l) l.length))
          ⟨hk.other (fun b ⟨r, hne, hrb⟩ => hg.block b (hZ b (hk.blk r b hrb)) (fun h => by cases h)) (fun r _ => hk.fact w hQ r), ⟨hcl, .inr ⟨g, cap, cur, rfl, Nat.zero_le _, h1, h2, h3, h4⟩⟩⟩
          (fun b hb => ?_) (fun u1 u2 hs ⟨a1, a2⟩ => ⟨hk.other (fun b hb => hs b (.inl hb)) a1, ownsRow_stay (hs g (.inr rfl)) a2⟩) (fun k e h => by simp at h) (fun k k' e e' _ h => by simp at h)
      · simpa using this
      · rcases hb with ⟨r, _, h⟩ | rfl
        · exact ⟨.inl (hk.blk r b h), Nat.lt_of_lt_of_le (hZ b (hk.blk r b h)) hg.size⟩
        · exact ⟨.inr hb, hgl⟩⟩
end
/-- The mail of the pairs that were handed out. -/
def doneM (L : List MailM) (vis : List (Value × Value)) : List MailM := L.filter fun m => decide ((m.frm, m.to) ∈ vis.map fun p => unP p.1)
section
variable {cap : Int} {L : List MailM} {es : List (Value × Value)} {F : PairT → Value} {Z : Nat → Prop} {Q : World → Prop}
theorem MailE.put {L' : List MailM} (h : MailE L es F) (f t : Int) (v : Value) (hl : listM L' f t ≠ []) (hL : ∀ f' t', ¬ (f' = f ∧ t' = t) → listM L' f' t' = listM L f' t') : MailE L' (updE es (pairV f t) v) (fun r => if r = (f, t) then v else F r) := by
  obtain ⟨k1, k2, _⟩ := updE_keys (v := v) (pairV_ok f t) h.keys h.nodup
  refine ⟨k1, k2, fun f' t' => ?_, fun f' t' hn => ?_⟩
  · rw [lookE_upd (pairV_ok f t) (pairV_ok f' t') h.keys, pairV_eq, h.look]
    by_cases e : f' = f ∧ t' = t
    · obtain ⟨rfl, rfl⟩ := e
      rw [if_neg hl]
      simp
    · have e2 : ¬ (f', t') = (f, t) := fun h => e (by simpa using h)
      have e3 : (decide (f' = f) && decide (t' = t)) = false := by simpa using e
      rw [hL f' t' e]
      simp only [e3, Bool.false_eq_true, if_false, if_neg e2]
  · by_cases e : f' = f ∧ t' = t
    · obtain ⟨rfl, rfl⟩ := e
      exact absurd hn hl
    · have e2 : ¬ (f', t') = (f, t) := fun h => e (by simpa using h)
      rw [hL f' t' e] at hn
      simp only [if_neg e2]
      exact h.nil f' t' hn
/-- What a copy has so far. -/
structure CopyS where
  vis : List (Value × Value)
  es : List (Value × Value)
  F : PairT → Value
  Z : Nat → Prop
  Q : World → Prop
/-- A copy, behind what it is one of. -/
abbrev copyH (cap : Int) (es : List (Value × Value)) (Z : Nat → Prop) (Q : World → Prop) (es2 : List (Value × Value)) (Z2 : Nat → Prop) (Q2 : World → Prop) : List HE :=
  [linksE cap, .mp true pairZ es none, .res true Z Q, .blk 81 [.v (.int .i64 cap), .m 4], .mp true pairZ es2 none, .res true Z2 Q2]
def CopyR (cap : Int) (L : List MailM) (es : List (Value × Value)) (Z : Nat → Prop) (Q : World → Prop) (H1 : List HE) : Prop := ∃ es2 F2 Z2 Q2, H1 = copyH cap es Z Q es2 Z2 Q2 ∧ MailE L es2 F2 ∧ PairS (fun p => listM L p.1 p.2) F2 Z2 Q2
end
end Go.Proofs.Ytfniieigeofbdaa
