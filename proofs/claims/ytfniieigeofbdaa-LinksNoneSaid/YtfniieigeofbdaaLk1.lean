/-
  Mail that is on its way: Count, All, List, find. No condition.
-/
import Derived.Test.YtfniieigeofbdaaLkD
import Derived.Test.YtfniieigeofbdaaLkE
namespace Go.Proofs.Ytfniieigeofbdaa
abbrev linksE (cap : Int) : HE := .blk 81 [.v (.int .i64 cap), .m 1]
abbrev linksH (cap : Int) (es : List (Value × Value)) (Z : Nat → Prop) (Q : World → Prop) : List HE := [linksE cap, .mp true pairZ es none, .res true Z Q]
section
variable {cap : Int} {L : List MailM} {es : List (Value × Value)} {F : PairT → Value} {Z : Nat → Prop} {Q : World → Prop}
/-- What a pair's key finds. -/
theorem MailE.found (hE : MailE L es F) (hP : PairS (fun p => listM L p.1 p.2) F Z Q) (f t : Int) :
    (lookE es (pairV f t) = none ∧ listM L f t = [] ∧ F (f, t) = .slice none 0 0) ∨ ∃ gb c n, lookE es (pairV f t) = some (.slice (some ⟨gb, 0, none⟩) n c) ∧ F (f, t) = .slice (some ⟨gb, 0, none⟩) n c ∧ (listM L f t).length = n ∧ 0 < n := by
  by_cases hl : listM L f t = []
  · exact .inl ⟨by rw [hE.look, if_pos hl], hl, hE.nil f t hl⟩
  · rcases hP.form (f, t) with ⟨_, e2⟩ | ⟨gb, c, e⟩
    · exact absurd e2 hl
    · exact .inr ⟨gb, c, _, by rw [hE.look, if_neg hl, e], e, rfl, List.length_pos_iff.2 hl⟩
abbrev sumV (vis : List (Value × Value)) : Nat := (vis.map fun p => lenV p.2).sum
end
end Go.Proofs.Ytfniieigeofbdaa
