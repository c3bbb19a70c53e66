/-
  The document's store: Look, without, with, Apply. No condition.
-/
import Derived.Test.YtfkbodonidkpoaaRefM
import Derived.Test.YtfkbodonidkpoaaP7
import Derived.Test.YtfkbodonidkpoaaP6
namespace Go.Proofs.Ytfkbodonidkpoaa
open Go.RowKit
def celC (c : KC) : List Value := [S c.1, S c.2.1, .int .i64 c.2.2]
abbrev celF (l : List KC) : Nat → Nat → Value := rowsF celC celZ l
theorem celC_one (x : KC) (c : Nat) (h : c < 3) : ((celC x).getD c undef).oneCell' = true := by
  rcases c with _ | _ | _ | c <;> first | rfl | omega
theorem celF_one (l : List KC) (n : Nat) : ∀ r c, r < n → c < 3 → (celF l r c).oneCell' = true := fun _ c _ hc => celC_one _ c hc
abbrev celE (l : List KC) : HE := .own 129 3 l.length (celF l)
end Go.Proofs.Ytfkbodonidkpoaa
