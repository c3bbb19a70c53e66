/-
  Chains: the document's moves; Same. Chains: calls of the moves; the chapter's chain. Chains: what comes of a move may be. No condition.
-/
import Derived.Test.YtghfigeepnbjaaaGreatP9
namespace Go.Proofs.YtghfigeepnbjaaaGreat
/-- All but a node. -/
def others (n : Int) (ms : List (Int × Int)) : List (Int × Int) := ms.filter fun m => !decide (m.1 = n)
end Go.Proofs.YtghfigeepnbjaaaGreat
namespace Go.Proofs.YtghfigeepnbjaaaGreat
def cL : ChM := ⟨3, [(2, 1), (0, 3)], -1⟩
end Go.Proofs.YtghfigeepnbjaaaGreat
namespace Go.Proofs.YtghfigeepnbjaaaGreat
end Go.Proofs.YtghfigeepnbjaaaGreat
