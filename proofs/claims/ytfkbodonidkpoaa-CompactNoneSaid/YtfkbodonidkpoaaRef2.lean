/-
  The document's store: Apply. No condition.
-/
import Derived.Test.YtfkbodonidkpoaaRef1
namespace Go.Proofs.Ytfkbodonidkpoaa
open Go.RowKit
/-- What Apply comes to: the same cells, or others. -/
def applyR (cs : List KC) (n : Int) (o : OpM) (s : SV) (H1 : List HE) : Prop :=
  ((applyD cs n o).1 = cs ∧ s = .tup [.os 0 cs.length, resS (applyD cs n o).2] ∧ H1 = [celE cs]) ∨ (s = .tup [.os 1 (applyD cs n o).1.length, resS (applyD cs n o).2] ∧ H1 = [celE cs] ++ [celE (applyD cs n o).1])
end Go.Proofs.Ytfkbodonidkpoaa
