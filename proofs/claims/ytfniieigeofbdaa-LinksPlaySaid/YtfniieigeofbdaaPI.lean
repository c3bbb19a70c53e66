/-
  How an argument reads, cell by cell: arrays. No condition.
-/
import Derived.Test.YtfniieigeofbdaaP7
namespace Go.Proofs.Ytfniieigeofbdaa
open Go.RowKit Go.ChangeShapes Go.WideShapes
section
variable {P : Program}
end
end Go.Proofs.Ytfniieigeofbdaa
