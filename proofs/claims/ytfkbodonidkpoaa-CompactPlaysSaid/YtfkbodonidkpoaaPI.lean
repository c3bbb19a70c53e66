/-
  How an argument reads, cell by cell: arrays. No condition.
-/
import Derived.Test.YtfkbodonidkpoaaP7
namespace Go.Proofs.Ytfkbodonidkpoaa
open Go.RowKit Go.ChangeShapes Go.WideShapes
section
variable {P : Program}
end
end Go.Proofs.Ytfkbodonidkpoaa
