/-
  How an argument reads, cell by cell: arrays. No condition.
-/
import Derived.Test.YtlphkjbadjdleaaP7
namespace Go.Proofs.Ytlphkjbadjdleaa
open Go.RowKit Go.ChangeShapes Go.WideShapes
section
variable {P : Program}
end
end Go.Proofs.Ytlphkjbadjdleaa
