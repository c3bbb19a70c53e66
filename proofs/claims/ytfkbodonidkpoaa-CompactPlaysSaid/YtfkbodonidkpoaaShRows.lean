/-
  The rows of a shot's cells and clients, as they are read. No condition.
-/
import Derived.Test.YtfkbodonidkpoaaP7
import Derived.Test.YtfkbodonidkpoaaQ8
import Derived.Test.YtfkbodonidkpoaaSh1
namespace Go.Proofs.Ytfkbodonidkpoaa
open Go.RowKit
end Go.Proofs.Ytfkbodonidkpoaa
