/-
  Same of shots: slices.Equal of cells and of clients. No condition.
-/
import Derived.Test.YtfkbodonidkpoaaShR5
namespace Go.Proofs.Ytfkbodonidkpoaa
open Go.RowKit
end Go.Proofs.Ytfkbodonidkpoaa
