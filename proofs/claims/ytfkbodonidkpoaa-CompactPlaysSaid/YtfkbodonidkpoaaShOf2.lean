/-
  The shot of a log with a number that can't be put. No condition.
-/
import Derived.Test.YtfkbodonidkpoaaShOf
namespace Go.Proofs.Ytfkbodonidkpoaa
open Go.RowKit
end Go.Proofs.Ytfkbodonidkpoaa
