/-
  The shot of a log is the document's: plain lists. No condition.
-/
import Derived.Test.YtfkbodonidkpoaaShOf
import Derived.Test.YtfkbodonidkpoaaShR8
namespace Go.Proofs.Ytfkbodonidkpoaa
end Go.Proofs.Ytfkbodonidkpoaa
