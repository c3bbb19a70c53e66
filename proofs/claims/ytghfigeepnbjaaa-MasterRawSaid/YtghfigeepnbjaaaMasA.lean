/-
  An array of six numbers, at any place; what the master's operations do to when each node was heard. No condition.
-/
import Derived.Test.YtghfigeepnbjaaaMasK
namespace Go.Proofs.Ytghfigeepnbjaaa
open Go.RowKit
abbrev arrL (h : Nat → Int) : List SV := [.v (.int .i64 (h 0)), .v (.int .i64 (h 1)), .v (.int .i64 (h 2)), .v (.int .i64 (h 3)), .v (.int .i64 (h 4)), .v (.int .i64 (h 5))]
end Go.Proofs.Ytghfigeepnbjaaa
