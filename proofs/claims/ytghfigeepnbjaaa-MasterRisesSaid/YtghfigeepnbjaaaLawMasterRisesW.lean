/-
  MasterRises: the walk, with its arguments as they are read. No condition.
-/
import Derived.Test.YtghfigeepnbjaaaLawMasterRises
import Derived.Test.YtghfigeepnbjaaaPI
namespace Go.Proofs.Ytghfigeepnbjaaa.lawMasterRises
open Go.Proofs.Ytghfigeepnbjaaa
theorem walk : MasWalk3 6 := mas_walk3 _ core
end Go.Proofs.Ytghfigeepnbjaaa.lawMasterRises
