/-
  MasterKeeps: the walk, with its arguments as they are read. No condition.
-/
import Derived.Test.YtghfigeepnbjaaaLawMasterKeeps
import Derived.Test.YtghfigeepnbjaaaMasW
namespace Go.Proofs.Ytghfigeepnbjaaa.lawMasterKeeps
open Go.Proofs.Ytghfigeepnbjaaa
theorem walk : MasWalk3 3 := mas_walk3 _ core
end Go.Proofs.Ytghfigeepnbjaaa.lawMasterKeeps
