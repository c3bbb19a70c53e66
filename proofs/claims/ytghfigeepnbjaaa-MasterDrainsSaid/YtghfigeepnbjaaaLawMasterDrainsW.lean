/-
  MasterDrains: the walk, with its arguments as they are read. No condition.
-/
import Derived.Test.YtghfigeepnbjaaaLawMasterDrains
import Derived.Test.YtghfigeepnbjaaaMasW
namespace Go.Proofs.Ytghfigeepnbjaaa.lawMasterDrains
open Go.Proofs.Ytghfigeepnbjaaa
theorem walk : MasWalk 8 := mas_walk _ core
end Go.Proofs.Ytghfigeepnbjaaa.lawMasterDrains
