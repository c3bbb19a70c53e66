/-
  MasterSure: the walk, with its arguments as they are read. No condition.
-/
import Derived.Test.YtghfigeepnbjaaaLawMasterSure
import Derived.Test.YtghfigeepnbjaaaMasW
namespace Go.Proofs.Ytghfigeepnbjaaa.lawMasterSure
open Go.Proofs.Ytghfigeepnbjaaa
theorem walk : MasWalk 7 := mas_walk _ core
end Go.Proofs.Ytghfigeepnbjaaa.lawMasterSure
