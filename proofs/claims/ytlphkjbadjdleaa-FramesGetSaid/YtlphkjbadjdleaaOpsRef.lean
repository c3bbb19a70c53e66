/-
  The document's Cost. No condition.
-/
import Derived.Test.YtlphkjbadjdleaaPM
import Derived.Test.YtlphkjbadjdleaaP7
namespace Go.Proofs.Ytlphkjbadjdleaa
open Go.RowKit
attribute [local go_sem] ByteArray.mk_append_mk

end Go.Proofs.Ytlphkjbadjdleaa
