/-
  More words for walks by the executor. No condition.
-/
import Derived.Test.YtcogbepdjegheaaRxC
namespace Go.Proofs.Ytcogbepdjegheaa
theorem Br.tt {t f : Prop} (h : t) : Br true t f := Br.yes rfl h
theorem Br.ff {t f : Prop} (h : f) : Br false t f := Br.no rfl h
theorem Br.nt {t f : Prop} (h : f) : Br (!true) t f := Br.no rfl h
theorem Br.nf {t f : Prop} (h : t) : Br (!false) t f := Br.yes rfl h
theorem Br.eeI {a : Int} {t f : Prop} (h : t) : Br (a == a) t f := Br.yes (by simp) h
theorem Br.nnI {a : Int} {t f : Prop} (h : f) : Br (a != a) t f := Br.no (by simp) h
end Go.Proofs.Ytcogbepdjegheaa
