/-
  The law's Doc, great, Entries. No condition.
-/
import Derived.Test.YtfkbodonidkpoaaPV
import Derived.Test.YtfkbodonidkpoaaPU
import Derived.Test.YtfkbodonidkpoaaSh5
import Derived.Test.YtfkbodonidkpoaaLogM
namespace Go.Proofs.Ytfkbodonidkpoaa
open Go.RowKit
/-- Is a shot more than is gone through here? -/
def smC (l : List KC) (i : Nat) : Bool := decide ((l.getD i celZ).1.length ≤ 100) && decide ((l.getD i celZ).2.1.length ≤ 100)
def smL (l : List LaM) (i : Nat) : Bool := decide ((l.getD i laZ).res.value.length ≤ 100)
def greatS (s : ShM) : Bool := !(allTo (smC s.cells) s.cells.length && allTo (smL s.lasts) s.lasts.length) || (decide (20 < s.cells.length) || decide (10 < s.lasts.length))
/-- Are entries more than is gone through here? -/
def smE (l : List EntM) (i : Nat) : Bool := decide ((l.getD i entZ).op.key.length ≤ 100) && decide ((l.getD i entZ).op.value.length ≤ 100)
def greatE (l : List EntM) (most : Int) : Bool := !(allTo (smE l) l.length) || decide (most < l.length)
end Go.Proofs.Ytfkbodonidkpoaa
