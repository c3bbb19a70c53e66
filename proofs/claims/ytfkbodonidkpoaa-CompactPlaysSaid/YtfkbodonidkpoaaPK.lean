/-
  The codec's bytes, in plain lists. No program in sight, no condition. The walks over the codec. The walks over the codec's Int and Text, and the document's Num, Int and Text. The walks over the codec's Text, and the document's. No condition.
-/
import Derived.Test.YtfkbodonidkpoaaP1
import Derived.Test.YtfkbodonidkpoaaProg
import Derived.Test.YtfkbodonidkpoaaP7
import Derived.WalkKit
import Derived.WalkSpells
import Derived.WalkLawsBesides
import Derived.Deep.QuietTactic
import Derived.BigQuiet
import Derived.Deep.DeepCutAuto
import Derived.Deep.Cut
import Derived.Deep.LoopGhost
import Derived.Deep.AppendLies
import Derived.BigRegion
namespace Go.Proofs.Ytfkbodonidkpoaa

/-- The digits to the base 256, the lowest first; none of 0. -/
def le : Nat → List UInt8
  | 0 => []
  | n + 1 => UInt8.ofNat ((n + 1) % 256) :: le ((n + 1) / 256)
decreasing_by omega

/-- A number's bytes. -/
def numL (n : Nat) : List UInt8 := if n ≤ 247 then [UInt8.ofNat n] else UInt8.ofNat (247 + (le n).length) :: (le n).reverse
end Go.Proofs.Ytfkbodonidkpoaa
namespace Go.Proofs.Ytfkbodonidkpoaa
open Go.RowKit

/-- Bytes as cells. -/
def bcells (xs : List UInt8) : List Value := xs.map fun b => Value.int .u8 (b.toNat : Int)
/-- What a reversed row holds behind k rounds. -/
def revAt (n k : Nat) (f : Nat → Int) (m : Nat) : Int := if m < k ∨ n - 1 - k < m then f (n - 1 - m) else f m

end Go.Proofs.Ytfkbodonidkpoaa
namespace Go.Proofs.Ytfkbodonidkpoaa
open Go.RowKit

/-- The bytes of a number from -1 on. -/
def intB (n : Int) : List UInt8 := if n < -1 ∨ 1099511627776 < n then [] else numL (n + 1).toNat
/-- The bytes of a text. -/
def textB (l : List UInt8) : List UInt8 := numL l.length ++ l

/-- The document's digits, the highest first. -/
def dig (n : Nat) : List UInt8 := if n = 0 then [0] else (le n).reverse
end Go.Proofs.Ytfkbodonidkpoaa
namespace Go.Proofs.Ytfkbodonidkpoaa
open Go.RowKit

end Go.Proofs.Ytfkbodonidkpoaa
