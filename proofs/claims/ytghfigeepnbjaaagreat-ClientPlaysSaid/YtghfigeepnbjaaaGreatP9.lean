/-
  slices.Delete of one member. Chains: the next epoch's. Chains: the document's. No condition.
-/
import Derived.Test.YtghfigeepnbjaaaGreatP8
import Derived.Deep.RegionLaw
import Derived.Lib.Walk
import Derived.WalkKit
import Derived.Lib.Hide
import Derived.Deep.Upon
namespace Go.Proofs.YtghfigeepnbjaaaGreat
open Go.RowKit
section
variable {w0 : World} {U : Nat → Prop}
end
end Go.Proofs.YtghfigeepnbjaaaGreat
namespace Go.Proofs.YtghfigeepnbjaaaGreat
def chZ : ChM := ⟨0, [], 0⟩
def mayMove (c : ChM) : Bool := okCh c && !decide (c.epoch = 1099511627776)
def furtherM (c : ChM) : ChM × Int := if mayMove c then (⟨c.epoch + 1, c.mem, c.drain⟩, 0) else (chZ, 2)
def withM (c : ChM) (n : Int) : ChM × Int := if mayMove c then (if 0 ≤ n ∧ n < 6 then (if 0 ≤ atM c.mem n then (chZ, 62) else (⟨c.epoch + 1, c.mem ++ [(n, c.epoch + 1)], c.drain⟩, 0)) else (chZ, 2)) else (chZ, 2)
def withoutM (c : ChM) (n : Int) : ChM × Int := if mayMove c then (if atM c.mem n < 0 then (chZ, 4) else if (c.mem.length : Int) = 1 then (chZ, 72) else (⟨c.epoch + 1, c.mem.eraseIdx (atM c.mem n).toNat, if c.drain = n then -1 else c.drain⟩, 0)) else (chZ, 2)
def drainM (c : ChM) (n : Int) : ChM × Int := if mayMove c then (if atM c.mem n < 0 then (chZ, 4) else if (c.mem.length : Int) = 1 then (chZ, 72) else if c.drain = -1 then (⟨c.epoch + 1, c.mem, n⟩, 0) else (chZ, 62)) else (chZ, 2)
/-- A chain that is handed back, with members of its own, and an error's number. -/
def OutCh (w : World) (r : ChM × Int) (e : Ending) (w' : World) : Prop :=
  ∃ v, e = .returned (.tuple #[chV r.1 v, .int .i64 r.2]) ∧ w'.ownsRow w.heap.size 96 2 v r.1.mem.length (cellsF 2 (memF r.1.mem) r.1.mem.length) ∧ w.grownBy w' none
theorem okCh_len {c : ChM} (h : okCh c = true) : 1 ≤ c.mem.length ∧ c.mem.length ≤ 6 ∧ 1 ≤ c.epoch ∧ c.epoch ≤ 1099511627776 := by
  unfold okCh at h
  simp only [Bool.and_eq_true, decide_eq_true_eq] at h
  omega
def leavingR (c : ChM) (n : Int) : Value := if atM c.mem n < 0 then .tuple #[.int .i64 0, .int .i64 4] else if (c.mem.length : Int) = 1 then .tuple #[.int .i64 0, .int .i64 72] else .tuple #[.int .i64 (atM c.mem n), .int .i64 0]
end Go.Proofs.YtghfigeepnbjaaaGreat
namespace Go.Proofs.YtghfigeepnbjaaaGreat
def stepM (c : ChM) (n b : Int) : Int := if okCh c = true ∧ 0 ≤ atM c.mem n ∧ 0 ≤ atM c.mem n + b ∧ atM c.mem n + b < c.mem.length then (c.mem.getD (atM c.mem n + b).toNat (0, 0)).1 else -1
def leavesM (c : ChM) (n : Int) : Int := if mayMove c then (if atM c.mem n < 0 then 4 else if (c.mem.length : Int) = 1 then 72 else 0) else 2
end Go.Proofs.YtghfigeepnbjaaaGreat
