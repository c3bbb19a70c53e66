/-
  No cell of these rows narrows 'for every input' (looked for: loops, veiled, ifaces, maps, wideKeys, modest, calm, conditions, laid).
  DERIVED. THE GIVEN ROWS OF THIS SEAT. 10 by the template 'for every input the law returns true; each argument reads behind the call as it read before'; 0 by the template 'total and deterministic' (their statements: YtcogbepdjegheaaTotals.lean).
  GIVEN WITH THE SEED: the statements are not yours to turn. If you find one false, say at which input.
  Laid BY PROGRAM, IN A SANDBOX (cutbox-rows.mjs): the forced cells as the released guide's own fill.sh prints them over the translation 446048dbee9b7188… (all of the seat's roots in one cut). By AI agents, Wed Nov 11 2026. No macro, syntax, notation, axiom, sorry.
-/
import Derived.Test.YtcogbepdjegheaaChecked
import GoSem.Claim
import GoSem.ClaimJoined
import GoSem.ClaimMapViews
import Derived.JoinedTies
import Derived.KernelRfl
namespace Go.Proofs.Ytcogbepdjegheaa
/- THE CELL 'sum', in the pinned program and in every row, IS THE sha256 OF THE DUMP (.gsa) THAT YtcogbepdjegheaaProg.lean LOADS. Nothing in Lean hashes anything: it is a label: what it is worth is what the hold of that sum in a sandbox is worth. -/
noncomputable def Try.pinned : Pinned := { name := "ytcogbepdjegheaa", sum := "446048dbee9b718897b820ba3856ee50c7b8b3b8ad3e1286b2e8a82378327646", checked := Try.checked }
namespace Rows
def none {H : Type} : Left H := { results := [], args := [] }

/-- 'fairwaylaw15.SetupsTell': WHATEVER THE INPUT: true; the input reads as it did. -/
def setupsTellSpec : ChangeSpec := { name := "setupsTell", fn := fun _ => fun
  | [d] => { results := [.lit (.bool true)], args := [d] }
  | _ => none }
def setupsTellRow : OpenClaim := { program := "ytcogbepdjegheaa", sum := "446048dbee9b718897b820ba3856ee50c7b8b3b8ad3e1286b2e8a82378327646", func := "fairway/fairwaylaw15.SetupsTell", spec := "setupsTell", unfollowed := true, recurses := true, apart := false }
def SetupsTellSaid : Prop := setupsTellRow.holds Try.pinned (OpenSpec.ofChange setupsTellSpec)

/-- ITS FALSE NEIGHBOUR: 'it returns false'. Refute it at one input. -/
def setupsTellWrong : ChangeSpec := { name := "setupsTell", fn := fun _ => fun
  | [d] => { results := [.lit (.bool false)], args := [d] }
  | _ => none }
def SetupsTellWrongFalsely : Prop := setupsTellRow.holds Try.pinned (OpenSpec.ofChange setupsTellWrong)

/-- 'fairwaylaw08.SlotsSet': WHATEVER THE INPUT: true; the input reads as it did. -/
def slotsSetSpec : ChangeSpec := { name := "slotsSet", fn := fun _ => fun
  | [d] => { results := [.lit (.bool true)], args := [d] }
  | _ => none }
def slotsSetRow : OpenClaim := { program := "ytcogbepdjegheaa", sum := "446048dbee9b718897b820ba3856ee50c7b8b3b8ad3e1286b2e8a82378327646", func := "fairway/fairwaylaw08.SlotsSet", spec := "slotsSet", inPlace := ["sync/atomic.LoadUint32", "sync/atomic.StoreUint32", "(*internal/sync.Mutex).Lock", "internal/race.Disable", "sync/atomic.CompareAndSwapInt32", "internal/race.Enable", "internal/race.Acquire", "(*internal/sync.Mutex).lockSlow", "internal/sync.runtime_canSpin", "internal/sync.runtime_doSpin", "internal/sync.throw", "internal/sync.runtime_nanotime", "internal/sync.runtime_SemacquireMutex", "sync/atomic.AddInt32", "(*internal/sync.Mutex).Unlock", "internal/race.ReleaseMerge", "(*internal/sync.Mutex).unlockSlow", "internal/sync.fatal", "internal/sync.runtime_Semrelease"], unfollowed := true, recurses := true, apart := false }
def SlotsSetSaid : Prop := slotsSetRow.holds Try.pinned (OpenSpec.ofChange slotsSetSpec)

/-- ITS FALSE NEIGHBOUR: 'it returns false'. Refute it at one input. -/
def slotsSetWrong : ChangeSpec := { name := "slotsSet", fn := fun _ => fun
  | [d] => { results := [.lit (.bool false)], args := [d] }
  | _ => none }
def SlotsSetWrongFalsely : Prop := slotsSetRow.holds Try.pinned (OpenSpec.ofChange slotsSetWrong)

/-- 'fairwaylaw08.SlotsNone': WHATEVER THE INPUT: true; the input reads as it did. -/
def slotsNoneSpec : ChangeSpec := { name := "slotsNone", fn := fun _ => fun
  | [d] => { results := [.lit (.bool true)], args := [d] }
  | _ => none }
def slotsNoneRow : OpenClaim := { program := "ytcogbepdjegheaa", sum := "446048dbee9b718897b820ba3856ee50c7b8b3b8ad3e1286b2e8a82378327646", func := "fairway/fairwaylaw08.SlotsNone", spec := "slotsNone", inPlace := ["sync/atomic.StoreUint32", "sync/atomic.LoadUint32", "(*internal/sync.Mutex).Lock", "internal/race.Disable", "sync/atomic.CompareAndSwapInt32", "internal/race.Enable", "internal/race.Acquire", "(*internal/sync.Mutex).lockSlow", "internal/sync.runtime_canSpin", "internal/sync.runtime_doSpin", "internal/sync.throw", "internal/sync.runtime_nanotime", "internal/sync.runtime_SemacquireMutex", "sync/atomic.AddInt32", "(*internal/sync.Mutex).Unlock", "internal/race.ReleaseMerge", "(*internal/sync.Mutex).unlockSlow", "internal/sync.fatal", "internal/sync.runtime_Semrelease"], unfollowed := true, recurses := true, apart := false }
def SlotsNoneSaid : Prop := slotsNoneRow.holds Try.pinned (OpenSpec.ofChange slotsNoneSpec)

/-- ITS FALSE NEIGHBOUR: 'it returns false'. Refute it at one input. -/
def slotsNoneWrong : ChangeSpec := { name := "slotsNone", fn := fun _ => fun
  | [d] => { results := [.lit (.bool false)], args := [d] }
  | _ => none }
def SlotsNoneWrongFalsely : Prop := slotsNoneRow.holds Try.pinned (OpenSpec.ofChange slotsNoneWrong)

/-- 'fairwaylaw08.SlotsOnce': WHATEVER THE INPUT: true; the input reads as it did. -/
def slotsOnceSpec : ChangeSpec := { name := "slotsOnce", fn := fun _ => fun
  | [d1, d2] => { results := [.lit (.bool true)], args := [d1, d2] }
  | _ => none }
def slotsOnceRow : OpenClaim := { program := "ytcogbepdjegheaa", sum := "446048dbee9b718897b820ba3856ee50c7b8b3b8ad3e1286b2e8a82378327646", func := "fairway/fairwaylaw08.SlotsOnce", spec := "slotsOnce", inPlace := ["sync/atomic.LoadUint32", "sync/atomic.StoreUint32", "(*internal/sync.Mutex).Lock", "internal/race.Disable", "sync/atomic.CompareAndSwapInt32", "internal/race.Enable", "internal/race.Acquire", "(*internal/sync.Mutex).lockSlow", "internal/sync.runtime_canSpin", "internal/sync.runtime_doSpin", "internal/sync.throw", "internal/sync.runtime_nanotime", "internal/sync.runtime_SemacquireMutex", "sync/atomic.AddInt32", "(*internal/sync.Mutex).Unlock", "internal/race.ReleaseMerge", "(*internal/sync.Mutex).unlockSlow", "internal/sync.fatal", "internal/sync.runtime_Semrelease"], unfollowed := true, recurses := true, apart := false }
def SlotsOnceSaid : Prop := slotsOnceRow.holds Try.pinned (OpenSpec.ofChange slotsOnceSpec)

/-- ITS FALSE NEIGHBOUR: 'it returns false'. Refute it at one input. -/
def slotsOnceWrong : ChangeSpec := { name := "slotsOnce", fn := fun _ => fun
  | [d1, d2] => { results := [.lit (.bool false)], args := [d1, d2] }
  | _ => none }
def SlotsOnceWrongFalsely : Prop := slotsOnceRow.holds Try.pinned (OpenSpec.ofChange slotsOnceWrong)

/-- 'fairwaylaw15.SetupsFit': WHATEVER THE INPUT: true; the input reads as it did. -/
def setupsFitSpec : ChangeSpec := { name := "setupsFit", fn := fun _ => fun
  | [d] => { results := [.lit (.bool true)], args := [d] }
  | _ => none }
def setupsFitRow : OpenClaim := { program := "ytcogbepdjegheaa", sum := "446048dbee9b718897b820ba3856ee50c7b8b3b8ad3e1286b2e8a82378327646", func := "fairway/fairwaylaw15.SetupsFit", spec := "setupsFit", unfollowed := true, recurses := true, apart := false }
def SetupsFitSaid : Prop := setupsFitRow.holds Try.pinned (OpenSpec.ofChange setupsFitSpec)

/-- ITS FALSE NEIGHBOUR: 'it returns false'. Refute it at one input. -/
def setupsFitWrong : ChangeSpec := { name := "setupsFit", fn := fun _ => fun
  | [d] => { results := [.lit (.bool false)], args := [d] }
  | _ => none }
def SetupsFitWrongFalsely : Prop := setupsFitRow.holds Try.pinned (OpenSpec.ofChange setupsFitWrong)

/-- 'fairwaylaw12.ChainsMove': WHATEVER THE INPUT: true; the input reads as it did. -/
def chainsMoveSpec : ChangeSpec := { name := "chainsMove", fn := fun _ => fun
  | [d1, d2] => { results := [.lit (.bool true)], args := [d1, d2] }
  | _ => none }
def chainsMoveRow : OpenClaim := { program := "ytcogbepdjegheaa", sum := "446048dbee9b718897b820ba3856ee50c7b8b3b8ad3e1286b2e8a82378327646", func := "fairway/fairwaylaw12.ChainsMove", spec := "chainsMove", unfollowed := true, recurses := true, apart := false }
def ChainsMoveSaid : Prop := chainsMoveRow.holds Try.pinned (OpenSpec.ofChange chainsMoveSpec)

/-- ITS FALSE NEIGHBOUR: 'it returns false'. Refute it at one input. -/
def chainsMoveWrong : ChangeSpec := { name := "chainsMove", fn := fun _ => fun
  | [d1, d2] => { results := [.lit (.bool false)], args := [d1, d2] }
  | _ => none }
def ChainsMoveWrongFalsely : Prop := chainsMoveRow.holds Try.pinned (OpenSpec.ofChange chainsMoveWrong)

/-- 'fairwaylaw12.ChainsEnds': WHATEVER THE INPUT: true; the input reads as it did. -/
def chainsEndsSpec : ChangeSpec := { name := "chainsEnds", fn := fun _ => fun
  | [d1, d2] => { results := [.lit (.bool true)], args := [d1, d2] }
  | _ => none }
def chainsEndsRow : OpenClaim := { program := "ytcogbepdjegheaa", sum := "446048dbee9b718897b820ba3856ee50c7b8b3b8ad3e1286b2e8a82378327646", func := "fairway/fairwaylaw12.ChainsEnds", spec := "chainsEnds", unfollowed := true, recurses := true, apart := false }
def ChainsEndsSaid : Prop := chainsEndsRow.holds Try.pinned (OpenSpec.ofChange chainsEndsSpec)

/-- ITS FALSE NEIGHBOUR: 'it returns false'. Refute it at one input. -/
def chainsEndsWrong : ChangeSpec := { name := "chainsEnds", fn := fun _ => fun
  | [d1, d2] => { results := [.lit (.bool false)], args := [d1, d2] }
  | _ => none }
def ChainsEndsWrongFalsely : Prop := chainsEndsRow.holds Try.pinned (OpenSpec.ofChange chainsEndsWrong)

/-- 'fairwaylaw12.ChainsTell': WHATEVER THE INPUT: true; the input reads as it did. -/
def chainsTellSpec : ChangeSpec := { name := "chainsTell", fn := fun _ => fun
  | [d1, d2, d3] => { results := [.lit (.bool true)], args := [d1, d2, d3] }
  | _ => none }
def chainsTellRow : OpenClaim := { program := "ytcogbepdjegheaa", sum := "446048dbee9b718897b820ba3856ee50c7b8b3b8ad3e1286b2e8a82378327646", func := "fairway/fairwaylaw12.ChainsTell", spec := "chainsTell", unfollowed := true, recurses := true, apart := false }
def ChainsTellSaid : Prop := chainsTellRow.holds Try.pinned (OpenSpec.ofChange chainsTellSpec)

/-- ITS FALSE NEIGHBOUR: 'it returns false'. Refute it at one input. -/
def chainsTellWrong : ChangeSpec := { name := "chainsTell", fn := fun _ => fun
  | [d1, d2, d3] => { results := [.lit (.bool false)], args := [d1, d2, d3] }
  | _ => none }
def ChainsTellWrongFalsely : Prop := chainsTellRow.holds Try.pinned (OpenSpec.ofChange chainsTellWrong)

/-- 'fairwaylaw12.ChainsGet': WHATEVER THE INPUT: true; the input reads as it did. -/
def chainsGetSpec : ChangeSpec := { name := "chainsGet", fn := fun _ => fun
  | [d] => { results := [.lit (.bool true)], args := [d] }
  | _ => none }
def chainsGetRow : OpenClaim := { program := "ytcogbepdjegheaa", sum := "446048dbee9b718897b820ba3856ee50c7b8b3b8ad3e1286b2e8a82378327646", func := "fairway/fairwaylaw12.ChainsGet", spec := "chainsGet", unfollowed := true, recurses := true, apart := false }
def ChainsGetSaid : Prop := chainsGetRow.holds Try.pinned (OpenSpec.ofChange chainsGetSpec)

/-- ITS FALSE NEIGHBOUR: 'it returns false'. Refute it at one input. -/
def chainsGetWrong : ChangeSpec := { name := "chainsGet", fn := fun _ => fun
  | [d] => { results := [.lit (.bool false)], args := [d] }
  | _ => none }
def ChainsGetWrongFalsely : Prop := chainsGetRow.holds Try.pinned (OpenSpec.ofChange chainsGetWrong)

/-- 'fairwaylaw12.ChainsBack': WHATEVER THE INPUT: true; the input reads as it did. -/
def chainsBackSpec : ChangeSpec := { name := "chainsBack", fn := fun _ => fun
  | [d1, d2] => { results := [.lit (.bool true)], args := [d1, d2] }
  | _ => none }
def chainsBackRow : OpenClaim := { program := "ytcogbepdjegheaa", sum := "446048dbee9b718897b820ba3856ee50c7b8b3b8ad3e1286b2e8a82378327646", func := "fairway/fairwaylaw12.ChainsBack", spec := "chainsBack", unfollowed := true, recurses := true, apart := false }
def ChainsBackSaid : Prop := chainsBackRow.holds Try.pinned (OpenSpec.ofChange chainsBackSpec)

/-- ITS FALSE NEIGHBOUR: 'it returns false'. Refute it at one input. -/
def chainsBackWrong : ChangeSpec := { name := "chainsBack", fn := fun _ => fun
  | [d1, d2] => { results := [.lit (.bool false)], args := [d1, d2] }
  | _ => none }
def ChainsBackWrongFalsely : Prop := chainsBackRow.holds Try.pinned (OpenSpec.ofChange chainsBackWrong)

/- THE SECOND FORM. 'bulk': how many values and letters a reading holds, each counted each time it is reached (what is shared counts as often as it is met; a slice's spare places count too). A statement '..UptoSaid' is the law's where the arguments, and the package variables that the reading takes, are together of bulk at most 1048576: NARROWER than '..Said'. Prove '..Said' where nothing that the law and all that it calls make is longer than what came in: it says more and counts as full. Else prove '..UptoSaid'. A law counts once. -/
mutual
def uptoBulk {H : Type} : DataW H → Nat
  | .lit (.string bytes) => bytes.length + 1
  | .lit _ => 1
  | .nil => 1
  | .ptr d => uptoBulk d + 1
  | .slice elems spare => uptoBulkAll elems + uptoBulkAll spare + 1
  | .agg parts => uptoBulkAll parts + 1
  | .iface _ d => uptoBulk d + 1
  | .map entries => uptoBulkEntries entries + 1
  | .held _ => 1
def uptoBulkAll {H : Type} : List (DataW H) → Nat
  | [] => 0
  | d :: r => uptoBulk d + uptoBulkAll r
def uptoBulkEntries {H : Type} : List (Lit × DataW H) → Nat
  | [] => 0
  | x :: r => uptoBulkEntry x + uptoBulkEntries r
def uptoBulkEntry {H : Type} : Lit × DataW H → Nat
  | (.string bytes, d) => bytes.length + uptoBulk d + 1
  | (_, d) => uptoBulk d + 1
 end
def uptoSmall : (H : Type) → List (DataW H) → Bool := fun _ ds => decide (uptoBulkAll ds ≤ 1048576)
def OpenSpec.upto (s : _root_.Go.ChangeSpec) : _root_.Go.OpenSpec := { _root_.Go.OpenSpec.ofChange s with cond := some uptoSmall }

/-- 'fairwaylaw15.SetupsTell', WHERE WHAT IT READS IS OF BULK AT MOST 1048576: true; the input reads as it did. -/
def setupsTellUptoRow : OpenClaim := { program := "ytcogbepdjegheaa", sum := "446048dbee9b718897b820ba3856ee50c7b8b3b8ad3e1286b2e8a82378327646", func := "fairway/fairwaylaw15.SetupsTell", spec := "setupsTell", unfollowed := true, recurses := true, apart := false, narrowed := true }
def SetupsTellUptoSaid : Prop := setupsTellUptoRow.holds Try.pinned (OpenSpec.upto setupsTellSpec)

/-- 'fairwaylaw08.SlotsSet', WHERE WHAT IT READS IS OF BULK AT MOST 1048576: true; the input reads as it did. -/
def slotsSetUptoRow : OpenClaim := { program := "ytcogbepdjegheaa", sum := "446048dbee9b718897b820ba3856ee50c7b8b3b8ad3e1286b2e8a82378327646", func := "fairway/fairwaylaw08.SlotsSet", spec := "slotsSet", inPlace := ["sync/atomic.LoadUint32", "sync/atomic.StoreUint32", "(*internal/sync.Mutex).Lock", "internal/race.Disable", "sync/atomic.CompareAndSwapInt32", "internal/race.Enable", "internal/race.Acquire", "(*internal/sync.Mutex).lockSlow", "internal/sync.runtime_canSpin", "internal/sync.runtime_doSpin", "internal/sync.throw", "internal/sync.runtime_nanotime", "internal/sync.runtime_SemacquireMutex", "sync/atomic.AddInt32", "(*internal/sync.Mutex).Unlock", "internal/race.ReleaseMerge", "(*internal/sync.Mutex).unlockSlow", "internal/sync.fatal", "internal/sync.runtime_Semrelease"], unfollowed := true, recurses := true, apart := false, narrowed := true }
def SlotsSetUptoSaid : Prop := slotsSetUptoRow.holds Try.pinned (OpenSpec.upto slotsSetSpec)

/-- 'fairwaylaw08.SlotsNone', WHERE WHAT IT READS IS OF BULK AT MOST 1048576: true; the input reads as it did. -/
def slotsNoneUptoRow : OpenClaim := { program := "ytcogbepdjegheaa", sum := "446048dbee9b718897b820ba3856ee50c7b8b3b8ad3e1286b2e8a82378327646", func := "fairway/fairwaylaw08.SlotsNone", spec := "slotsNone", inPlace := ["sync/atomic.StoreUint32", "sync/atomic.LoadUint32", "(*internal/sync.Mutex).Lock", "internal/race.Disable", "sync/atomic.CompareAndSwapInt32", "internal/race.Enable", "internal/race.Acquire", "(*internal/sync.Mutex).lockSlow", "internal/sync.runtime_canSpin", "internal/sync.runtime_doSpin", "internal/sync.throw", "internal/sync.runtime_nanotime", "internal/sync.runtime_SemacquireMutex", "sync/atomic.AddInt32", "(*internal/sync.Mutex).Unlock", "internal/race.ReleaseMerge", "(*internal/sync.Mutex).unlockSlow", "internal/sync.fatal", "internal/sync.runtime_Semrelease"], unfollowed := true, recurses := true, apart := false, narrowed := true }
def SlotsNoneUptoSaid : Prop := slotsNoneUptoRow.holds Try.pinned (OpenSpec.upto slotsNoneSpec)

/-- 'fairwaylaw08.SlotsOnce', WHERE WHAT IT READS IS OF BULK AT MOST 1048576: true; the input reads as it did. -/
def slotsOnceUptoRow : OpenClaim := { program := "ytcogbepdjegheaa", sum := "446048dbee9b718897b820ba3856ee50c7b8b3b8ad3e1286b2e8a82378327646", func := "fairway/fairwaylaw08.SlotsOnce", spec := "slotsOnce", inPlace := ["sync/atomic.LoadUint32", "sync/atomic.StoreUint32", "(*internal/sync.Mutex).Lock", "internal/race.Disable", "sync/atomic.CompareAndSwapInt32", "internal/race.Enable", "internal/race.Acquire", "(*internal/sync.Mutex).lockSlow", "internal/sync.runtime_canSpin", "internal/sync.runtime_doSpin", "internal/sync.throw", "internal/sync.runtime_nanotime", "internal/sync.runtime_SemacquireMutex", "sync/atomic.AddInt32", "(*internal/sync.Mutex).Unlock", "internal/race.ReleaseMerge", "(*internal/sync.Mutex).unlockSlow", "internal/sync.fatal", "internal/sync.runtime_Semrelease"], unfollowed := true, recurses := true, apart := false, narrowed := true }
def SlotsOnceUptoSaid : Prop := slotsOnceUptoRow.holds Try.pinned (OpenSpec.upto slotsOnceSpec)

/-- 'fairwaylaw15.SetupsFit', WHERE WHAT IT READS IS OF BULK AT MOST 1048576: true; the input reads as it did. -/
def setupsFitUptoRow : OpenClaim := { program := "ytcogbepdjegheaa", sum := "446048dbee9b718897b820ba3856ee50c7b8b3b8ad3e1286b2e8a82378327646", func := "fairway/fairwaylaw15.SetupsFit", spec := "setupsFit", unfollowed := true, recurses := true, apart := false, narrowed := true }
def SetupsFitUptoSaid : Prop := setupsFitUptoRow.holds Try.pinned (OpenSpec.upto setupsFitSpec)

/-- 'fairwaylaw12.ChainsMove', WHERE WHAT IT READS IS OF BULK AT MOST 1048576: true; the input reads as it did. -/
def chainsMoveUptoRow : OpenClaim := { program := "ytcogbepdjegheaa", sum := "446048dbee9b718897b820ba3856ee50c7b8b3b8ad3e1286b2e8a82378327646", func := "fairway/fairwaylaw12.ChainsMove", spec := "chainsMove", unfollowed := true, recurses := true, apart := false, narrowed := true }
def ChainsMoveUptoSaid : Prop := chainsMoveUptoRow.holds Try.pinned (OpenSpec.upto chainsMoveSpec)

/-- 'fairwaylaw12.ChainsEnds', WHERE WHAT IT READS IS OF BULK AT MOST 1048576: true; the input reads as it did. -/
def chainsEndsUptoRow : OpenClaim := { program := "ytcogbepdjegheaa", sum := "446048dbee9b718897b820ba3856ee50c7b8b3b8ad3e1286b2e8a82378327646", func := "fairway/fairwaylaw12.ChainsEnds", spec := "chainsEnds", unfollowed := true, recurses := true, apart := false, narrowed := true }
def ChainsEndsUptoSaid : Prop := chainsEndsUptoRow.holds Try.pinned (OpenSpec.upto chainsEndsSpec)

/-- 'fairwaylaw12.ChainsTell', WHERE WHAT IT READS IS OF BULK AT MOST 1048576: true; the input reads as it did. -/
def chainsTellUptoRow : OpenClaim := { program := "ytcogbepdjegheaa", sum := "446048dbee9b718897b820ba3856ee50c7b8b3b8ad3e1286b2e8a82378327646", func := "fairway/fairwaylaw12.ChainsTell", spec := "chainsTell", unfollowed := true, recurses := true, apart := false, narrowed := true }
def ChainsTellUptoSaid : Prop := chainsTellUptoRow.holds Try.pinned (OpenSpec.upto chainsTellSpec)

/-- 'fairwaylaw12.ChainsGet', WHERE WHAT IT READS IS OF BULK AT MOST 1048576: true; the input reads as it did. -/
def chainsGetUptoRow : OpenClaim := { program := "ytcogbepdjegheaa", sum := "446048dbee9b718897b820ba3856ee50c7b8b3b8ad3e1286b2e8a82378327646", func := "fairway/fairwaylaw12.ChainsGet", spec := "chainsGet", unfollowed := true, recurses := true, apart := false, narrowed := true }
def ChainsGetUptoSaid : Prop := chainsGetUptoRow.holds Try.pinned (OpenSpec.upto chainsGetSpec)

/-- 'fairwaylaw12.ChainsBack', WHERE WHAT IT READS IS OF BULK AT MOST 1048576: true; the input reads as it did. -/
def chainsBackUptoRow : OpenClaim := { program := "ytcogbepdjegheaa", sum := "446048dbee9b718897b820ba3856ee50c7b8b3b8ad3e1286b2e8a82378327646", func := "fairway/fairwaylaw12.ChainsBack", spec := "chainsBack", unfollowed := true, recurses := true, apart := false, narrowed := true }
def ChainsBackUptoSaid : Prop := chainsBackUptoRow.holds Try.pinned (OpenSpec.upto chainsBackSpec)

end Rows
end Go.Proofs.Ytcogbepdjegheaa
