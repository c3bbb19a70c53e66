/-
  No cell of these rows narrows 'for every input' (looked for: loops, veiled, ifaces, maps, wideKeys, modest, calm, conditions, laid).
  DERIVED. THE GIVEN ROWS OF THIS SEAT. 11 by the template 'for every input the law returns true; each argument reads behind the call as it read before'; 0 by the template 'total and deterministic' (their statements: YtghfigeepnbjaaaTotals.lean).
  GIVEN WITH THE SEED: the statements are not yours to turn. If you find one false, say at which input.
  Laid BY PROGRAM, IN A SANDBOX (cutbox-rows.mjs): the forced cells as the released guide's own fill.sh prints them over the translation 4cf2dbfa6a8e22fa… (all of the seat's roots in one cut). By AI agents, Wed Nov 11 2026. No macro, syntax, notation, axiom, sorry.
-/
import Derived.Test.YtghfigeepnbjaaaChecked
import GoSem.Claim
import GoSem.ClaimJoined
import GoSem.ClaimMapViews
import Derived.JoinedTies
import Derived.KernelRfl
namespace Go.Proofs.Ytghfigeepnbjaaa
/- THE CELL 'sum', in the pinned program and in every row, IS THE sha256 OF THE DUMP (.gsa) THAT YtghfigeepnbjaaaProg.lean LOADS. Nothing in Lean hashes anything: it is a label: what it is worth is what the hold of that sum in a sandbox is worth. -/
noncomputable def Try.pinned : Pinned := { name := "ytghfigeepnbjaaa", sum := "4cf2dbfa6a8e22fa02e18bf83c09a72472e39c2da0d22b8dd8e0502fdcf543a8", checked := Try.checked }
namespace Rows
def none {H : Type} : Left H := { results := [], args := [] }

/-- 'fairwaylaw20.MasterKeeps': WHATEVER THE INPUT: true; the input reads as it did. -/
def masterKeepsSpec : ChangeSpec := { name := "masterKeeps", fn := fun _ => fun
  | [d1, d2, d3] => { results := [.lit (.bool true)], args := [d1, d2, d3] }
  | _ => none }
def masterKeepsRow : OpenClaim := { program := "ytghfigeepnbjaaa", sum := "4cf2dbfa6a8e22fa02e18bf83c09a72472e39c2da0d22b8dd8e0502fdcf543a8", func := "fairway/fairwaylaw20.MasterKeeps", spec := "masterKeeps", unfollowed := true, recurses := true, apart := false }
def MasterKeepsSaid : Prop := masterKeepsRow.holds Try.pinned (OpenSpec.ofChange masterKeepsSpec)

/-- ITS FALSE NEIGHBOUR: 'it returns false'. Refute it at one input. -/
def masterKeepsWrong : ChangeSpec := { name := "masterKeeps", fn := fun _ => fun
  | [d1, d2, d3] => { results := [.lit (.bool false)], args := [d1, d2, d3] }
  | _ => none }
def MasterKeepsWrongFalsely : Prop := masterKeepsRow.holds Try.pinned (OpenSpec.ofChange masterKeepsWrong)

/-- 'fairwaylaw20.MasterPlays': WHATEVER THE INPUT: true; the input reads as it did. -/
def masterPlaysSpec : ChangeSpec := { name := "masterPlays", fn := fun _ => fun
  | [d1, d2, d3] => { results := [.lit (.bool true)], args := [d1, d2, d3] }
  | _ => none }
def masterPlaysRow : OpenClaim := { program := "ytghfigeepnbjaaa", sum := "4cf2dbfa6a8e22fa02e18bf83c09a72472e39c2da0d22b8dd8e0502fdcf543a8", func := "fairway/fairwaylaw20.MasterPlays", spec := "masterPlays", unfollowed := true, recurses := true, apart := false }
def MasterPlaysSaid : Prop := masterPlaysRow.holds Try.pinned (OpenSpec.ofChange masterPlaysSpec)

/-- ITS FALSE NEIGHBOUR: 'it returns false'. Refute it at one input. -/
def masterPlaysWrong : ChangeSpec := { name := "masterPlays", fn := fun _ => fun
  | [d1, d2, d3] => { results := [.lit (.bool false)], args := [d1, d2, d3] }
  | _ => none }
def MasterPlaysWrongFalsely : Prop := masterPlaysRow.holds Try.pinned (OpenSpec.ofChange masterPlaysWrong)

/-- 'fairwaylaw20.MasterRaw': WHATEVER THE INPUT: true; the input reads as it did. -/
def masterRawSpec : ChangeSpec := { name := "masterRaw", fn := fun _ => fun
  | [d1, d2, d3] => { results := [.lit (.bool true)], args := [d1, d2, d3] }
  | _ => none }
def masterRawRow : OpenClaim := { program := "ytghfigeepnbjaaa", sum := "4cf2dbfa6a8e22fa02e18bf83c09a72472e39c2da0d22b8dd8e0502fdcf543a8", func := "fairway/fairwaylaw20.MasterRaw", spec := "masterRaw", unfollowed := true, recurses := true, apart := false }
def MasterRawSaid : Prop := masterRawRow.holds Try.pinned (OpenSpec.ofChange masterRawSpec)

/-- ITS FALSE NEIGHBOUR: 'it returns false'. Refute it at one input. -/
def masterRawWrong : ChangeSpec := { name := "masterRaw", fn := fun _ => fun
  | [d1, d2, d3] => { results := [.lit (.bool false)], args := [d1, d2, d3] }
  | _ => none }
def MasterRawWrongFalsely : Prop := masterRawRow.holds Try.pinned (OpenSpec.ofChange masterRawWrong)

/-- 'fairwaylaw20.MasterRises': WHATEVER THE INPUT: true; the input reads as it did. -/
def masterRisesSpec : ChangeSpec := { name := "masterRises", fn := fun _ => fun
  | [d1, d2, d3] => { results := [.lit (.bool true)], args := [d1, d2, d3] }
  | _ => none }
def masterRisesRow : OpenClaim := { program := "ytghfigeepnbjaaa", sum := "4cf2dbfa6a8e22fa02e18bf83c09a72472e39c2da0d22b8dd8e0502fdcf543a8", func := "fairway/fairwaylaw20.MasterRises", spec := "masterRises", unfollowed := true, recurses := true, apart := false }
def MasterRisesSaid : Prop := masterRisesRow.holds Try.pinned (OpenSpec.ofChange masterRisesSpec)

/-- ITS FALSE NEIGHBOUR: 'it returns false'. Refute it at one input. -/
def masterRisesWrong : ChangeSpec := { name := "masterRises", fn := fun _ => fun
  | [d1, d2, d3] => { results := [.lit (.bool false)], args := [d1, d2, d3] }
  | _ => none }
def MasterRisesWrongFalsely : Prop := masterRisesRow.holds Try.pinned (OpenSpec.ofChange masterRisesWrong)

/-- 'fairwaylaw20.MasterSure': WHATEVER THE INPUT: true; the input reads as it did. -/
def masterSureSpec : ChangeSpec := { name := "masterSure", fn := fun _ => fun
  | [d1, d2] => { results := [.lit (.bool true)], args := [d1, d2] }
  | _ => none }
def masterSureRow : OpenClaim := { program := "ytghfigeepnbjaaa", sum := "4cf2dbfa6a8e22fa02e18bf83c09a72472e39c2da0d22b8dd8e0502fdcf543a8", func := "fairway/fairwaylaw20.MasterSure", spec := "masterSure", unfollowed := true, recurses := true, apart := false }
def MasterSureSaid : Prop := masterSureRow.holds Try.pinned (OpenSpec.ofChange masterSureSpec)

/-- ITS FALSE NEIGHBOUR: 'it returns false'. Refute it at one input. -/
def masterSureWrong : ChangeSpec := { name := "masterSure", fn := fun _ => fun
  | [d1, d2] => { results := [.lit (.bool false)], args := [d1, d2] }
  | _ => none }
def MasterSureWrongFalsely : Prop := masterSureRow.holds Try.pinned (OpenSpec.ofChange masterSureWrong)

/-- 'fairwaylaw20.MasterDrains': WHATEVER THE INPUT: true; the input reads as it did. -/
def masterDrainsSpec : ChangeSpec := { name := "masterDrains", fn := fun _ => fun
  | [d1, d2] => { results := [.lit (.bool true)], args := [d1, d2] }
  | _ => none }
def masterDrainsRow : OpenClaim := { program := "ytghfigeepnbjaaa", sum := "4cf2dbfa6a8e22fa02e18bf83c09a72472e39c2da0d22b8dd8e0502fdcf543a8", func := "fairway/fairwaylaw20.MasterDrains", spec := "masterDrains", unfollowed := true, recurses := true, apart := false }
def MasterDrainsSaid : Prop := masterDrainsRow.holds Try.pinned (OpenSpec.ofChange masterDrainsSpec)

/-- ITS FALSE NEIGHBOUR: 'it returns false'. Refute it at one input. -/
def masterDrainsWrong : ChangeSpec := { name := "masterDrains", fn := fun _ => fun
  | [d1, d2] => { results := [.lit (.bool false)], args := [d1, d2] }
  | _ => none }
def MasterDrainsWrongFalsely : Prop := masterDrainsRow.holds Try.pinned (OpenSpec.ofChange masterDrainsWrong)

/-- 'fairwaylaw21.ClientNone': WHATEVER THE INPUT: true; the input reads as it did. -/
def clientNoneSpec : ChangeSpec := { name := "clientNone", fn := fun _ => fun
  | [d1, d2, d3] => { results := [.lit (.bool true)], args := [d1, d2, d3] }
  | _ => none }
def clientNoneRow : OpenClaim := { program := "ytghfigeepnbjaaa", sum := "4cf2dbfa6a8e22fa02e18bf83c09a72472e39c2da0d22b8dd8e0502fdcf543a8", func := "fairway/fairwaylaw21.ClientNone", spec := "clientNone", inPlace := ["sync/atomic.StoreUint32", "sync/atomic.LoadUint32", "(*internal/sync.Mutex).Lock", "internal/race.Disable", "sync/atomic.CompareAndSwapInt32", "internal/race.Enable", "internal/race.Acquire", "(*internal/sync.Mutex).lockSlow", "internal/sync.runtime_canSpin", "internal/sync.runtime_doSpin", "internal/sync.throw", "internal/sync.runtime_nanotime", "internal/sync.runtime_SemacquireMutex", "sync/atomic.AddInt32", "(*internal/sync.Mutex).Unlock", "internal/race.ReleaseMerge", "(*internal/sync.Mutex).unlockSlow", "internal/sync.fatal", "internal/sync.runtime_Semrelease"], unfollowed := true, recurses := true, apart := false }
def ClientNoneSaid : Prop := clientNoneRow.holds Try.pinned (OpenSpec.ofChange clientNoneSpec)

/-- ITS FALSE NEIGHBOUR: 'it returns false'. Refute it at one input. -/
def clientNoneWrong : ChangeSpec := { name := "clientNone", fn := fun _ => fun
  | [d1, d2, d3] => { results := [.lit (.bool false)], args := [d1, d2, d3] }
  | _ => none }
def ClientNoneWrongFalsely : Prop := clientNoneRow.holds Try.pinned (OpenSpec.ofChange clientNoneWrong)

/-- 'fairwaylaw21.ClientOnce': WHATEVER THE INPUT: true; the input reads as it did. -/
def clientOnceSpec : ChangeSpec := { name := "clientOnce", fn := fun _ => fun
  | [d1, d2, d3] => { results := [.lit (.bool true)], args := [d1, d2, d3] }
  | _ => none }
def clientOnceRow : OpenClaim := { program := "ytghfigeepnbjaaa", sum := "4cf2dbfa6a8e22fa02e18bf83c09a72472e39c2da0d22b8dd8e0502fdcf543a8", func := "fairway/fairwaylaw21.ClientOnce", spec := "clientOnce", inPlace := ["sync/atomic.StoreUint32", "sync/atomic.LoadUint32", "(*internal/sync.Mutex).Lock", "internal/race.Disable", "sync/atomic.CompareAndSwapInt32", "internal/race.Enable", "internal/race.Acquire", "(*internal/sync.Mutex).lockSlow", "internal/sync.runtime_canSpin", "internal/sync.runtime_doSpin", "internal/sync.throw", "internal/sync.runtime_nanotime", "internal/sync.runtime_SemacquireMutex", "sync/atomic.AddInt32", "(*internal/sync.Mutex).Unlock", "internal/race.ReleaseMerge", "(*internal/sync.Mutex).unlockSlow", "internal/sync.fatal", "internal/sync.runtime_Semrelease"], unfollowed := true, recurses := true, apart := false }
def ClientOnceSaid : Prop := clientOnceRow.holds Try.pinned (OpenSpec.ofChange clientOnceSpec)

/-- ITS FALSE NEIGHBOUR: 'it returns false'. Refute it at one input. -/
def clientOnceWrong : ChangeSpec := { name := "clientOnce", fn := fun _ => fun
  | [d1, d2, d3] => { results := [.lit (.bool false)], args := [d1, d2, d3] }
  | _ => none }
def ClientOnceWrongFalsely : Prop := clientOnceRow.holds Try.pinned (OpenSpec.ofChange clientOnceWrong)

/-- 'fairwaylaw21.ClientTargets': WHATEVER THE INPUT: true; the input reads as it did. -/
def clientTargetsSpec : ChangeSpec := { name := "clientTargets", fn := fun _ => fun
  | [d1, d2, d3] => { results := [.lit (.bool true)], args := [d1, d2, d3] }
  | _ => none }
def clientTargetsRow : OpenClaim := { program := "ytghfigeepnbjaaa", sum := "4cf2dbfa6a8e22fa02e18bf83c09a72472e39c2da0d22b8dd8e0502fdcf543a8", func := "fairway/fairwaylaw21.ClientTargets", spec := "clientTargets", inPlace := ["sync/atomic.StoreUint32", "sync/atomic.LoadUint32", "(*internal/sync.Mutex).Lock", "internal/race.Disable", "sync/atomic.CompareAndSwapInt32", "internal/race.Enable", "internal/race.Acquire", "(*internal/sync.Mutex).lockSlow", "internal/sync.runtime_canSpin", "internal/sync.runtime_doSpin", "internal/sync.throw", "internal/sync.runtime_nanotime", "internal/sync.runtime_SemacquireMutex", "sync/atomic.AddInt32", "(*internal/sync.Mutex).Unlock", "internal/race.ReleaseMerge", "(*internal/sync.Mutex).unlockSlow", "internal/sync.fatal", "internal/sync.runtime_Semrelease"], unfollowed := true, recurses := true, apart := false }
def ClientTargetsSaid : Prop := clientTargetsRow.holds Try.pinned (OpenSpec.ofChange clientTargetsSpec)

/-- ITS FALSE NEIGHBOUR: 'it returns false'. Refute it at one input. -/
def clientTargetsWrong : ChangeSpec := { name := "clientTargets", fn := fun _ => fun
  | [d1, d2, d3] => { results := [.lit (.bool false)], args := [d1, d2, d3] }
  | _ => none }
def ClientTargetsWrongFalsely : Prop := clientTargetsRow.holds Try.pinned (OpenSpec.ofChange clientTargetsWrong)

/-- 'fairwaylaw21.ClientBudget': WHATEVER THE INPUT: true; the input reads as it did. -/
def clientBudgetSpec : ChangeSpec := { name := "clientBudget", fn := fun _ => fun
  | [d1, d2] => { results := [.lit (.bool true)], args := [d1, d2] }
  | _ => none }
def clientBudgetRow : OpenClaim := { program := "ytghfigeepnbjaaa", sum := "4cf2dbfa6a8e22fa02e18bf83c09a72472e39c2da0d22b8dd8e0502fdcf543a8", func := "fairway/fairwaylaw21.ClientBudget", spec := "clientBudget", inPlace := ["sync/atomic.StoreUint32", "sync/atomic.LoadUint32", "(*internal/sync.Mutex).Lock", "internal/race.Disable", "sync/atomic.CompareAndSwapInt32", "internal/race.Enable", "internal/race.Acquire", "(*internal/sync.Mutex).lockSlow", "internal/sync.runtime_canSpin", "internal/sync.runtime_doSpin", "internal/sync.throw", "internal/sync.runtime_nanotime", "internal/sync.runtime_SemacquireMutex", "sync/atomic.AddInt32", "(*internal/sync.Mutex).Unlock", "internal/race.ReleaseMerge", "(*internal/sync.Mutex).unlockSlow", "internal/sync.fatal", "internal/sync.runtime_Semrelease"], unfollowed := true, recurses := true, apart := false }
def ClientBudgetSaid : Prop := clientBudgetRow.holds Try.pinned (OpenSpec.ofChange clientBudgetSpec)

/-- ITS FALSE NEIGHBOUR: 'it returns false'. Refute it at one input. -/
def clientBudgetWrong : ChangeSpec := { name := "clientBudget", fn := fun _ => fun
  | [d1, d2] => { results := [.lit (.bool false)], args := [d1, d2] }
  | _ => none }
def ClientBudgetWrongFalsely : Prop := clientBudgetRow.holds Try.pinned (OpenSpec.ofChange clientBudgetWrong)

/-- 'fairwaylaw21.ClientSure': WHATEVER THE INPUT: true; the input reads as it did. -/
def clientSureSpec : ChangeSpec := { name := "clientSure", fn := fun _ => fun
  | [d1, d2] => { results := [.lit (.bool true)], args := [d1, d2] }
  | _ => none }
def clientSureRow : OpenClaim := { program := "ytghfigeepnbjaaa", sum := "4cf2dbfa6a8e22fa02e18bf83c09a72472e39c2da0d22b8dd8e0502fdcf543a8", func := "fairway/fairwaylaw21.ClientSure", spec := "clientSure", inPlace := ["sync/atomic.StoreUint32", "sync/atomic.LoadUint32", "(*internal/sync.Mutex).Lock", "internal/race.Disable", "sync/atomic.CompareAndSwapInt32", "internal/race.Enable", "internal/race.Acquire", "(*internal/sync.Mutex).lockSlow", "internal/sync.runtime_canSpin", "internal/sync.runtime_doSpin", "internal/sync.throw", "internal/sync.runtime_nanotime", "internal/sync.runtime_SemacquireMutex", "sync/atomic.AddInt32", "(*internal/sync.Mutex).Unlock", "internal/race.ReleaseMerge", "(*internal/sync.Mutex).unlockSlow", "internal/sync.fatal", "internal/sync.runtime_Semrelease"], unfollowed := true, recurses := true, apart := false }
def ClientSureSaid : Prop := clientSureRow.holds Try.pinned (OpenSpec.ofChange clientSureSpec)

/-- ITS FALSE NEIGHBOUR: 'it returns false'. Refute it at one input. -/
def clientSureWrong : ChangeSpec := { name := "clientSure", fn := fun _ => fun
  | [d1, d2] => { results := [.lit (.bool false)], args := [d1, d2] }
  | _ => none }
def ClientSureWrongFalsely : Prop := clientSureRow.holds Try.pinned (OpenSpec.ofChange clientSureWrong)

/- THE SECOND FORM. 'bulk': how many values and letters a reading holds, each counted each time it is reached (what is shared counts as often as it is met; a slice's spare places count too). A statement '..UptoSaid' is the law's where the arguments, and the package variables that the reading takes, are together of bulk at most 1048576: NARROWER than '..Said'. Prove '..Said' where nothing that the law and all that it calls make is longer than what came in: it says more and counts as full. Else prove '..UptoSaid'. A law counts once. -/
mutual
def uptoBulk {H : Type} : DataW H → Nat
  | .lit (.string bytes) => bytes.length + 1
  | .lit _ => 1
  | .nil => 1
  | .ptr d => uptoBulk d + 1
  | .slice elems spare => uptoBulkAll elems + uptoBulkAll spare + 1
  | .agg parts => uptoBulkAll parts + 1
  | .iface _ d => uptoBulk d + 1
  | .map entries => uptoBulkEntries entries + 1
  | .held _ => 1
def uptoBulkAll {H : Type} : List (DataW H) → Nat
  | [] => 0
  | d :: r => uptoBulk d + uptoBulkAll r
def uptoBulkEntries {H : Type} : List (Lit × DataW H) → Nat
  | [] => 0
  | x :: r => uptoBulkEntry x + uptoBulkEntries r
def uptoBulkEntry {H : Type} : Lit × DataW H → Nat
  | (.string bytes, d) => bytes.length + uptoBulk d + 1
  | (_, d) => uptoBulk d + 1
 end
def uptoSmall : (H : Type) → List (DataW H) → Bool := fun _ ds => decide (uptoBulkAll ds ≤ 1048576)
def OpenSpec.upto (s : _root_.Go.ChangeSpec) : _root_.Go.OpenSpec := { _root_.Go.OpenSpec.ofChange s with cond := some uptoSmall }

/-- 'fairwaylaw20.MasterKeeps', WHERE WHAT IT READS IS OF BULK AT MOST 1048576: true; the input reads as it did. -/
def masterKeepsUptoRow : OpenClaim := { program := "ytghfigeepnbjaaa", sum := "4cf2dbfa6a8e22fa02e18bf83c09a72472e39c2da0d22b8dd8e0502fdcf543a8", func := "fairway/fairwaylaw20.MasterKeeps", spec := "masterKeeps", unfollowed := true, recurses := true, apart := false, narrowed := true }
def MasterKeepsUptoSaid : Prop := masterKeepsUptoRow.holds Try.pinned (OpenSpec.upto masterKeepsSpec)

/-- 'fairwaylaw20.MasterPlays', WHERE WHAT IT READS IS OF BULK AT MOST 1048576: true; the input reads as it did. -/
def masterPlaysUptoRow : OpenClaim := { program := "ytghfigeepnbjaaa", sum := "4cf2dbfa6a8e22fa02e18bf83c09a72472e39c2da0d22b8dd8e0502fdcf543a8", func := "fairway/fairwaylaw20.MasterPlays", spec := "masterPlays", unfollowed := true, recurses := true, apart := false, narrowed := true }
def MasterPlaysUptoSaid : Prop := masterPlaysUptoRow.holds Try.pinned (OpenSpec.upto masterPlaysSpec)

/-- 'fairwaylaw20.MasterRaw', WHERE WHAT IT READS IS OF BULK AT MOST 1048576: true; the input reads as it did. -/
def masterRawUptoRow : OpenClaim := { program := "ytghfigeepnbjaaa", sum := "4cf2dbfa6a8e22fa02e18bf83c09a72472e39c2da0d22b8dd8e0502fdcf543a8", func := "fairway/fairwaylaw20.MasterRaw", spec := "masterRaw", unfollowed := true, recurses := true, apart := false, narrowed := true }
def MasterRawUptoSaid : Prop := masterRawUptoRow.holds Try.pinned (OpenSpec.upto masterRawSpec)

/-- 'fairwaylaw20.MasterRises', WHERE WHAT IT READS IS OF BULK AT MOST 1048576: true; the input reads as it did. -/
def masterRisesUptoRow : OpenClaim := { program := "ytghfigeepnbjaaa", sum := "4cf2dbfa6a8e22fa02e18bf83c09a72472e39c2da0d22b8dd8e0502fdcf543a8", func := "fairway/fairwaylaw20.MasterRises", spec := "masterRises", unfollowed := true, recurses := true, apart := false, narrowed := true }
def MasterRisesUptoSaid : Prop := masterRisesUptoRow.holds Try.pinned (OpenSpec.upto masterRisesSpec)

/-- 'fairwaylaw20.MasterSure', WHERE WHAT IT READS IS OF BULK AT MOST 1048576: true; the input reads as it did. -/
def masterSureUptoRow : OpenClaim := { program := "ytghfigeepnbjaaa", sum := "4cf2dbfa6a8e22fa02e18bf83c09a72472e39c2da0d22b8dd8e0502fdcf543a8", func := "fairway/fairwaylaw20.MasterSure", spec := "masterSure", unfollowed := true, recurses := true, apart := false, narrowed := true }
def MasterSureUptoSaid : Prop := masterSureUptoRow.holds Try.pinned (OpenSpec.upto masterSureSpec)

/-- 'fairwaylaw20.MasterDrains', WHERE WHAT IT READS IS OF BULK AT MOST 1048576: true; the input reads as it did. -/
def masterDrainsUptoRow : OpenClaim := { program := "ytghfigeepnbjaaa", sum := "4cf2dbfa6a8e22fa02e18bf83c09a72472e39c2da0d22b8dd8e0502fdcf543a8", func := "fairway/fairwaylaw20.MasterDrains", spec := "masterDrains", unfollowed := true, recurses := true, apart := false, narrowed := true }
def MasterDrainsUptoSaid : Prop := masterDrainsUptoRow.holds Try.pinned (OpenSpec.upto masterDrainsSpec)

/-- 'fairwaylaw21.ClientNone', WHERE WHAT IT READS IS OF BULK AT MOST 1048576: true; the input reads as it did. -/
def clientNoneUptoRow : OpenClaim := { program := "ytghfigeepnbjaaa", sum := "4cf2dbfa6a8e22fa02e18bf83c09a72472e39c2da0d22b8dd8e0502fdcf543a8", func := "fairway/fairwaylaw21.ClientNone", spec := "clientNone", inPlace := ["sync/atomic.StoreUint32", "sync/atomic.LoadUint32", "(*internal/sync.Mutex).Lock", "internal/race.Disable", "sync/atomic.CompareAndSwapInt32", "internal/race.Enable", "internal/race.Acquire", "(*internal/sync.Mutex).lockSlow", "internal/sync.runtime_canSpin", "internal/sync.runtime_doSpin", "internal/sync.throw", "internal/sync.runtime_nanotime", "internal/sync.runtime_SemacquireMutex", "sync/atomic.AddInt32", "(*internal/sync.Mutex).Unlock", "internal/race.ReleaseMerge", "(*internal/sync.Mutex).unlockSlow", "internal/sync.fatal", "internal/sync.runtime_Semrelease"], unfollowed := true, recurses := true, apart := false, narrowed := true }
def ClientNoneUptoSaid : Prop := clientNoneUptoRow.holds Try.pinned (OpenSpec.upto clientNoneSpec)

/-- 'fairwaylaw21.ClientOnce', WHERE WHAT IT READS IS OF BULK AT MOST 1048576: true; the input reads as it did. -/
def clientOnceUptoRow : OpenClaim := { program := "ytghfigeepnbjaaa", sum := "4cf2dbfa6a8e22fa02e18bf83c09a72472e39c2da0d22b8dd8e0502fdcf543a8", func := "fairway/fairwaylaw21.ClientOnce", spec := "clientOnce", inPlace := ["sync/atomic.StoreUint32", "sync/atomic.LoadUint32", "(*internal/sync.Mutex).Lock", "internal/race.Disable", "sync/atomic.CompareAndSwapInt32", "internal/race.Enable", "internal/race.Acquire", "(*internal/sync.Mutex).lockSlow", "internal/sync.runtime_canSpin", "internal/sync.runtime_doSpin", "internal/sync.throw", "internal/sync.runtime_nanotime", "internal/sync.runtime_SemacquireMutex", "sync/atomic.AddInt32", "(*internal/sync.Mutex).Unlock", "internal/race.ReleaseMerge", "(*internal/sync.Mutex).unlockSlow", "internal/sync.fatal", "internal/sync.runtime_Semrelease"], unfollowed := true, recurses := true, apart := false, narrowed := true }
def ClientOnceUptoSaid : Prop := clientOnceUptoRow.holds Try.pinned (OpenSpec.upto clientOnceSpec)

/-- 'fairwaylaw21.ClientTargets', WHERE WHAT IT READS IS OF BULK AT MOST 1048576: true; the input reads as it did. -/
def clientTargetsUptoRow : OpenClaim := { program := "ytghfigeepnbjaaa", sum := "4cf2dbfa6a8e22fa02e18bf83c09a72472e39c2da0d22b8dd8e0502fdcf543a8", func := "fairway/fairwaylaw21.ClientTargets", spec := "clientTargets", inPlace := ["sync/atomic.StoreUint32", "sync/atomic.LoadUint32", "(*internal/sync.Mutex).Lock", "internal/race.Disable", "sync/atomic.CompareAndSwapInt32", "internal/race.Enable", "internal/race.Acquire", "(*internal/sync.Mutex).lockSlow", "internal/sync.runtime_canSpin", "internal/sync.runtime_doSpin", "internal/sync.throw", "internal/sync.runtime_nanotime", "internal/sync.runtime_SemacquireMutex", "sync/atomic.AddInt32", "(*internal/sync.Mutex).Unlock", "internal/race.ReleaseMerge", "(*internal/sync.Mutex).unlockSlow", "internal/sync.fatal", "internal/sync.runtime_Semrelease"], unfollowed := true, recurses := true, apart := false, narrowed := true }
def ClientTargetsUptoSaid : Prop := clientTargetsUptoRow.holds Try.pinned (OpenSpec.upto clientTargetsSpec)

/-- 'fairwaylaw21.ClientBudget', WHERE WHAT IT READS IS OF BULK AT MOST 1048576: true; the input reads as it did. -/
def clientBudgetUptoRow : OpenClaim := { program := "ytghfigeepnbjaaa", sum := "4cf2dbfa6a8e22fa02e18bf83c09a72472e39c2da0d22b8dd8e0502fdcf543a8", func := "fairway/fairwaylaw21.ClientBudget", spec := "clientBudget", inPlace := ["sync/atomic.StoreUint32", "sync/atomic.LoadUint32", "(*internal/sync.Mutex).Lock", "internal/race.Disable", "sync/atomic.CompareAndSwapInt32", "internal/race.Enable", "internal/race.Acquire", "(*internal/sync.Mutex).lockSlow", "internal/sync.runtime_canSpin", "internal/sync.runtime_doSpin", "internal/sync.throw", "internal/sync.runtime_nanotime", "internal/sync.runtime_SemacquireMutex", "sync/atomic.AddInt32", "(*internal/sync.Mutex).Unlock", "internal/race.ReleaseMerge", "(*internal/sync.Mutex).unlockSlow", "internal/sync.fatal", "internal/sync.runtime_Semrelease"], unfollowed := true, recurses := true, apart := false, narrowed := true }
def ClientBudgetUptoSaid : Prop := clientBudgetUptoRow.holds Try.pinned (OpenSpec.upto clientBudgetSpec)

/-- 'fairwaylaw21.ClientSure', WHERE WHAT IT READS IS OF BULK AT MOST 1048576: true; the input reads as it did. -/
def clientSureUptoRow : OpenClaim := { program := "ytghfigeepnbjaaa", sum := "4cf2dbfa6a8e22fa02e18bf83c09a72472e39c2da0d22b8dd8e0502fdcf543a8", func := "fairway/fairwaylaw21.ClientSure", spec := "clientSure", inPlace := ["sync/atomic.StoreUint32", "sync/atomic.LoadUint32", "(*internal/sync.Mutex).Lock", "internal/race.Disable", "sync/atomic.CompareAndSwapInt32", "internal/race.Enable", "internal/race.Acquire", "(*internal/sync.Mutex).lockSlow", "internal/sync.runtime_canSpin", "internal/sync.runtime_doSpin", "internal/sync.throw", "internal/sync.runtime_nanotime", "internal/sync.runtime_SemacquireMutex", "sync/atomic.AddInt32", "(*internal/sync.Mutex).Unlock", "internal/race.ReleaseMerge", "(*internal/sync.Mutex).unlockSlow", "internal/sync.fatal", "internal/sync.runtime_Semrelease"], unfollowed := true, recurses := true, apart := false, narrowed := true }
def ClientSureUptoSaid : Prop := clientSureUptoRow.holds Try.pinned (OpenSpec.upto clientSureSpec)

end Rows
end Go.Proofs.Ytghfigeepnbjaaa
