/-
  No cell of these rows narrows 'for every input' (looked for: loops, veiled, ifaces, maps, wideKeys, modest, calm, conditions, laid).
  DERIVED. THE GIVEN ROWS OF THIS SEAT. 10 by the template 'for every input the law returns true; each argument reads behind the call as it read before'; 0 by the template 'total and deterministic' (their statements: YtlphkjbadjdleaaTotals.lean).
  GIVEN WITH THE SEED: the statements are not yours to turn. If you find one false, say at which input.
  Laid BY PROGRAM, IN A SANDBOX (cutbox-rows.mjs): the forced cells as the released guide's own fill.sh prints them over the translation 5a61449aa8f78ef3… (all of the seat's roots in one cut). By AI agents, Wed Nov 11 2026. No macro, syntax, notation, axiom, sorry.
-/
import Derived.Test.YtlphkjbadjdleaaChecked
import GoSem.Claim
import GoSem.ClaimJoined
import GoSem.ClaimMapViews
import Derived.JoinedTies
import Derived.KernelRfl
namespace Go.Proofs.Ytlphkjbadjdleaa
/- THE CELL 'sum', in the pinned program and in every row, IS THE sha256 OF THE DUMP (.gsa) THAT YtlphkjbadjdleaaProg.lean LOADS. Nothing in Lean hashes anything: it is a label: what it is worth is what the hold of that sum in a sandbox is worth. -/
noncomputable def Try.pinned : Pinned := { name := "ytlphkjbadjdleaa", sum := "5a61449aa8f78ef3010f66880b52a0113064e22cd79cb607560bf5e76d53affd", checked := Try.checked }
namespace Rows
def none {H : Type} : Left H := { results := [], args := [] }

/-- 'fairwaylaw11.LogsSame': WHATEVER THE INPUT: true; the input reads as it did. -/
def logsSameSpec : ChangeSpec := { name := "logsSame", fn := fun _ => fun
  | [d1, d2] => { results := [.lit (.bool true)], args := [d1, d2] }
  | _ => none }
def logsSameRow : OpenClaim := { program := "ytlphkjbadjdleaa", sum := "5a61449aa8f78ef3010f66880b52a0113064e22cd79cb607560bf5e76d53affd", func := "fairway/fairwaylaw11.LogsSame", spec := "logsSame", inPlace := ["maps.clone"], plainKeys := false, apart := false }
def LogsSameSaid : Prop := logsSameRow.holds Try.pinned (OpenSpec.ofChange logsSameSpec)

/-- ITS FALSE NEIGHBOUR: 'it returns false'. Refute it at one input. -/
def logsSameWrong : ChangeSpec := { name := "logsSame", fn := fun _ => fun
  | [d1, d2] => { results := [.lit (.bool false)], args := [d1, d2] }
  | _ => none }
def LogsSameWrongFalsely : Prop := logsSameRow.holds Try.pinned (OpenSpec.ofChange logsSameWrong)

/-- 'fairwaylaw23.LinearCheck': WHATEVER THE INPUT: true; the input reads as it did. -/
def linearCheckSpec : ChangeSpec := { name := "linearCheck", fn := fun _ => fun
  | [d1, d2] => { results := [.lit (.bool true)], args := [d1, d2] }
  | _ => none }
def linearCheckRow : OpenClaim := { program := "ytlphkjbadjdleaa", sum := "5a61449aa8f78ef3010f66880b52a0113064e22cd79cb607560bf5e76d53affd", func := "fairway/fairwaylaw23.LinearCheck", spec := "linearCheck", plainKeys := false, apart := false }
def LinearCheckSaid : Prop := linearCheckRow.holds Try.pinned (OpenSpec.ofChange linearCheckSpec)

/-- ITS FALSE NEIGHBOUR: 'it returns false'. Refute it at one input. -/
def linearCheckWrong : ChangeSpec := { name := "linearCheck", fn := fun _ => fun
  | [d1, d2] => { results := [.lit (.bool false)], args := [d1, d2] }
  | _ => none }
def LinearCheckWrongFalsely : Prop := linearCheckRow.holds Try.pinned (OpenSpec.ofChange linearCheckWrong)

/-- 'fairwaylaw23.LinearSerial': WHATEVER THE INPUT: true; the input reads as it did. -/
def linearSerialSpec : ChangeSpec := { name := "linearSerial", fn := fun _ => fun
  | [d1, d2] => { results := [.lit (.bool true)], args := [d1, d2] }
  | _ => none }
def linearSerialRow : OpenClaim := { program := "ytlphkjbadjdleaa", sum := "5a61449aa8f78ef3010f66880b52a0113064e22cd79cb607560bf5e76d53affd", func := "fairway/fairwaylaw23.LinearSerial", spec := "linearSerial", plainKeys := false, apart := false }
def LinearSerialSaid : Prop := linearSerialRow.holds Try.pinned (OpenSpec.ofChange linearSerialSpec)

/-- ITS FALSE NEIGHBOUR: 'it returns false'. Refute it at one input. -/
def linearSerialWrong : ChangeSpec := { name := "linearSerial", fn := fun _ => fun
  | [d1, d2] => { results := [.lit (.bool false)], args := [d1, d2] }
  | _ => none }
def LinearSerialWrongFalsely : Prop := linearSerialRow.holds Try.pinned (OpenSpec.ofChange linearSerialWrong)

/-- 'fairwaylaw23.LinearWeaker': WHATEVER THE INPUT: true; the input reads as it did. -/
def linearWeakerSpec : ChangeSpec := { name := "linearWeaker", fn := fun _ => fun
  | [d1, d2, d3] => { results := [.lit (.bool true)], args := [d1, d2, d3] }
  | _ => none }
def linearWeakerRow : OpenClaim := { program := "ytlphkjbadjdleaa", sum := "5a61449aa8f78ef3010f66880b52a0113064e22cd79cb607560bf5e76d53affd", func := "fairway/fairwaylaw23.LinearWeaker", spec := "linearWeaker", plainKeys := false, apart := false }
def LinearWeakerSaid : Prop := linearWeakerRow.holds Try.pinned (OpenSpec.ofChange linearWeakerSpec)

/-- ITS FALSE NEIGHBOUR: 'it returns false'. Refute it at one input. -/
def linearWeakerWrong : ChangeSpec := { name := "linearWeaker", fn := fun _ => fun
  | [d1, d2, d3] => { results := [.lit (.bool false)], args := [d1, d2, d3] }
  | _ => none }
def LinearWeakerWrongFalsely : Prop := linearWeakerRow.holds Try.pinned (OpenSpec.ofChange linearWeakerWrong)

/-- 'fairwaylaw11.LogsPlay': WHATEVER THE INPUT: true; the input reads as it did. -/
def logsPlaySpec : ChangeSpec := { name := "logsPlay", fn := fun _ => fun
  | [d] => { results := [.lit (.bool true)], args := [d] }
  | _ => none }
def logsPlayRow : OpenClaim := { program := "ytlphkjbadjdleaa", sum := "5a61449aa8f78ef3010f66880b52a0113064e22cd79cb607560bf5e76d53affd", func := "fairway/fairwaylaw11.LogsPlay", spec := "logsPlay", inPlace := ["maps.clone"], plainKeys := false, apart := false }
def LogsPlaySaid : Prop := logsPlayRow.holds Try.pinned (OpenSpec.ofChange logsPlaySpec)

/-- ITS FALSE NEIGHBOUR: 'it returns false'. Refute it at one input. -/
def logsPlayWrong : ChangeSpec := { name := "logsPlay", fn := fun _ => fun
  | [d] => { results := [.lit (.bool false)], args := [d] }
  | _ => none }
def LogsPlayWrongFalsely : Prop := logsPlayRow.holds Try.pinned (OpenSpec.ofChange logsPlayWrong)

/-- 'fairwaylaw11.LogsNone': WHATEVER THE INPUT: true; the input reads as it did. -/
def logsNoneSpec : ChangeSpec := { name := "logsNone", fn := fun _ => fun
  | [d] => { results := [.lit (.bool true)], args := [d] }
  | _ => none }
def logsNoneRow : OpenClaim := { program := "ytlphkjbadjdleaa", sum := "5a61449aa8f78ef3010f66880b52a0113064e22cd79cb607560bf5e76d53affd", func := "fairway/fairwaylaw11.LogsNone", spec := "logsNone", inPlace := ["maps.clone"], plainKeys := false, apart := false }
def LogsNoneSaid : Prop := logsNoneRow.holds Try.pinned (OpenSpec.ofChange logsNoneSpec)

/-- ITS FALSE NEIGHBOUR: 'it returns false'. Refute it at one input. -/
def logsNoneWrong : ChangeSpec := { name := "logsNone", fn := fun _ => fun
  | [d] => { results := [.lit (.bool false)], args := [d] }
  | _ => none }
def LogsNoneWrongFalsely : Prop := logsNoneRow.holds Try.pinned (OpenSpec.ofChange logsNoneWrong)

/-- 'fairwaylaw23.LinearSound': WHATEVER THE INPUT: true; the input reads as it did. -/
def linearSoundSpec : ChangeSpec := { name := "linearSound", fn := fun _ => fun
  | [d1, d2, d3] => { results := [.lit (.bool true)], args := [d1, d2, d3] }
  | _ => none }
def linearSoundRow : OpenClaim := { program := "ytlphkjbadjdleaa", sum := "5a61449aa8f78ef3010f66880b52a0113064e22cd79cb607560bf5e76d53affd", func := "fairway/fairwaylaw23.LinearSound", spec := "linearSound", inPlace := ["maps.clone"], recurses := true, plainKeys := false, apart := false }
def LinearSoundSaid : Prop := linearSoundRow.holds Try.pinned (OpenSpec.ofChange linearSoundSpec)

/-- ITS FALSE NEIGHBOUR: 'it returns false'. Refute it at one input. -/
def linearSoundWrong : ChangeSpec := { name := "linearSound", fn := fun _ => fun
  | [d1, d2, d3] => { results := [.lit (.bool false)], args := [d1, d2, d3] }
  | _ => none }
def LinearSoundWrongFalsely : Prop := linearSoundRow.holds Try.pinned (OpenSpec.ofChange linearSoundWrong)

/-- 'fairwaylaw13.FramesGet': WHATEVER THE INPUT: true; the input reads as it did. -/
def framesGetSpec : ChangeSpec := { name := "framesGet", fn := fun _ => fun
  | [d] => { results := [.lit (.bool true)], args := [d] }
  | _ => none }
def framesGetRow : OpenClaim := { program := "ytlphkjbadjdleaa", sum := "5a61449aa8f78ef3010f66880b52a0113064e22cd79cb607560bf5e76d53affd", func := "fairway/fairwaylaw13.FramesGet", spec := "framesGet", unfollowed := true, recurses := true, plainKeys := false, apart := false }
def FramesGetSaid : Prop := framesGetRow.holds Try.pinned (OpenSpec.ofChange framesGetSpec)

/-- ITS FALSE NEIGHBOUR: 'it returns false'. Refute it at one input. -/
def framesGetWrong : ChangeSpec := { name := "framesGet", fn := fun _ => fun
  | [d] => { results := [.lit (.bool false)], args := [d] }
  | _ => none }
def FramesGetWrongFalsely : Prop := framesGetRow.holds Try.pinned (OpenSpec.ofChange framesGetWrong)

/-- 'fairwaylaw13.FramesBack': WHATEVER THE INPUT: true; the input reads as it did. -/
def framesBackSpec : ChangeSpec := { name := "framesBack", fn := fun _ => fun
  | [d1, d2] => { results := [.lit (.bool true)], args := [d1, d2] }
  | _ => none }
def framesBackRow : OpenClaim := { program := "ytlphkjbadjdleaa", sum := "5a61449aa8f78ef3010f66880b52a0113064e22cd79cb607560bf5e76d53affd", func := "fairway/fairwaylaw13.FramesBack", spec := "framesBack", unfollowed := true, recurses := true, plainKeys := false, apart := false }
def FramesBackSaid : Prop := framesBackRow.holds Try.pinned (OpenSpec.ofChange framesBackSpec)

/-- ITS FALSE NEIGHBOUR: 'it returns false'. Refute it at one input. -/
def framesBackWrong : ChangeSpec := { name := "framesBack", fn := fun _ => fun
  | [d1, d2] => { results := [.lit (.bool false)], args := [d1, d2] }
  | _ => none }
def FramesBackWrongFalsely : Prop := framesBackRow.holds Try.pinned (OpenSpec.ofChange framesBackWrong)

/-- 'fairwaylaw13.FramesForm': WHATEVER THE INPUT: true; the input reads as it did. -/
def framesFormSpec : ChangeSpec := { name := "framesForm", fn := fun _ => fun
  | [d] => { results := [.lit (.bool true)], args := [d] }
  | _ => none }
def framesFormRow : OpenClaim := { program := "ytlphkjbadjdleaa", sum := "5a61449aa8f78ef3010f66880b52a0113064e22cd79cb607560bf5e76d53affd", func := "fairway/fairwaylaw13.FramesForm", spec := "framesForm", unfollowed := true, recurses := true, plainKeys := false, apart := false }
def FramesFormSaid : Prop := framesFormRow.holds Try.pinned (OpenSpec.ofChange framesFormSpec)

/-- ITS FALSE NEIGHBOUR: 'it returns false'. Refute it at one input. -/
def framesFormWrong : ChangeSpec := { name := "framesForm", fn := fun _ => fun
  | [d] => { results := [.lit (.bool false)], args := [d] }
  | _ => none }
def FramesFormWrongFalsely : Prop := framesFormRow.holds Try.pinned (OpenSpec.ofChange framesFormWrong)

/- THE SECOND FORM. 'bulk': how many values and letters a reading holds, each counted each time it is reached (what is shared counts as often as it is met; a slice's spare places count too). A statement '..UptoSaid' is the law's where the arguments, and the package variables that the reading takes, are together of bulk at most 1048576: NARROWER than '..Said'. Prove '..Said' where nothing that the law and all that it calls make is longer than what came in: it says more and counts as full. Else prove '..UptoSaid'. A law counts once. -/
mutual
def uptoBulk {H : Type} : DataW H → Nat
  | .lit (.string bytes) => bytes.length + 1
  | .lit _ => 1
  | .nil => 1
  | .ptr d => uptoBulk d + 1
  | .slice elems spare => uptoBulkAll elems + uptoBulkAll spare + 1
  | .agg parts => uptoBulkAll parts + 1
  | .iface _ d => uptoBulk d + 1
  | .map entries => uptoBulkEntries entries + 1
  | .held _ => 1
def uptoBulkAll {H : Type} : List (DataW H) → Nat
  | [] => 0
  | d :: r => uptoBulk d + uptoBulkAll r
def uptoBulkEntries {H : Type} : List (Lit × DataW H) → Nat
  | [] => 0
  | x :: r => uptoBulkEntry x + uptoBulkEntries r
def uptoBulkEntry {H : Type} : Lit × DataW H → Nat
  | (.string bytes, d) => bytes.length + uptoBulk d + 1
  | (_, d) => uptoBulk d + 1
 end
def uptoSmall : (H : Type) → List (DataW H) → Bool := fun _ ds => decide (uptoBulkAll ds ≤ 1048576)
def OpenSpec.upto (s : _root_.Go.ChangeSpec) : _root_.Go.OpenSpec := { _root_.Go.OpenSpec.ofChange s with cond := some uptoSmall }

/-- 'fairwaylaw11.LogsSame', WHERE WHAT IT READS IS OF BULK AT MOST 1048576: true; the input reads as it did. -/
def logsSameUptoRow : OpenClaim := { program := "ytlphkjbadjdleaa", sum := "5a61449aa8f78ef3010f66880b52a0113064e22cd79cb607560bf5e76d53affd", func := "fairway/fairwaylaw11.LogsSame", spec := "logsSame", inPlace := ["maps.clone"], plainKeys := false, apart := false, narrowed := true }
def LogsSameUptoSaid : Prop := logsSameUptoRow.holds Try.pinned (OpenSpec.upto logsSameSpec)

/-- 'fairwaylaw23.LinearCheck', WHERE WHAT IT READS IS OF BULK AT MOST 1048576: true; the input reads as it did. -/
def linearCheckUptoRow : OpenClaim := { program := "ytlphkjbadjdleaa", sum := "5a61449aa8f78ef3010f66880b52a0113064e22cd79cb607560bf5e76d53affd", func := "fairway/fairwaylaw23.LinearCheck", spec := "linearCheck", plainKeys := false, apart := false, narrowed := true }
def LinearCheckUptoSaid : Prop := linearCheckUptoRow.holds Try.pinned (OpenSpec.upto linearCheckSpec)

/-- 'fairwaylaw23.LinearSerial', WHERE WHAT IT READS IS OF BULK AT MOST 1048576: true; the input reads as it did. -/
def linearSerialUptoRow : OpenClaim := { program := "ytlphkjbadjdleaa", sum := "5a61449aa8f78ef3010f66880b52a0113064e22cd79cb607560bf5e76d53affd", func := "fairway/fairwaylaw23.LinearSerial", spec := "linearSerial", plainKeys := false, apart := false, narrowed := true }
def LinearSerialUptoSaid : Prop := linearSerialUptoRow.holds Try.pinned (OpenSpec.upto linearSerialSpec)

/-- 'fairwaylaw23.LinearWeaker', WHERE WHAT IT READS IS OF BULK AT MOST 1048576: true; the input reads as it did. -/
def linearWeakerUptoRow : OpenClaim := { program := "ytlphkjbadjdleaa", sum := "5a61449aa8f78ef3010f66880b52a0113064e22cd79cb607560bf5e76d53affd", func := "fairway/fairwaylaw23.LinearWeaker", spec := "linearWeaker", plainKeys := false, apart := false, narrowed := true }
def LinearWeakerUptoSaid : Prop := linearWeakerUptoRow.holds Try.pinned (OpenSpec.upto linearWeakerSpec)

/-- 'fairwaylaw11.LogsPlay', WHERE WHAT IT READS IS OF BULK AT MOST 1048576: true; the input reads as it did. -/
def logsPlayUptoRow : OpenClaim := { program := "ytlphkjbadjdleaa", sum := "5a61449aa8f78ef3010f66880b52a0113064e22cd79cb607560bf5e76d53affd", func := "fairway/fairwaylaw11.LogsPlay", spec := "logsPlay", inPlace := ["maps.clone"], plainKeys := false, apart := false, narrowed := true }
def LogsPlayUptoSaid : Prop := logsPlayUptoRow.holds Try.pinned (OpenSpec.upto logsPlaySpec)

/-- 'fairwaylaw11.LogsNone', WHERE WHAT IT READS IS OF BULK AT MOST 1048576: true; the input reads as it did. -/
def logsNoneUptoRow : OpenClaim := { program := "ytlphkjbadjdleaa", sum := "5a61449aa8f78ef3010f66880b52a0113064e22cd79cb607560bf5e76d53affd", func := "fairway/fairwaylaw11.LogsNone", spec := "logsNone", inPlace := ["maps.clone"], plainKeys := false, apart := false, narrowed := true }
def LogsNoneUptoSaid : Prop := logsNoneUptoRow.holds Try.pinned (OpenSpec.upto logsNoneSpec)

/-- 'fairwaylaw23.LinearSound', WHERE WHAT IT READS IS OF BULK AT MOST 1048576: true; the input reads as it did. -/
def linearSoundUptoRow : OpenClaim := { program := "ytlphkjbadjdleaa", sum := "5a61449aa8f78ef3010f66880b52a0113064e22cd79cb607560bf5e76d53affd", func := "fairway/fairwaylaw23.LinearSound", spec := "linearSound", inPlace := ["maps.clone"], recurses := true, plainKeys := false, apart := false, narrowed := true }
def LinearSoundUptoSaid : Prop := linearSoundUptoRow.holds Try.pinned (OpenSpec.upto linearSoundSpec)

/-- 'fairwaylaw13.FramesGet', WHERE WHAT IT READS IS OF BULK AT MOST 1048576: true; the input reads as it did. -/
def framesGetUptoRow : OpenClaim := { program := "ytlphkjbadjdleaa", sum := "5a61449aa8f78ef3010f66880b52a0113064e22cd79cb607560bf5e76d53affd", func := "fairway/fairwaylaw13.FramesGet", spec := "framesGet", unfollowed := true, recurses := true, plainKeys := false, apart := false, narrowed := true }
def FramesGetUptoSaid : Prop := framesGetUptoRow.holds Try.pinned (OpenSpec.upto framesGetSpec)

/-- 'fairwaylaw13.FramesBack', WHERE WHAT IT READS IS OF BULK AT MOST 1048576: true; the input reads as it did. -/
def framesBackUptoRow : OpenClaim := { program := "ytlphkjbadjdleaa", sum := "5a61449aa8f78ef3010f66880b52a0113064e22cd79cb607560bf5e76d53affd", func := "fairway/fairwaylaw13.FramesBack", spec := "framesBack", unfollowed := true, recurses := true, plainKeys := false, apart := false, narrowed := true }
def FramesBackUptoSaid : Prop := framesBackUptoRow.holds Try.pinned (OpenSpec.upto framesBackSpec)

/-- 'fairwaylaw13.FramesForm', WHERE WHAT IT READS IS OF BULK AT MOST 1048576: true; the input reads as it did. -/
def framesFormUptoRow : OpenClaim := { program := "ytlphkjbadjdleaa", sum := "5a61449aa8f78ef3010f66880b52a0113064e22cd79cb607560bf5e76d53affd", func := "fairway/fairwaylaw13.FramesForm", spec := "framesForm", unfollowed := true, recurses := true, plainKeys := false, apart := false, narrowed := true }
def FramesFormUptoSaid : Prop := framesFormUptoRow.holds Try.pinned (OpenSpec.upto framesFormSpec)

end Rows
end Go.Proofs.Ytlphkjbadjdleaa
