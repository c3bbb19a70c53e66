/-
  No cell of these rows narrows 'for every input' (looked for: loops, veiled, ifaces, maps, wideKeys, modest, calm, conditions, laid).
  DERIVED. THE GIVEN ROWS OF THIS SEAT. 6 by the template 'for every input the law returns true; each argument reads behind the call as it read before'; 0 by the template 'total and deterministic' (their statements: YtfniieigeofbdaaTotals.lean).
  GIVEN WITH THE SEED: the statements are not yours to turn. If you find one false, say at which input.
  Laid BY PROGRAM, IN A SANDBOX (cutbox-rows.mjs): the forced cells as the released guide's own fill.sh prints them over the translation 2baf129c0462b0e7… (all of the seat's roots in one cut). By AI agents, Wed Nov 11 2026. No macro, syntax, notation, axiom, sorry.
-/
import Derived.Test.YtfniieigeofbdaaChecked
import GoSem.Claim
import GoSem.ClaimJoined
import GoSem.ClaimMapViews
import Derived.JoinedTies
import Derived.KernelRfl
namespace Go.Proofs.Ytfniieigeofbdaa
/- THE CELL 'sum', in the pinned program and in every row, IS THE sha256 OF THE DUMP (.gsa) THAT YtfniieigeofbdaaProg.lean LOADS. Nothing in Lean hashes anything: it is a label: what it is worth is what the hold of that sum in a sandbox is worth. -/
noncomputable def Try.pinned : Pinned := { name := "ytfniieigeofbdaa", sum := "2baf129c0462b0e71012b6c61a37c84251b413626f5c42ade2a68b154981579f", checked := Try.checked }
namespace Rows
def none {H : Type} : Left H := { results := [], args := [] }

/-- 'fairwaylaw10.KvSwap': WHATEVER THE INPUT: true; the input reads as it did. -/
def kvSwapSpec : ChangeSpec := { name := "kvSwap", fn := fun _ => fun
  | [d1, d2, d3] => { results := [.lit (.bool true)], args := [d1, d2, d3] }
  | _ => none }
def kvSwapRow : OpenClaim := { program := "ytfniieigeofbdaa", sum := "2baf129c0462b0e71012b6c61a37c84251b413626f5c42ade2a68b154981579f", func := "fairway/fairwaylaw10.KvSwap", spec := "kvSwap", inPlace := ["maps.clone"], unfollowed := true, recurses := true, plainKeys := false, apart := false }
def KvSwapSaid : Prop := kvSwapRow.holds Try.pinned (OpenSpec.ofChange kvSwapSpec)

/-- ITS FALSE NEIGHBOUR: 'it returns false'. Refute it at one input. -/
def kvSwapWrong : ChangeSpec := { name := "kvSwap", fn := fun _ => fun
  | [d1, d2, d3] => { results := [.lit (.bool false)], args := [d1, d2, d3] }
  | _ => none }
def KvSwapWrongFalsely : Prop := kvSwapRow.holds Try.pinned (OpenSpec.ofChange kvSwapWrong)

/-- 'fairwaylaw10.KvPlay': WHATEVER THE INPUT: true; the input reads as it did. -/
def kvPlaySpec : ChangeSpec := { name := "kvPlay", fn := fun _ => fun
  | [d] => { results := [.lit (.bool true)], args := [d] }
  | _ => none }
def kvPlayRow : OpenClaim := { program := "ytfniieigeofbdaa", sum := "2baf129c0462b0e71012b6c61a37c84251b413626f5c42ade2a68b154981579f", func := "fairway/fairwaylaw10.KvPlay", spec := "kvPlay", inPlace := ["maps.clone"], unfollowed := true, recurses := true, plainKeys := false, apart := false }
def KvPlaySaid : Prop := kvPlayRow.holds Try.pinned (OpenSpec.ofChange kvPlaySpec)

/-- ITS FALSE NEIGHBOUR: 'it returns false'. Refute it at one input. -/
def kvPlayWrong : ChangeSpec := { name := "kvPlay", fn := fun _ => fun
  | [d] => { results := [.lit (.bool false)], args := [d] }
  | _ => none }
def KvPlayWrongFalsely : Prop := kvPlayRow.holds Try.pinned (OpenSpec.ofChange kvPlayWrong)

/-- 'fairwaylaw10.KvNone': WHATEVER THE INPUT: true; the input reads as it did. -/
def kvNoneSpec : ChangeSpec := { name := "kvNone", fn := fun _ => fun
  | [d] => { results := [.lit (.bool true)], args := [d] }
  | _ => none }
def kvNoneRow : OpenClaim := { program := "ytfniieigeofbdaa", sum := "2baf129c0462b0e71012b6c61a37c84251b413626f5c42ade2a68b154981579f", func := "fairway/fairwaylaw10.KvNone", spec := "kvNone", inPlace := ["maps.clone"], unfollowed := true, recurses := true, plainKeys := false, apart := false }
def KvNoneSaid : Prop := kvNoneRow.holds Try.pinned (OpenSpec.ofChange kvNoneSpec)

/-- ITS FALSE NEIGHBOUR: 'it returns false'. Refute it at one input. -/
def kvNoneWrong : ChangeSpec := { name := "kvNone", fn := fun _ => fun
  | [d] => { results := [.lit (.bool false)], args := [d] }
  | _ => none }
def KvNoneWrongFalsely : Prop := kvNoneRow.holds Try.pinned (OpenSpec.ofChange kvNoneWrong)

/-- 'fairwaylaw14.LinksOnce': WHATEVER THE INPUT: true; the input reads as it did. -/
def linksOnceSpec : ChangeSpec := { name := "linksOnce", fn := fun _ => fun
  | [d1, d2] => { results := [.lit (.bool true)], args := [d1, d2] }
  | _ => none }
def linksOnceRow : OpenClaim := { program := "ytfniieigeofbdaa", sum := "2baf129c0462b0e71012b6c61a37c84251b413626f5c42ade2a68b154981579f", func := "fairway/fairwaylaw14.LinksOnce", spec := "linksOnce", unfollowed := true, recurses := true, plainKeys := false, apart := false }
def LinksOnceSaid : Prop := linksOnceRow.holds Try.pinned (OpenSpec.ofChange linksOnceSpec)

/-- ITS FALSE NEIGHBOUR: 'it returns false'. Refute it at one input. -/
def linksOnceWrong : ChangeSpec := { name := "linksOnce", fn := fun _ => fun
  | [d1, d2] => { results := [.lit (.bool false)], args := [d1, d2] }
  | _ => none }
def LinksOnceWrongFalsely : Prop := linksOnceRow.holds Try.pinned (OpenSpec.ofChange linksOnceWrong)

/-- 'fairwaylaw14.LinksPlay': WHATEVER THE INPUT: true; the input reads as it did. -/
def linksPlaySpec : ChangeSpec := { name := "linksPlay", fn := fun _ => fun
  | [d1, d2] => { results := [.lit (.bool true)], args := [d1, d2] }
  | _ => none }
def linksPlayRow : OpenClaim := { program := "ytfniieigeofbdaa", sum := "2baf129c0462b0e71012b6c61a37c84251b413626f5c42ade2a68b154981579f", func := "fairway/fairwaylaw14.LinksPlay", spec := "linksPlay", unfollowed := true, recurses := true, plainKeys := false, apart := false }
def LinksPlaySaid : Prop := linksPlayRow.holds Try.pinned (OpenSpec.ofChange linksPlaySpec)

/-- ITS FALSE NEIGHBOUR: 'it returns false'. Refute it at one input. -/
def linksPlayWrong : ChangeSpec := { name := "linksPlay", fn := fun _ => fun
  | [d1, d2] => { results := [.lit (.bool false)], args := [d1, d2] }
  | _ => none }
def LinksPlayWrongFalsely : Prop := linksPlayRow.holds Try.pinned (OpenSpec.ofChange linksPlayWrong)

/-- 'fairwaylaw14.LinksNone': WHATEVER THE INPUT: true; the input reads as it did. -/
def linksNoneSpec : ChangeSpec := { name := "linksNone", fn := fun _ => fun
  | [d] => { results := [.lit (.bool true)], args := [d] }
  | _ => none }
def linksNoneRow : OpenClaim := { program := "ytfniieigeofbdaa", sum := "2baf129c0462b0e71012b6c61a37c84251b413626f5c42ade2a68b154981579f", func := "fairway/fairwaylaw14.LinksNone", spec := "linksNone", unfollowed := true, recurses := true, plainKeys := false, apart := false }
def LinksNoneSaid : Prop := linksNoneRow.holds Try.pinned (OpenSpec.ofChange linksNoneSpec)

/-- ITS FALSE NEIGHBOUR: 'it returns false'. Refute it at one input. -/
def linksNoneWrong : ChangeSpec := { name := "linksNone", fn := fun _ => fun
  | [d] => { results := [.lit (.bool false)], args := [d] }
  | _ => none }
def LinksNoneWrongFalsely : Prop := linksNoneRow.holds Try.pinned (OpenSpec.ofChange linksNoneWrong)

/- THE SECOND FORM. 'bulk': how many values and letters a reading holds, each counted each time it is reached (what is shared counts as often as it is met; a slice's spare places count too). A statement '..UptoSaid' is the law's where the arguments, and the package variables that the reading takes, are together of bulk at most 1048576: NARROWER than '..Said'. Prove '..Said' where nothing that the law and all that it calls make is longer than what came in: it says more and counts as full. Else prove '..UptoSaid'. A law counts once. -/
mutual
def uptoBulk {H : Type} : DataW H → Nat
  | .lit (.string bytes) => bytes.length + 1
  | .lit _ => 1
  | .nil => 1
  | .ptr d => uptoBulk d + 1
  | .slice elems spare => uptoBulkAll elems + uptoBulkAll spare + 1
  | .agg parts => uptoBulkAll parts + 1
  | .iface _ d => uptoBulk d + 1
  | .map entries => uptoBulkEntries entries + 1
  | .held _ => 1
def uptoBulkAll {H : Type} : List (DataW H) → Nat
  | [] => 0
  | d :: r => uptoBulk d + uptoBulkAll r
def uptoBulkEntries {H : Type} : List (Lit × DataW H) → Nat
  | [] => 0
  | x :: r => uptoBulkEntry x + uptoBulkEntries r
def uptoBulkEntry {H : Type} : Lit × DataW H → Nat
  | (.string bytes, d) => bytes.length + uptoBulk d + 1
  | (_, d) => uptoBulk d + 1
 end
def uptoSmall : (H : Type) → List (DataW H) → Bool := fun _ ds => decide (uptoBulkAll ds ≤ 1048576)
def OpenSpec.upto (s : _root_.Go.ChangeSpec) : _root_.Go.OpenSpec := { _root_.Go.OpenSpec.ofChange s with cond := some uptoSmall }

/-- 'fairwaylaw10.KvSwap', WHERE WHAT IT READS IS OF BULK AT MOST 1048576: true; the input reads as it did. -/
def kvSwapUptoRow : OpenClaim := { program := "ytfniieigeofbdaa", sum := "2baf129c0462b0e71012b6c61a37c84251b413626f5c42ade2a68b154981579f", func := "fairway/fairwaylaw10.KvSwap", spec := "kvSwap", inPlace := ["maps.clone"], unfollowed := true, recurses := true, plainKeys := false, apart := false, narrowed := true }
def KvSwapUptoSaid : Prop := kvSwapUptoRow.holds Try.pinned (OpenSpec.upto kvSwapSpec)

/-- 'fairwaylaw10.KvPlay', WHERE WHAT IT READS IS OF BULK AT MOST 1048576: true; the input reads as it did. -/
def kvPlayUptoRow : OpenClaim := { program := "ytfniieigeofbdaa", sum := "2baf129c0462b0e71012b6c61a37c84251b413626f5c42ade2a68b154981579f", func := "fairway/fairwaylaw10.KvPlay", spec := "kvPlay", inPlace := ["maps.clone"], unfollowed := true, recurses := true, plainKeys := false, apart := false, narrowed := true }
def KvPlayUptoSaid : Prop := kvPlayUptoRow.holds Try.pinned (OpenSpec.upto kvPlaySpec)

/-- 'fairwaylaw10.KvNone', WHERE WHAT IT READS IS OF BULK AT MOST 1048576: true; the input reads as it did. -/
def kvNoneUptoRow : OpenClaim := { program := "ytfniieigeofbdaa", sum := "2baf129c0462b0e71012b6c61a37c84251b413626f5c42ade2a68b154981579f", func := "fairway/fairwaylaw10.KvNone", spec := "kvNone", inPlace := ["maps.clone"], unfollowed := true, recurses := true, plainKeys := false, apart := false, narrowed := true }
def KvNoneUptoSaid : Prop := kvNoneUptoRow.holds Try.pinned (OpenSpec.upto kvNoneSpec)

/-- 'fairwaylaw14.LinksOnce', WHERE WHAT IT READS IS OF BULK AT MOST 1048576: true; the input reads as it did. -/
def linksOnceUptoRow : OpenClaim := { program := "ytfniieigeofbdaa", sum := "2baf129c0462b0e71012b6c61a37c84251b413626f5c42ade2a68b154981579f", func := "fairway/fairwaylaw14.LinksOnce", spec := "linksOnce", unfollowed := true, recurses := true, plainKeys := false, apart := false, narrowed := true }
def LinksOnceUptoSaid : Prop := linksOnceUptoRow.holds Try.pinned (OpenSpec.upto linksOnceSpec)

/-- 'fairwaylaw14.LinksPlay', WHERE WHAT IT READS IS OF BULK AT MOST 1048576: true; the input reads as it did. -/
def linksPlayUptoRow : OpenClaim := { program := "ytfniieigeofbdaa", sum := "2baf129c0462b0e71012b6c61a37c84251b413626f5c42ade2a68b154981579f", func := "fairway/fairwaylaw14.LinksPlay", spec := "linksPlay", unfollowed := true, recurses := true, plainKeys := false, apart := false, narrowed := true }
def LinksPlayUptoSaid : Prop := linksPlayUptoRow.holds Try.pinned (OpenSpec.upto linksPlaySpec)

/-- 'fairwaylaw14.LinksNone', WHERE WHAT IT READS IS OF BULK AT MOST 1048576: true; the input reads as it did. -/
def linksNoneUptoRow : OpenClaim := { program := "ytfniieigeofbdaa", sum := "2baf129c0462b0e71012b6c61a37c84251b413626f5c42ade2a68b154981579f", func := "fairway/fairwaylaw14.LinksNone", spec := "linksNone", unfollowed := true, recurses := true, plainKeys := false, apart := false, narrowed := true }
def LinksNoneUptoSaid : Prop := linksNoneUptoRow.holds Try.pinned (OpenSpec.upto linksNoneSpec)

end Rows
end Go.Proofs.Ytfniieigeofbdaa
