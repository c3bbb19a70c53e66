/-
  No cell of these rows narrows 'for every input' (looked for: loops, veiled, ifaces, maps, wideKeys, modest, calm, conditions, laid).
  DERIVED. THE GIVEN ROWS OF THIS SEAT. 11 by the template 'for every input the law returns true; each argument reads behind the call as it read before'; 0 by the template 'total and deterministic' (their statements: YtkiebhdhknaijaaTotals.lean).
  GIVEN WITH THE SEED: the statements are not yours to turn. If you find one false, say at which input.
  Laid BY PROGRAM, IN A SANDBOX (cutbox-rows.mjs): the forced cells as the released guide's own fill.sh prints them over the translation c8fd361c5453b05b… (all of the seat's roots in one cut). By AI agents, Wed Nov 11 2026. No macro, syntax, notation, axiom, sorry.
-/
import Derived.Test.YtkiebhdhknaijaaChecked
import GoSem.Claim
import GoSem.ClaimJoined
import GoSem.ClaimMapViews
import Derived.JoinedTies
import Derived.KernelRfl
namespace Go.Proofs.Ytkiebhdhknaijaa
/- THE CELL 'sum', in the pinned program and in every row, IS THE sha256 OF THE DUMP (.gsa) THAT YtkiebhdhknaijaaProg.lean LOADS. Nothing in Lean hashes anything: it is a label: what it is worth is what the hold of that sum in a sandbox is worth. -/
noncomputable def Try.pinned : Pinned := { name := "ytkiebhdhknaijaa", sum := "c8fd361c5453b05bf7482bbeff5432dae15a458fc47f8bf40e520aa7f585a5ed", checked := Try.checked }
namespace Rows
def none {H : Type} : Left H := { results := [], args := [] }

/-- 'fairwaylaw05.BucketsFew': WHATEVER THE INPUT: true; the input reads as it did. -/
def bucketsFewSpec : ChangeSpec := { name := "bucketsFew", fn := fun _ => fun
  | [d1, d2, d3] => { results := [.lit (.bool true)], args := [d1, d2, d3] }
  | _ => none }
def bucketsFewRow : OpenClaim := { program := "ytkiebhdhknaijaa", sum := "c8fd361c5453b05bf7482bbeff5432dae15a458fc47f8bf40e520aa7f585a5ed", func := "fairway/fairwaylaw05.BucketsFew", spec := "bucketsFew", apart := false }
def BucketsFewSaid : Prop := bucketsFewRow.holds Try.pinned (OpenSpec.ofChange bucketsFewSpec)

/-- ITS FALSE NEIGHBOUR: 'it returns false'. Refute it at one input. -/
def bucketsFewWrong : ChangeSpec := { name := "bucketsFew", fn := fun _ => fun
  | [d1, d2, d3] => { results := [.lit (.bool false)], args := [d1, d2, d3] }
  | _ => none }
def BucketsFewWrongFalsely : Prop := bucketsFewRow.holds Try.pinned (OpenSpec.ofChange bucketsFewWrong)

/-- 'fairwaylaw05.BucketsPlay': WHATEVER THE INPUT: true; the input reads as it did. -/
def bucketsPlaySpec : ChangeSpec := { name := "bucketsPlay", fn := fun _ => fun
  | [d1, d2, d3] => { results := [.lit (.bool true)], args := [d1, d2, d3] }
  | _ => none }
def bucketsPlayRow : OpenClaim := { program := "ytkiebhdhknaijaa", sum := "c8fd361c5453b05bf7482bbeff5432dae15a458fc47f8bf40e520aa7f585a5ed", func := "fairway/fairwaylaw05.BucketsPlay", spec := "bucketsPlay", apart := false }
def BucketsPlaySaid : Prop := bucketsPlayRow.holds Try.pinned (OpenSpec.ofChange bucketsPlaySpec)

/-- ITS FALSE NEIGHBOUR: 'it returns false'. Refute it at one input. -/
def bucketsPlayWrong : ChangeSpec := { name := "bucketsPlay", fn := fun _ => fun
  | [d1, d2, d3] => { results := [.lit (.bool false)], args := [d1, d2, d3] }
  | _ => none }
def BucketsPlayWrongFalsely : Prop := bucketsPlayRow.holds Try.pinned (OpenSpec.ofChange bucketsPlayWrong)

/-- 'fairwaylaw05.BucketsNone': WHATEVER THE INPUT: true; the input reads as it did. -/
def bucketsNoneSpec : ChangeSpec := { name := "bucketsNone", fn := fun _ => fun
  | [d] => { results := [.lit (.bool true)], args := [d] }
  | _ => none }
def bucketsNoneRow : OpenClaim := { program := "ytkiebhdhknaijaa", sum := "c8fd361c5453b05bf7482bbeff5432dae15a458fc47f8bf40e520aa7f585a5ed", func := "fairway/fairwaylaw05.BucketsNone", spec := "bucketsNone", apart := false }
def BucketsNoneSaid : Prop := bucketsNoneRow.holds Try.pinned (OpenSpec.ofChange bucketsNoneSpec)

/-- ITS FALSE NEIGHBOUR: 'it returns false'. Refute it at one input. -/
def bucketsNoneWrong : ChangeSpec := { name := "bucketsNone", fn := fun _ => fun
  | [d] => { results := [.lit (.bool false)], args := [d] }
  | _ => none }
def BucketsNoneWrongFalsely : Prop := bucketsNoneRow.holds Try.pinned (OpenSpec.ofChange bucketsNoneWrong)

/-- 'fairwaylaw02.CodecPut': WHATEVER THE INPUT: true; the input reads as it did. -/
def codecPutSpec : ChangeSpec := { name := "codecPut", fn := fun _ => fun
  | [d1, d2, d3] => { results := [.lit (.bool true)], args := [d1, d2, d3] }
  | _ => none }
def codecPutRow : OpenClaim := { program := "ytkiebhdhknaijaa", sum := "c8fd361c5453b05bf7482bbeff5432dae15a458fc47f8bf40e520aa7f585a5ed", func := "fairway/fairwaylaw02.CodecPut", spec := "codecPut", recurses := true, apart := false }
def CodecPutSaid : Prop := codecPutRow.holds Try.pinned (OpenSpec.ofChange codecPutSpec)

/-- ITS FALSE NEIGHBOUR: 'it returns false'. Refute it at one input. -/
def codecPutWrong : ChangeSpec := { name := "codecPut", fn := fun _ => fun
  | [d1, d2, d3] => { results := [.lit (.bool false)], args := [d1, d2, d3] }
  | _ => none }
def CodecPutWrongFalsely : Prop := codecPutRow.holds Try.pinned (OpenSpec.ofChange codecPutWrong)

/-- 'fairwaylaw02.CodecRead': WHATEVER THE INPUT: true; the input reads as it did. -/
def codecReadSpec : ChangeSpec := { name := "codecRead", fn := fun _ => fun
  | [d] => { results := [.lit (.bool true)], args := [d] }
  | _ => none }
def codecReadRow : OpenClaim := { program := "ytkiebhdhknaijaa", sum := "c8fd361c5453b05bf7482bbeff5432dae15a458fc47f8bf40e520aa7f585a5ed", func := "fairway/fairwaylaw02.CodecRead", spec := "codecRead", recurses := true, apart := false }
def CodecReadSaid : Prop := codecReadRow.holds Try.pinned (OpenSpec.ofChange codecReadSpec)

/-- ITS FALSE NEIGHBOUR: 'it returns false'. Refute it at one input. -/
def codecReadWrong : ChangeSpec := { name := "codecRead", fn := fun _ => fun
  | [d] => { results := [.lit (.bool false)], args := [d] }
  | _ => none }
def CodecReadWrongFalsely : Prop := codecReadRow.holds Try.pinned (OpenSpec.ofChange codecReadWrong)

/-- 'fairwaylaw02.CodecBack': WHATEVER THE INPUT: true; the input reads as it did. -/
def codecBackSpec : ChangeSpec := { name := "codecBack", fn := fun _ => fun
  | [d1, d2, d3] => { results := [.lit (.bool true)], args := [d1, d2, d3] }
  | _ => none }
def codecBackRow : OpenClaim := { program := "ytkiebhdhknaijaa", sum := "c8fd361c5453b05bf7482bbeff5432dae15a458fc47f8bf40e520aa7f585a5ed", func := "fairway/fairwaylaw02.CodecBack", spec := "codecBack", apart := false }
def CodecBackSaid : Prop := codecBackRow.holds Try.pinned (OpenSpec.ofChange codecBackSpec)

/-- ITS FALSE NEIGHBOUR: 'it returns false'. Refute it at one input. -/
def codecBackWrong : ChangeSpec := { name := "codecBack", fn := fun _ => fun
  | [d1, d2, d3] => { results := [.lit (.bool false)], args := [d1, d2, d3] }
  | _ => none }
def CodecBackWrongFalsely : Prop := codecBackRow.holds Try.pinned (OpenSpec.ofChange codecBackWrong)

/-- 'fairwaylaw02.CodecForm': WHATEVER THE INPUT: true; the input reads as it did. -/
def codecFormSpec : ChangeSpec := { name := "codecForm", fn := fun _ => fun
  | [d] => { results := [.lit (.bool true)], args := [d] }
  | _ => none }
def codecFormRow : OpenClaim := { program := "ytkiebhdhknaijaa", sum := "c8fd361c5453b05bf7482bbeff5432dae15a458fc47f8bf40e520aa7f585a5ed", func := "fairway/fairwaylaw02.CodecForm", spec := "codecForm", apart := false }
def CodecFormSaid : Prop := codecFormRow.holds Try.pinned (OpenSpec.ofChange codecFormSpec)

/-- ITS FALSE NEIGHBOUR: 'it returns false'. Refute it at one input. -/
def codecFormWrong : ChangeSpec := { name := "codecForm", fn := fun _ => fun
  | [d] => { results := [.lit (.bool false)], args := [d] }
  | _ => none }
def CodecFormWrongFalsely : Prop := codecFormRow.holds Try.pinned (OpenSpec.ofChange codecFormWrong)

/-- 'fairwaylaw09.OpsTell': WHATEVER THE INPUT: true; the input reads as it did. -/
def opsTellSpec : ChangeSpec := { name := "opsTell", fn := fun _ => fun
  | [d] => { results := [.lit (.bool true)], args := [d] }
  | _ => none }
def opsTellRow : OpenClaim := { program := "ytkiebhdhknaijaa", sum := "c8fd361c5453b05bf7482bbeff5432dae15a458fc47f8bf40e520aa7f585a5ed", func := "fairway/fairwaylaw09.OpsTell", spec := "opsTell", recurses := true, apart := false }
def OpsTellSaid : Prop := opsTellRow.holds Try.pinned (OpenSpec.ofChange opsTellSpec)

/-- ITS FALSE NEIGHBOUR: 'it returns false'. Refute it at one input. -/
def opsTellWrong : ChangeSpec := { name := "opsTell", fn := fun _ => fun
  | [d] => { results := [.lit (.bool false)], args := [d] }
  | _ => none }
def OpsTellWrongFalsely : Prop := opsTellRow.holds Try.pinned (OpenSpec.ofChange opsTellWrong)

/-- 'fairwaylaw09.OpsGet': WHATEVER THE INPUT: true; the input reads as it did. -/
def opsGetSpec : ChangeSpec := { name := "opsGet", fn := fun _ => fun
  | [d] => { results := [.lit (.bool true)], args := [d] }
  | _ => none }
def opsGetRow : OpenClaim := { program := "ytkiebhdhknaijaa", sum := "c8fd361c5453b05bf7482bbeff5432dae15a458fc47f8bf40e520aa7f585a5ed", func := "fairway/fairwaylaw09.OpsGet", spec := "opsGet", recurses := true, apart := false }
def OpsGetSaid : Prop := opsGetRow.holds Try.pinned (OpenSpec.ofChange opsGetSpec)

/-- ITS FALSE NEIGHBOUR: 'it returns false'. Refute it at one input. -/
def opsGetWrong : ChangeSpec := { name := "opsGet", fn := fun _ => fun
  | [d] => { results := [.lit (.bool false)], args := [d] }
  | _ => none }
def OpsGetWrongFalsely : Prop := opsGetRow.holds Try.pinned (OpenSpec.ofChange opsGetWrong)

/-- 'fairwaylaw09.OpsForm': WHATEVER THE INPUT: true; the input reads as it did. -/
def opsFormSpec : ChangeSpec := { name := "opsForm", fn := fun _ => fun
  | [d] => { results := [.lit (.bool true)], args := [d] }
  | _ => none }
def opsFormRow : OpenClaim := { program := "ytkiebhdhknaijaa", sum := "c8fd361c5453b05bf7482bbeff5432dae15a458fc47f8bf40e520aa7f585a5ed", func := "fairway/fairwaylaw09.OpsForm", spec := "opsForm", apart := false }
def OpsFormSaid : Prop := opsFormRow.holds Try.pinned (OpenSpec.ofChange opsFormSpec)

/-- ITS FALSE NEIGHBOUR: 'it returns false'. Refute it at one input. -/
def opsFormWrong : ChangeSpec := { name := "opsForm", fn := fun _ => fun
  | [d] => { results := [.lit (.bool false)], args := [d] }
  | _ => none }
def OpsFormWrongFalsely : Prop := opsFormRow.holds Try.pinned (OpenSpec.ofChange opsFormWrong)

/-- 'fairwaylaw09.OpsBack': WHATEVER THE INPUT: true; the input reads as it did. -/
def opsBackSpec : ChangeSpec := { name := "opsBack", fn := fun _ => fun
  | [d1, d2] => { results := [.lit (.bool true)], args := [d1, d2] }
  | _ => none }
def opsBackRow : OpenClaim := { program := "ytkiebhdhknaijaa", sum := "c8fd361c5453b05bf7482bbeff5432dae15a458fc47f8bf40e520aa7f585a5ed", func := "fairway/fairwaylaw09.OpsBack", spec := "opsBack", apart := false }
def OpsBackSaid : Prop := opsBackRow.holds Try.pinned (OpenSpec.ofChange opsBackSpec)

/-- ITS FALSE NEIGHBOUR: 'it returns false'. Refute it at one input. -/
def opsBackWrong : ChangeSpec := { name := "opsBack", fn := fun _ => fun
  | [d1, d2] => { results := [.lit (.bool false)], args := [d1, d2] }
  | _ => none }
def OpsBackWrongFalsely : Prop := opsBackRow.holds Try.pinned (OpenSpec.ofChange opsBackWrong)

/- THE SECOND FORM. 'bulk': how many values and letters a reading holds, each counted each time it is reached (what is shared counts as often as it is met; a slice's spare places count too). A statement '..UptoSaid' is the law's where the arguments, and the package variables that the reading takes, are together of bulk at most 1048576: NARROWER than '..Said'. Prove '..Said' where nothing that the law and all that it calls make is longer than what came in: it says more and counts as full. Else prove '..UptoSaid'. A law counts once. -/
mutual
def uptoBulk {H : Type} : DataW H → Nat
  | .lit (.string bytes) => bytes.length + 1
  | .lit _ => 1
  | .nil => 1
  | .ptr d => uptoBulk d + 1
  | .slice elems spare => uptoBulkAll elems + uptoBulkAll spare + 1
  | .agg parts => uptoBulkAll parts + 1
  | .iface _ d => uptoBulk d + 1
  | .map entries => uptoBulkEntries entries + 1
  | .held _ => 1
def uptoBulkAll {H : Type} : List (DataW H) → Nat
  | [] => 0
  | d :: r => uptoBulk d + uptoBulkAll r
def uptoBulkEntries {H : Type} : List (Lit × DataW H) → Nat
  | [] => 0
  | x :: r => uptoBulkEntry x + uptoBulkEntries r
def uptoBulkEntry {H : Type} : Lit × DataW H → Nat
  | (.string bytes, d) => bytes.length + uptoBulk d + 1
  | (_, d) => uptoBulk d + 1
 end
def uptoSmall : (H : Type) → List (DataW H) → Bool := fun _ ds => decide (uptoBulkAll ds ≤ 1048576)
def OpenSpec.upto (s : _root_.Go.ChangeSpec) : _root_.Go.OpenSpec := { _root_.Go.OpenSpec.ofChange s with cond := some uptoSmall }

/-- 'fairwaylaw05.BucketsFew', WHERE WHAT IT READS IS OF BULK AT MOST 1048576: true; the input reads as it did. -/
def bucketsFewUptoRow : OpenClaim := { program := "ytkiebhdhknaijaa", sum := "c8fd361c5453b05bf7482bbeff5432dae15a458fc47f8bf40e520aa7f585a5ed", func := "fairway/fairwaylaw05.BucketsFew", spec := "bucketsFew", apart := false, narrowed := true }
def BucketsFewUptoSaid : Prop := bucketsFewUptoRow.holds Try.pinned (OpenSpec.upto bucketsFewSpec)

/-- 'fairwaylaw05.BucketsPlay', WHERE WHAT IT READS IS OF BULK AT MOST 1048576: true; the input reads as it did. -/
def bucketsPlayUptoRow : OpenClaim := { program := "ytkiebhdhknaijaa", sum := "c8fd361c5453b05bf7482bbeff5432dae15a458fc47f8bf40e520aa7f585a5ed", func := "fairway/fairwaylaw05.BucketsPlay", spec := "bucketsPlay", apart := false, narrowed := true }
def BucketsPlayUptoSaid : Prop := bucketsPlayUptoRow.holds Try.pinned (OpenSpec.upto bucketsPlaySpec)

/-- 'fairwaylaw05.BucketsNone', WHERE WHAT IT READS IS OF BULK AT MOST 1048576: true; the input reads as it did. -/
def bucketsNoneUptoRow : OpenClaim := { program := "ytkiebhdhknaijaa", sum := "c8fd361c5453b05bf7482bbeff5432dae15a458fc47f8bf40e520aa7f585a5ed", func := "fairway/fairwaylaw05.BucketsNone", spec := "bucketsNone", apart := false, narrowed := true }
def BucketsNoneUptoSaid : Prop := bucketsNoneUptoRow.holds Try.pinned (OpenSpec.upto bucketsNoneSpec)

/-- 'fairwaylaw02.CodecPut', WHERE WHAT IT READS IS OF BULK AT MOST 1048576: true; the input reads as it did. -/
def codecPutUptoRow : OpenClaim := { program := "ytkiebhdhknaijaa", sum := "c8fd361c5453b05bf7482bbeff5432dae15a458fc47f8bf40e520aa7f585a5ed", func := "fairway/fairwaylaw02.CodecPut", spec := "codecPut", recurses := true, apart := false, narrowed := true }
def CodecPutUptoSaid : Prop := codecPutUptoRow.holds Try.pinned (OpenSpec.upto codecPutSpec)

/-- 'fairwaylaw02.CodecRead', WHERE WHAT IT READS IS OF BULK AT MOST 1048576: true; the input reads as it did. -/
def codecReadUptoRow : OpenClaim := { program := "ytkiebhdhknaijaa", sum := "c8fd361c5453b05bf7482bbeff5432dae15a458fc47f8bf40e520aa7f585a5ed", func := "fairway/fairwaylaw02.CodecRead", spec := "codecRead", recurses := true, apart := false, narrowed := true }
def CodecReadUptoSaid : Prop := codecReadUptoRow.holds Try.pinned (OpenSpec.upto codecReadSpec)

/-- 'fairwaylaw02.CodecBack', WHERE WHAT IT READS IS OF BULK AT MOST 1048576: true; the input reads as it did. -/
def codecBackUptoRow : OpenClaim := { program := "ytkiebhdhknaijaa", sum := "c8fd361c5453b05bf7482bbeff5432dae15a458fc47f8bf40e520aa7f585a5ed", func := "fairway/fairwaylaw02.CodecBack", spec := "codecBack", apart := false, narrowed := true }
def CodecBackUptoSaid : Prop := codecBackUptoRow.holds Try.pinned (OpenSpec.upto codecBackSpec)

/-- 'fairwaylaw02.CodecForm', WHERE WHAT IT READS IS OF BULK AT MOST 1048576: true; the input reads as it did. -/
def codecFormUptoRow : OpenClaim := { program := "ytkiebhdhknaijaa", sum := "c8fd361c5453b05bf7482bbeff5432dae15a458fc47f8bf40e520aa7f585a5ed", func := "fairway/fairwaylaw02.CodecForm", spec := "codecForm", apart := false, narrowed := true }
def CodecFormUptoSaid : Prop := codecFormUptoRow.holds Try.pinned (OpenSpec.upto codecFormSpec)

/-- 'fairwaylaw09.OpsTell', WHERE WHAT IT READS IS OF BULK AT MOST 1048576: true; the input reads as it did. -/
def opsTellUptoRow : OpenClaim := { program := "ytkiebhdhknaijaa", sum := "c8fd361c5453b05bf7482bbeff5432dae15a458fc47f8bf40e520aa7f585a5ed", func := "fairway/fairwaylaw09.OpsTell", spec := "opsTell", recurses := true, apart := false, narrowed := true }
def OpsTellUptoSaid : Prop := opsTellUptoRow.holds Try.pinned (OpenSpec.upto opsTellSpec)

/-- 'fairwaylaw09.OpsGet', WHERE WHAT IT READS IS OF BULK AT MOST 1048576: true; the input reads as it did. -/
def opsGetUptoRow : OpenClaim := { program := "ytkiebhdhknaijaa", sum := "c8fd361c5453b05bf7482bbeff5432dae15a458fc47f8bf40e520aa7f585a5ed", func := "fairway/fairwaylaw09.OpsGet", spec := "opsGet", recurses := true, apart := false, narrowed := true }
def OpsGetUptoSaid : Prop := opsGetUptoRow.holds Try.pinned (OpenSpec.upto opsGetSpec)

/-- 'fairwaylaw09.OpsForm', WHERE WHAT IT READS IS OF BULK AT MOST 1048576: true; the input reads as it did. -/
def opsFormUptoRow : OpenClaim := { program := "ytkiebhdhknaijaa", sum := "c8fd361c5453b05bf7482bbeff5432dae15a458fc47f8bf40e520aa7f585a5ed", func := "fairway/fairwaylaw09.OpsForm", spec := "opsForm", apart := false, narrowed := true }
def OpsFormUptoSaid : Prop := opsFormUptoRow.holds Try.pinned (OpenSpec.upto opsFormSpec)

/-- 'fairwaylaw09.OpsBack', WHERE WHAT IT READS IS OF BULK AT MOST 1048576: true; the input reads as it did. -/
def opsBackUptoRow : OpenClaim := { program := "ytkiebhdhknaijaa", sum := "c8fd361c5453b05bf7482bbeff5432dae15a458fc47f8bf40e520aa7f585a5ed", func := "fairway/fairwaylaw09.OpsBack", spec := "opsBack", apart := false, narrowed := true }
def OpsBackUptoSaid : Prop := opsBackUptoRow.holds Try.pinned (OpenSpec.upto opsBackSpec)

end Rows
end Go.Proofs.Ytkiebhdhknaijaa
