/-
  No cell of these rows narrows 'for every input' (looked for: loops, veiled, ifaces, maps, wideKeys, modest, calm, conditions, laid).
  DERIVED. THE GIVEN ROWS OF THIS SEAT. 11 by the template 'for every input the law returns true; each argument reads behind the call as it read before'; 0 by the template 'total and deterministic' (their statements: YtfkbodonidkpoaaTotals.lean).
  GIVEN WITH THE SEED: the statements are not yours to turn. If you find one false, say at which input.
  Laid BY PROGRAM, IN A SANDBOX (cutbox-rows.mjs): the forced cells as the released guide's own fill.sh prints them over the translation ccac151f2c61f797… (all of the seat's roots in one cut). By AI agents, Wed Nov 11 2026. No macro, syntax, notation, axiom, sorry.
-/
import Derived.Test.YtfkbodonidkpoaaChecked
import GoSem.Claim
import GoSem.ClaimJoined
import GoSem.ClaimMapViews
import Derived.JoinedTies
import Derived.KernelRfl
namespace Go.Proofs.Ytfkbodonidkpoaa
/- THE CELL 'sum', in the pinned program and in every row, IS THE sha256 OF THE DUMP (.gsa) THAT YtfkbodonidkpoaaProg.lean LOADS. Nothing in Lean hashes anything: it is a label: what it is worth is what the hold of that sum in a sandbox is worth. -/
noncomputable def Try.pinned : Pinned := { name := "ytfkbodonidkpoaa", sum := "ccac151f2c61f797b7439e6de59f911a3ca926c1149021cc5155ef3853a51413", checked := Try.checked }
namespace Rows
def none {H : Type} : Left H := { results := [], args := [] }

/-- 'fairwaylaw29.CompactGrows': WHATEVER THE INPUT: true; the input reads as it did. -/
def compactGrowsSpec : ChangeSpec := { name := "compactGrows", fn := fun _ => fun
  | [d1, d2] => { results := [.lit (.bool true)], args := [d1, d2] }
  | _ => none }
def compactGrowsRow : OpenClaim := { program := "ytfkbodonidkpoaa", sum := "ccac151f2c61f797b7439e6de59f911a3ca926c1149021cc5155ef3853a51413", func := "fairway/fairwaylaw29.CompactGrows", spec := "compactGrows", inPlace := ["slices.overlaps[fairway/shots.Cell]", "slices.overlaps[fairway/shots.Last]"], unfollowed := true, recurses := true, apart := false }
def CompactGrowsSaid : Prop := compactGrowsRow.holds Try.pinned (OpenSpec.ofChange compactGrowsSpec)

/-- ITS FALSE NEIGHBOUR: 'it returns false'. Refute it at one input. -/
def compactGrowsWrong : ChangeSpec := { name := "compactGrows", fn := fun _ => fun
  | [d1, d2] => { results := [.lit (.bool false)], args := [d1, d2] }
  | _ => none }
def CompactGrowsWrongFalsely : Prop := compactGrowsRow.holds Try.pinned (OpenSpec.ofChange compactGrowsWrong)

/-- 'fairwaylaw29.CompactPlays': WHATEVER THE INPUT: true; the input reads as it did. -/
def compactPlaysSpec : ChangeSpec := { name := "compactPlays", fn := fun _ => fun
  | [d1, d2] => { results := [.lit (.bool true)], args := [d1, d2] }
  | _ => none }
def compactPlaysRow : OpenClaim := { program := "ytfkbodonidkpoaa", sum := "ccac151f2c61f797b7439e6de59f911a3ca926c1149021cc5155ef3853a51413", func := "fairway/fairwaylaw29.CompactPlays", spec := "compactPlays", inPlace := ["slices.overlaps[fairway/shots.Cell]", "slices.overlaps[fairway/shots.Last]"], unfollowed := true, recurses := true, apart := false }
def CompactPlaysSaid : Prop := compactPlaysRow.holds Try.pinned (OpenSpec.ofChange compactPlaysSpec)

/-- ITS FALSE NEIGHBOUR: 'it returns false'. Refute it at one input. -/
def compactPlaysWrong : ChangeSpec := { name := "compactPlays", fn := fun _ => fun
  | [d1, d2] => { results := [.lit (.bool false)], args := [d1, d2] }
  | _ => none }
def CompactPlaysWrongFalsely : Prop := compactPlaysRow.holds Try.pinned (OpenSpec.ofChange compactPlaysWrong)

/-- 'fairwaylaw29.CompactNone': WHATEVER THE INPUT: true; the input reads as it did. -/
def compactNoneSpec : ChangeSpec := { name := "compactNone", fn := fun _ => fun
  | [d1, d2] => { results := [.lit (.bool true)], args := [d1, d2] }
  | _ => none }
def compactNoneRow : OpenClaim := { program := "ytfkbodonidkpoaa", sum := "ccac151f2c61f797b7439e6de59f911a3ca926c1149021cc5155ef3853a51413", func := "fairway/fairwaylaw29.CompactNone", spec := "compactNone", inPlace := ["slices.overlaps[fairway/shots.Cell]", "slices.overlaps[fairway/shots.Last]"], unfollowed := true, recurses := true, apart := false }
def CompactNoneSaid : Prop := compactNoneRow.holds Try.pinned (OpenSpec.ofChange compactNoneSpec)

/-- ITS FALSE NEIGHBOUR: 'it returns false'. Refute it at one input. -/
def compactNoneWrong : ChangeSpec := { name := "compactNone", fn := fun _ => fun
  | [d1, d2] => { results := [.lit (.bool false)], args := [d1, d2] }
  | _ => none }
def CompactNoneWrongFalsely : Prop := compactNoneRow.holds Try.pinned (OpenSpec.ofChange compactNoneWrong)

/-- 'fairwaylaw27.ShotsApply': WHATEVER THE INPUT: true; the input reads as it did. -/
def shotsApplySpec : ChangeSpec := { name := "shotsApply", fn := fun _ => fun
  | [d1, d2] => { results := [.lit (.bool true)], args := [d1, d2] }
  | _ => none }
def shotsApplyRow : OpenClaim := { program := "ytfkbodonidkpoaa", sum := "ccac151f2c61f797b7439e6de59f911a3ca926c1149021cc5155ef3853a51413", func := "fairway/fairwaylaw27.ShotsApply", spec := "shotsApply", inPlace := ["internal/abi.NoEscape", "slices.overlaps[fairway/shots.Cell]", "slices.overlaps[fairway/shots.Last]"], unfollowed := true, recurses := true, apart := false }
def ShotsApplySaid : Prop := shotsApplyRow.holds Try.pinned (OpenSpec.ofChange shotsApplySpec)

/-- ITS FALSE NEIGHBOUR: 'it returns false'. Refute it at one input. -/
def shotsApplyWrong : ChangeSpec := { name := "shotsApply", fn := fun _ => fun
  | [d1, d2] => { results := [.lit (.bool false)], args := [d1, d2] }
  | _ => none }
def ShotsApplyWrongFalsely : Prop := shotsApplyRow.holds Try.pinned (OpenSpec.ofChange shotsApplyWrong)

/-- 'fairwaylaw27.ShotsOf': WHATEVER THE INPUT: true; the input reads as it did. -/
def shotsOfSpec : ChangeSpec := { name := "shotsOf", fn := fun _ => fun
  | [d] => { results := [.lit (.bool true)], args := [d] }
  | _ => none }
def shotsOfRow : OpenClaim := { program := "ytfkbodonidkpoaa", sum := "ccac151f2c61f797b7439e6de59f911a3ca926c1149021cc5155ef3853a51413", func := "fairway/fairwaylaw27.ShotsOf", spec := "shotsOf", inPlace := ["internal/abi.NoEscape", "slices.overlaps[fairway/shots.Cell]", "slices.overlaps[fairway/shots.Last]"], unfollowed := true, recurses := true, apart := false }
def ShotsOfSaid : Prop := shotsOfRow.holds Try.pinned (OpenSpec.ofChange shotsOfSpec)

/-- ITS FALSE NEIGHBOUR: 'it returns false'. Refute it at one input. -/
def shotsOfWrong : ChangeSpec := { name := "shotsOf", fn := fun _ => fun
  | [d] => { results := [.lit (.bool false)], args := [d] }
  | _ => none }
def ShotsOfWrongFalsely : Prop := shotsOfRow.holds Try.pinned (OpenSpec.ofChange shotsOfWrong)

/-- 'fairwaylaw27.ShotsTell': WHATEVER THE INPUT: true; the input reads as it did. -/
def shotsTellSpec : ChangeSpec := { name := "shotsTell", fn := fun _ => fun
  | [d1, d2, d3] => { results := [.lit (.bool true)], args := [d1, d2, d3] }
  | _ => none }
def shotsTellRow : OpenClaim := { program := "ytfkbodonidkpoaa", sum := "ccac151f2c61f797b7439e6de59f911a3ca926c1149021cc5155ef3853a51413", func := "fairway/fairwaylaw27.ShotsTell", spec := "shotsTell", inPlace := ["internal/abi.NoEscape", "slices.overlaps[fairway/shots.Cell]", "slices.overlaps[fairway/shots.Last]"], unfollowed := true, recurses := true, apart := false }
def ShotsTellSaid : Prop := shotsTellRow.holds Try.pinned (OpenSpec.ofChange shotsTellSpec)

/-- ITS FALSE NEIGHBOUR: 'it returns false'. Refute it at one input. -/
def shotsTellWrong : ChangeSpec := { name := "shotsTell", fn := fun _ => fun
  | [d1, d2, d3] => { results := [.lit (.bool false)], args := [d1, d2, d3] }
  | _ => none }
def ShotsTellWrongFalsely : Prop := shotsTellRow.holds Try.pinned (OpenSpec.ofChange shotsTellWrong)

/-- 'fairwaylaw27.ShotsFold': WHATEVER THE INPUT: true; the input reads as it did. -/
def shotsFoldSpec : ChangeSpec := { name := "shotsFold", fn := fun _ => fun
  | [d1, d2] => { results := [.lit (.bool true)], args := [d1, d2] }
  | _ => none }
def shotsFoldRow : OpenClaim := { program := "ytfkbodonidkpoaa", sum := "ccac151f2c61f797b7439e6de59f911a3ca926c1149021cc5155ef3853a51413", func := "fairway/fairwaylaw27.ShotsFold", spec := "shotsFold", inPlace := ["internal/abi.NoEscape", "slices.overlaps[fairway/shots.Cell]", "slices.overlaps[fairway/shots.Last]"], unfollowed := true, recurses := true, apart := false }
def ShotsFoldSaid : Prop := shotsFoldRow.holds Try.pinned (OpenSpec.ofChange shotsFoldSpec)

/-- ITS FALSE NEIGHBOUR: 'it returns false'. Refute it at one input. -/
def shotsFoldWrong : ChangeSpec := { name := "shotsFold", fn := fun _ => fun
  | [d1, d2] => { results := [.lit (.bool false)], args := [d1, d2] }
  | _ => none }
def ShotsFoldWrongFalsely : Prop := shotsFoldRow.holds Try.pinned (OpenSpec.ofChange shotsFoldWrong)

/-- 'fairwaylaw29.CompactSame': WHATEVER THE INPUT: true; the input reads as it did. -/
def compactSameSpec : ChangeSpec := { name := "compactSame", fn := fun _ => fun
  | [d] => { results := [.lit (.bool true)], args := [d] }
  | _ => none }
def compactSameRow : OpenClaim := { program := "ytfkbodonidkpoaa", sum := "ccac151f2c61f797b7439e6de59f911a3ca926c1149021cc5155ef3853a51413", func := "fairway/fairwaylaw29.CompactSame", spec := "compactSame", inPlace := ["slices.overlaps[fairway/shots.Cell]", "slices.overlaps[fairway/shots.Last]"], unfollowed := true, recurses := true, apart := false }
def CompactSameSaid : Prop := compactSameRow.holds Try.pinned (OpenSpec.ofChange compactSameSpec)

/-- ITS FALSE NEIGHBOUR: 'it returns false'. Refute it at one input. -/
def compactSameWrong : ChangeSpec := { name := "compactSame", fn := fun _ => fun
  | [d] => { results := [.lit (.bool false)], args := [d] }
  | _ => none }
def CompactSameWrongFalsely : Prop := compactSameRow.holds Try.pinned (OpenSpec.ofChange compactSameWrong)

/-- 'fairwaylaw27.ShotsGet': WHATEVER THE INPUT: true; the input reads as it did. -/
def shotsGetSpec : ChangeSpec := { name := "shotsGet", fn := fun _ => fun
  | [d] => { results := [.lit (.bool true)], args := [d] }
  | _ => none }
def shotsGetRow : OpenClaim := { program := "ytfkbodonidkpoaa", sum := "ccac151f2c61f797b7439e6de59f911a3ca926c1149021cc5155ef3853a51413", func := "fairway/fairwaylaw27.ShotsGet", spec := "shotsGet", inPlace := ["internal/abi.NoEscape", "slices.overlaps[fairway/shots.Cell]", "slices.overlaps[fairway/shots.Last]"], unfollowed := true, recurses := true, apart := false }
def ShotsGetSaid : Prop := shotsGetRow.holds Try.pinned (OpenSpec.ofChange shotsGetSpec)

/-- ITS FALSE NEIGHBOUR: 'it returns false'. Refute it at one input. -/
def shotsGetWrong : ChangeSpec := { name := "shotsGet", fn := fun _ => fun
  | [d] => { results := [.lit (.bool false)], args := [d] }
  | _ => none }
def ShotsGetWrongFalsely : Prop := shotsGetRow.holds Try.pinned (OpenSpec.ofChange shotsGetWrong)

/-- 'fairwaylaw27.ShotsBack': WHATEVER THE INPUT: true; the input reads as it did. -/
def shotsBackSpec : ChangeSpec := { name := "shotsBack", fn := fun _ => fun
  | [d1, d2] => { results := [.lit (.bool true)], args := [d1, d2] }
  | _ => none }
def shotsBackRow : OpenClaim := { program := "ytfkbodonidkpoaa", sum := "ccac151f2c61f797b7439e6de59f911a3ca926c1149021cc5155ef3853a51413", func := "fairway/fairwaylaw27.ShotsBack", spec := "shotsBack", inPlace := ["internal/abi.NoEscape", "slices.overlaps[fairway/shots.Cell]", "slices.overlaps[fairway/shots.Last]"], unfollowed := true, recurses := true, apart := false }
def ShotsBackSaid : Prop := shotsBackRow.holds Try.pinned (OpenSpec.ofChange shotsBackSpec)

/-- ITS FALSE NEIGHBOUR: 'it returns false'. Refute it at one input. -/
def shotsBackWrong : ChangeSpec := { name := "shotsBack", fn := fun _ => fun
  | [d1, d2] => { results := [.lit (.bool false)], args := [d1, d2] }
  | _ => none }
def ShotsBackWrongFalsely : Prop := shotsBackRow.holds Try.pinned (OpenSpec.ofChange shotsBackWrong)

/-- 'fairwaylaw27.ShotsForm': WHATEVER THE INPUT: true; the input reads as it did. -/
def shotsFormSpec : ChangeSpec := { name := "shotsForm", fn := fun _ => fun
  | [d] => { results := [.lit (.bool true)], args := [d] }
  | _ => none }
def shotsFormRow : OpenClaim := { program := "ytfkbodonidkpoaa", sum := "ccac151f2c61f797b7439e6de59f911a3ca926c1149021cc5155ef3853a51413", func := "fairway/fairwaylaw27.ShotsForm", spec := "shotsForm", inPlace := ["internal/abi.NoEscape", "slices.overlaps[fairway/shots.Cell]", "slices.overlaps[fairway/shots.Last]"], unfollowed := true, recurses := true, apart := false }
def ShotsFormSaid : Prop := shotsFormRow.holds Try.pinned (OpenSpec.ofChange shotsFormSpec)

/-- ITS FALSE NEIGHBOUR: 'it returns false'. Refute it at one input. -/
def shotsFormWrong : ChangeSpec := { name := "shotsForm", fn := fun _ => fun
  | [d] => { results := [.lit (.bool false)], args := [d] }
  | _ => none }
def ShotsFormWrongFalsely : Prop := shotsFormRow.holds Try.pinned (OpenSpec.ofChange shotsFormWrong)

/- THE SECOND FORM. 'bulk': how many values and letters a reading holds, each counted each time it is reached (what is shared counts as often as it is met; a slice's spare places count too). A statement '..UptoSaid' is the law's where the arguments, and the package variables that the reading takes, are together of bulk at most 1048576: NARROWER than '..Said'. Prove '..Said' where nothing that the law and all that it calls make is longer than what came in: it says more and counts as full. Else prove '..UptoSaid'. A law counts once. -/
mutual
def uptoBulk {H : Type} : DataW H → Nat
  | .lit (.string bytes) => bytes.length + 1
  | .lit _ => 1
  | .nil => 1
  | .ptr d => uptoBulk d + 1
  | .slice elems spare => uptoBulkAll elems + uptoBulkAll spare + 1
  | .agg parts => uptoBulkAll parts + 1
  | .iface _ d => uptoBulk d + 1
  | .map entries => uptoBulkEntries entries + 1
  | .held _ => 1
def uptoBulkAll {H : Type} : List (DataW H) → Nat
  | [] => 0
  | d :: r => uptoBulk d + uptoBulkAll r
def uptoBulkEntries {H : Type} : List (Lit × DataW H) → Nat
  | [] => 0
  | x :: r => uptoBulkEntry x + uptoBulkEntries r
def uptoBulkEntry {H : Type} : Lit × DataW H → Nat
  | (.string bytes, d) => bytes.length + uptoBulk d + 1
  | (_, d) => uptoBulk d + 1
 end
def uptoSmall : (H : Type) → List (DataW H) → Bool := fun _ ds => decide (uptoBulkAll ds ≤ 1048576)
def OpenSpec.upto (s : _root_.Go.ChangeSpec) : _root_.Go.OpenSpec := { _root_.Go.OpenSpec.ofChange s with cond := some uptoSmall }

/-- 'fairwaylaw29.CompactGrows', WHERE WHAT IT READS IS OF BULK AT MOST 1048576: true; the input reads as it did. -/
def compactGrowsUptoRow : OpenClaim := { program := "ytfkbodonidkpoaa", sum := "ccac151f2c61f797b7439e6de59f911a3ca926c1149021cc5155ef3853a51413", func := "fairway/fairwaylaw29.CompactGrows", spec := "compactGrows", inPlace := ["slices.overlaps[fairway/shots.Cell]", "slices.overlaps[fairway/shots.Last]"], unfollowed := true, recurses := true, apart := false, narrowed := true }
def CompactGrowsUptoSaid : Prop := compactGrowsUptoRow.holds Try.pinned (OpenSpec.upto compactGrowsSpec)

/-- 'fairwaylaw29.CompactPlays', WHERE WHAT IT READS IS OF BULK AT MOST 1048576: true; the input reads as it did. -/
def compactPlaysUptoRow : OpenClaim := { program := "ytfkbodonidkpoaa", sum := "ccac151f2c61f797b7439e6de59f911a3ca926c1149021cc5155ef3853a51413", func := "fairway/fairwaylaw29.CompactPlays", spec := "compactPlays", inPlace := ["slices.overlaps[fairway/shots.Cell]", "slices.overlaps[fairway/shots.Last]"], unfollowed := true, recurses := true, apart := false, narrowed := true }
def CompactPlaysUptoSaid : Prop := compactPlaysUptoRow.holds Try.pinned (OpenSpec.upto compactPlaysSpec)

/-- 'fairwaylaw29.CompactNone', WHERE WHAT IT READS IS OF BULK AT MOST 1048576: true; the input reads as it did. -/
def compactNoneUptoRow : OpenClaim := { program := "ytfkbodonidkpoaa", sum := "ccac151f2c61f797b7439e6de59f911a3ca926c1149021cc5155ef3853a51413", func := "fairway/fairwaylaw29.CompactNone", spec := "compactNone", inPlace := ["slices.overlaps[fairway/shots.Cell]", "slices.overlaps[fairway/shots.Last]"], unfollowed := true, recurses := true, apart := false, narrowed := true }
def CompactNoneUptoSaid : Prop := compactNoneUptoRow.holds Try.pinned (OpenSpec.upto compactNoneSpec)

/-- 'fairwaylaw27.ShotsApply', WHERE WHAT IT READS IS OF BULK AT MOST 1048576: true; the input reads as it did. -/
def shotsApplyUptoRow : OpenClaim := { program := "ytfkbodonidkpoaa", sum := "ccac151f2c61f797b7439e6de59f911a3ca926c1149021cc5155ef3853a51413", func := "fairway/fairwaylaw27.ShotsApply", spec := "shotsApply", inPlace := ["internal/abi.NoEscape", "slices.overlaps[fairway/shots.Cell]", "slices.overlaps[fairway/shots.Last]"], unfollowed := true, recurses := true, apart := false, narrowed := true }
def ShotsApplyUptoSaid : Prop := shotsApplyUptoRow.holds Try.pinned (OpenSpec.upto shotsApplySpec)

/-- 'fairwaylaw27.ShotsOf', WHERE WHAT IT READS IS OF BULK AT MOST 1048576: true; the input reads as it did. -/
def shotsOfUptoRow : OpenClaim := { program := "ytfkbodonidkpoaa", sum := "ccac151f2c61f797b7439e6de59f911a3ca926c1149021cc5155ef3853a51413", func := "fairway/fairwaylaw27.ShotsOf", spec := "shotsOf", inPlace := ["internal/abi.NoEscape", "slices.overlaps[fairway/shots.Cell]", "slices.overlaps[fairway/shots.Last]"], unfollowed := true, recurses := true, apart := false, narrowed := true }
def ShotsOfUptoSaid : Prop := shotsOfUptoRow.holds Try.pinned (OpenSpec.upto shotsOfSpec)

/-- 'fairwaylaw27.ShotsTell', WHERE WHAT IT READS IS OF BULK AT MOST 1048576: true; the input reads as it did. -/
def shotsTellUptoRow : OpenClaim := { program := "ytfkbodonidkpoaa", sum := "ccac151f2c61f797b7439e6de59f911a3ca926c1149021cc5155ef3853a51413", func := "fairway/fairwaylaw27.ShotsTell", spec := "shotsTell", inPlace := ["internal/abi.NoEscape", "slices.overlaps[fairway/shots.Cell]", "slices.overlaps[fairway/shots.Last]"], unfollowed := true, recurses := true, apart := false, narrowed := true }
def ShotsTellUptoSaid : Prop := shotsTellUptoRow.holds Try.pinned (OpenSpec.upto shotsTellSpec)

/-- 'fairwaylaw27.ShotsFold', WHERE WHAT IT READS IS OF BULK AT MOST 1048576: true; the input reads as it did. -/
def shotsFoldUptoRow : OpenClaim := { program := "ytfkbodonidkpoaa", sum := "ccac151f2c61f797b7439e6de59f911a3ca926c1149021cc5155ef3853a51413", func := "fairway/fairwaylaw27.ShotsFold", spec := "shotsFold", inPlace := ["internal/abi.NoEscape", "slices.overlaps[fairway/shots.Cell]", "slices.overlaps[fairway/shots.Last]"], unfollowed := true, recurses := true, apart := false, narrowed := true }
def ShotsFoldUptoSaid : Prop := shotsFoldUptoRow.holds Try.pinned (OpenSpec.upto shotsFoldSpec)

/-- 'fairwaylaw29.CompactSame', WHERE WHAT IT READS IS OF BULK AT MOST 1048576: true; the input reads as it did. -/
def compactSameUptoRow : OpenClaim := { program := "ytfkbodonidkpoaa", sum := "ccac151f2c61f797b7439e6de59f911a3ca926c1149021cc5155ef3853a51413", func := "fairway/fairwaylaw29.CompactSame", spec := "compactSame", inPlace := ["slices.overlaps[fairway/shots.Cell]", "slices.overlaps[fairway/shots.Last]"], unfollowed := true, recurses := true, apart := false, narrowed := true }
def CompactSameUptoSaid : Prop := compactSameUptoRow.holds Try.pinned (OpenSpec.upto compactSameSpec)

/-- 'fairwaylaw27.ShotsGet', WHERE WHAT IT READS IS OF BULK AT MOST 1048576: true; the input reads as it did. -/
def shotsGetUptoRow : OpenClaim := { program := "ytfkbodonidkpoaa", sum := "ccac151f2c61f797b7439e6de59f911a3ca926c1149021cc5155ef3853a51413", func := "fairway/fairwaylaw27.ShotsGet", spec := "shotsGet", inPlace := ["internal/abi.NoEscape", "slices.overlaps[fairway/shots.Cell]", "slices.overlaps[fairway/shots.Last]"], unfollowed := true, recurses := true, apart := false, narrowed := true }
def ShotsGetUptoSaid : Prop := shotsGetUptoRow.holds Try.pinned (OpenSpec.upto shotsGetSpec)

/-- 'fairwaylaw27.ShotsBack', WHERE WHAT IT READS IS OF BULK AT MOST 1048576: true; the input reads as it did. -/
def shotsBackUptoRow : OpenClaim := { program := "ytfkbodonidkpoaa", sum := "ccac151f2c61f797b7439e6de59f911a3ca926c1149021cc5155ef3853a51413", func := "fairway/fairwaylaw27.ShotsBack", spec := "shotsBack", inPlace := ["internal/abi.NoEscape", "slices.overlaps[fairway/shots.Cell]", "slices.overlaps[fairway/shots.Last]"], unfollowed := true, recurses := true, apart := false, narrowed := true }
def ShotsBackUptoSaid : Prop := shotsBackUptoRow.holds Try.pinned (OpenSpec.upto shotsBackSpec)

/-- 'fairwaylaw27.ShotsForm', WHERE WHAT IT READS IS OF BULK AT MOST 1048576: true; the input reads as it did. -/
def shotsFormUptoRow : OpenClaim := { program := "ytfkbodonidkpoaa", sum := "ccac151f2c61f797b7439e6de59f911a3ca926c1149021cc5155ef3853a51413", func := "fairway/fairwaylaw27.ShotsForm", spec := "shotsForm", inPlace := ["internal/abi.NoEscape", "slices.overlaps[fairway/shots.Cell]", "slices.overlaps[fairway/shots.Last]"], unfollowed := true, recurses := true, apart := false, narrowed := true }
def ShotsFormUptoSaid : Prop := shotsFormUptoRow.holds Try.pinned (OpenSpec.upto shotsFormSpec)

end Rows
end Go.Proofs.Ytfkbodonidkpoaa
