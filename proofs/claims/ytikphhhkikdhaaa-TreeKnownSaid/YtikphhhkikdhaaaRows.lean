/-
  No cell of these rows narrows 'for every input' (looked for: loops, veiled, ifaces, maps, wideKeys, modest, calm, conditions, laid).
  DERIVED. THE GIVEN ROWS OF THIS SEAT. 13 by the template 'for every input the law returns true; each argument reads behind the call as it read before'; 0 by the template 'total and deterministic' (their statements: YtikphhhkikdhaaaTotals.lean).
  GIVEN WITH THE SEED: the statements are not yours to turn. If you find one false, say at which input.
  Laid BY PROGRAM, IN A SANDBOX (cutbox-rows.mjs): the forced cells as the released guide's own fill.sh prints them over the translation 6887f83a8ff9b1db… (all of the seat's roots in one cut). By AI agents, Wed Nov 11 2026. No macro, syntax, notation, axiom, sorry.
-/
import Derived.Test.YtikphhhkikdhaaaChecked
import GoSem.Claim
import GoSem.ClaimJoined
import GoSem.ClaimMapViews
import Derived.JoinedTies
import Derived.KernelRfl
namespace Go.Proofs.Ytikphhhkikdhaaa
/- THE CELL 'sum', in the pinned program and in every row, IS THE sha256 OF THE DUMP (.gsa) THAT YtikphhhkikdhaaaProg.lean LOADS. Nothing in Lean hashes anything: it is a label: what it is worth is what the hold of that sum in a sandbox is worth. -/
noncomputable def Try.pinned : Pinned := { name := "ytikphhhkikdhaaa", sum := "6887f83a8ff9b1db9717031215fd90056546b09f14217abe431d309853b084b1", checked := Try.checked }
namespace Rows
def none {H : Type} : Left H := { results := [], args := [] }

/-- 'mintagelaw05.OnceSigns': WHATEVER THE INPUT: true; the input reads as it did. -/
def onceSignsSpec : ChangeSpec := { name := "onceSigns", fn := fun _ => fun
  | [d1, d2] => { results := [.lit (.bool true)], args := [d1, d2] }
  | _ => none }
def onceSignsRow : OpenClaim := { program := "ytikphhhkikdhaaa", sum := "6887f83a8ff9b1db9717031215fd90056546b09f14217abe431d309853b084b1", func := "mintage/mintagelaw05.OnceSigns", spec := "onceSigns", inPlace := ["internal/abi.NoEscape", "internal/bytealg.MakeNoZero"], unfollowed := true, recurses := true, apart := false }
def OnceSignsSaid : Prop := onceSignsRow.holds Try.pinned (OpenSpec.ofChange onceSignsSpec)

/-- ITS FALSE NEIGHBOUR: 'it returns false'. Refute it at one input. -/
def onceSignsWrong : ChangeSpec := { name := "onceSigns", fn := fun _ => fun
  | [d1, d2] => { results := [.lit (.bool false)], args := [d1, d2] }
  | _ => none }
def OnceSignsWrongFalsely : Prop := onceSignsRow.holds Try.pinned (OpenSpec.ofChange onceSignsWrong)

/-- 'mintagelaw05.OnceKnown': WHATEVER THE INPUT: true; the input reads as it did. -/
def onceKnownSpec : ChangeSpec := { name := "onceKnown", fn := fun _ => fun
  | [] => { results := [.lit (.bool true)], args := [] }
  | _ => none }
def onceKnownRow : OpenClaim := { program := "ytikphhhkikdhaaa", sum := "6887f83a8ff9b1db9717031215fd90056546b09f14217abe431d309853b084b1", func := "mintage/mintagelaw05.OnceKnown", spec := "onceKnown", inPlace := ["internal/abi.NoEscape", "internal/bytealg.MakeNoZero"], unfollowed := true, recurses := true, apart := false }
def OnceKnownSaid : Prop := onceKnownRow.holds Try.pinned (OpenSpec.ofChange onceKnownSpec)

/-- ITS FALSE NEIGHBOUR: 'it returns false'. Refute it at one input. -/
def onceKnownWrong : ChangeSpec := { name := "onceKnown", fn := fun _ => fun
  | [] => { results := [.lit (.bool false)], args := [] }
  | _ => none }
def OnceKnownWrongFalsely : Prop := onceKnownRow.holds Try.pinned (OpenSpec.ofChange onceKnownWrong)

/-- 'mintagelaw05.OnceTells': WHATEVER THE INPUT: true; the input reads as it did. -/
def onceTellsSpec : ChangeSpec := { name := "onceTells", fn := fun _ => fun
  | [d1, d2, d3] => { results := [.lit (.bool true)], args := [d1, d2, d3] }
  | _ => none }
def onceTellsRow : OpenClaim := { program := "ytikphhhkikdhaaa", sum := "6887f83a8ff9b1db9717031215fd90056546b09f14217abe431d309853b084b1", func := "mintage/mintagelaw05.OnceTells", spec := "onceTells", inPlace := ["internal/abi.NoEscape", "internal/bytealg.MakeNoZero"], unfollowed := true, recurses := true, apart := false }
def OnceTellsSaid : Prop := onceTellsRow.holds Try.pinned (OpenSpec.ofChange onceTellsSpec)

/-- ITS FALSE NEIGHBOUR: 'it returns false'. Refute it at one input. -/
def onceTellsWrong : ChangeSpec := { name := "onceTells", fn := fun _ => fun
  | [d1, d2, d3] => { results := [.lit (.bool false)], args := [d1, d2, d3] }
  | _ => none }
def OnceTellsWrongFalsely : Prop := onceTellsRow.holds Try.pinned (OpenSpec.ofChange onceTellsWrong)

/-- 'mintagelaw05.OnceRight': WHATEVER THE INPUT: true; the input reads as it did. -/
def onceRightSpec : ChangeSpec := { name := "onceRight", fn := fun _ => fun
  | [d1, d2] => { results := [.lit (.bool true)], args := [d1, d2] }
  | _ => none }
def onceRightRow : OpenClaim := { program := "ytikphhhkikdhaaa", sum := "6887f83a8ff9b1db9717031215fd90056546b09f14217abe431d309853b084b1", func := "mintage/mintagelaw05.OnceRight", spec := "onceRight", inPlace := ["internal/abi.NoEscape", "internal/bytealg.MakeNoZero"], unfollowed := true, recurses := true, apart := false }
def OnceRightSaid : Prop := onceRightRow.holds Try.pinned (OpenSpec.ofChange onceRightSpec)

/-- ITS FALSE NEIGHBOUR: 'it returns false'. Refute it at one input. -/
def onceRightWrong : ChangeSpec := { name := "onceRight", fn := fun _ => fun
  | [d1, d2] => { results := [.lit (.bool false)], args := [d1, d2] }
  | _ => none }
def OnceRightWrongFalsely : Prop := onceRightRow.holds Try.pinned (OpenSpec.ofChange onceRightWrong)

/-- 'mintagelaw05.OnceAlike': WHATEVER THE INPUT: true; the input reads as it did. -/
def onceAlikeSpec : ChangeSpec := { name := "onceAlike", fn := fun _ => fun
  | [d1, d2, d3] => { results := [.lit (.bool true)], args := [d1, d2, d3] }
  | _ => none }
def onceAlikeRow : OpenClaim := { program := "ytikphhhkikdhaaa", sum := "6887f83a8ff9b1db9717031215fd90056546b09f14217abe431d309853b084b1", func := "mintage/mintagelaw05.OnceAlike", spec := "onceAlike", inPlace := ["internal/abi.NoEscape", "internal/bytealg.MakeNoZero"], unfollowed := true, recurses := true, apart := false }
def OnceAlikeSaid : Prop := onceAlikeRow.holds Try.pinned (OpenSpec.ofChange onceAlikeSpec)

/-- ITS FALSE NEIGHBOUR: 'it returns false'. Refute it at one input. -/
def onceAlikeWrong : ChangeSpec := { name := "onceAlike", fn := fun _ => fun
  | [d1, d2, d3] => { results := [.lit (.bool false)], args := [d1, d2, d3] }
  | _ => none }
def OnceAlikeWrongFalsely : Prop := onceAlikeRow.holds Try.pinned (OpenSpec.ofChange onceAlikeWrong)

/-- 'mintagelaw05.OnceShort': WHATEVER THE INPUT: true; the input reads as it did. -/
def onceShortSpec : ChangeSpec := { name := "onceShort", fn := fun _ => fun
  | [d1, d2, d3, d4] => { results := [.lit (.bool true)], args := [d1, d2, d3, d4] }
  | _ => none }
def onceShortRow : OpenClaim := { program := "ytikphhhkikdhaaa", sum := "6887f83a8ff9b1db9717031215fd90056546b09f14217abe431d309853b084b1", func := "mintage/mintagelaw05.OnceShort", spec := "onceShort", inPlace := ["internal/abi.NoEscape", "internal/bytealg.MakeNoZero"], unfollowed := true, recurses := true, apart := false }
def OnceShortSaid : Prop := onceShortRow.holds Try.pinned (OpenSpec.ofChange onceShortSpec)

/-- ITS FALSE NEIGHBOUR: 'it returns false'. Refute it at one input. -/
def onceShortWrong : ChangeSpec := { name := "onceShort", fn := fun _ => fun
  | [d1, d2, d3, d4] => { results := [.lit (.bool false)], args := [d1, d2, d3, d4] }
  | _ => none }
def OnceShortWrongFalsely : Prop := onceShortRow.holds Try.pinned (OpenSpec.ofChange onceShortWrong)

/-- 'mintagelaw04.TreeRoots': WHATEVER THE INPUT: true; the input reads as it did. -/
def treeRootsSpec : ChangeSpec := { name := "treeRoots", fn := fun _ => fun
  | [d] => { results := [.lit (.bool true)], args := [d] }
  | _ => none }
def treeRootsRow : OpenClaim := { program := "ytikphhhkikdhaaa", sum := "6887f83a8ff9b1db9717031215fd90056546b09f14217abe431d309853b084b1", func := "mintage/mintagelaw04.TreeRoots", spec := "treeRoots", inPlace := ["internal/abi.NoEscape", "internal/bytealg.MakeNoZero"], unfollowed := true, recurses := true, apart := false }
def TreeRootsSaid : Prop := treeRootsRow.holds Try.pinned (OpenSpec.ofChange treeRootsSpec)

/-- ITS FALSE NEIGHBOUR: 'it returns false'. Refute it at one input. -/
def treeRootsWrong : ChangeSpec := { name := "treeRoots", fn := fun _ => fun
  | [d] => { results := [.lit (.bool false)], args := [d] }
  | _ => none }
def TreeRootsWrongFalsely : Prop := treeRootsRow.holds Try.pinned (OpenSpec.ofChange treeRootsWrong)

/-- 'mintagelaw04.TreeChecks': WHATEVER THE INPUT: true; the input reads as it did. -/
def treeChecksSpec : ChangeSpec := { name := "treeChecks", fn := fun _ => fun
  | [d1, d2, d3, d4, d5] => { results := [.lit (.bool true)], args := [d1, d2, d3, d4, d5] }
  | _ => none }
def treeChecksRow : OpenClaim := { program := "ytikphhhkikdhaaa", sum := "6887f83a8ff9b1db9717031215fd90056546b09f14217abe431d309853b084b1", func := "mintage/mintagelaw04.TreeChecks", spec := "treeChecks", inPlace := ["internal/abi.NoEscape", "internal/bytealg.MakeNoZero"], unfollowed := true, recurses := true, apart := false }
def TreeChecksSaid : Prop := treeChecksRow.holds Try.pinned (OpenSpec.ofChange treeChecksSpec)

/-- ITS FALSE NEIGHBOUR: 'it returns false'. Refute it at one input. -/
def treeChecksWrong : ChangeSpec := { name := "treeChecks", fn := fun _ => fun
  | [d1, d2, d3, d4, d5] => { results := [.lit (.bool false)], args := [d1, d2, d3, d4, d5] }
  | _ => none }
def TreeChecksWrongFalsely : Prop := treeChecksRow.holds Try.pinned (OpenSpec.ofChange treeChecksWrong)

/-- 'mintagelaw04.TreeBack': WHATEVER THE INPUT: true; the input reads as it did. -/
def treeBackSpec : ChangeSpec := { name := "treeBack", fn := fun _ => fun
  | [d] => { results := [.lit (.bool true)], args := [d] }
  | _ => none }
def treeBackRow : OpenClaim := { program := "ytikphhhkikdhaaa", sum := "6887f83a8ff9b1db9717031215fd90056546b09f14217abe431d309853b084b1", func := "mintage/mintagelaw04.TreeBack", spec := "treeBack", inPlace := ["internal/abi.NoEscape", "internal/bytealg.MakeNoZero"], unfollowed := true, recurses := true, apart := false }
def TreeBackSaid : Prop := treeBackRow.holds Try.pinned (OpenSpec.ofChange treeBackSpec)

/-- ITS FALSE NEIGHBOUR: 'it returns false'. Refute it at one input. -/
def treeBackWrong : ChangeSpec := { name := "treeBack", fn := fun _ => fun
  | [d] => { results := [.lit (.bool false)], args := [d] }
  | _ => none }
def TreeBackWrongFalsely : Prop := treeBackRow.holds Try.pinned (OpenSpec.ofChange treeBackWrong)

/-- 'mintagelaw04.TreeLengths': WHATEVER THE INPUT: true; the input reads as it did. -/
def treeLengthsSpec : ChangeSpec := { name := "treeLengths", fn := fun _ => fun
  | [d] => { results := [.lit (.bool true)], args := [d] }
  | _ => none }
def treeLengthsRow : OpenClaim := { program := "ytikphhhkikdhaaa", sum := "6887f83a8ff9b1db9717031215fd90056546b09f14217abe431d309853b084b1", func := "mintage/mintagelaw04.TreeLengths", spec := "treeLengths", inPlace := ["internal/abi.NoEscape", "internal/bytealg.MakeNoZero"], unfollowed := true, recurses := true, apart := false }
def TreeLengthsSaid : Prop := treeLengthsRow.holds Try.pinned (OpenSpec.ofChange treeLengthsSpec)

/-- ITS FALSE NEIGHBOUR: 'it returns false'. Refute it at one input. -/
def treeLengthsWrong : ChangeSpec := { name := "treeLengths", fn := fun _ => fun
  | [d] => { results := [.lit (.bool false)], args := [d] }
  | _ => none }
def TreeLengthsWrongFalsely : Prop := treeLengthsRow.holds Try.pinned (OpenSpec.ofChange treeLengthsWrong)

/-- 'mintagelaw04.TreeTwos': WHATEVER THE INPUT: true; the input reads as it did. -/
def treeTwosSpec : ChangeSpec := { name := "treeTwos", fn := fun _ => fun
  | [d1, d2] => { results := [.lit (.bool true)], args := [d1, d2] }
  | _ => none }
def treeTwosRow : OpenClaim := { program := "ytikphhhkikdhaaa", sum := "6887f83a8ff9b1db9717031215fd90056546b09f14217abe431d309853b084b1", func := "mintage/mintagelaw04.TreeTwos", spec := "treeTwos", inPlace := ["internal/abi.NoEscape", "internal/bytealg.MakeNoZero"], unfollowed := true, recurses := true, apart := false }
def TreeTwosSaid : Prop := treeTwosRow.holds Try.pinned (OpenSpec.ofChange treeTwosSpec)

/-- ITS FALSE NEIGHBOUR: 'it returns false'. Refute it at one input. -/
def treeTwosWrong : ChangeSpec := { name := "treeTwos", fn := fun _ => fun
  | [d1, d2] => { results := [.lit (.bool false)], args := [d1, d2] }
  | _ => none }
def TreeTwosWrongFalsely : Prop := treeTwosRow.holds Try.pinned (OpenSpec.ofChange treeTwosWrong)

/-- 'mintagelaw04.TreeKnown': WHATEVER THE INPUT: true; the input reads as it did. -/
def treeKnownSpec : ChangeSpec := { name := "treeKnown", fn := fun _ => fun
  | [] => { results := [.lit (.bool true)], args := [] }
  | _ => none }
def treeKnownRow : OpenClaim := { program := "ytikphhhkikdhaaa", sum := "6887f83a8ff9b1db9717031215fd90056546b09f14217abe431d309853b084b1", func := "mintage/mintagelaw04.TreeKnown", spec := "treeKnown", inPlace := ["internal/abi.NoEscape", "internal/bytealg.MakeNoZero"], unfollowed := true, recurses := true, apart := false }
def TreeKnownSaid : Prop := treeKnownRow.holds Try.pinned (OpenSpec.ofChange treeKnownSpec)

/-- ITS FALSE NEIGHBOUR: 'it returns false'. Refute it at one input. -/
def treeKnownWrong : ChangeSpec := { name := "treeKnown", fn := fun _ => fun
  | [] => { results := [.lit (.bool false)], args := [] }
  | _ => none }
def TreeKnownWrongFalsely : Prop := treeKnownRow.holds Try.pinned (OpenSpec.ofChange treeKnownWrong)

/-- 'mintagelaw04.TreeProves': WHATEVER THE INPUT: true; the input reads as it did. -/
def treeProvesSpec : ChangeSpec := { name := "treeProves", fn := fun _ => fun
  | [d1, d2] => { results := [.lit (.bool true)], args := [d1, d2] }
  | _ => none }
def treeProvesRow : OpenClaim := { program := "ytikphhhkikdhaaa", sum := "6887f83a8ff9b1db9717031215fd90056546b09f14217abe431d309853b084b1", func := "mintage/mintagelaw04.TreeProves", spec := "treeProves", inPlace := ["internal/abi.NoEscape", "internal/bytealg.MakeNoZero"], unfollowed := true, recurses := true, apart := false }
def TreeProvesSaid : Prop := treeProvesRow.holds Try.pinned (OpenSpec.ofChange treeProvesSpec)

/-- ITS FALSE NEIGHBOUR: 'it returns false'. Refute it at one input. -/
def treeProvesWrong : ChangeSpec := { name := "treeProves", fn := fun _ => fun
  | [d1, d2] => { results := [.lit (.bool false)], args := [d1, d2] }
  | _ => none }
def TreeProvesWrongFalsely : Prop := treeProvesRow.holds Try.pinned (OpenSpec.ofChange treeProvesWrong)

/- THE SECOND FORM. 'bulk': how many values and letters a reading holds, each counted each time it is reached (what is shared counts as often as it is met; a slice's spare places count too). A statement '..UptoSaid' is the law's where the arguments, and the package variables that the reading takes, are together of bulk at most 1048576: NARROWER than '..Said'. Prove '..Said' where nothing that the law and all that it calls make is longer than what came in: it says more and counts as full. Else prove '..UptoSaid'. A law counts once. -/
mutual
def uptoBulk {H : Type} : DataW H → Nat
  | .lit (.string bytes) => bytes.length + 1
  | .lit _ => 1
  | .nil => 1
  | .ptr d => uptoBulk d + 1
  | .slice elems spare => uptoBulkAll elems + uptoBulkAll spare + 1
  | .agg parts => uptoBulkAll parts + 1
  | .iface _ d => uptoBulk d + 1
  | .map entries => uptoBulkEntries entries + 1
  | .held _ => 1
def uptoBulkAll {H : Type} : List (DataW H) → Nat
  | [] => 0
  | d :: r => uptoBulk d + uptoBulkAll r
def uptoBulkEntries {H : Type} : List (Lit × DataW H) → Nat
  | [] => 0
  | x :: r => uptoBulkEntry x + uptoBulkEntries r
def uptoBulkEntry {H : Type} : Lit × DataW H → Nat
  | (.string bytes, d) => bytes.length + uptoBulk d + 1
  | (_, d) => uptoBulk d + 1
 end
def uptoSmall : (H : Type) → List (DataW H) → Bool := fun _ ds => decide (uptoBulkAll ds ≤ 1048576)
def OpenSpec.upto (s : _root_.Go.ChangeSpec) : _root_.Go.OpenSpec := { _root_.Go.OpenSpec.ofChange s with cond := some uptoSmall }

/-- 'mintagelaw05.OnceSigns', WHERE WHAT IT READS IS OF BULK AT MOST 1048576: true; the input reads as it did. -/
def onceSignsUptoRow : OpenClaim := { program := "ytikphhhkikdhaaa", sum := "6887f83a8ff9b1db9717031215fd90056546b09f14217abe431d309853b084b1", func := "mintage/mintagelaw05.OnceSigns", spec := "onceSigns", inPlace := ["internal/abi.NoEscape", "internal/bytealg.MakeNoZero"], unfollowed := true, recurses := true, apart := false, narrowed := true }
def OnceSignsUptoSaid : Prop := onceSignsUptoRow.holds Try.pinned (OpenSpec.upto onceSignsSpec)

/-- 'mintagelaw05.OnceKnown', WHERE WHAT IT READS IS OF BULK AT MOST 1048576: true; the input reads as it did. -/
def onceKnownUptoRow : OpenClaim := { program := "ytikphhhkikdhaaa", sum := "6887f83a8ff9b1db9717031215fd90056546b09f14217abe431d309853b084b1", func := "mintage/mintagelaw05.OnceKnown", spec := "onceKnown", inPlace := ["internal/abi.NoEscape", "internal/bytealg.MakeNoZero"], unfollowed := true, recurses := true, apart := false, narrowed := true }
def OnceKnownUptoSaid : Prop := onceKnownUptoRow.holds Try.pinned (OpenSpec.upto onceKnownSpec)

/-- 'mintagelaw05.OnceTells', WHERE WHAT IT READS IS OF BULK AT MOST 1048576: true; the input reads as it did. -/
def onceTellsUptoRow : OpenClaim := { program := "ytikphhhkikdhaaa", sum := "6887f83a8ff9b1db9717031215fd90056546b09f14217abe431d309853b084b1", func := "mintage/mintagelaw05.OnceTells", spec := "onceTells", inPlace := ["internal/abi.NoEscape", "internal/bytealg.MakeNoZero"], unfollowed := true, recurses := true, apart := false, narrowed := true }
def OnceTellsUptoSaid : Prop := onceTellsUptoRow.holds Try.pinned (OpenSpec.upto onceTellsSpec)

/-- 'mintagelaw05.OnceRight', WHERE WHAT IT READS IS OF BULK AT MOST 1048576: true; the input reads as it did. -/
def onceRightUptoRow : OpenClaim := { program := "ytikphhhkikdhaaa", sum := "6887f83a8ff9b1db9717031215fd90056546b09f14217abe431d309853b084b1", func := "mintage/mintagelaw05.OnceRight", spec := "onceRight", inPlace := ["internal/abi.NoEscape", "internal/bytealg.MakeNoZero"], unfollowed := true, recurses := true, apart := false, narrowed := true }
def OnceRightUptoSaid : Prop := onceRightUptoRow.holds Try.pinned (OpenSpec.upto onceRightSpec)

/-- 'mintagelaw05.OnceAlike', WHERE WHAT IT READS IS OF BULK AT MOST 1048576: true; the input reads as it did. -/
def onceAlikeUptoRow : OpenClaim := { program := "ytikphhhkikdhaaa", sum := "6887f83a8ff9b1db9717031215fd90056546b09f14217abe431d309853b084b1", func := "mintage/mintagelaw05.OnceAlike", spec := "onceAlike", inPlace := ["internal/abi.NoEscape", "internal/bytealg.MakeNoZero"], unfollowed := true, recurses := true, apart := false, narrowed := true }
def OnceAlikeUptoSaid : Prop := onceAlikeUptoRow.holds Try.pinned (OpenSpec.upto onceAlikeSpec)

/-- 'mintagelaw05.OnceShort', WHERE WHAT IT READS IS OF BULK AT MOST 1048576: true; the input reads as it did. -/
def onceShortUptoRow : OpenClaim := { program := "ytikphhhkikdhaaa", sum := "6887f83a8ff9b1db9717031215fd90056546b09f14217abe431d309853b084b1", func := "mintage/mintagelaw05.OnceShort", spec := "onceShort", inPlace := ["internal/abi.NoEscape", "internal/bytealg.MakeNoZero"], unfollowed := true, recurses := true, apart := false, narrowed := true }
def OnceShortUptoSaid : Prop := onceShortUptoRow.holds Try.pinned (OpenSpec.upto onceShortSpec)

/-- 'mintagelaw04.TreeRoots', WHERE WHAT IT READS IS OF BULK AT MOST 1048576: true; the input reads as it did. -/
def treeRootsUptoRow : OpenClaim := { program := "ytikphhhkikdhaaa", sum := "6887f83a8ff9b1db9717031215fd90056546b09f14217abe431d309853b084b1", func := "mintage/mintagelaw04.TreeRoots", spec := "treeRoots", inPlace := ["internal/abi.NoEscape", "internal/bytealg.MakeNoZero"], unfollowed := true, recurses := true, apart := false, narrowed := true }
def TreeRootsUptoSaid : Prop := treeRootsUptoRow.holds Try.pinned (OpenSpec.upto treeRootsSpec)

/-- 'mintagelaw04.TreeChecks', WHERE WHAT IT READS IS OF BULK AT MOST 1048576: true; the input reads as it did. -/
def treeChecksUptoRow : OpenClaim := { program := "ytikphhhkikdhaaa", sum := "6887f83a8ff9b1db9717031215fd90056546b09f14217abe431d309853b084b1", func := "mintage/mintagelaw04.TreeChecks", spec := "treeChecks", inPlace := ["internal/abi.NoEscape", "internal/bytealg.MakeNoZero"], unfollowed := true, recurses := true, apart := false, narrowed := true }
def TreeChecksUptoSaid : Prop := treeChecksUptoRow.holds Try.pinned (OpenSpec.upto treeChecksSpec)

/-- 'mintagelaw04.TreeBack', WHERE WHAT IT READS IS OF BULK AT MOST 1048576: true; the input reads as it did. -/
def treeBackUptoRow : OpenClaim := { program := "ytikphhhkikdhaaa", sum := "6887f83a8ff9b1db9717031215fd90056546b09f14217abe431d309853b084b1", func := "mintage/mintagelaw04.TreeBack", spec := "treeBack", inPlace := ["internal/abi.NoEscape", "internal/bytealg.MakeNoZero"], unfollowed := true, recurses := true, apart := false, narrowed := true }
def TreeBackUptoSaid : Prop := treeBackUptoRow.holds Try.pinned (OpenSpec.upto treeBackSpec)

/-- 'mintagelaw04.TreeLengths', WHERE WHAT IT READS IS OF BULK AT MOST 1048576: true; the input reads as it did. -/
def treeLengthsUptoRow : OpenClaim := { program := "ytikphhhkikdhaaa", sum := "6887f83a8ff9b1db9717031215fd90056546b09f14217abe431d309853b084b1", func := "mintage/mintagelaw04.TreeLengths", spec := "treeLengths", inPlace := ["internal/abi.NoEscape", "internal/bytealg.MakeNoZero"], unfollowed := true, recurses := true, apart := false, narrowed := true }
def TreeLengthsUptoSaid : Prop := treeLengthsUptoRow.holds Try.pinned (OpenSpec.upto treeLengthsSpec)

/-- 'mintagelaw04.TreeTwos', WHERE WHAT IT READS IS OF BULK AT MOST 1048576: true; the input reads as it did. -/
def treeTwosUptoRow : OpenClaim := { program := "ytikphhhkikdhaaa", sum := "6887f83a8ff9b1db9717031215fd90056546b09f14217abe431d309853b084b1", func := "mintage/mintagelaw04.TreeTwos", spec := "treeTwos", inPlace := ["internal/abi.NoEscape", "internal/bytealg.MakeNoZero"], unfollowed := true, recurses := true, apart := false, narrowed := true }
def TreeTwosUptoSaid : Prop := treeTwosUptoRow.holds Try.pinned (OpenSpec.upto treeTwosSpec)

/-- 'mintagelaw04.TreeKnown', WHERE WHAT IT READS IS OF BULK AT MOST 1048576: true; the input reads as it did. -/
def treeKnownUptoRow : OpenClaim := { program := "ytikphhhkikdhaaa", sum := "6887f83a8ff9b1db9717031215fd90056546b09f14217abe431d309853b084b1", func := "mintage/mintagelaw04.TreeKnown", spec := "treeKnown", inPlace := ["internal/abi.NoEscape", "internal/bytealg.MakeNoZero"], unfollowed := true, recurses := true, apart := false, narrowed := true }
def TreeKnownUptoSaid : Prop := treeKnownUptoRow.holds Try.pinned (OpenSpec.upto treeKnownSpec)

/-- 'mintagelaw04.TreeProves', WHERE WHAT IT READS IS OF BULK AT MOST 1048576: true; the input reads as it did. -/
def treeProvesUptoRow : OpenClaim := { program := "ytikphhhkikdhaaa", sum := "6887f83a8ff9b1db9717031215fd90056546b09f14217abe431d309853b084b1", func := "mintage/mintagelaw04.TreeProves", spec := "treeProves", inPlace := ["internal/abi.NoEscape", "internal/bytealg.MakeNoZero"], unfollowed := true, recurses := true, apart := false, narrowed := true }
def TreeProvesUptoSaid : Prop := treeProvesUptoRow.holds Try.pinned (OpenSpec.upto treeProvesSpec)

end Rows
end Go.Proofs.Ytikphhhkikdhaaa
