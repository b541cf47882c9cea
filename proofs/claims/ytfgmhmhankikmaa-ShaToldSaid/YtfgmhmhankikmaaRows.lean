/-
  No cell of these rows narrows 'for every input' (looked for: loops, veiled, ifaces, maps, wideKeys, modest, calm, conditions, laid).
  DERIVED. THE GIVEN ROWS OF THIS SEAT. 13 by the template 'for every input the law returns true; each argument reads behind the call as it read before'; 0 by the template 'total and deterministic' (their statements: YtfgmhmhankikmaaTotals.lean).
  GIVEN WITH THE SEED: the statements are not yours to turn. If you find one false, say at which input.
  Laid BY PROGRAM, IN A SANDBOX (cutbox-rows.mjs): the forced cells as the released guide's own fill.sh prints them over the translation 1aff345ec962eea8… (all of the seat's roots in one cut). By AI agents, Wed Nov 11 2026. No macro, syntax, notation, axiom, sorry.
-/
import Derived.Test.YtfgmhmhankikmaaChecked
import GoSem.Claim
import GoSem.ClaimJoined
import GoSem.ClaimMapViews
import Derived.JoinedTies
import Derived.KernelRfl
namespace Go.Proofs.Ytfgmhmhankikmaa
/- THE CELL 'sum', in the pinned program and in every row, IS THE sha256 OF THE DUMP (.gsa) THAT YtfgmhmhankikmaaProg.lean LOADS. Nothing in Lean hashes anything: it is a label: what it is worth is what the hold of that sum in a sandbox is worth. -/
noncomputable def Try.pinned : Pinned := { name := "ytfgmhmhankikmaa", sum := "1aff345ec962eea87c4e322c2f76d8eff4afe3546c77da8a528f6a64268e2e2e", checked := Try.checked }
namespace Rows
def none {H : Type} : Left H := { results := [], args := [] }

/-- 'mintagelaw03.ShaBack': WHATEVER THE INPUT: true; the input reads as it did. -/
def shaBackSpec : ChangeSpec := { name := "shaBack", fn := fun _ => fun
  | [d1, d2] => { results := [.lit (.bool true)], args := [d1, d2] }
  | _ => none }
def shaBackRow : OpenClaim := { program := "ytfgmhmhankikmaa", sum := "1aff345ec962eea87c4e322c2f76d8eff4afe3546c77da8a528f6a64268e2e2e", func := "mintage/mintagelaw03.ShaBack", spec := "shaBack", inPlace := ["internal/abi.NoEscape", "internal/bytealg.IndexByteString"], apart := false }
def ShaBackSaid : Prop := shaBackRow.holds Try.pinned (OpenSpec.ofChange shaBackSpec)

/-- ITS FALSE NEIGHBOUR: 'it returns false'. Refute it at one input. -/
def shaBackWrong : ChangeSpec := { name := "shaBack", fn := fun _ => fun
  | [d1, d2] => { results := [.lit (.bool false)], args := [d1, d2] }
  | _ => none }
def ShaBackWrongFalsely : Prop := shaBackRow.holds Try.pinned (OpenSpec.ofChange shaBackWrong)

/-- 'mintagelaw07.LotEnds': WHATEVER THE INPUT: true; the input reads as it did. -/
def lotEndsSpec : ChangeSpec := { name := "lotEnds", fn := fun _ => fun
  | [d1, d2, d3] => { results := [.lit (.bool true)], args := [d1, d2, d3] }
  | _ => none }
def lotEndsRow : OpenClaim := { program := "ytfgmhmhankikmaa", sum := "1aff345ec962eea87c4e322c2f76d8eff4afe3546c77da8a528f6a64268e2e2e", func := "mintage/mintagelaw07.LotEnds", spec := "lotEnds", inPlace := ["math/bits.Add64"], unfollowed := true, recurses := true, apart := false }
def LotEndsSaid : Prop := lotEndsRow.holds Try.pinned (OpenSpec.ofChange lotEndsSpec)

/-- ITS FALSE NEIGHBOUR: 'it returns false'. Refute it at one input. -/
def lotEndsWrong : ChangeSpec := { name := "lotEnds", fn := fun _ => fun
  | [d1, d2, d3] => { results := [.lit (.bool false)], args := [d1, d2, d3] }
  | _ => none }
def LotEndsWrongFalsely : Prop := lotEndsRow.holds Try.pinned (OpenSpec.ofChange lotEndsWrong)

/-- 'mintagelaw07.LotKnown': WHATEVER THE INPUT: true; the input reads as it did. -/
def lotKnownSpec : ChangeSpec := { name := "lotKnown", fn := fun _ => fun
  | [] => { results := [.lit (.bool true)], args := [] }
  | _ => none }
def lotKnownRow : OpenClaim := { program := "ytfgmhmhankikmaa", sum := "1aff345ec962eea87c4e322c2f76d8eff4afe3546c77da8a528f6a64268e2e2e", func := "mintage/mintagelaw07.LotKnown", spec := "lotKnown", inPlace := ["math/bits.Add64"], unfollowed := true, recurses := true, apart := false }
def LotKnownSaid : Prop := lotKnownRow.holds Try.pinned (OpenSpec.ofChange lotKnownSpec)

/-- ITS FALSE NEIGHBOUR: 'it returns false'. Refute it at one input. -/
def lotKnownWrong : ChangeSpec := { name := "lotKnown", fn := fun _ => fun
  | [] => { results := [.lit (.bool false)], args := [] }
  | _ => none }
def LotKnownWrongFalsely : Prop := lotKnownRow.holds Try.pinned (OpenSpec.ofChange lotKnownWrong)

/-- 'mintagelaw07.LotWins': WHATEVER THE INPUT: true; the input reads as it did. -/
def lotWinsSpec : ChangeSpec := { name := "lotWins", fn := fun _ => fun
  | [d1, d2, d3, d4, d5] => { results := [.lit (.bool true)], args := [d1, d2, d3, d4, d5] }
  | _ => none }
def lotWinsRow : OpenClaim := { program := "ytfgmhmhankikmaa", sum := "1aff345ec962eea87c4e322c2f76d8eff4afe3546c77da8a528f6a64268e2e2e", func := "mintage/mintagelaw07.LotWins", spec := "lotWins", inPlace := ["math/bits.Add64"], unfollowed := true, recurses := true, apart := false }
def LotWinsSaid : Prop := lotWinsRow.holds Try.pinned (OpenSpec.ofChange lotWinsSpec)

/-- ITS FALSE NEIGHBOUR: 'it returns false'. Refute it at one input. -/
def lotWinsWrong : ChangeSpec := { name := "lotWins", fn := fun _ => fun
  | [d1, d2, d3, d4, d5] => { results := [.lit (.bool false)], args := [d1, d2, d3, d4, d5] }
  | _ => none }
def LotWinsWrongFalsely : Prop := lotWinsRow.holds Try.pinned (OpenSpec.ofChange lotWinsWrong)

/-- 'mintagelaw07.LotMore': WHATEVER THE INPUT: true; the input reads as it did. -/
def lotMoreSpec : ChangeSpec := { name := "lotMore", fn := fun _ => fun
  | [d1, d2, d3, d4, d5, d6, d7] => { results := [.lit (.bool true)], args := [d1, d2, d3, d4, d5, d6, d7] }
  | _ => none }
def lotMoreRow : OpenClaim := { program := "ytfgmhmhankikmaa", sum := "1aff345ec962eea87c4e322c2f76d8eff4afe3546c77da8a528f6a64268e2e2e", func := "mintage/mintagelaw07.LotMore", spec := "lotMore", inPlace := ["math/bits.Add64"], unfollowed := true, recurses := true, apart := false }
def LotMoreSaid : Prop := lotMoreRow.holds Try.pinned (OpenSpec.ofChange lotMoreSpec)

/-- ITS FALSE NEIGHBOUR: 'it returns false'. Refute it at one input. -/
def lotMoreWrong : ChangeSpec := { name := "lotMore", fn := fun _ => fun
  | [d1, d2, d3, d4, d5, d6, d7] => { results := [.lit (.bool false)], args := [d1, d2, d3, d4, d5, d6, d7] }
  | _ => none }
def LotMoreWrongFalsely : Prop := lotMoreRow.holds Try.pinned (OpenSpec.ofChange lotMoreWrong)

/-- 'mintagelaw07.LotParts': WHATEVER THE INPUT: true; the input reads as it did. -/
def lotPartsSpec : ChangeSpec := { name := "lotParts", fn := fun _ => fun
  | [d1, d2, d3, d4, d5] => { results := [.lit (.bool true)], args := [d1, d2, d3, d4, d5] }
  | _ => none }
def lotPartsRow : OpenClaim := { program := "ytfgmhmhankikmaa", sum := "1aff345ec962eea87c4e322c2f76d8eff4afe3546c77da8a528f6a64268e2e2e", func := "mintage/mintagelaw07.LotParts", spec := "lotParts", inPlace := ["math/bits.Add64"], unfollowed := true, recurses := true, apart := false }
def LotPartsSaid : Prop := lotPartsRow.holds Try.pinned (OpenSpec.ofChange lotPartsSpec)

/-- ITS FALSE NEIGHBOUR: 'it returns false'. Refute it at one input. -/
def lotPartsWrong : ChangeSpec := { name := "lotParts", fn := fun _ => fun
  | [d1, d2, d3, d4, d5] => { results := [.lit (.bool false)], args := [d1, d2, d3, d4, d5] }
  | _ => none }
def LotPartsWrongFalsely : Prop := lotPartsRow.holds Try.pinned (OpenSpec.ofChange lotPartsWrong)

/-- 'mintagelaw03.ShaSums': WHATEVER THE INPUT: true; the input reads as it did. -/
def shaSumsSpec : ChangeSpec := { name := "shaSums", fn := fun _ => fun
  | [d] => { results := [.lit (.bool true)], args := [d] }
  | _ => none }
def shaSumsRow : OpenClaim := { program := "ytfgmhmhankikmaa", sum := "1aff345ec962eea87c4e322c2f76d8eff4afe3546c77da8a528f6a64268e2e2e", func := "mintage/mintagelaw03.ShaSums", spec := "shaSums", inPlace := ["internal/abi.NoEscape", "internal/bytealg.MakeNoZero"], apart := false }
def ShaSumsSaid : Prop := shaSumsRow.holds Try.pinned (OpenSpec.ofChange shaSumsSpec)

/-- ITS FALSE NEIGHBOUR: 'it returns false'. Refute it at one input. -/
def shaSumsWrong : ChangeSpec := { name := "shaSums", fn := fun _ => fun
  | [d] => { results := [.lit (.bool false)], args := [d] }
  | _ => none }
def ShaSumsWrongFalsely : Prop := shaSumsRow.holds Try.pinned (OpenSpec.ofChange shaSumsWrong)

/-- 'mintagelaw03.ShaParts': WHATEVER THE INPUT: true; the input reads as it did. -/
def shaPartsSpec : ChangeSpec := { name := "shaParts", fn := fun _ => fun
  | [d1, d2] => { results := [.lit (.bool true)], args := [d1, d2] }
  | _ => none }
def shaPartsRow : OpenClaim := { program := "ytfgmhmhankikmaa", sum := "1aff345ec962eea87c4e322c2f76d8eff4afe3546c77da8a528f6a64268e2e2e", func := "mintage/mintagelaw03.ShaParts", spec := "shaParts", inPlace := ["internal/abi.NoEscape", "internal/bytealg.MakeNoZero"], recurses := true, apart := false }
def ShaPartsSaid : Prop := shaPartsRow.holds Try.pinned (OpenSpec.ofChange shaPartsSpec)

/-- ITS FALSE NEIGHBOUR: 'it returns false'. Refute it at one input. -/
def shaPartsWrong : ChangeSpec := { name := "shaParts", fn := fun _ => fun
  | [d1, d2] => { results := [.lit (.bool false)], args := [d1, d2] }
  | _ => none }
def ShaPartsWrongFalsely : Prop := shaPartsRow.holds Try.pinned (OpenSpec.ofChange shaPartsWrong)

/-- 'mintagelaw03.ShaTold': WHATEVER THE INPUT: true; the input reads as it did. -/
def shaToldSpec : ChangeSpec := { name := "shaTold", fn := fun _ => fun
  | [d1, d2] => { results := [.lit (.bool true)], args := [d1, d2] }
  | _ => none }
def shaToldRow : OpenClaim := { program := "ytfgmhmhankikmaa", sum := "1aff345ec962eea87c4e322c2f76d8eff4afe3546c77da8a528f6a64268e2e2e", func := "mintage/mintagelaw03.ShaTold", spec := "shaTold", inPlace := ["internal/abi.NoEscape", "internal/bytealg.MakeNoZero"], apart := false }
def ShaToldSaid : Prop := shaToldRow.holds Try.pinned (OpenSpec.ofChange shaToldSpec)

/-- ITS FALSE NEIGHBOUR: 'it returns false'. Refute it at one input. -/
def shaToldWrong : ChangeSpec := { name := "shaTold", fn := fun _ => fun
  | [d1, d2] => { results := [.lit (.bool false)], args := [d1, d2] }
  | _ => none }
def ShaToldWrongFalsely : Prop := shaToldRow.holds Try.pinned (OpenSpec.ofChange shaToldWrong)

/-- 'mintagelaw03.ShaHexes': WHATEVER THE INPUT: true; the input reads as it did. -/
def shaHexesSpec : ChangeSpec := { name := "shaHexes", fn := fun _ => fun
  | [d1, d2] => { results := [.lit (.bool true)], args := [d1, d2] }
  | _ => none }
def shaHexesRow : OpenClaim := { program := "ytfgmhmhankikmaa", sum := "1aff345ec962eea87c4e322c2f76d8eff4afe3546c77da8a528f6a64268e2e2e", func := "mintage/mintagelaw03.ShaHexes", spec := "shaHexes", inPlace := ["internal/abi.NoEscape", "internal/bytealg.MakeNoZero", "internal/bytealg.IndexByteString"], apart := false }
def ShaHexesSaid : Prop := shaHexesRow.holds Try.pinned (OpenSpec.ofChange shaHexesSpec)

/-- ITS FALSE NEIGHBOUR: 'it returns false'. Refute it at one input. -/
def shaHexesWrong : ChangeSpec := { name := "shaHexes", fn := fun _ => fun
  | [d1, d2] => { results := [.lit (.bool false)], args := [d1, d2] }
  | _ => none }
def ShaHexesWrongFalsely : Prop := shaHexesRow.holds Try.pinned (OpenSpec.ofChange shaHexesWrong)

/-- 'mintagelaw03.ShaKnown': WHATEVER THE INPUT: true; the input reads as it did. -/
def shaKnownSpec : ChangeSpec := { name := "shaKnown", fn := fun _ => fun
  | [] => { results := [.lit (.bool true)], args := [] }
  | _ => none }
def shaKnownRow : OpenClaim := { program := "ytfgmhmhankikmaa", sum := "1aff345ec962eea87c4e322c2f76d8eff4afe3546c77da8a528f6a64268e2e2e", func := "mintage/mintagelaw03.ShaKnown", spec := "shaKnown", inPlace := ["internal/abi.NoEscape", "internal/bytealg.MakeNoZero", "internal/bytealg.IndexByteString"], apart := false }
def ShaKnownSaid : Prop := shaKnownRow.holds Try.pinned (OpenSpec.ofChange shaKnownSpec)

/-- ITS FALSE NEIGHBOUR: 'it returns false'. Refute it at one input. -/
def shaKnownWrong : ChangeSpec := { name := "shaKnown", fn := fun _ => fun
  | [] => { results := [.lit (.bool false)], args := [] }
  | _ => none }
def ShaKnownWrongFalsely : Prop := shaKnownRow.holds Try.pinned (OpenSpec.ofChange shaKnownWrong)

/-- 'mintagelaw07.LotValues': WHATEVER THE INPUT: true; the input reads as it did. -/
def lotValuesSpec : ChangeSpec := { name := "lotValues", fn := fun _ => fun
  | [d1, d2, d3] => { results := [.lit (.bool true)], args := [d1, d2, d3] }
  | _ => none }
def lotValuesRow : OpenClaim := { program := "ytfgmhmhankikmaa", sum := "1aff345ec962eea87c4e322c2f76d8eff4afe3546c77da8a528f6a64268e2e2e", func := "mintage/mintagelaw07.LotValues", spec := "lotValues", inPlace := ["internal/abi.NoEscape", "internal/bytealg.MakeNoZero", "math/bits.Add64"], unfollowed := true, recurses := true, apart := false }
def LotValuesSaid : Prop := lotValuesRow.holds Try.pinned (OpenSpec.ofChange lotValuesSpec)

/-- ITS FALSE NEIGHBOUR: 'it returns false'. Refute it at one input. -/
def lotValuesWrong : ChangeSpec := { name := "lotValues", fn := fun _ => fun
  | [d1, d2, d3] => { results := [.lit (.bool false)], args := [d1, d2, d3] }
  | _ => none }
def LotValuesWrongFalsely : Prop := lotValuesRow.holds Try.pinned (OpenSpec.ofChange lotValuesWrong)

/-- 'mintagelaw03.ShaRoots': WHATEVER THE INPUT: true; the input reads as it did. -/
def shaRootsSpec : ChangeSpec := { name := "shaRoots", fn := fun _ => fun
  | [] => { results := [.lit (.bool true)], args := [] }
  | _ => none }
def shaRootsRow : OpenClaim := { program := "ytfgmhmhankikmaa", sum := "1aff345ec962eea87c4e322c2f76d8eff4afe3546c77da8a528f6a64268e2e2e", func := "mintage/mintagelaw03.ShaRoots", spec := "shaRoots", inPlace := ["internal/abi.NoEscape", "internal/bytealg.MakeNoZero", "internal/bytealg.IndexByteString", "internal/bytealg.IndexString"], named := ["internal/bytealg.MaxLen"], apart := false }
def ShaRootsSaid : Prop := shaRootsRow.holds Try.pinned (OpenSpec.ofChange shaRootsSpec)

/-- ITS FALSE NEIGHBOUR: 'it returns false'. Refute it at one input. -/
def shaRootsWrong : ChangeSpec := { name := "shaRoots", fn := fun _ => fun
  | [] => { results := [.lit (.bool false)], args := [] }
  | _ => none }
def ShaRootsWrongFalsely : Prop := shaRootsRow.holds Try.pinned (OpenSpec.ofChange shaRootsWrong)

/- THE SECOND FORM. 'bulk': how many values and letters a reading holds, each counted each time it is reached (what is shared counts as often as it is met; a slice's spare places count too). A statement '..UptoSaid' is the law's where the arguments, and the package variables that the reading takes, are together of bulk at most 1048576: NARROWER than '..Said'. Prove '..Said' where nothing that the law and all that it calls make is longer than what came in: it says more and counts as full. Else prove '..UptoSaid'. A law counts once. -/
mutual
def uptoBulk {H : Type} : DataW H → Nat
  | .lit (.string bytes) => bytes.length + 1
  | .lit _ => 1
  | .nil => 1
  | .ptr d => uptoBulk d + 1
  | .slice elems spare => uptoBulkAll elems + uptoBulkAll spare + 1
  | .agg parts => uptoBulkAll parts + 1
  | .iface _ d => uptoBulk d + 1
  | .map entries => uptoBulkEntries entries + 1
  | .held _ => 1
def uptoBulkAll {H : Type} : List (DataW H) → Nat
  | [] => 0
  | d :: r => uptoBulk d + uptoBulkAll r
def uptoBulkEntries {H : Type} : List (Lit × DataW H) → Nat
  | [] => 0
  | x :: r => uptoBulkEntry x + uptoBulkEntries r
def uptoBulkEntry {H : Type} : Lit × DataW H → Nat
  | (.string bytes, d) => bytes.length + uptoBulk d + 1
  | (_, d) => uptoBulk d + 1
 end
def uptoSmall : (H : Type) → List (DataW H) → Bool := fun _ ds => decide (uptoBulkAll ds ≤ 1048576)
def OpenSpec.upto (s : _root_.Go.ChangeSpec) : _root_.Go.OpenSpec := { _root_.Go.OpenSpec.ofChange s with cond := some uptoSmall }

/-- 'mintagelaw03.ShaBack', WHERE WHAT IT READS IS OF BULK AT MOST 1048576: true; the input reads as it did. -/
def shaBackUptoRow : OpenClaim := { program := "ytfgmhmhankikmaa", sum := "1aff345ec962eea87c4e322c2f76d8eff4afe3546c77da8a528f6a64268e2e2e", func := "mintage/mintagelaw03.ShaBack", spec := "shaBack", inPlace := ["internal/abi.NoEscape", "internal/bytealg.IndexByteString"], apart := false, narrowed := true }
def ShaBackUptoSaid : Prop := shaBackUptoRow.holds Try.pinned (OpenSpec.upto shaBackSpec)

/-- 'mintagelaw07.LotEnds', WHERE WHAT IT READS IS OF BULK AT MOST 1048576: true; the input reads as it did. -/
def lotEndsUptoRow : OpenClaim := { program := "ytfgmhmhankikmaa", sum := "1aff345ec962eea87c4e322c2f76d8eff4afe3546c77da8a528f6a64268e2e2e", func := "mintage/mintagelaw07.LotEnds", spec := "lotEnds", inPlace := ["math/bits.Add64"], unfollowed := true, recurses := true, apart := false, narrowed := true }
def LotEndsUptoSaid : Prop := lotEndsUptoRow.holds Try.pinned (OpenSpec.upto lotEndsSpec)

/-- 'mintagelaw07.LotKnown', WHERE WHAT IT READS IS OF BULK AT MOST 1048576: true; the input reads as it did. -/
def lotKnownUptoRow : OpenClaim := { program := "ytfgmhmhankikmaa", sum := "1aff345ec962eea87c4e322c2f76d8eff4afe3546c77da8a528f6a64268e2e2e", func := "mintage/mintagelaw07.LotKnown", spec := "lotKnown", inPlace := ["math/bits.Add64"], unfollowed := true, recurses := true, apart := false, narrowed := true }
def LotKnownUptoSaid : Prop := lotKnownUptoRow.holds Try.pinned (OpenSpec.upto lotKnownSpec)

/-- 'mintagelaw07.LotWins', WHERE WHAT IT READS IS OF BULK AT MOST 1048576: true; the input reads as it did. -/
def lotWinsUptoRow : OpenClaim := { program := "ytfgmhmhankikmaa", sum := "1aff345ec962eea87c4e322c2f76d8eff4afe3546c77da8a528f6a64268e2e2e", func := "mintage/mintagelaw07.LotWins", spec := "lotWins", inPlace := ["math/bits.Add64"], unfollowed := true, recurses := true, apart := false, narrowed := true }
def LotWinsUptoSaid : Prop := lotWinsUptoRow.holds Try.pinned (OpenSpec.upto lotWinsSpec)

/-- 'mintagelaw07.LotMore', WHERE WHAT IT READS IS OF BULK AT MOST 1048576: true; the input reads as it did. -/
def lotMoreUptoRow : OpenClaim := { program := "ytfgmhmhankikmaa", sum := "1aff345ec962eea87c4e322c2f76d8eff4afe3546c77da8a528f6a64268e2e2e", func := "mintage/mintagelaw07.LotMore", spec := "lotMore", inPlace := ["math/bits.Add64"], unfollowed := true, recurses := true, apart := false, narrowed := true }
def LotMoreUptoSaid : Prop := lotMoreUptoRow.holds Try.pinned (OpenSpec.upto lotMoreSpec)

/-- 'mintagelaw07.LotParts', WHERE WHAT IT READS IS OF BULK AT MOST 1048576: true; the input reads as it did. -/
def lotPartsUptoRow : OpenClaim := { program := "ytfgmhmhankikmaa", sum := "1aff345ec962eea87c4e322c2f76d8eff4afe3546c77da8a528f6a64268e2e2e", func := "mintage/mintagelaw07.LotParts", spec := "lotParts", inPlace := ["math/bits.Add64"], unfollowed := true, recurses := true, apart := false, narrowed := true }
def LotPartsUptoSaid : Prop := lotPartsUptoRow.holds Try.pinned (OpenSpec.upto lotPartsSpec)

/-- 'mintagelaw03.ShaSums', WHERE WHAT IT READS IS OF BULK AT MOST 1048576: true; the input reads as it did. -/
def shaSumsUptoRow : OpenClaim := { program := "ytfgmhmhankikmaa", sum := "1aff345ec962eea87c4e322c2f76d8eff4afe3546c77da8a528f6a64268e2e2e", func := "mintage/mintagelaw03.ShaSums", spec := "shaSums", inPlace := ["internal/abi.NoEscape", "internal/bytealg.MakeNoZero"], apart := false, narrowed := true }
def ShaSumsUptoSaid : Prop := shaSumsUptoRow.holds Try.pinned (OpenSpec.upto shaSumsSpec)

/-- 'mintagelaw03.ShaParts', WHERE WHAT IT READS IS OF BULK AT MOST 1048576: true; the input reads as it did. -/
def shaPartsUptoRow : OpenClaim := { program := "ytfgmhmhankikmaa", sum := "1aff345ec962eea87c4e322c2f76d8eff4afe3546c77da8a528f6a64268e2e2e", func := "mintage/mintagelaw03.ShaParts", spec := "shaParts", inPlace := ["internal/abi.NoEscape", "internal/bytealg.MakeNoZero"], recurses := true, apart := false, narrowed := true }
def ShaPartsUptoSaid : Prop := shaPartsUptoRow.holds Try.pinned (OpenSpec.upto shaPartsSpec)

/-- 'mintagelaw03.ShaTold', WHERE WHAT IT READS IS OF BULK AT MOST 1048576: true; the input reads as it did. -/
def shaToldUptoRow : OpenClaim := { program := "ytfgmhmhankikmaa", sum := "1aff345ec962eea87c4e322c2f76d8eff4afe3546c77da8a528f6a64268e2e2e", func := "mintage/mintagelaw03.ShaTold", spec := "shaTold", inPlace := ["internal/abi.NoEscape", "internal/bytealg.MakeNoZero"], apart := false, narrowed := true }
def ShaToldUptoSaid : Prop := shaToldUptoRow.holds Try.pinned (OpenSpec.upto shaToldSpec)

/-- 'mintagelaw03.ShaHexes', WHERE WHAT IT READS IS OF BULK AT MOST 1048576: true; the input reads as it did. -/
def shaHexesUptoRow : OpenClaim := { program := "ytfgmhmhankikmaa", sum := "1aff345ec962eea87c4e322c2f76d8eff4afe3546c77da8a528f6a64268e2e2e", func := "mintage/mintagelaw03.ShaHexes", spec := "shaHexes", inPlace := ["internal/abi.NoEscape", "internal/bytealg.MakeNoZero", "internal/bytealg.IndexByteString"], apart := false, narrowed := true }
def ShaHexesUptoSaid : Prop := shaHexesUptoRow.holds Try.pinned (OpenSpec.upto shaHexesSpec)

/-- 'mintagelaw03.ShaKnown', WHERE WHAT IT READS IS OF BULK AT MOST 1048576: true; the input reads as it did. -/
def shaKnownUptoRow : OpenClaim := { program := "ytfgmhmhankikmaa", sum := "1aff345ec962eea87c4e322c2f76d8eff4afe3546c77da8a528f6a64268e2e2e", func := "mintage/mintagelaw03.ShaKnown", spec := "shaKnown", inPlace := ["internal/abi.NoEscape", "internal/bytealg.MakeNoZero", "internal/bytealg.IndexByteString"], apart := false, narrowed := true }
def ShaKnownUptoSaid : Prop := shaKnownUptoRow.holds Try.pinned (OpenSpec.upto shaKnownSpec)

/-- 'mintagelaw07.LotValues', WHERE WHAT IT READS IS OF BULK AT MOST 1048576: true; the input reads as it did. -/
def lotValuesUptoRow : OpenClaim := { program := "ytfgmhmhankikmaa", sum := "1aff345ec962eea87c4e322c2f76d8eff4afe3546c77da8a528f6a64268e2e2e", func := "mintage/mintagelaw07.LotValues", spec := "lotValues", inPlace := ["internal/abi.NoEscape", "internal/bytealg.MakeNoZero", "math/bits.Add64"], unfollowed := true, recurses := true, apart := false, narrowed := true }
def LotValuesUptoSaid : Prop := lotValuesUptoRow.holds Try.pinned (OpenSpec.upto lotValuesSpec)

/-- 'mintagelaw03.ShaRoots', WHERE WHAT IT READS IS OF BULK AT MOST 1048576: true; the input reads as it did. -/
def shaRootsUptoRow : OpenClaim := { program := "ytfgmhmhankikmaa", sum := "1aff345ec962eea87c4e322c2f76d8eff4afe3546c77da8a528f6a64268e2e2e", func := "mintage/mintagelaw03.ShaRoots", spec := "shaRoots", inPlace := ["internal/abi.NoEscape", "internal/bytealg.MakeNoZero", "internal/bytealg.IndexByteString", "internal/bytealg.IndexString"], named := ["internal/bytealg.MaxLen"], apart := false, narrowed := true }
def ShaRootsUptoSaid : Prop := shaRootsUptoRow.holds Try.pinned (OpenSpec.upto shaRootsSpec)

end Rows
end Go.Proofs.Ytfgmhmhankikmaa
