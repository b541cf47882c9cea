/-
  No cell of these rows narrows 'for every input' (looked for: loops, veiled, ifaces, maps, wideKeys, modest, calm, conditions, laid).
  DERIVED. THE GIVEN ROWS OF THIS SEAT. 14 by the template 'for every input the law returns true; each argument reads behind the call as it read before'; 0 by the template 'total and deterministic' (their statements: YtofjjpielkfloaaTotals.lean).
  GIVEN WITH THE SEED: the statements are not yours to turn. If you find one false, say at which input.
  Laid BY PROGRAM, IN A SANDBOX (cutbox-rows.mjs): the forced cells as the released guide's own fill.sh prints them over the translation 992aea5fd62a1901… (all of the seat's roots in one cut). By AI agents, Wed Nov 11 2026. No macro, syntax, notation, axiom, sorry.
-/
import Derived.Test.YtofjjpielkfloaaChecked
import GoSem.Claim
import GoSem.ClaimJoined
import GoSem.ClaimMapViews
import Derived.JoinedTies
import Derived.KernelRfl
namespace Go.Proofs.Ytofjjpielkfloaa
/- THE CELL 'sum', in the pinned program and in every row, IS THE sha256 OF THE DUMP (.gsa) THAT YtofjjpielkfloaaProg.lean LOADS. Nothing in Lean hashes anything: it is a label: what it is worth is what the hold of that sum in a sandbox is worth. -/
noncomputable def Try.pinned : Pinned := { name := "ytofjjpielkfloaa", sum := "992aea5fd62a190127ae6acd754096f43f8e238aa8abb1a4d61f9e26e26f2daf", checked := Try.checked }
namespace Rows
def none {H : Type} : Left H := { results := [], args := [] }

/-- 'mintagelaw06.EvolveKnown': WHATEVER THE INPUT: true; the input reads as it did. -/
def evolveKnownSpec : ChangeSpec := { name := "evolveKnown", fn := fun _ => fun
  | [] => { results := [.lit (.bool true)], args := [] }
  | _ => none }
def evolveKnownRow : OpenClaim := { program := "ytofjjpielkfloaa", sum := "992aea5fd62a190127ae6acd754096f43f8e238aa8abb1a4d61f9e26e26f2daf", func := "mintage/mintagelaw06.EvolveKnown", spec := "evolveKnown", inPlace := ["internal/abi.NoEscape", "internal/bytealg.MakeNoZero"], unfollowed := true, recurses := true, apart := false }
def EvolveKnownSaid : Prop := evolveKnownRow.holds Try.pinned (OpenSpec.ofChange evolveKnownSpec)

/-- ITS FALSE NEIGHBOUR: 'it returns false'. Refute it at one input. -/
def evolveKnownWrong : ChangeSpec := { name := "evolveKnown", fn := fun _ => fun
  | [] => { results := [.lit (.bool false)], args := [] }
  | _ => none }
def EvolveKnownWrongFalsely : Prop := evolveKnownRow.holds Try.pinned (OpenSpec.ofChange evolveKnownWrong)

/-- 'mintagelaw06.EvolveMakes': WHATEVER THE INPUT: true; the input reads as it did. -/
def evolveMakesSpec : ChangeSpec := { name := "evolveMakes", fn := fun _ => fun
  | [d1, d2] => { results := [.lit (.bool true)], args := [d1, d2] }
  | _ => none }
def evolveMakesRow : OpenClaim := { program := "ytofjjpielkfloaa", sum := "992aea5fd62a190127ae6acd754096f43f8e238aa8abb1a4d61f9e26e26f2daf", func := "mintage/mintagelaw06.EvolveMakes", spec := "evolveMakes", inPlace := ["internal/abi.NoEscape", "internal/bytealg.MakeNoZero"], unfollowed := true, recurses := true, apart := false }
def EvolveMakesSaid : Prop := evolveMakesRow.holds Try.pinned (OpenSpec.ofChange evolveMakesSpec)

/-- ITS FALSE NEIGHBOUR: 'it returns false'. Refute it at one input. -/
def evolveMakesWrong : ChangeSpec := { name := "evolveMakes", fn := fun _ => fun
  | [d1, d2] => { results := [.lit (.bool false)], args := [d1, d2] }
  | _ => none }
def EvolveMakesWrongFalsely : Prop := evolveMakesRow.holds Try.pinned (OpenSpec.ofChange evolveMakesWrong)

/-- 'mintagelaw06.EvolveNexts': WHATEVER THE INPUT: true; the input reads as it did. -/
def evolveNextsSpec : ChangeSpec := { name := "evolveNexts", fn := fun _ => fun
  | [d1, d2] => { results := [.lit (.bool true)], args := [d1, d2] }
  | _ => none }
def evolveNextsRow : OpenClaim := { program := "ytofjjpielkfloaa", sum := "992aea5fd62a190127ae6acd754096f43f8e238aa8abb1a4d61f9e26e26f2daf", func := "mintage/mintagelaw06.EvolveNexts", spec := "evolveNexts", inPlace := ["internal/abi.NoEscape", "internal/bytealg.MakeNoZero"], unfollowed := true, recurses := true, apart := false }
def EvolveNextsSaid : Prop := evolveNextsRow.holds Try.pinned (OpenSpec.ofChange evolveNextsSpec)

/-- ITS FALSE NEIGHBOUR: 'it returns false'. Refute it at one input. -/
def evolveNextsWrong : ChangeSpec := { name := "evolveNexts", fn := fun _ => fun
  | [d1, d2] => { results := [.lit (.bool false)], args := [d1, d2] }
  | _ => none }
def EvolveNextsWrongFalsely : Prop := evolveNextsRow.holds Try.pinned (OpenSpec.ofChange evolveNextsWrong)

/-- 'mintagelaw06.EvolveChecks': WHATEVER THE INPUT: true; the input reads as it did. -/
def evolveChecksSpec : ChangeSpec := { name := "evolveChecks", fn := fun _ => fun
  | [d1, d2, d3, d4, d5] => { results := [.lit (.bool true)], args := [d1, d2, d3, d4, d5] }
  | _ => none }
def evolveChecksRow : OpenClaim := { program := "ytofjjpielkfloaa", sum := "992aea5fd62a190127ae6acd754096f43f8e238aa8abb1a4d61f9e26e26f2daf", func := "mintage/mintagelaw06.EvolveChecks", spec := "evolveChecks", inPlace := ["internal/abi.NoEscape", "internal/bytealg.MakeNoZero"], unfollowed := true, recurses := true, apart := false }
def EvolveChecksSaid : Prop := evolveChecksRow.holds Try.pinned (OpenSpec.ofChange evolveChecksSpec)

/-- ITS FALSE NEIGHBOUR: 'it returns false'. Refute it at one input. -/
def evolveChecksWrong : ChangeSpec := { name := "evolveChecks", fn := fun _ => fun
  | [d1, d2, d3, d4, d5] => { results := [.lit (.bool false)], args := [d1, d2, d3, d4, d5] }
  | _ => none }
def EvolveChecksWrongFalsely : Prop := evolveChecksRow.holds Try.pinned (OpenSpec.ofChange evolveChecksWrong)

/-- 'mintagelaw06.EvolveOne': WHATEVER THE INPUT: true; the input reads as it did. -/
def evolveOneSpec : ChangeSpec := { name := "evolveOne", fn := fun _ => fun
  | [d1, d2, d3] => { results := [.lit (.bool true)], args := [d1, d2, d3] }
  | _ => none }
def evolveOneRow : OpenClaim := { program := "ytofjjpielkfloaa", sum := "992aea5fd62a190127ae6acd754096f43f8e238aa8abb1a4d61f9e26e26f2daf", func := "mintage/mintagelaw06.EvolveOne", spec := "evolveOne", inPlace := ["internal/abi.NoEscape", "internal/bytealg.MakeNoZero"], unfollowed := true, recurses := true, apart := false }
def EvolveOneSaid : Prop := evolveOneRow.holds Try.pinned (OpenSpec.ofChange evolveOneSpec)

/-- ITS FALSE NEIGHBOUR: 'it returns false'. Refute it at one input. -/
def evolveOneWrong : ChangeSpec := { name := "evolveOne", fn := fun _ => fun
  | [d1, d2, d3] => { results := [.lit (.bool false)], args := [d1, d2, d3] }
  | _ => none }
def EvolveOneWrongFalsely : Prop := evolveOneRow.holds Try.pinned (OpenSpec.ofChange evolveOneWrong)

/-- 'mintagelaw06.EvolveKeys': WHATEVER THE INPUT: true; the input reads as it did. -/
def evolveKeysSpec : ChangeSpec := { name := "evolveKeys", fn := fun _ => fun
  | [d1, d2, d3] => { results := [.lit (.bool true)], args := [d1, d2, d3] }
  | _ => none }
def evolveKeysRow : OpenClaim := { program := "ytofjjpielkfloaa", sum := "992aea5fd62a190127ae6acd754096f43f8e238aa8abb1a4d61f9e26e26f2daf", func := "mintage/mintagelaw06.EvolveKeys", spec := "evolveKeys", inPlace := ["internal/abi.NoEscape", "internal/bytealg.MakeNoZero"], unfollowed := true, recurses := true, apart := false }
def EvolveKeysSaid : Prop := evolveKeysRow.holds Try.pinned (OpenSpec.ofChange evolveKeysSpec)

/-- ITS FALSE NEIGHBOUR: 'it returns false'. Refute it at one input. -/
def evolveKeysWrong : ChangeSpec := { name := "evolveKeys", fn := fun _ => fun
  | [d1, d2, d3] => { results := [.lit (.bool false)], args := [d1, d2, d3] }
  | _ => none }
def EvolveKeysWrongFalsely : Prop := evolveKeysRow.holds Try.pinned (OpenSpec.ofChange evolveKeysWrong)

/-- 'mintagelaw06.EvolveForgets': WHATEVER THE INPUT: true; the input reads as it did. -/
def evolveForgetsSpec : ChangeSpec := { name := "evolveForgets", fn := fun _ => fun
  | [d1, d2] => { results := [.lit (.bool true)], args := [d1, d2] }
  | _ => none }
def evolveForgetsRow : OpenClaim := { program := "ytofjjpielkfloaa", sum := "992aea5fd62a190127ae6acd754096f43f8e238aa8abb1a4d61f9e26e26f2daf", func := "mintage/mintagelaw06.EvolveForgets", spec := "evolveForgets", inPlace := ["internal/abi.NoEscape", "internal/bytealg.MakeNoZero"], unfollowed := true, recurses := true, apart := false }
def EvolveForgetsSaid : Prop := evolveForgetsRow.holds Try.pinned (OpenSpec.ofChange evolveForgetsSpec)

/-- ITS FALSE NEIGHBOUR: 'it returns false'. Refute it at one input. -/
def evolveForgetsWrong : ChangeSpec := { name := "evolveForgets", fn := fun _ => fun
  | [d1, d2] => { results := [.lit (.bool false)], args := [d1, d2] }
  | _ => none }
def EvolveForgetsWrongFalsely : Prop := evolveForgetsRow.holds Try.pinned (OpenSpec.ofChange evolveForgetsWrong)

/-- 'mintagelaw14.HeadKnown': WHATEVER THE INPUT: true; the input reads as it did. -/
def headKnownSpec : ChangeSpec := { name := "headKnown", fn := fun _ => fun
  | [] => { results := [.lit (.bool true)], args := [] }
  | _ => none }
def headKnownRow : OpenClaim := { program := "ytofjjpielkfloaa", sum := "992aea5fd62a190127ae6acd754096f43f8e238aa8abb1a4d61f9e26e26f2daf", func := "mintage/mintagelaw14.HeadKnown", spec := "headKnown", inPlace := ["internal/abi.NoEscape", "internal/bytealg.MakeNoZero"], unfollowed := true, recurses := true, apart := false }
def HeadKnownSaid : Prop := headKnownRow.holds Try.pinned (OpenSpec.ofChange headKnownSpec)

/-- ITS FALSE NEIGHBOUR: 'it returns false'. Refute it at one input. -/
def headKnownWrong : ChangeSpec := { name := "headKnown", fn := fun _ => fun
  | [] => { results := [.lit (.bool false)], args := [] }
  | _ => none }
def HeadKnownWrongFalsely : Prop := headKnownRow.holds Try.pinned (OpenSpec.ofChange headKnownWrong)

/-- 'mintagelaw14.HeadTakes': WHATEVER THE INPUT: true; the input reads as it did. -/
def headTakesSpec : ChangeSpec := { name := "headTakes", fn := fun _ => fun
  | [d] => { results := [.lit (.bool true)], args := [d] }
  | _ => none }
def headTakesRow : OpenClaim := { program := "ytofjjpielkfloaa", sum := "992aea5fd62a190127ae6acd754096f43f8e238aa8abb1a4d61f9e26e26f2daf", func := "mintage/mintagelaw14.HeadTakes", spec := "headTakes", inPlace := ["internal/abi.NoEscape", "internal/bytealg.MakeNoZero"], unfollowed := true, recurses := true, apart := false }
def HeadTakesSaid : Prop := headTakesRow.holds Try.pinned (OpenSpec.ofChange headTakesSpec)

/-- ITS FALSE NEIGHBOUR: 'it returns false'. Refute it at one input. -/
def headTakesWrong : ChangeSpec := { name := "headTakes", fn := fun _ => fun
  | [d] => { results := [.lit (.bool false)], args := [d] }
  | _ => none }
def HeadTakesWrongFalsely : Prop := headTakesRow.holds Try.pinned (OpenSpec.ofChange headTakesWrong)

/-- 'mintagelaw14.HeadGrants': WHATEVER THE INPUT: true; the input reads as it did. -/
def headGrantsSpec : ChangeSpec := { name := "headGrants", fn := fun _ => fun
  | [d1, d2, d3, d4, d5, d6] => { results := [.lit (.bool true)], args := [d1, d2, d3, d4, d5, d6] }
  | _ => none }
def headGrantsRow : OpenClaim := { program := "ytofjjpielkfloaa", sum := "992aea5fd62a190127ae6acd754096f43f8e238aa8abb1a4d61f9e26e26f2daf", func := "mintage/mintagelaw14.HeadGrants", spec := "headGrants", inPlace := ["internal/abi.NoEscape", "internal/bytealg.MakeNoZero"], unfollowed := true, recurses := true, apart := false }
def HeadGrantsSaid : Prop := headGrantsRow.holds Try.pinned (OpenSpec.ofChange headGrantsSpec)

/-- ITS FALSE NEIGHBOUR: 'it returns false'. Refute it at one input. -/
def headGrantsWrong : ChangeSpec := { name := "headGrants", fn := fun _ => fun
  | [d1, d2, d3, d4, d5, d6] => { results := [.lit (.bool false)], args := [d1, d2, d3, d4, d5, d6] }
  | _ => none }
def HeadGrantsWrongFalsely : Prop := headGrantsRow.holds Try.pinned (OpenSpec.ofChange headGrantsWrong)

/-- 'mintagelaw14.HeadSeals': WHATEVER THE INPUT: true; the input reads as it did. -/
def headSealsSpec : ChangeSpec := { name := "headSeals", fn := fun _ => fun
  | [d1, d2, d3] => { results := [.lit (.bool true)], args := [d1, d2, d3] }
  | _ => none }
def headSealsRow : OpenClaim := { program := "ytofjjpielkfloaa", sum := "992aea5fd62a190127ae6acd754096f43f8e238aa8abb1a4d61f9e26e26f2daf", func := "mintage/mintagelaw14.HeadSeals", spec := "headSeals", inPlace := ["internal/abi.NoEscape", "internal/bytealg.MakeNoZero"], unfollowed := true, recurses := true, apart := false }
def HeadSealsSaid : Prop := headSealsRow.holds Try.pinned (OpenSpec.ofChange headSealsSpec)

/-- ITS FALSE NEIGHBOUR: 'it returns false'. Refute it at one input. -/
def headSealsWrong : ChangeSpec := { name := "headSeals", fn := fun _ => fun
  | [d1, d2, d3] => { results := [.lit (.bool false)], args := [d1, d2, d3] }
  | _ => none }
def HeadSealsWrongFalsely : Prop := headSealsRow.holds Try.pinned (OpenSpec.ofChange headSealsWrong)

/-- 'mintagelaw14.HeadBack': WHATEVER THE INPUT: true; the input reads as it did. -/
def headBackSpec : ChangeSpec := { name := "headBack", fn := fun _ => fun
  | [d1, d2] => { results := [.lit (.bool true)], args := [d1, d2] }
  | _ => none }
def headBackRow : OpenClaim := { program := "ytofjjpielkfloaa", sum := "992aea5fd62a190127ae6acd754096f43f8e238aa8abb1a4d61f9e26e26f2daf", func := "mintage/mintagelaw14.HeadBack", spec := "headBack", inPlace := ["internal/abi.NoEscape", "internal/bytealg.MakeNoZero"], unfollowed := true, recurses := true, apart := false }
def HeadBackSaid : Prop := headBackRow.holds Try.pinned (OpenSpec.ofChange headBackSpec)

/-- ITS FALSE NEIGHBOUR: 'it returns false'. Refute it at one input. -/
def headBackWrong : ChangeSpec := { name := "headBack", fn := fun _ => fun
  | [d1, d2] => { results := [.lit (.bool false)], args := [d1, d2] }
  | _ => none }
def HeadBackWrongFalsely : Prop := headBackRow.holds Try.pinned (OpenSpec.ofChange headBackWrong)

/-- 'mintagelaw14.HeadPuts': WHATEVER THE INPUT: true; the input reads as it did. -/
def headPutsSpec : ChangeSpec := { name := "headPuts", fn := fun _ => fun
  | [d] => { results := [.lit (.bool true)], args := [d] }
  | _ => none }
def headPutsRow : OpenClaim := { program := "ytofjjpielkfloaa", sum := "992aea5fd62a190127ae6acd754096f43f8e238aa8abb1a4d61f9e26e26f2daf", func := "mintage/mintagelaw14.HeadPuts", spec := "headPuts", inPlace := ["internal/abi.NoEscape", "internal/bytealg.MakeNoZero"], unfollowed := true, recurses := true, apart := false }
def HeadPutsSaid : Prop := headPutsRow.holds Try.pinned (OpenSpec.ofChange headPutsSpec)

/-- ITS FALSE NEIGHBOUR: 'it returns false'. Refute it at one input. -/
def headPutsWrong : ChangeSpec := { name := "headPuts", fn := fun _ => fun
  | [d] => { results := [.lit (.bool false)], args := [d] }
  | _ => none }
def HeadPutsWrongFalsely : Prop := headPutsRow.holds Try.pinned (OpenSpec.ofChange headPutsWrong)

/-- 'mintagelaw14.HeadRight': WHATEVER THE INPUT: true; the input reads as it did. -/
def headRightSpec : ChangeSpec := { name := "headRight", fn := fun _ => fun
  | [d1, d2, d3, d4, d5, d6] => { results := [.lit (.bool true)], args := [d1, d2, d3, d4, d5, d6] }
  | _ => none }
def headRightRow : OpenClaim := { program := "ytofjjpielkfloaa", sum := "992aea5fd62a190127ae6acd754096f43f8e238aa8abb1a4d61f9e26e26f2daf", func := "mintage/mintagelaw14.HeadRight", spec := "headRight", inPlace := ["internal/abi.NoEscape", "internal/bytealg.MakeNoZero"], unfollowed := true, recurses := true, apart := false }
def HeadRightSaid : Prop := headRightRow.holds Try.pinned (OpenSpec.ofChange headRightSpec)

/-- ITS FALSE NEIGHBOUR: 'it returns false'. Refute it at one input. -/
def headRightWrong : ChangeSpec := { name := "headRight", fn := fun _ => fun
  | [d1, d2, d3, d4, d5, d6] => { results := [.lit (.bool false)], args := [d1, d2, d3, d4, d5, d6] }
  | _ => none }
def HeadRightWrongFalsely : Prop := headRightRow.holds Try.pinned (OpenSpec.ofChange headRightWrong)

/- THE SECOND FORM. 'bulk': how many values and letters a reading holds, each counted each time it is reached (what is shared counts as often as it is met; a slice's spare places count too). A statement '..UptoSaid' is the law's where the arguments, and the package variables that the reading takes, are together of bulk at most 1048576: NARROWER than '..Said'. Prove '..Said' where nothing that the law and all that it calls make is longer than what came in: it says more and counts as full. Else prove '..UptoSaid'. A law counts once. -/
mutual
def uptoBulk {H : Type} : DataW H → Nat
  | .lit (.string bytes) => bytes.length + 1
  | .lit _ => 1
  | .nil => 1
  | .ptr d => uptoBulk d + 1
  | .slice elems spare => uptoBulkAll elems + uptoBulkAll spare + 1
  | .agg parts => uptoBulkAll parts + 1
  | .iface _ d => uptoBulk d + 1
  | .map entries => uptoBulkEntries entries + 1
  | .held _ => 1
def uptoBulkAll {H : Type} : List (DataW H) → Nat
  | [] => 0
  | d :: r => uptoBulk d + uptoBulkAll r
def uptoBulkEntries {H : Type} : List (Lit × DataW H) → Nat
  | [] => 0
  | x :: r => uptoBulkEntry x + uptoBulkEntries r
def uptoBulkEntry {H : Type} : Lit × DataW H → Nat
  | (.string bytes, d) => bytes.length + uptoBulk d + 1
  | (_, d) => uptoBulk d + 1
 end
def uptoSmall : (H : Type) → List (DataW H) → Bool := fun _ ds => decide (uptoBulkAll ds ≤ 1048576)
def OpenSpec.upto (s : _root_.Go.ChangeSpec) : _root_.Go.OpenSpec := { _root_.Go.OpenSpec.ofChange s with cond := some uptoSmall }

/-- 'mintagelaw06.EvolveKnown', WHERE WHAT IT READS IS OF BULK AT MOST 1048576: true; the input reads as it did. -/
def evolveKnownUptoRow : OpenClaim := { program := "ytofjjpielkfloaa", sum := "992aea5fd62a190127ae6acd754096f43f8e238aa8abb1a4d61f9e26e26f2daf", func := "mintage/mintagelaw06.EvolveKnown", spec := "evolveKnown", inPlace := ["internal/abi.NoEscape", "internal/bytealg.MakeNoZero"], unfollowed := true, recurses := true, apart := false, narrowed := true }
def EvolveKnownUptoSaid : Prop := evolveKnownUptoRow.holds Try.pinned (OpenSpec.upto evolveKnownSpec)

/-- 'mintagelaw06.EvolveMakes', WHERE WHAT IT READS IS OF BULK AT MOST 1048576: true; the input reads as it did. -/
def evolveMakesUptoRow : OpenClaim := { program := "ytofjjpielkfloaa", sum := "992aea5fd62a190127ae6acd754096f43f8e238aa8abb1a4d61f9e26e26f2daf", func := "mintage/mintagelaw06.EvolveMakes", spec := "evolveMakes", inPlace := ["internal/abi.NoEscape", "internal/bytealg.MakeNoZero"], unfollowed := true, recurses := true, apart := false, narrowed := true }
def EvolveMakesUptoSaid : Prop := evolveMakesUptoRow.holds Try.pinned (OpenSpec.upto evolveMakesSpec)

/-- 'mintagelaw06.EvolveNexts', WHERE WHAT IT READS IS OF BULK AT MOST 1048576: true; the input reads as it did. -/
def evolveNextsUptoRow : OpenClaim := { program := "ytofjjpielkfloaa", sum := "992aea5fd62a190127ae6acd754096f43f8e238aa8abb1a4d61f9e26e26f2daf", func := "mintage/mintagelaw06.EvolveNexts", spec := "evolveNexts", inPlace := ["internal/abi.NoEscape", "internal/bytealg.MakeNoZero"], unfollowed := true, recurses := true, apart := false, narrowed := true }
def EvolveNextsUptoSaid : Prop := evolveNextsUptoRow.holds Try.pinned (OpenSpec.upto evolveNextsSpec)

/-- 'mintagelaw06.EvolveChecks', WHERE WHAT IT READS IS OF BULK AT MOST 1048576: true; the input reads as it did. -/
def evolveChecksUptoRow : OpenClaim := { program := "ytofjjpielkfloaa", sum := "992aea5fd62a190127ae6acd754096f43f8e238aa8abb1a4d61f9e26e26f2daf", func := "mintage/mintagelaw06.EvolveChecks", spec := "evolveChecks", inPlace := ["internal/abi.NoEscape", "internal/bytealg.MakeNoZero"], unfollowed := true, recurses := true, apart := false, narrowed := true }
def EvolveChecksUptoSaid : Prop := evolveChecksUptoRow.holds Try.pinned (OpenSpec.upto evolveChecksSpec)

/-- 'mintagelaw06.EvolveOne', WHERE WHAT IT READS IS OF BULK AT MOST 1048576: true; the input reads as it did. -/
def evolveOneUptoRow : OpenClaim := { program := "ytofjjpielkfloaa", sum := "992aea5fd62a190127ae6acd754096f43f8e238aa8abb1a4d61f9e26e26f2daf", func := "mintage/mintagelaw06.EvolveOne", spec := "evolveOne", inPlace := ["internal/abi.NoEscape", "internal/bytealg.MakeNoZero"], unfollowed := true, recurses := true, apart := false, narrowed := true }
def EvolveOneUptoSaid : Prop := evolveOneUptoRow.holds Try.pinned (OpenSpec.upto evolveOneSpec)

/-- 'mintagelaw06.EvolveKeys', WHERE WHAT IT READS IS OF BULK AT MOST 1048576: true; the input reads as it did. -/
def evolveKeysUptoRow : OpenClaim := { program := "ytofjjpielkfloaa", sum := "992aea5fd62a190127ae6acd754096f43f8e238aa8abb1a4d61f9e26e26f2daf", func := "mintage/mintagelaw06.EvolveKeys", spec := "evolveKeys", inPlace := ["internal/abi.NoEscape", "internal/bytealg.MakeNoZero"], unfollowed := true, recurses := true, apart := false, narrowed := true }
def EvolveKeysUptoSaid : Prop := evolveKeysUptoRow.holds Try.pinned (OpenSpec.upto evolveKeysSpec)

/-- 'mintagelaw06.EvolveForgets', WHERE WHAT IT READS IS OF BULK AT MOST 1048576: true; the input reads as it did. -/
def evolveForgetsUptoRow : OpenClaim := { program := "ytofjjpielkfloaa", sum := "992aea5fd62a190127ae6acd754096f43f8e238aa8abb1a4d61f9e26e26f2daf", func := "mintage/mintagelaw06.EvolveForgets", spec := "evolveForgets", inPlace := ["internal/abi.NoEscape", "internal/bytealg.MakeNoZero"], unfollowed := true, recurses := true, apart := false, narrowed := true }
def EvolveForgetsUptoSaid : Prop := evolveForgetsUptoRow.holds Try.pinned (OpenSpec.upto evolveForgetsSpec)

/-- 'mintagelaw14.HeadKnown', WHERE WHAT IT READS IS OF BULK AT MOST 1048576: true; the input reads as it did. -/
def headKnownUptoRow : OpenClaim := { program := "ytofjjpielkfloaa", sum := "992aea5fd62a190127ae6acd754096f43f8e238aa8abb1a4d61f9e26e26f2daf", func := "mintage/mintagelaw14.HeadKnown", spec := "headKnown", inPlace := ["internal/abi.NoEscape", "internal/bytealg.MakeNoZero"], unfollowed := true, recurses := true, apart := false, narrowed := true }
def HeadKnownUptoSaid : Prop := headKnownUptoRow.holds Try.pinned (OpenSpec.upto headKnownSpec)

/-- 'mintagelaw14.HeadTakes', WHERE WHAT IT READS IS OF BULK AT MOST 1048576: true; the input reads as it did. -/
def headTakesUptoRow : OpenClaim := { program := "ytofjjpielkfloaa", sum := "992aea5fd62a190127ae6acd754096f43f8e238aa8abb1a4d61f9e26e26f2daf", func := "mintage/mintagelaw14.HeadTakes", spec := "headTakes", inPlace := ["internal/abi.NoEscape", "internal/bytealg.MakeNoZero"], unfollowed := true, recurses := true, apart := false, narrowed := true }
def HeadTakesUptoSaid : Prop := headTakesUptoRow.holds Try.pinned (OpenSpec.upto headTakesSpec)

/-- 'mintagelaw14.HeadGrants', WHERE WHAT IT READS IS OF BULK AT MOST 1048576: true; the input reads as it did. -/
def headGrantsUptoRow : OpenClaim := { program := "ytofjjpielkfloaa", sum := "992aea5fd62a190127ae6acd754096f43f8e238aa8abb1a4d61f9e26e26f2daf", func := "mintage/mintagelaw14.HeadGrants", spec := "headGrants", inPlace := ["internal/abi.NoEscape", "internal/bytealg.MakeNoZero"], unfollowed := true, recurses := true, apart := false, narrowed := true }
def HeadGrantsUptoSaid : Prop := headGrantsUptoRow.holds Try.pinned (OpenSpec.upto headGrantsSpec)

/-- 'mintagelaw14.HeadSeals', WHERE WHAT IT READS IS OF BULK AT MOST 1048576: true; the input reads as it did. -/
def headSealsUptoRow : OpenClaim := { program := "ytofjjpielkfloaa", sum := "992aea5fd62a190127ae6acd754096f43f8e238aa8abb1a4d61f9e26e26f2daf", func := "mintage/mintagelaw14.HeadSeals", spec := "headSeals", inPlace := ["internal/abi.NoEscape", "internal/bytealg.MakeNoZero"], unfollowed := true, recurses := true, apart := false, narrowed := true }
def HeadSealsUptoSaid : Prop := headSealsUptoRow.holds Try.pinned (OpenSpec.upto headSealsSpec)

/-- 'mintagelaw14.HeadBack', WHERE WHAT IT READS IS OF BULK AT MOST 1048576: true; the input reads as it did. -/
def headBackUptoRow : OpenClaim := { program := "ytofjjpielkfloaa", sum := "992aea5fd62a190127ae6acd754096f43f8e238aa8abb1a4d61f9e26e26f2daf", func := "mintage/mintagelaw14.HeadBack", spec := "headBack", inPlace := ["internal/abi.NoEscape", "internal/bytealg.MakeNoZero"], unfollowed := true, recurses := true, apart := false, narrowed := true }
def HeadBackUptoSaid : Prop := headBackUptoRow.holds Try.pinned (OpenSpec.upto headBackSpec)

/-- 'mintagelaw14.HeadPuts', WHERE WHAT IT READS IS OF BULK AT MOST 1048576: true; the input reads as it did. -/
def headPutsUptoRow : OpenClaim := { program := "ytofjjpielkfloaa", sum := "992aea5fd62a190127ae6acd754096f43f8e238aa8abb1a4d61f9e26e26f2daf", func := "mintage/mintagelaw14.HeadPuts", spec := "headPuts", inPlace := ["internal/abi.NoEscape", "internal/bytealg.MakeNoZero"], unfollowed := true, recurses := true, apart := false, narrowed := true }
def HeadPutsUptoSaid : Prop := headPutsUptoRow.holds Try.pinned (OpenSpec.upto headPutsSpec)

/-- 'mintagelaw14.HeadRight', WHERE WHAT IT READS IS OF BULK AT MOST 1048576: true; the input reads as it did. -/
def headRightUptoRow : OpenClaim := { program := "ytofjjpielkfloaa", sum := "992aea5fd62a190127ae6acd754096f43f8e238aa8abb1a4d61f9e26e26f2daf", func := "mintage/mintagelaw14.HeadRight", spec := "headRight", inPlace := ["internal/abi.NoEscape", "internal/bytealg.MakeNoZero"], unfollowed := true, recurses := true, apart := false, narrowed := true }
def HeadRightUptoSaid : Prop := headRightUptoRow.holds Try.pinned (OpenSpec.upto headRightSpec)

end Rows
end Go.Proofs.Ytofjjpielkfloaa
