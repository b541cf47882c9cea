/-
  No cell of these rows narrows 'for every input' (looked for: loops, veiled, ifaces, maps, wideKeys, modest, calm, conditions, laid).
  DERIVED. THE GIVEN ROWS OF THIS SEAT. 13 by the template 'for every input the law returns true; each argument reads behind the call as it read before'; 0 by the template 'total and deterministic' (their statements: YtbbfnpfkbbpjgaaTotals.lean).
  GIVEN WITH THE SEED: the statements are not yours to turn. If you find one false, say at which input.
  Laid BY PROGRAM, IN A SANDBOX (cutbox-rows.mjs): the forced cells as the released guide's own fill.sh prints them over the translation 62d38ccf05421096… (all of the seat's roots in one cut). By AI agents, Wed Nov 11 2026. No macro, syntax, notation, axiom, sorry.
-/
import Derived.Test.YtbbfnpfkbbpjgaaChecked
import GoSem.Claim
import GoSem.ClaimJoined
import GoSem.ClaimMapViews
import Derived.JoinedTies
import Derived.KernelRfl
namespace Go.Proofs.Ytbbfnpfkbbpjgaa
/- THE CELL 'sum', in the pinned program and in every row, IS THE sha256 OF THE DUMP (.gsa) THAT YtbbfnpfkbbpjgaaProg.lean LOADS. Nothing in Lean hashes anything: it is a label: what it is worth is what the hold of that sum in a sandbox is worth. -/
noncomputable def Try.pinned : Pinned := { name := "ytbbfnpfkbbpjgaa", sum := "62d38ccf05421096efac2eb8c0a331d45b81ae5d2845d457e5b6400d3f1f9a61", checked := Try.checked }
namespace Rows
def none {H : Type} : Left H := { results := [], args := [] }

/-- 'mintagelaw16.OriginTakes': WHATEVER THE INPUT: true; the input reads as it did. -/
def originTakesSpec : ChangeSpec := { name := "originTakes", fn := fun _ => fun
  | [d] => { results := [.lit (.bool true)], args := [d] }
  | _ => none }
def originTakesRow : OpenClaim := { program := "ytbbfnpfkbbpjgaa", sum := "62d38ccf05421096efac2eb8c0a331d45b81ae5d2845d457e5b6400d3f1f9a61", func := "mintage/mintagelaw16.OriginTakes", spec := "originTakes", inPlace := ["math/bits.Add64", "internal/abi.NoEscape"], unfollowed := true, recurses := true, apart := false }
def OriginTakesSaid : Prop := originTakesRow.holds Try.pinned (OpenSpec.ofChange originTakesSpec)

/-- ITS FALSE NEIGHBOUR: 'it returns false'. Refute it at one input. -/
def originTakesWrong : ChangeSpec := { name := "originTakes", fn := fun _ => fun
  | [d] => { results := [.lit (.bool false)], args := [d] }
  | _ => none }
def OriginTakesWrongFalsely : Prop := originTakesRow.holds Try.pinned (OpenSpec.ofChange originTakesWrong)

/-- 'mintagelaw16.OriginBack': WHATEVER THE INPUT: true; the input reads as it did. -/
def originBackSpec : ChangeSpec := { name := "originBack", fn := fun _ => fun
  | [d1, d2] => { results := [.lit (.bool true)], args := [d1, d2] }
  | _ => none }
def originBackRow : OpenClaim := { program := "ytbbfnpfkbbpjgaa", sum := "62d38ccf05421096efac2eb8c0a331d45b81ae5d2845d457e5b6400d3f1f9a61", func := "mintage/mintagelaw16.OriginBack", spec := "originBack", inPlace := ["math/bits.Add64", "internal/abi.NoEscape"], unfollowed := true, recurses := true, apart := false }
def OriginBackSaid : Prop := originBackRow.holds Try.pinned (OpenSpec.ofChange originBackSpec)

/-- ITS FALSE NEIGHBOUR: 'it returns false'. Refute it at one input. -/
def originBackWrong : ChangeSpec := { name := "originBack", fn := fun _ => fun
  | [d1, d2] => { results := [.lit (.bool false)], args := [d1, d2] }
  | _ => none }
def OriginBackWrongFalsely : Prop := originBackRow.holds Try.pinned (OpenSpec.ofChange originBackWrong)

/-- 'mintagelaw16.OriginKnown': WHATEVER THE INPUT: true; the input reads as it did. -/
def originKnownSpec : ChangeSpec := { name := "originKnown", fn := fun _ => fun
  | [] => { results := [.lit (.bool true)], args := [] }
  | _ => none }
def originKnownRow : OpenClaim := { program := "ytbbfnpfkbbpjgaa", sum := "62d38ccf05421096efac2eb8c0a331d45b81ae5d2845d457e5b6400d3f1f9a61", func := "mintage/mintagelaw16.OriginKnown", spec := "originKnown", inPlace := ["math/bits.Add64", "internal/abi.NoEscape"], unfollowed := true, recurses := true, apart := false }
def OriginKnownSaid : Prop := originKnownRow.holds Try.pinned (OpenSpec.ofChange originKnownSpec)

/-- ITS FALSE NEIGHBOUR: 'it returns false'. Refute it at one input. -/
def originKnownWrong : ChangeSpec := { name := "originKnown", fn := fun _ => fun
  | [] => { results := [.lit (.bool false)], args := [] }
  | _ => none }
def OriginKnownWrongFalsely : Prop := originKnownRow.holds Try.pinned (OpenSpec.ofChange originKnownWrong)

/-- 'mintagelaw16.OriginLess': WHATEVER THE INPUT: true; the input reads as it did. -/
def originLessSpec : ChangeSpec := { name := "originLess", fn := fun _ => fun
  | [d1, d2, d3, d4] => { results := [.lit (.bool true)], args := [d1, d2, d3, d4] }
  | _ => none }
def originLessRow : OpenClaim := { program := "ytbbfnpfkbbpjgaa", sum := "62d38ccf05421096efac2eb8c0a331d45b81ae5d2845d457e5b6400d3f1f9a61", func := "mintage/mintagelaw16.OriginLess", spec := "originLess", inPlace := ["math/bits.Add64", "internal/abi.NoEscape"], unfollowed := true, recurses := true, apart := false }
def OriginLessSaid : Prop := originLessRow.holds Try.pinned (OpenSpec.ofChange originLessSpec)

/-- ITS FALSE NEIGHBOUR: 'it returns false'. Refute it at one input. -/
def originLessWrong : ChangeSpec := { name := "originLess", fn := fun _ => fun
  | [d1, d2, d3, d4] => { results := [.lit (.bool false)], args := [d1, d2, d3, d4] }
  | _ => none }
def OriginLessWrongFalsely : Prop := originLessRow.holds Try.pinned (OpenSpec.ofChange originLessWrong)

/-- 'mintagelaw13.DeedTakes': WHATEVER THE INPUT: true; the input reads as it did. -/
def deedTakesSpec : ChangeSpec := { name := "deedTakes", fn := fun _ => fun
  | [d] => { results := [.lit (.bool true)], args := [d] }
  | _ => none }
def deedTakesRow : OpenClaim := { program := "ytbbfnpfkbbpjgaa", sum := "62d38ccf05421096efac2eb8c0a331d45b81ae5d2845d457e5b6400d3f1f9a61", func := "mintage/mintagelaw13.DeedTakes", spec := "deedTakes", inPlace := ["internal/abi.NoEscape", "internal/bytealg.MakeNoZero"], unfollowed := true, recurses := true, apart := false }
def DeedTakesSaid : Prop := deedTakesRow.holds Try.pinned (OpenSpec.ofChange deedTakesSpec)

/-- ITS FALSE NEIGHBOUR: 'it returns false'. Refute it at one input. -/
def deedTakesWrong : ChangeSpec := { name := "deedTakes", fn := fun _ => fun
  | [d] => { results := [.lit (.bool false)], args := [d] }
  | _ => none }
def DeedTakesWrongFalsely : Prop := deedTakesRow.holds Try.pinned (OpenSpec.ofChange deedTakesWrong)

/-- 'mintagelaw13.DeedSames': WHATEVER THE INPUT: true; the input reads as it did. -/
def deedSamesSpec : ChangeSpec := { name := "deedSames", fn := fun _ => fun
  | [d1, d2, d3, d4] => { results := [.lit (.bool true)], args := [d1, d2, d3, d4] }
  | _ => none }
def deedSamesRow : OpenClaim := { program := "ytbbfnpfkbbpjgaa", sum := "62d38ccf05421096efac2eb8c0a331d45b81ae5d2845d457e5b6400d3f1f9a61", func := "mintage/mintagelaw13.DeedSames", spec := "deedSames", inPlace := ["internal/abi.NoEscape", "internal/bytealg.MakeNoZero"], unfollowed := true, recurses := true, apart := false }
def DeedSamesSaid : Prop := deedSamesRow.holds Try.pinned (OpenSpec.ofChange deedSamesSpec)

/-- ITS FALSE NEIGHBOUR: 'it returns false'. Refute it at one input. -/
def deedSamesWrong : ChangeSpec := { name := "deedSames", fn := fun _ => fun
  | [d1, d2, d3, d4] => { results := [.lit (.bool false)], args := [d1, d2, d3, d4] }
  | _ => none }
def DeedSamesWrongFalsely : Prop := deedSamesRow.holds Try.pinned (OpenSpec.ofChange deedSamesWrong)

/-- 'mintagelaw13.DeedBack': WHATEVER THE INPUT: true; the input reads as it did. -/
def deedBackSpec : ChangeSpec := { name := "deedBack", fn := fun _ => fun
  | [d1, d2] => { results := [.lit (.bool true)], args := [d1, d2] }
  | _ => none }
def deedBackRow : OpenClaim := { program := "ytbbfnpfkbbpjgaa", sum := "62d38ccf05421096efac2eb8c0a331d45b81ae5d2845d457e5b6400d3f1f9a61", func := "mintage/mintagelaw13.DeedBack", spec := "deedBack", inPlace := ["internal/abi.NoEscape", "internal/bytealg.MakeNoZero"], unfollowed := true, recurses := true, apart := false }
def DeedBackSaid : Prop := deedBackRow.holds Try.pinned (OpenSpec.ofChange deedBackSpec)

/-- ITS FALSE NEIGHBOUR: 'it returns false'. Refute it at one input. -/
def deedBackWrong : ChangeSpec := { name := "deedBack", fn := fun _ => fun
  | [d1, d2] => { results := [.lit (.bool false)], args := [d1, d2] }
  | _ => none }
def DeedBackWrongFalsely : Prop := deedBackRow.holds Try.pinned (OpenSpec.ofChange deedBackWrong)

/-- 'mintagelaw13.DeedKnown': WHATEVER THE INPUT: true; the input reads as it did. -/
def deedKnownSpec : ChangeSpec := { name := "deedKnown", fn := fun _ => fun
  | [] => { results := [.lit (.bool true)], args := [] }
  | _ => none }
def deedKnownRow : OpenClaim := { program := "ytbbfnpfkbbpjgaa", sum := "62d38ccf05421096efac2eb8c0a331d45b81ae5d2845d457e5b6400d3f1f9a61", func := "mintage/mintagelaw13.DeedKnown", spec := "deedKnown", inPlace := ["internal/abi.NoEscape", "internal/bytealg.MakeNoZero"], unfollowed := true, recurses := true, apart := false }
def DeedKnownSaid : Prop := deedKnownRow.holds Try.pinned (OpenSpec.ofChange deedKnownSpec)

/-- ITS FALSE NEIGHBOUR: 'it returns false'. Refute it at one input. -/
def deedKnownWrong : ChangeSpec := { name := "deedKnown", fn := fun _ => fun
  | [] => { results := [.lit (.bool false)], args := [] }
  | _ => none }
def DeedKnownWrongFalsely : Prop := deedKnownRow.holds Try.pinned (OpenSpec.ofChange deedKnownWrong)

/-- 'mintagelaw13.DeedOne': WHATEVER THE INPUT: true; the input reads as it did. -/
def deedOneSpec : ChangeSpec := { name := "deedOne", fn := fun _ => fun
  | [d1, d2] => { results := [.lit (.bool true)], args := [d1, d2] }
  | _ => none }
def deedOneRow : OpenClaim := { program := "ytbbfnpfkbbpjgaa", sum := "62d38ccf05421096efac2eb8c0a331d45b81ae5d2845d457e5b6400d3f1f9a61", func := "mintage/mintagelaw13.DeedOne", spec := "deedOne", inPlace := ["internal/abi.NoEscape", "internal/bytealg.MakeNoZero"], unfollowed := true, recurses := true, apart := false }
def DeedOneSaid : Prop := deedOneRow.holds Try.pinned (OpenSpec.ofChange deedOneSpec)

/-- ITS FALSE NEIGHBOUR: 'it returns false'. Refute it at one input. -/
def deedOneWrong : ChangeSpec := { name := "deedOne", fn := fun _ => fun
  | [d1, d2] => { results := [.lit (.bool false)], args := [d1, d2] }
  | _ => none }
def DeedOneWrongFalsely : Prop := deedOneRow.holds Try.pinned (OpenSpec.ofChange deedOneWrong)

/-- 'mintagelaw16.OriginParams': WHATEVER THE INPUT: true; the input reads as it did. -/
def originParamsSpec : ChangeSpec := { name := "originParams", fn := fun _ => fun
  | [d1, d2, d3, d4] => { results := [.lit (.bool true)], args := [d1, d2, d3, d4] }
  | _ => none }
def originParamsRow : OpenClaim := { program := "ytbbfnpfkbbpjgaa", sum := "62d38ccf05421096efac2eb8c0a331d45b81ae5d2845d457e5b6400d3f1f9a61", func := "mintage/mintagelaw16.OriginParams", spec := "originParams", inPlace := ["internal/abi.NoEscape", "internal/bytealg.MakeNoZero", "math/bits.Add64"], unfollowed := true, recurses := true, apart := false }
def OriginParamsSaid : Prop := originParamsRow.holds Try.pinned (OpenSpec.ofChange originParamsSpec)

/-- ITS FALSE NEIGHBOUR: 'it returns false'. Refute it at one input. -/
def originParamsWrong : ChangeSpec := { name := "originParams", fn := fun _ => fun
  | [d1, d2, d3, d4] => { results := [.lit (.bool false)], args := [d1, d2, d3, d4] }
  | _ => none }
def OriginParamsWrongFalsely : Prop := originParamsRow.holds Try.pinned (OpenSpec.ofChange originParamsWrong)

/-- 'mintagelaw13.DeedSigned': WHATEVER THE INPUT: true; the input reads as it did. -/
def deedSignedSpec : ChangeSpec := { name := "deedSigned", fn := fun _ => fun
  | [d1, d2] => { results := [.lit (.bool true)], args := [d1, d2] }
  | _ => none }
def deedSignedRow : OpenClaim := { program := "ytbbfnpfkbbpjgaa", sum := "62d38ccf05421096efac2eb8c0a331d45b81ae5d2845d457e5b6400d3f1f9a61", func := "mintage/mintagelaw13.DeedSigned", spec := "deedSigned", inPlace := ["internal/abi.NoEscape", "internal/bytealg.MakeNoZero"], unfollowed := true, recurses := true, apart := false }
def DeedSignedSaid : Prop := deedSignedRow.holds Try.pinned (OpenSpec.ofChange deedSignedSpec)

/-- ITS FALSE NEIGHBOUR: 'it returns false'. Refute it at one input. -/
def deedSignedWrong : ChangeSpec := { name := "deedSigned", fn := fun _ => fun
  | [d1, d2] => { results := [.lit (.bool false)], args := [d1, d2] }
  | _ => none }
def DeedSignedWrongFalsely : Prop := deedSignedRow.holds Try.pinned (OpenSpec.ofChange deedSignedWrong)

/-- 'mintagelaw16.OriginPuts': WHATEVER THE INPUT: true; the input reads as it did. -/
def originPutsSpec : ChangeSpec := { name := "originPuts", fn := fun _ => fun
  | [d] => { results := [.lit (.bool true)], args := [d] }
  | _ => none }
def originPutsRow : OpenClaim := { program := "ytbbfnpfkbbpjgaa", sum := "62d38ccf05421096efac2eb8c0a331d45b81ae5d2845d457e5b6400d3f1f9a61", func := "mintage/mintagelaw16.OriginPuts", spec := "originPuts", inPlace := ["math/bits.Add64", "internal/abi.NoEscape", "internal/bytealg.MakeNoZero"], unfollowed := true, recurses := true, apart := false }
def OriginPutsSaid : Prop := originPutsRow.holds Try.pinned (OpenSpec.ofChange originPutsSpec)

/-- ITS FALSE NEIGHBOUR: 'it returns false'. Refute it at one input. -/
def originPutsWrong : ChangeSpec := { name := "originPuts", fn := fun _ => fun
  | [d] => { results := [.lit (.bool false)], args := [d] }
  | _ => none }
def OriginPutsWrongFalsely : Prop := originPutsRow.holds Try.pinned (OpenSpec.ofChange originPutsWrong)

/-- 'mintagelaw03.ShaRoots': WHATEVER THE INPUT: true; the input reads as it did. -/
def shaRootsSpec : ChangeSpec := { name := "shaRoots", fn := fun _ => fun
  | [] => { results := [.lit (.bool true)], args := [] }
  | _ => none }
def shaRootsRow : OpenClaim := { program := "ytbbfnpfkbbpjgaa", sum := "62d38ccf05421096efac2eb8c0a331d45b81ae5d2845d457e5b6400d3f1f9a61", func := "mintage/mintagelaw03.ShaRoots", spec := "shaRoots", inPlace := ["internal/abi.NoEscape", "internal/bytealg.MakeNoZero", "internal/bytealg.IndexByteString", "internal/bytealg.IndexString"], named := ["internal/bytealg.MaxLen"], apart := false }
def ShaRootsSaid : Prop := shaRootsRow.holds Try.pinned (OpenSpec.ofChange shaRootsSpec)

/-- ITS FALSE NEIGHBOUR: 'it returns false'. Refute it at one input. -/
def shaRootsWrong : ChangeSpec := { name := "shaRoots", fn := fun _ => fun
  | [] => { results := [.lit (.bool false)], args := [] }
  | _ => none }
def ShaRootsWrongFalsely : Prop := shaRootsRow.holds Try.pinned (OpenSpec.ofChange shaRootsWrong)

/- THE SECOND FORM. 'bulk': how many values and letters a reading holds, each counted each time it is reached (what is shared counts as often as it is met; a slice's spare places count too). A statement '..UptoSaid' is the law's where the arguments, and the package variables that the reading takes, are together of bulk at most 1048576: NARROWER than '..Said'. Prove '..Said' where nothing that the law and all that it calls make is longer than what came in: it says more and counts as full. Else prove '..UptoSaid'. A law counts once. -/
mutual
def uptoBulk {H : Type} : DataW H → Nat
  | .lit (.string bytes) => bytes.length + 1
  | .lit _ => 1
  | .nil => 1
  | .ptr d => uptoBulk d + 1
  | .slice elems spare => uptoBulkAll elems + uptoBulkAll spare + 1
  | .agg parts => uptoBulkAll parts + 1
  | .iface _ d => uptoBulk d + 1
  | .map entries => uptoBulkEntries entries + 1
  | .held _ => 1
def uptoBulkAll {H : Type} : List (DataW H) → Nat
  | [] => 0
  | d :: r => uptoBulk d + uptoBulkAll r
def uptoBulkEntries {H : Type} : List (Lit × DataW H) → Nat
  | [] => 0
  | x :: r => uptoBulkEntry x + uptoBulkEntries r
def uptoBulkEntry {H : Type} : Lit × DataW H → Nat
  | (.string bytes, d) => bytes.length + uptoBulk d + 1
  | (_, d) => uptoBulk d + 1
 end
def uptoSmall : (H : Type) → List (DataW H) → Bool := fun _ ds => decide (uptoBulkAll ds ≤ 1048576)
def OpenSpec.upto (s : _root_.Go.ChangeSpec) : _root_.Go.OpenSpec := { _root_.Go.OpenSpec.ofChange s with cond := some uptoSmall }

/-- 'mintagelaw16.OriginTakes', WHERE WHAT IT READS IS OF BULK AT MOST 1048576: true; the input reads as it did. -/
def originTakesUptoRow : OpenClaim := { program := "ytbbfnpfkbbpjgaa", sum := "62d38ccf05421096efac2eb8c0a331d45b81ae5d2845d457e5b6400d3f1f9a61", func := "mintage/mintagelaw16.OriginTakes", spec := "originTakes", inPlace := ["math/bits.Add64", "internal/abi.NoEscape"], unfollowed := true, recurses := true, apart := false, narrowed := true }
def OriginTakesUptoSaid : Prop := originTakesUptoRow.holds Try.pinned (OpenSpec.upto originTakesSpec)

/-- 'mintagelaw16.OriginBack', WHERE WHAT IT READS IS OF BULK AT MOST 1048576: true; the input reads as it did. -/
def originBackUptoRow : OpenClaim := { program := "ytbbfnpfkbbpjgaa", sum := "62d38ccf05421096efac2eb8c0a331d45b81ae5d2845d457e5b6400d3f1f9a61", func := "mintage/mintagelaw16.OriginBack", spec := "originBack", inPlace := ["math/bits.Add64", "internal/abi.NoEscape"], unfollowed := true, recurses := true, apart := false, narrowed := true }
def OriginBackUptoSaid : Prop := originBackUptoRow.holds Try.pinned (OpenSpec.upto originBackSpec)

/-- 'mintagelaw16.OriginKnown', WHERE WHAT IT READS IS OF BULK AT MOST 1048576: true; the input reads as it did. -/
def originKnownUptoRow : OpenClaim := { program := "ytbbfnpfkbbpjgaa", sum := "62d38ccf05421096efac2eb8c0a331d45b81ae5d2845d457e5b6400d3f1f9a61", func := "mintage/mintagelaw16.OriginKnown", spec := "originKnown", inPlace := ["math/bits.Add64", "internal/abi.NoEscape"], unfollowed := true, recurses := true, apart := false, narrowed := true }
def OriginKnownUptoSaid : Prop := originKnownUptoRow.holds Try.pinned (OpenSpec.upto originKnownSpec)

/-- 'mintagelaw16.OriginLess', WHERE WHAT IT READS IS OF BULK AT MOST 1048576: true; the input reads as it did. -/
def originLessUptoRow : OpenClaim := { program := "ytbbfnpfkbbpjgaa", sum := "62d38ccf05421096efac2eb8c0a331d45b81ae5d2845d457e5b6400d3f1f9a61", func := "mintage/mintagelaw16.OriginLess", spec := "originLess", inPlace := ["math/bits.Add64", "internal/abi.NoEscape"], unfollowed := true, recurses := true, apart := false, narrowed := true }
def OriginLessUptoSaid : Prop := originLessUptoRow.holds Try.pinned (OpenSpec.upto originLessSpec)

/-- 'mintagelaw13.DeedTakes', WHERE WHAT IT READS IS OF BULK AT MOST 1048576: true; the input reads as it did. -/
def deedTakesUptoRow : OpenClaim := { program := "ytbbfnpfkbbpjgaa", sum := "62d38ccf05421096efac2eb8c0a331d45b81ae5d2845d457e5b6400d3f1f9a61", func := "mintage/mintagelaw13.DeedTakes", spec := "deedTakes", inPlace := ["internal/abi.NoEscape", "internal/bytealg.MakeNoZero"], unfollowed := true, recurses := true, apart := false, narrowed := true }
def DeedTakesUptoSaid : Prop := deedTakesUptoRow.holds Try.pinned (OpenSpec.upto deedTakesSpec)

/-- 'mintagelaw13.DeedSames', WHERE WHAT IT READS IS OF BULK AT MOST 1048576: true; the input reads as it did. -/
def deedSamesUptoRow : OpenClaim := { program := "ytbbfnpfkbbpjgaa", sum := "62d38ccf05421096efac2eb8c0a331d45b81ae5d2845d457e5b6400d3f1f9a61", func := "mintage/mintagelaw13.DeedSames", spec := "deedSames", inPlace := ["internal/abi.NoEscape", "internal/bytealg.MakeNoZero"], unfollowed := true, recurses := true, apart := false, narrowed := true }
def DeedSamesUptoSaid : Prop := deedSamesUptoRow.holds Try.pinned (OpenSpec.upto deedSamesSpec)

/-- 'mintagelaw13.DeedBack', WHERE WHAT IT READS IS OF BULK AT MOST 1048576: true; the input reads as it did. -/
def deedBackUptoRow : OpenClaim := { program := "ytbbfnpfkbbpjgaa", sum := "62d38ccf05421096efac2eb8c0a331d45b81ae5d2845d457e5b6400d3f1f9a61", func := "mintage/mintagelaw13.DeedBack", spec := "deedBack", inPlace := ["internal/abi.NoEscape", "internal/bytealg.MakeNoZero"], unfollowed := true, recurses := true, apart := false, narrowed := true }
def DeedBackUptoSaid : Prop := deedBackUptoRow.holds Try.pinned (OpenSpec.upto deedBackSpec)

/-- 'mintagelaw13.DeedKnown', WHERE WHAT IT READS IS OF BULK AT MOST 1048576: true; the input reads as it did. -/
def deedKnownUptoRow : OpenClaim := { program := "ytbbfnpfkbbpjgaa", sum := "62d38ccf05421096efac2eb8c0a331d45b81ae5d2845d457e5b6400d3f1f9a61", func := "mintage/mintagelaw13.DeedKnown", spec := "deedKnown", inPlace := ["internal/abi.NoEscape", "internal/bytealg.MakeNoZero"], unfollowed := true, recurses := true, apart := false, narrowed := true }
def DeedKnownUptoSaid : Prop := deedKnownUptoRow.holds Try.pinned (OpenSpec.upto deedKnownSpec)

/-- 'mintagelaw13.DeedOne', WHERE WHAT IT READS IS OF BULK AT MOST 1048576: true; the input reads as it did. -/
def deedOneUptoRow : OpenClaim := { program := "ytbbfnpfkbbpjgaa", sum := "62d38ccf05421096efac2eb8c0a331d45b81ae5d2845d457e5b6400d3f1f9a61", func := "mintage/mintagelaw13.DeedOne", spec := "deedOne", inPlace := ["internal/abi.NoEscape", "internal/bytealg.MakeNoZero"], unfollowed := true, recurses := true, apart := false, narrowed := true }
def DeedOneUptoSaid : Prop := deedOneUptoRow.holds Try.pinned (OpenSpec.upto deedOneSpec)

/-- 'mintagelaw16.OriginParams', WHERE WHAT IT READS IS OF BULK AT MOST 1048576: true; the input reads as it did. -/
def originParamsUptoRow : OpenClaim := { program := "ytbbfnpfkbbpjgaa", sum := "62d38ccf05421096efac2eb8c0a331d45b81ae5d2845d457e5b6400d3f1f9a61", func := "mintage/mintagelaw16.OriginParams", spec := "originParams", inPlace := ["internal/abi.NoEscape", "internal/bytealg.MakeNoZero", "math/bits.Add64"], unfollowed := true, recurses := true, apart := false, narrowed := true }
def OriginParamsUptoSaid : Prop := originParamsUptoRow.holds Try.pinned (OpenSpec.upto originParamsSpec)

/-- 'mintagelaw13.DeedSigned', WHERE WHAT IT READS IS OF BULK AT MOST 1048576: true; the input reads as it did. -/
def deedSignedUptoRow : OpenClaim := { program := "ytbbfnpfkbbpjgaa", sum := "62d38ccf05421096efac2eb8c0a331d45b81ae5d2845d457e5b6400d3f1f9a61", func := "mintage/mintagelaw13.DeedSigned", spec := "deedSigned", inPlace := ["internal/abi.NoEscape", "internal/bytealg.MakeNoZero"], unfollowed := true, recurses := true, apart := false, narrowed := true }
def DeedSignedUptoSaid : Prop := deedSignedUptoRow.holds Try.pinned (OpenSpec.upto deedSignedSpec)

/-- 'mintagelaw16.OriginPuts', WHERE WHAT IT READS IS OF BULK AT MOST 1048576: true; the input reads as it did. -/
def originPutsUptoRow : OpenClaim := { program := "ytbbfnpfkbbpjgaa", sum := "62d38ccf05421096efac2eb8c0a331d45b81ae5d2845d457e5b6400d3f1f9a61", func := "mintage/mintagelaw16.OriginPuts", spec := "originPuts", inPlace := ["math/bits.Add64", "internal/abi.NoEscape", "internal/bytealg.MakeNoZero"], unfollowed := true, recurses := true, apart := false, narrowed := true }
def OriginPutsUptoSaid : Prop := originPutsUptoRow.holds Try.pinned (OpenSpec.upto originPutsSpec)

/-- 'mintagelaw03.ShaRoots', WHERE WHAT IT READS IS OF BULK AT MOST 1048576: true; the input reads as it did. -/
def shaRootsUptoRow : OpenClaim := { program := "ytbbfnpfkbbpjgaa", sum := "62d38ccf05421096efac2eb8c0a331d45b81ae5d2845d457e5b6400d3f1f9a61", func := "mintage/mintagelaw03.ShaRoots", spec := "shaRoots", inPlace := ["internal/abi.NoEscape", "internal/bytealg.MakeNoZero", "internal/bytealg.IndexByteString", "internal/bytealg.IndexString"], named := ["internal/bytealg.MaxLen"], apart := false, narrowed := true }
def ShaRootsUptoSaid : Prop := shaRootsUptoRow.holds Try.pinned (OpenSpec.upto shaRootsSpec)

end Rows
end Go.Proofs.Ytbbfnpfkbbpjgaa
