/-
  No cell of these rows narrows 'for every input' (looked for: loops, veiled, ifaces, maps, wideKeys, modest, calm, conditions, laid).
  DERIVED. THE GIVEN ROWS OF THIS SEAT. 8 by the template 'for every input the law returns true; each argument reads behind the call as it read before'; 0 by the template 'total and deterministic' (their statements: YtbbfnpfkbbpjgaaGreatTotals.lean).
  GIVEN WITH THE SEED: the statements are not yours to turn. If you find one false, say at which input.
  Laid BY PROGRAM, IN A SANDBOX (cutbox-rows.mjs): the forced cells as the released guide's own fill.sh prints them over the translation 2062e19d1e608470… (all of the seat's roots in one cut). By AI agents, Wed Nov 11 2026. No macro, syntax, notation, axiom, sorry.
-/
import Derived.Test.YtbbfnpfkbbpjgaaGreatChecked
import GoSem.Claim
import GoSem.ClaimJoined
import GoSem.ClaimMapViews
import Derived.JoinedTies
import Derived.KernelRfl
namespace Go.Proofs.YtbbfnpfkbbpjgaaGreat
/- THE CELL 'sum', in the pinned program and in every row, IS THE sha256 OF THE DUMP (.gsa) THAT YtbbfnpfkbbpjgaaGreatProg.lean LOADS. Nothing in Lean hashes anything: it is a label: what it is worth is what the hold of that sum in a sandbox is worth. -/
noncomputable def Tryz.pinned : Pinned := { name := "ytbbfnpfkbbpjgaagreat", sum := "2062e19d1e608470d72df5414cfb204dff94ec3ef78fc9b949000df6594a5574", checked := Tryz.checked }
namespace Rows
def none {H : Type} : Left H := { results := [], args := [] }

/-- 'mintagelaw13.DeedPuts': WHATEVER THE INPUT: true; the input reads as it did. -/
def deedPutsSpec : ChangeSpec := { name := "deedPuts", fn := fun _ => fun
  | [d] => { results := [.lit (.bool true)], args := [d] }
  | _ => none }
def deedPutsRow : OpenClaim := { program := "ytbbfnpfkbbpjgaagreat", sum := "2062e19d1e608470d72df5414cfb204dff94ec3ef78fc9b949000df6594a5574", func := "mintage/mintagelaw13.DeedPuts", spec := "deedPuts", inPlace := ["internal/abi.NoEscape", "internal/bytealg.MakeNoZero"], unfollowed := true, recurses := true, apart := false }
def DeedPutsSaid : Prop := deedPutsRow.holds Tryz.pinned (OpenSpec.ofChange deedPutsSpec)

/-- ITS FALSE NEIGHBOUR: 'it returns false'. Refute it at one input. -/
def deedPutsWrong : ChangeSpec := { name := "deedPuts", fn := fun _ => fun
  | [d] => { results := [.lit (.bool false)], args := [d] }
  | _ => none }
def DeedPutsWrongFalsely : Prop := deedPutsRow.holds Tryz.pinned (OpenSpec.ofChange deedPutsWrong)

/-- 'mintagelaw15.BlockBodies': WHATEVER THE INPUT: true; the input reads as it did. -/
def blockBodiesSpec : ChangeSpec := { name := "blockBodies", fn := fun _ => fun
  | [d] => { results := [.lit (.bool true)], args := [d] }
  | _ => none }
def blockBodiesRow : OpenClaim := { program := "ytbbfnpfkbbpjgaagreat", sum := "2062e19d1e608470d72df5414cfb204dff94ec3ef78fc9b949000df6594a5574", func := "mintage/mintagelaw15.BlockBodies", spec := "blockBodies", inPlace := ["internal/abi.NoEscape", "internal/bytealg.MakeNoZero"], unfollowed := true, recurses := true, apart := false }
def BlockBodiesSaid : Prop := blockBodiesRow.holds Tryz.pinned (OpenSpec.ofChange blockBodiesSpec)

/-- ITS FALSE NEIGHBOUR: 'it returns false'. Refute it at one input. -/
def blockBodiesWrong : ChangeSpec := { name := "blockBodies", fn := fun _ => fun
  | [d] => { results := [.lit (.bool false)], args := [d] }
  | _ => none }
def BlockBodiesWrongFalsely : Prop := blockBodiesRow.holds Tryz.pinned (OpenSpec.ofChange blockBodiesWrong)

/-- 'mintagelaw15.BlockTakes': WHATEVER THE INPUT: true; the input reads as it did. -/
def blockTakesSpec : ChangeSpec := { name := "blockTakes", fn := fun _ => fun
  | [d] => { results := [.lit (.bool true)], args := [d] }
  | _ => none }
def blockTakesRow : OpenClaim := { program := "ytbbfnpfkbbpjgaagreat", sum := "2062e19d1e608470d72df5414cfb204dff94ec3ef78fc9b949000df6594a5574", func := "mintage/mintagelaw15.BlockTakes", spec := "blockTakes", inPlace := ["internal/abi.NoEscape", "internal/bytealg.MakeNoZero"], unfollowed := true, recurses := true, apart := false }
def BlockTakesSaid : Prop := blockTakesRow.holds Tryz.pinned (OpenSpec.ofChange blockTakesSpec)

/-- ITS FALSE NEIGHBOUR: 'it returns false'. Refute it at one input. -/
def blockTakesWrong : ChangeSpec := { name := "blockTakes", fn := fun _ => fun
  | [d] => { results := [.lit (.bool false)], args := [d] }
  | _ => none }
def BlockTakesWrongFalsely : Prop := blockTakesRow.holds Tryz.pinned (OpenSpec.ofChange blockTakesWrong)

/-- 'mintagelaw15.BlockBack': WHATEVER THE INPUT: true; the input reads as it did. -/
def blockBackSpec : ChangeSpec := { name := "blockBack", fn := fun _ => fun
  | [d1, d2] => { results := [.lit (.bool true)], args := [d1, d2] }
  | _ => none }
def blockBackRow : OpenClaim := { program := "ytbbfnpfkbbpjgaagreat", sum := "2062e19d1e608470d72df5414cfb204dff94ec3ef78fc9b949000df6594a5574", func := "mintage/mintagelaw15.BlockBack", spec := "blockBack", inPlace := ["internal/abi.NoEscape", "internal/bytealg.MakeNoZero"], unfollowed := true, recurses := true, apart := false }
def BlockBackSaid : Prop := blockBackRow.holds Tryz.pinned (OpenSpec.ofChange blockBackSpec)

/-- ITS FALSE NEIGHBOUR: 'it returns false'. Refute it at one input. -/
def blockBackWrong : ChangeSpec := { name := "blockBack", fn := fun _ => fun
  | [d1, d2] => { results := [.lit (.bool false)], args := [d1, d2] }
  | _ => none }
def BlockBackWrongFalsely : Prop := blockBackRow.holds Tryz.pinned (OpenSpec.ofChange blockBackWrong)

/-- 'mintagelaw15.BlockPuts': WHATEVER THE INPUT: true; the input reads as it did. -/
def blockPutsSpec : ChangeSpec := { name := "blockPuts", fn := fun _ => fun
  | [d] => { results := [.lit (.bool true)], args := [d] }
  | _ => none }
def blockPutsRow : OpenClaim := { program := "ytbbfnpfkbbpjgaagreat", sum := "2062e19d1e608470d72df5414cfb204dff94ec3ef78fc9b949000df6594a5574", func := "mintage/mintagelaw15.BlockPuts", spec := "blockPuts", inPlace := ["internal/abi.NoEscape", "internal/bytealg.MakeNoZero"], unfollowed := true, recurses := true, apart := false }
def BlockPutsSaid : Prop := blockPutsRow.holds Tryz.pinned (OpenSpec.ofChange blockPutsSpec)

/-- ITS FALSE NEIGHBOUR: 'it returns false'. Refute it at one input. -/
def blockPutsWrong : ChangeSpec := { name := "blockPuts", fn := fun _ => fun
  | [d] => { results := [.lit (.bool false)], args := [d] }
  | _ => none }
def BlockPutsWrongFalsely : Prop := blockPutsRow.holds Tryz.pinned (OpenSpec.ofChange blockPutsWrong)

/-- 'mintagelaw15.BlockKnown': WHATEVER THE INPUT: true; the input reads as it did. -/
def blockKnownSpec : ChangeSpec := { name := "blockKnown", fn := fun _ => fun
  | [] => { results := [.lit (.bool true)], args := [] }
  | _ => none }
def blockKnownRow : OpenClaim := { program := "ytbbfnpfkbbpjgaagreat", sum := "2062e19d1e608470d72df5414cfb204dff94ec3ef78fc9b949000df6594a5574", func := "mintage/mintagelaw15.BlockKnown", spec := "blockKnown", inPlace := ["internal/abi.NoEscape", "internal/bytealg.MakeNoZero"], unfollowed := true, recurses := true, apart := false }
def BlockKnownSaid : Prop := blockKnownRow.holds Tryz.pinned (OpenSpec.ofChange blockKnownSpec)

/-- ITS FALSE NEIGHBOUR: 'it returns false'. Refute it at one input. -/
def blockKnownWrong : ChangeSpec := { name := "blockKnown", fn := fun _ => fun
  | [] => { results := [.lit (.bool false)], args := [] }
  | _ => none }
def BlockKnownWrongFalsely : Prop := blockKnownRow.holds Tryz.pinned (OpenSpec.ofChange blockKnownWrong)

/-- 'mintagelaw15.BlockProves': WHATEVER THE INPUT: true; the input reads as it did. -/
def blockProvesSpec : ChangeSpec := { name := "blockProves", fn := fun _ => fun
  | [d1, d2, d3] => { results := [.lit (.bool true)], args := [d1, d2, d3] }
  | _ => none }
def blockProvesRow : OpenClaim := { program := "ytbbfnpfkbbpjgaagreat", sum := "2062e19d1e608470d72df5414cfb204dff94ec3ef78fc9b949000df6594a5574", func := "mintage/mintagelaw15.BlockProves", spec := "blockProves", inPlace := ["internal/abi.NoEscape", "internal/bytealg.MakeNoZero"], unfollowed := true, recurses := true, apart := false }
def BlockProvesSaid : Prop := blockProvesRow.holds Tryz.pinned (OpenSpec.ofChange blockProvesSpec)

/-- ITS FALSE NEIGHBOUR: 'it returns false'. Refute it at one input. -/
def blockProvesWrong : ChangeSpec := { name := "blockProves", fn := fun _ => fun
  | [d1, d2, d3] => { results := [.lit (.bool false)], args := [d1, d2, d3] }
  | _ => none }
def BlockProvesWrongFalsely : Prop := blockProvesRow.holds Tryz.pinned (OpenSpec.ofChange blockProvesWrong)

/-- 'mintagelaw15.BlockShown': WHATEVER THE INPUT: true; the input reads as it did. -/
def blockShownSpec : ChangeSpec := { name := "blockShown", fn := fun _ => fun
  | [d] => { results := [.lit (.bool true)], args := [d] }
  | _ => none }
def blockShownRow : OpenClaim := { program := "ytbbfnpfkbbpjgaagreat", sum := "2062e19d1e608470d72df5414cfb204dff94ec3ef78fc9b949000df6594a5574", func := "mintage/mintagelaw15.BlockShown", spec := "blockShown", inPlace := ["internal/abi.NoEscape", "internal/bytealg.MakeNoZero"], unfollowed := true, recurses := true, apart := false }
def BlockShownSaid : Prop := blockShownRow.holds Tryz.pinned (OpenSpec.ofChange blockShownSpec)

/-- ITS FALSE NEIGHBOUR: 'it returns false'. Refute it at one input. -/
def blockShownWrong : ChangeSpec := { name := "blockShown", fn := fun _ => fun
  | [d] => { results := [.lit (.bool false)], args := [d] }
  | _ => none }
def BlockShownWrongFalsely : Prop := blockShownRow.holds Tryz.pinned (OpenSpec.ofChange blockShownWrong)

/- THE SECOND FORM. 'bulk': how many values and letters a reading holds, each counted each time it is reached (what is shared counts as often as it is met; a slice's spare places count too). A statement '..UptoSaid' is the law's where the arguments, and the package variables that the reading takes, are together of bulk at most 1048576: NARROWER than '..Said'. Prove '..Said' where nothing that the law and all that it calls make is longer than what came in: it says more and counts as full. Else prove '..UptoSaid'. A law counts once. -/
mutual
def uptoBulk {H : Type} : DataW H → Nat
  | .lit (.string bytes) => bytes.length + 1
  | .lit _ => 1
  | .nil => 1
  | .ptr d => uptoBulk d + 1
  | .slice elems spare => uptoBulkAll elems + uptoBulkAll spare + 1
  | .agg parts => uptoBulkAll parts + 1
  | .iface _ d => uptoBulk d + 1
  | .map entries => uptoBulkEntries entries + 1
  | .held _ => 1
def uptoBulkAll {H : Type} : List (DataW H) → Nat
  | [] => 0
  | d :: r => uptoBulk d + uptoBulkAll r
def uptoBulkEntries {H : Type} : List (Lit × DataW H) → Nat
  | [] => 0
  | x :: r => uptoBulkEntry x + uptoBulkEntries r
def uptoBulkEntry {H : Type} : Lit × DataW H → Nat
  | (.string bytes, d) => bytes.length + uptoBulk d + 1
  | (_, d) => uptoBulk d + 1
 end
def uptoSmall : (H : Type) → List (DataW H) → Bool := fun _ ds => decide (uptoBulkAll ds ≤ 1048576)
def OpenSpec.upto (s : _root_.Go.ChangeSpec) : _root_.Go.OpenSpec := { _root_.Go.OpenSpec.ofChange s with cond := some uptoSmall }

/-- 'mintagelaw13.DeedPuts', WHERE WHAT IT READS IS OF BULK AT MOST 1048576: true; the input reads as it did. -/
def deedPutsUptoRow : OpenClaim := { program := "ytbbfnpfkbbpjgaagreat", sum := "2062e19d1e608470d72df5414cfb204dff94ec3ef78fc9b949000df6594a5574", func := "mintage/mintagelaw13.DeedPuts", spec := "deedPuts", inPlace := ["internal/abi.NoEscape", "internal/bytealg.MakeNoZero"], unfollowed := true, recurses := true, apart := false, narrowed := true }
def DeedPutsUptoSaid : Prop := deedPutsUptoRow.holds Tryz.pinned (OpenSpec.upto deedPutsSpec)

/-- 'mintagelaw15.BlockBodies', WHERE WHAT IT READS IS OF BULK AT MOST 1048576: true; the input reads as it did. -/
def blockBodiesUptoRow : OpenClaim := { program := "ytbbfnpfkbbpjgaagreat", sum := "2062e19d1e608470d72df5414cfb204dff94ec3ef78fc9b949000df6594a5574", func := "mintage/mintagelaw15.BlockBodies", spec := "blockBodies", inPlace := ["internal/abi.NoEscape", "internal/bytealg.MakeNoZero"], unfollowed := true, recurses := true, apart := false, narrowed := true }
def BlockBodiesUptoSaid : Prop := blockBodiesUptoRow.holds Tryz.pinned (OpenSpec.upto blockBodiesSpec)

/-- 'mintagelaw15.BlockTakes', WHERE WHAT IT READS IS OF BULK AT MOST 1048576: true; the input reads as it did. -/
def blockTakesUptoRow : OpenClaim := { program := "ytbbfnpfkbbpjgaagreat", sum := "2062e19d1e608470d72df5414cfb204dff94ec3ef78fc9b949000df6594a5574", func := "mintage/mintagelaw15.BlockTakes", spec := "blockTakes", inPlace := ["internal/abi.NoEscape", "internal/bytealg.MakeNoZero"], unfollowed := true, recurses := true, apart := false, narrowed := true }
def BlockTakesUptoSaid : Prop := blockTakesUptoRow.holds Tryz.pinned (OpenSpec.upto blockTakesSpec)

/-- 'mintagelaw15.BlockBack', WHERE WHAT IT READS IS OF BULK AT MOST 1048576: true; the input reads as it did. -/
def blockBackUptoRow : OpenClaim := { program := "ytbbfnpfkbbpjgaagreat", sum := "2062e19d1e608470d72df5414cfb204dff94ec3ef78fc9b949000df6594a5574", func := "mintage/mintagelaw15.BlockBack", spec := "blockBack", inPlace := ["internal/abi.NoEscape", "internal/bytealg.MakeNoZero"], unfollowed := true, recurses := true, apart := false, narrowed := true }
def BlockBackUptoSaid : Prop := blockBackUptoRow.holds Tryz.pinned (OpenSpec.upto blockBackSpec)

/-- 'mintagelaw15.BlockPuts', WHERE WHAT IT READS IS OF BULK AT MOST 1048576: true; the input reads as it did. -/
def blockPutsUptoRow : OpenClaim := { program := "ytbbfnpfkbbpjgaagreat", sum := "2062e19d1e608470d72df5414cfb204dff94ec3ef78fc9b949000df6594a5574", func := "mintage/mintagelaw15.BlockPuts", spec := "blockPuts", inPlace := ["internal/abi.NoEscape", "internal/bytealg.MakeNoZero"], unfollowed := true, recurses := true, apart := false, narrowed := true }
def BlockPutsUptoSaid : Prop := blockPutsUptoRow.holds Tryz.pinned (OpenSpec.upto blockPutsSpec)

/-- 'mintagelaw15.BlockKnown', WHERE WHAT IT READS IS OF BULK AT MOST 1048576: true; the input reads as it did. -/
def blockKnownUptoRow : OpenClaim := { program := "ytbbfnpfkbbpjgaagreat", sum := "2062e19d1e608470d72df5414cfb204dff94ec3ef78fc9b949000df6594a5574", func := "mintage/mintagelaw15.BlockKnown", spec := "blockKnown", inPlace := ["internal/abi.NoEscape", "internal/bytealg.MakeNoZero"], unfollowed := true, recurses := true, apart := false, narrowed := true }
def BlockKnownUptoSaid : Prop := blockKnownUptoRow.holds Tryz.pinned (OpenSpec.upto blockKnownSpec)

/-- 'mintagelaw15.BlockProves', WHERE WHAT IT READS IS OF BULK AT MOST 1048576: true; the input reads as it did. -/
def blockProvesUptoRow : OpenClaim := { program := "ytbbfnpfkbbpjgaagreat", sum := "2062e19d1e608470d72df5414cfb204dff94ec3ef78fc9b949000df6594a5574", func := "mintage/mintagelaw15.BlockProves", spec := "blockProves", inPlace := ["internal/abi.NoEscape", "internal/bytealg.MakeNoZero"], unfollowed := true, recurses := true, apart := false, narrowed := true }
def BlockProvesUptoSaid : Prop := blockProvesUptoRow.holds Tryz.pinned (OpenSpec.upto blockProvesSpec)

/-- 'mintagelaw15.BlockShown', WHERE WHAT IT READS IS OF BULK AT MOST 1048576: true; the input reads as it did. -/
def blockShownUptoRow : OpenClaim := { program := "ytbbfnpfkbbpjgaagreat", sum := "2062e19d1e608470d72df5414cfb204dff94ec3ef78fc9b949000df6594a5574", func := "mintage/mintagelaw15.BlockShown", spec := "blockShown", inPlace := ["internal/abi.NoEscape", "internal/bytealg.MakeNoZero"], unfollowed := true, recurses := true, apart := false, narrowed := true }
def BlockShownUptoSaid : Prop := blockShownUptoRow.holds Tryz.pinned (OpenSpec.upto blockShownSpec)

end Rows
end Go.Proofs.YtbbfnpfkbbpjgaaGreat
