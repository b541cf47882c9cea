/- Several texts of this proof in one: Ref01, RefSumL, RefSum, RefPut, RefOf, Ofs, Ref03, Works03, ShaParts. -/
import Derived.Test.YtbbfnpfkbbpjgaaZBMOf
import Derived.Test.YtbbfnpfkbbpjgaaZBMBase
import Derived.BigRegion
import Derived.Deep.AppendLies
/- The reference's Eight, Put, PutText (mintageref01) as contracts. -/
namespace Go.Proofs.Ytbbfnpfkbbpjgaa
open Go.RowKit Go.Lib

end Go.Proofs.Ytbbfnpfkbbpjgaa

/- The reference's sum: what its steps do, in plain Lean; cubes as a contract. -/
namespace Go.Proofs.Ytbbfnpfkbbpjgaa
open Go.RowKit Go.Lib

/-- The length of a slice. -/
def lenOf : Value → Nat := fun v => match v with | .slice _ n _ => n | _ => 0
/-- The first words anew, the others as they were. -/
def over (new old : List W32) : List W32 := new ++ old.drop new.length
theorem Arr.grown {w w' : World} {b : Nat} {t : TypeId} {cs : List Value} (h : Arr w b t cs) {row : Option Nat} (hg : w.grownBy w' row) (hne : some b ≠ row) : Arr w' b t cs := by
  unfold Arr; rw [hg.block b h.lt hne]; exact h
section
variable {W wr w' : World} {rb gp cp gv : Nat} {p : List UInt8}
end
end Go.Proofs.Ytbbfnpfkbbpjgaa

/- mintageref03.Sum as a contract: what it computes is the sum of ShaSpec. -/
namespace Go.Proofs.Ytbbfnpfkbbpjgaa
open Go.RowKit Go.Lib

end Go.Proofs.Ytbbfnpfkbbpjgaa

/- The reference's Put, PutText (mintageref01) as contracts. -/
namespace Go.Proofs.Ytbbfnpfkbbpjgaa
open Go.RowKit Go.Lib

end Go.Proofs.Ytbbfnpfkbbpjgaa

/- mintageref03.Of as a contract. -/
namespace Go.Proofs.Ytbbfnpfkbbpjgaa
open Go.RowKit Go.Lib

end Go.Proofs.Ytbbfnpfkbbpjgaa

/- sha.Of and the reference's Of at few parts, by lists. -/
namespace Go.Proofs.Ytbbfnpfkbbpjgaa
open Go.RowKit Go.Lib

end Go.Proofs.Ytbbfnpfkbbpjgaa

/- The reference's Bytes, Hex (mintageref03) as contracts. -/
namespace Go.Proofs.Ytbbfnpfkbbpjgaa
open Go.RowKit Go.Lib

end Go.Proofs.Ytbbfnpfkbbpjgaa

/- mintagelaw03.works answers true. -/
namespace Go.Proofs.Ytbbfnpfkbbpjgaa
open Go.RowKit Go.Lib

end Go.Proofs.Ytbbfnpfkbbpjgaa

/- The law ShaParts: any parts under any tag. -/
namespace Go.Proofs.Ytbbfnpfkbbpjgaa
open Go.RowKit Go.Lib

end Go.Proofs.Ytbbfnpfkbbpjgaa
