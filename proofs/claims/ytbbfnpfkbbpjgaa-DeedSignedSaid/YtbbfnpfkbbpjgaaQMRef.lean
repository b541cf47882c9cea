/- Several texts of this proof in one: Ref01, RefSumL, RefSum, RefPut, RefOf, Ofs, Ref03, Works03, ShaParts. -/
import Derived.Test.YtbbfnpfkbbpjgaaQMOf
import Derived.Test.YtbbfnpfkbbpjgaaQMBase
import Derived.BigRegion
import Derived.Deep.AppendLies
/- The reference's Eight, Put, PutText (mintageref01) as contracts. -/
namespace Go.Proofs.Ytbbfnpfkbbpjgaa
open Go.RowKit Go.Lib

end Go.Proofs.Ytbbfnpfkbbpjgaa

/- The reference's sum: what its steps do, in plain Lean; cubes as a contract. -/
namespace Go.Proofs.Ytbbfnpfkbbpjgaa
open Go.RowKit Go.Lib

/-- The length of a slice. -/
def lenOf : Value → Nat := fun v => match v with | .slice _ n _ => n | _ => 0
/-- The first words anew, the others as they were. -/
def over (new old : List W32) : List W32 := new ++ old.drop new.length
theorem Arr.grown {w w' : World} {b : Nat} {t : TypeId} {cs : List Value} (h : Arr w b t cs) {row : Option Nat} (hg : w.grownBy w' row) (hne : some b ≠ row) : Arr w' b t cs := by
  unfold Arr; rw [hg.block b h.lt hne]; exact h
section
variable {W wr w' : World} {rb gp cp gv : Nat} {p : List UInt8}
end
end Go.Proofs.Ytbbfnpfkbbpjgaa

/- mintageref03.Sum as a contract: what it computes is the sum of ShaSpec. -/
namespace Go.Proofs.Ytbbfnpfkbbpjgaa
open Go.RowKit Go.Lib

end Go.Proofs.Ytbbfnpfkbbpjgaa

/- The reference's Put, PutText (mintageref01) as contracts. -/
namespace Go.Proofs.Ytbbfnpfkbbpjgaa
open Go.RowKit Go.Lib

end Go.Proofs.Ytbbfnpfkbbpjgaa

/- mintageref03.Of as a contract. -/
namespace Go.Proofs.Ytbbfnpfkbbpjgaa
open Go.RowKit Go.Lib

end Go.Proofs.Ytbbfnpfkbbpjgaa

/- sha.Of and the reference's Of at few parts, by lists. -/
namespace Go.Proofs.Ytbbfnpfkbbpjgaa
open Go.RowKit Go.Lib

/-- What parts under a tag come to. -/
def ofX (tag : List UInt8) (ps : List (List UInt8)) : List UInt8 := sha (putText tag ++ ps.flatMap putText)
theorem ofX_length (tag : List UInt8) (ps : List (List UInt8)) : (ofX tag ps).length = 32 := sha_length _
def txt (l : List UInt8) : ByteArray := ⟨l.toArray⟩
theorem tellL_txt (ps : List (List UInt8)) : tellL (ps.map txt) = ps.flatMap putText := by
  unfold tellL txt
  rw [List.flatMap_map]
theorem ofL_txt (tag : List UInt8) (ps : List (List UInt8)) : ofL (txt tag) (ps.map txt) = ofX tag ps := by
  unfold ofL ofX
  rw [tellL_txt]
  rfl
theorem putText_le (l : List UInt8) : (putText l).length ≤ 10 + l.length := by
  have := putL_length l.length
  unfold putText
  rw [List.length_append]
  omega
theorem tells_le (ps : List (List UInt8)) (m : Nat) (h : ∀ p ∈ ps, p.length ≤ m) : (ps.flatMap putText).length ≤ ps.length * (10 + m) := by
  induction ps with
  | nil => simp
  | cons a ps ih =>
    have h1 := putText_le a
    have h2 := h a (by simp)
    have h3 := ih (fun p hp => h p (by simp [hp]))
    rw [List.flatMap_cons, List.length_append, List.length_cons, Nat.add_mul]
    omega
theorem strs_new (w : World) (ps : List (List UInt8)) : Strs (w.alloc (.cells (ps.map fun p => Value.string (txt p)).toArray 9)) (.slice (some ⟨w.heap.size, 0, none⟩) ps.length ps.length) (ps.map txt) := by
  refine ⟨some ⟨w.heap.size, 0, none⟩, ps.length, by simp, fun i hi => ⟨w.heap.size, 0, rfl, by simp, ?_⟩⟩
  have hi' : i < ps.length := by simpa using hi
  have := Arr.cell (Arr.new w (ps.map fun p => Value.string (txt p)) 9) (i := i) (by simpa using hi')
  rw [Nat.zero_add, this]
  simp [hi']
theorem of_new (tag : List UInt8) (ps : List (List UInt8)) (w : World) (ht : tag.length ≤ 1048576) (hp : ∀ p ∈ ps, p.length ≤ 1048576) (hn : ps.length ≤ 16) :
    Calls Try.prog 108 #[.string (txt tag), .slice (some ⟨w.heap.size, 0, none⟩) ps.length ps.length] (w.alloc (.cells (ps.map fun p => Value.string (txt p)).toArray 9)) fun e w' => e = .returned (hv (ofX tag ps)) ∧ Below w.heap.size w w' := by
  have hl : (putText (txt tag).data.toList ++ tellL (ps.map txt)).length ≤ 1099511627776 := by
    have h1 := putText_le tag
    have h2 := tells_le ps 1048576 hp
    rw [tellL_txt, List.length_append]
    have h3 : ps.length * (10 + 1048576) ≤ 16 * (10 + 1048576) := Nat.mul_le_mul_right _ hn
    show (putText tag).length + _ ≤ _
    omega
  refine (of_any (txt tag) (ps.map txt) _ _ (strs_new w ps) (by simp; omega) hl).mono ?_
  rintro e w' ⟨rfl, hb⟩
  rw [ofL_txt]
  exact ⟨rfl, later (below1 w _) hb⟩
theorem one_small {a : List UInt8} (ha : a.length ≤ 1048576) : ∀ p ∈ [a], p.length ≤ 1048576 := by
  intro p hp; simp at hp; subst hp; exact ha
theorem of1 (tag a : List UInt8) (w : World) (ht : tag.length ≤ 1048576) (ha : a.length ≤ 1048576) :
    Calls Try.prog 108 #[.string ⟨tag.toArray⟩, .slice (some ⟨w.heap.size, 0, none⟩) 1 1] (w.alloc (.cells #[.string ⟨a.toArray⟩] 9)) fun e w' => e = .returned (hv (ofX tag [a])) ∧ Below w.heap.size w w' :=
  of_new tag [a] w ht (one_small ha) (by simp)
end Go.Proofs.Ytbbfnpfkbbpjgaa

/- The reference's Bytes, Hex (mintageref03) as contracts. -/
namespace Go.Proofs.Ytbbfnpfkbbpjgaa
open Go.RowKit Go.Lib

end Go.Proofs.Ytbbfnpfkbbpjgaa

/- mintagelaw03.works answers true. -/
namespace Go.Proofs.Ytbbfnpfkbbpjgaa
open Go.RowKit Go.Lib

end Go.Proofs.Ytbbfnpfkbbpjgaa

/- The law ShaParts: any parts under any tag. -/
namespace Go.Proofs.Ytbbfnpfkbbpjgaa
open Go.RowKit Go.Lib

end Go.Proofs.Ytbbfnpfkbbpjgaa
