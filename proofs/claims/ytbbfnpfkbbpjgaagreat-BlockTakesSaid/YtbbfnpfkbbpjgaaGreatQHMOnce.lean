/- Several texts of this proof in one: Once1, OnceBit, OncePub, OncePublic, OnceTell1, OncePublic2, OnceTells, OnceSign, OnceKey, OnceLaw, OnceCheck, OnceTells2, OnceCheck2, OnceWorks. -/
import Derived.Test.YtbbfnpfkbbpjgaaGreatQHMRef
import Derived.Test.YtbbfnpfkbbpjgaaGreatQHMOf
/- Package once: bit, mark, secret. -/
namespace Go.Proofs.YtbbfnpfkbbpjgaaGreat
open Go.RowKit Go.Lib
set_option linter.unusedVariables false
set_option linter.unusedSimpArgs false
set_option maxRecDepth 100000
set_option maxHeartbeats 4000000
theorem of_at (tag : List UInt8) (ps : List (List UInt8)) (v : Value) (w : World) (hv0 : Strs w v (ps.map txt)) (ht : tag.length ≤ 1048576) (hp : ∀ p ∈ ps, p.length ≤ 1048576) (hn : ps.length ≤ 16) :
  Calls Tryz.prog 61 #[.string (txt tag), v] w fun e w' => e = .returned (hv (ofX tag ps)) ∧ Below w.heap.size w w' := by
 have hl : (putText (txt tag).data.toList ++ tellL (ps.map txt)).length ≤ 1099511627776 := by
  have h1 := q5i tag
  have h2 := j2h ps 1048576 hp
  rw [q8g, List.length_append]
  have h3 : ps.length * (10 + 1048576) ≤ 16 * (10 + 1048576) := Nat.mul_le_mul_right _ hn
  show (putText tag).length + _ ≤ _
  omega
 refine (z1i (txt tag) (ps.map txt) _ _ hv0 (by simp; omega) hl).mono ?_
 rintro e w' ⟨rfl, hb⟩
 rw [j6w]
 exact ⟨rfl, hb⟩
theorem j8i {B b : Nat} {x : List UInt8} {s : List UInt8} {w : World} {all : List UInt8} (h : Lib.BuilderAt 113 5 B b (.pointer (some ⟨b, 0, none⟩)) (Lib.byteCells x ++ Lib.strCells ⟨s.toArray⟩) w) (ha : all = x ++ s) :
  Lib.IsBuilder 113 5 B b (Lib.byteCells all) w := by
 refine Or.inr ?_
 have e : Lib.byteCells all = Lib.byteCells x ++ Lib.strCells ⟨s.toArray⟩ := by rw [ha]; simp [Lib.byteCells, Lib.strCells]
 rw [e]; exact h
-- BEGIN
-- END
end Go.Proofs.YtbbfnpfkbbpjgaaGreat
