/- The law ShaParts: any parts under any tag. -/
import Derived.Test.YtikphhhkikdhaaaRefOf
import Derived.Test.YtikphhhkikdhaaaWorks03
namespace Go.Proofs.Ytikphhhkikdhaaa
open Go.RowKit Go.Lib

/-- How much parts are counted as. -/
def partsN (ps : List ByteArray) : Nat := (ps.map fun s => min s.size 16384 + 1).sum
theorem partsN_take (ps : List ByteArray) (k : Nat) (h : k < ps.length) : partsN (ps.take (k + 1)) = partsN (ps.take k) + (min (ps.getD k ByteArray.empty).size 16384 + 1) := by
  unfold partsN
  rw [take_next ps k ByteArray.empty h]
  simp
theorem partsN_bound (ps : List ByteArray) (h : partsN ps ≤ 16384) : (tellL ps).length ≤ 16384 * 11 ∧ ps.length ≤ 16384 := by
  have key : ∀ ps : List ByteArray, partsN ps ≤ 16384 → (tellL ps).length ≤ partsN ps * 11 ∧ ps.length ≤ partsN ps := by
    intro ps
    induction ps with
    | nil => intro _; simp [tellL, partsN]
    | cons a ps ih =>
      intro h
      have e : partsN (a :: ps) = min a.size 16384 + 1 + partsN ps := by simp [partsN]
      obtain ⟨h1, h2⟩ := ih (by omega)
      have h3 : a.data.toList.length = a.size := by simp
      have h4 := putL_length a.data.toList.length
      have e2 : (tellL (a :: ps)).length = (putText a.data.toList).length + (tellL ps).length := by simp [tellL]
      have e3 : (putText a.data.toList).length = (putL a.data.toList.length).length + a.size := by simp [putText]
      rw [e2, e3, e, List.length_cons]
      omega
  have := key ps h
  omega

theorem strs_later {w w' : World} {v : Value} {ps : List ByteArray} (h : Strs w v ps) (hb : Below w.heap.size w w') : Strs w' v ps := by
  obtain ⟨a, cap, hv, hc⟩ := h
  refine ⟨a, cap, hv, fun i hi => ?_⟩
  obtain ⟨g, off, h1, h2, h3⟩ := hc i hi
  exact ⟨g, off, h1, Nat.lt_of_lt_of_le h2 hb.size, (hb.cell (p := ⟨g, off + i, none⟩) h2).trans h3⟩

end Go.Proofs.Ytikphhhkikdhaaa
