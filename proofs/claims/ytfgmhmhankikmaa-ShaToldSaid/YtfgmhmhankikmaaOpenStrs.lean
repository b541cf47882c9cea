/- An argument of the type []string. -/
import Derived.Test.YtfgmhmhankikmaaOpenHash
import Derived.Test.YtfgmhmhankikmaaOf
import Derived.SliceStrings
namespace Go.Proofs.Ytfgmhmhankikmaa
open Go.ChangeShapes Go.WideShapes Go.RowKit

theorem cellsString : Try.prog.cellsOf 9 = 1 := by kernel_rfl
set_option maxRecDepth 100000 in
theorem open_strs {H : Type} {enc : TypeId × Value → H} {w : World} {base b0 : Nat} {spare : Nat → Bool} {held : Bool} {r : Reach} {v : Value} {d : DataW H} {ps : List MemPlace}
    (hval : Value.okWide Try.prog w r b0 43 v) (hd : DataW.Trod enc Try.prog w base spare held 43 v d ps) : ∃ l : List ByteArray, Strs w v l ∧ l.length ≤ 9223372036854775807 := by
  obtain ⟨a, len, cap, rfl⟩ := okWide_slice Try.underlying43 hval
  obtain ⟨fuel, hf⟩ := hd
  rcases open_strings Try.underlying43 Try.underlying9 cellsString hf with ⟨h1, _⟩ | ⟨a', len', cap', ss, h1, _, hl, hm, hlen, _, hcell, _⟩
  · simp only [Value.cells, List.cons.injEq, and_true] at h1
    rw [h1]
    exact ⟨[], ⟨none, 0, rfl, fun i hi => by simp at hi⟩, by simp⟩
  · simp only [Value.cells, List.cons.injEq, and_true] at h1
    rw [h1]
    have hsl : len' ≤ ss.length := by rw [hlen]; split <;> omega
    have hml : cap' ≤ 9223372036854775807 := by unfold maxLen at hm; omega
    refine ⟨ss.take len', ⟨some a', cap', by rw [List.length_take, Nat.min_eq_left hsl], fun i hi => ?_⟩, by rw [List.length_take]; omega⟩
    have hi' : i < len' := by rw [List.length_take] at hi; omega
    have hc := hcell i (by omega)
    have h0 := hcell 0 (by omega)
    obtain ⟨g, off, spot⟩ := a'
    have hspot : spot = none := by simpa [Addr.add] using World.cell?_spot h0
    subst hspot
    have hadd : (⟨g, off, none⟩ : Addr).add i = ⟨g, off + i, none⟩ := by unfold Addr.add; split <;> simp_all
    rw [hadd] at hc
    refine ⟨g, off, rfl, World.block_lt_of_cell? w _ hc, ?_⟩
    rw [hc]
    simp [hi']
end Go.Proofs.Ytfgmhmhankikmaa
