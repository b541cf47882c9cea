/- An argument of the type api.Hash is 32 bytes. -/
import Derived.Test.YtikphhhkikdhaaaLaw
import Derived.Test.YtikphhhkikdhaaaShaSum
import Derived.OpenShut
namespace Go.Proofs.Ytikphhhkikdhaaa
open Go.ChangeShapes Go.WideShapes Go.RowKit

theorem cellsHash : Try.prog.cellsOf 23 = 32 := by kernel_rfl
theorem cellsByte : Try.prog.cellsOf 5 = 1 := by kernel_rfl
set_option maxRecDepth 100000 in
theorem open_hash {H : Type} {enc : TypeId × Value → H} {w : World} {base b0 : Nat} {spare : Nat → Bool} {held : Bool} {r : Reach} {v : Value} {d : DataW H} {ps : List MemPlace}
    (hval : Value.okWide Try.prog w r b0 23 v) (hd : DataW.Trod enc Try.prog w base spare held 23 v d ps) : ∃ l : List UInt8, l.length = 32 ∧ v = hv l := by
  obtain ⟨cs, rfl, hsz, _⟩ : ∃ cs, v = .agg cs ∧ cs.size = Try.prog.cellsOf 23 ∧ Row.okWide Try.prog w r b0 23 cs := by
    simpa [Value.okWide, Try.underlying23] using hval
  obtain ⟨fuel, hf⟩ := hd
  obtain ⟨xs, m, _, _, hlen, hxs, hel⟩ := DataW.trod_array Try.underlying23 hf
  rw [cellsHash] at hsz
  rw [cellsByte] at hel
  have hcl : cs.toList.length = 32 := by simpa using hsz
  have hcell : ∀ i, (h : i < cs.toList.length) → ∃ n : UInt8, cs.toList[i] = .int .u8 (n.toNat : Int) := by
    intro i hi
    have h1 := hel i (by omega)
    have hx : i < xs.length := by omega
    rw [List.getElem?_eq_getElem hx] at h1
    obtain ⟨n, hn, _, hw⟩ := DataW.trod_int Try.underlying5 h1
    simp only [Nat.mul_one, Value.cells] at hn
    have h2 : ((cs.toList.drop i).take 1)[0]? = some (.int .u8 n) := by rw [hn]; rfl
    have h3 : cs.toList[i]? = some (.int .u8 n) := by
      rw [List.getElem?_take, if_pos (by omega), List.getElem?_drop, Nat.add_zero] at h2
      exact h2
    have hb := bounds_u8 hw
    refine ⟨UInt8.ofNat n.toNat, ?_⟩
    rw [List.getElem?_eq_getElem hi] at h3
    rw [Option.some.inj h3, UInt8.toNat_ofNat']
    congr 1
    omega
  refine ⟨cs.toList.map (fun v => UInt8.ofNat (RowKit.intOf v).toNat), by simpa using hcl, ?_⟩
  unfold hv
  congr 1
  apply Array.ext'
  apply List.ext_getElem
  · simp [bvs]
  · intro i h1 h2
    obtain ⟨n, hn⟩ := hcell i h1
    simp only [bvs, List.getElem_map, hn, RowKit.intOf]
    simp
end Go.Proofs.Ytikphhhkikdhaaa
