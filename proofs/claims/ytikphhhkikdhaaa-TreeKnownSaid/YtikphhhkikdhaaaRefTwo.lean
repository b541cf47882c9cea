/- The reference's One, Two (mintageref03). -/
import Derived.Test.YtikphhhkikdhaaaOfs
import Derived.Test.YtikphhhkikdhaaaCells
import Derived.Test.YtikphhhkikdhaaaRef03
namespace Go.Proofs.Ytikphhhkikdhaaa
open Go.RowKit Go.Lib
set_option linter.unusedVariables false
set_option linter.unusedSimpArgs false

set_option maxRecDepth 100000 in
set_option maxHeartbeats 1600000 in
theorem refOne_any (tag a : List UInt8) (w : World) (ht : tag.length ≤ 1048576) (ha : a.length ≤ 1048576) :
    Calls Try.prog 44 #[.string ⟨tag.toArray⟩, .string ⟨a.toArray⟩] w fun e w' => e = .returned (hv (ofX tag [a])) ∧ Below w.heap.size w w' := by
  obtain ⟨R, hR⟩ : ∃ R, R = ofX tag [a] := ⟨_, rfl⟩
  have HO : Hid (∀ w, Calls Try.prog 72 #[.string ⟨tag.toArray⟩, .slice (some ⟨w.heap.size, 0, none⟩) 1 1] (w.alloc (.cells #[.string ⟨a.toArray⟩] 9)) fun e w' => e = .returned (hv R) ∧ Below w.heap.size w w') := fun w => by rw [hR]; exact refOf1 tag a w ht ha
  have HL : Hid (R.length = 32) := by rw [hR]; exact ofX_length _ _
  rw [← hR]
  clear hR ht ha
  have z := HashAt.zero w
  have b := below1 w (.cells (bvs zero32).toArray 23)
  generalize (⟨tag.toArray⟩ : ByteArray) = tb at *
  generalize (⟨a.toArray⟩ : ByteArray) = ab at *
  go_enter Try.func44, Try.ntmps44
  go_wp2_with fail
  show Calls _ _ _ ((w.alloc (.cells (bvs zero32).toArray 23)).alloc _) _
  rw [show w.heap.size + 1 = (w.alloc (.cells (bvs zero32).toArray 23)).heap.size by simp]
  generalize w.alloc (.cells (bvs zero32).toArray 23) = W at *
  refine (HO.out _).mono ?_
  rintro _ wc1 ⟨rfl, hc1⟩
  replace b := later b hc1
  replace z := z.later hc1
  clear hc1
  have zr := z.row R HL.out
  have br := below_setRow (b := w.heap.size) b (Nat.le_refl _) (bvs R).toArray
  go_wp2_with (refine wpl_store_hash rfl _ _ rfl rfl rfl HL.out z ?_)
  exact bodyPost_ret (v := hv R) (ret_hash rfl _ _ rfl zr) rfl ⟨rfl, br⟩
set_option maxRecDepth 100000 in
set_option maxHeartbeats 1600000 in
theorem refTwo_any (tag a c : List UInt8) (w : World) (ht : tag.length ≤ 1048576) (ha : a.length ≤ 1048576) (hc : c.length ≤ 1048576) :
    Calls Try.prog 71 #[.string ⟨tag.toArray⟩, .string ⟨a.toArray⟩, .string ⟨c.toArray⟩] w fun e w' => e = .returned (hv (ofX tag [a, c])) ∧ Below w.heap.size w w' := by
  obtain ⟨R, hR⟩ : ∃ R, R = ofX tag [a, c] := ⟨_, rfl⟩
  have HO : Hid (∀ w, Calls Try.prog 72 #[.string ⟨tag.toArray⟩, .slice (some ⟨w.heap.size, 0, none⟩) 2 2] (w.alloc (.cells #[.string ⟨a.toArray⟩, .string ⟨c.toArray⟩] 9)) fun e w' => e = .returned (hv R) ∧ Below w.heap.size w w') := fun w => by rw [hR]; exact refOf2 tag a c w ht ha hc
  have HL : Hid (R.length = 32) := by rw [hR]; exact ofX_length _ _
  rw [← hR]
  clear hR ht ha hc
  have z := HashAt.zero w
  have b := below1 w (.cells (bvs zero32).toArray 23)
  generalize (⟨tag.toArray⟩ : ByteArray) = tb at *
  generalize (⟨a.toArray⟩ : ByteArray) = ab at *
  generalize (⟨c.toArray⟩ : ByteArray) = cb at *
  go_enter Try.func71, Try.ntmps71
  go_wp2_with fail
  show Calls _ _ _ ((w.alloc (.cells (bvs zero32).toArray 23)).alloc _) _
  rw [show w.heap.size + 1 = (w.alloc (.cells (bvs zero32).toArray 23)).heap.size by simp]
  generalize w.alloc (.cells (bvs zero32).toArray 23) = W at *
  refine (HO.out _).mono ?_
  rintro _ wc2 ⟨rfl, hc2⟩
  replace b := later b hc2
  replace z := z.later hc2
  clear hc2
  have zr := z.row R HL.out
  have br := below_setRow (b := w.heap.size) b (Nat.le_refl _) (bvs R).toArray
  go_wp2_with (refine wpl_store_hash rfl _ _ rfl rfl rfl HL.out z ?_)
  exact bodyPost_ret (v := hv R) (ret_hash rfl _ _ rfl zr) rfl ⟨rfl, br⟩
end Go.Proofs.Ytikphhhkikdhaaa
