/- The reference's One, Two (mintageref03); Secret, Mark, Bit (mintageref05). -/
import Derived.Test.YtikphhhkikdhaaaOnceWorks
import Derived.Test.YtikphhhkikdhaaaCells
import Derived.Test.YtikphhhkikdhaaaRef03
namespace Go.Proofs.Ytikphhhkikdhaaa
open Go.RowKit Go.Lib

set_option maxRecDepth 100000 in
set_option maxHeartbeats 1600000 in
theorem refOne_any (tag a : List UInt8) (w : World) (ht : tag.length ≤ 1048576) (ha : a.length ≤ 1048576) :
    Calls Try.prog 44 #[.string ⟨tag.toArray⟩, .string ⟨a.toArray⟩] w fun e w' => e = .returned (hv (ofX tag [a])) ∧ Below w.heap.size w w' := by
  obtain ⟨R, hR⟩ : ∃ R, R = ofX tag [a] := ⟨_, rfl⟩
  have HO : Hid (∀ w, Calls Try.prog 72 #[.string ⟨tag.toArray⟩, .slice (some ⟨w.heap.size, 0, none⟩) 1 1] (w.alloc (.cells #[.string ⟨a.toArray⟩] 9)) fun e w' => e = .returned (hv R) ∧ Below w.heap.size w w') := fun w => by rw [hR]; exact refOf1 tag a w ht ha
  have HL : Hid (R.length = 32) := by rw [hR]; exact ofX_length _ _
  rw [← hR]
  clear hR ht ha
  have z := HashAt.zero w
  have b := below1 w (.cells (bvs zero32).toArray 23)
  generalize (⟨tag.toArray⟩ : ByteArray) = tb at *
  generalize (⟨a.toArray⟩ : ByteArray) = ab at *
  go_enter Try.func44, Try.ntmps44
  go_wp2_with fail
  show Calls _ _ _ ((w.alloc (.cells (bvs zero32).toArray 23)).alloc _) _
  rw [show w.heap.size + 1 = (w.alloc (.cells (bvs zero32).toArray 23)).heap.size by simp]
  generalize w.alloc (.cells (bvs zero32).toArray 23) = W at *
  refine (HO.out _).mono ?_
  rintro _ wc1 ⟨rfl, hc1⟩
  replace b := later b hc1
  replace z := z.later hc1
  clear hc1
  have zr := z.row R HL.out
  have br := below_setRow (b := w.heap.size) b (Nat.le_refl _) (bvs R).toArray
  go_wp2_with (refine wpl_store_hash rfl _ _ rfl rfl rfl HL.out z ?_)
  exact bodyPost_ret (v := hv R) (ret_hash rfl _ _ rfl zr) rfl ⟨rfl, br⟩
set_option maxRecDepth 100000 in
set_option maxHeartbeats 1600000 in
theorem refTwo_any (tag a c : List UInt8) (w : World) (ht : tag.length ≤ 1048576) (ha : a.length ≤ 1048576) (hc : c.length ≤ 1048576) :
    Calls Try.prog 71 #[.string ⟨tag.toArray⟩, .string ⟨a.toArray⟩, .string ⟨c.toArray⟩] w fun e w' => e = .returned (hv (ofX tag [a, c])) ∧ Below w.heap.size w w' := by
  obtain ⟨R, hR⟩ : ∃ R, R = ofX tag [a, c] := ⟨_, rfl⟩
  have HO : Hid (∀ w, Calls Try.prog 72 #[.string ⟨tag.toArray⟩, .slice (some ⟨w.heap.size, 0, none⟩) 2 2] (w.alloc (.cells #[.string ⟨a.toArray⟩, .string ⟨c.toArray⟩] 9)) fun e w' => e = .returned (hv R) ∧ Below w.heap.size w w') := fun w => by rw [hR]; exact refOf2 tag a c w ht ha hc
  have HL : Hid (R.length = 32) := by rw [hR]; exact ofX_length _ _
  rw [← hR]
  clear hR ht ha hc
  have z := HashAt.zero w
  have b := below1 w (.cells (bvs zero32).toArray 23)
  generalize (⟨tag.toArray⟩ : ByteArray) = tb at *
  generalize (⟨a.toArray⟩ : ByteArray) = ab at *
  generalize (⟨c.toArray⟩ : ByteArray) = cb at *
  go_enter Try.func71, Try.ntmps71
  go_wp2_with fail
  show Calls _ _ _ ((w.alloc (.cells (bvs zero32).toArray 23)).alloc _) _
  rw [show w.heap.size + 1 = (w.alloc (.cells (bvs zero32).toArray 23)).heap.size by simp]
  generalize w.alloc (.cells (bvs zero32).toArray 23) = W at *
  refine (HO.out _).mono ?_
  rintro _ wc2 ⟨rfl, hc2⟩
  replace b := later b hc2
  replace z := z.later hc2
  clear hc2
  have zr := z.row R HL.out
  have br := below_setRow (b := w.heap.size) b (Nat.le_refl _) (bvs R).toArray
  go_wp2_with (refine wpl_store_hash rfl _ _ rfl rfl rfl HL.out z ?_)
  exact bodyPost_ret (v := hv R) (ret_hash rfl _ _ rfl zr) rfl ⟨rfl, br⟩
set_option maxRecDepth 100000 in
set_option maxHeartbeats 1600000 in
theorem refMark_any (s : List UInt8) (w : World) (hs : s.length ≤ 1048576) :
    Calls Try.prog 42 #[.string ⟨s.toArray⟩] w fun e w' => e = .returned (.string ⟨(markL s).toArray⟩) ∧ Below w.heap.size w w' := by
  obtain ⟨R, hR⟩ : ∃ R, R = markL s := ⟨_, rfl⟩
  have HO : Hid (∀ w, Calls Try.prog 44 #[.string ⟨#[109, 97, 114, 107]⟩, .string ⟨s.toArray⟩] w fun e w' => e = .returned (hv R) ∧ Below w.heap.size w w') := fun w => by rw [hR]; exact refOne_any tagMark s w (by decide) hs
  have HB : Hid (∀ w, Calls Try.prog 70 #[hv R] w fun e w' => e = .returned (.string ⟨R.toArray⟩) ∧ Below w.heap.size w w') := fun w => refBytes_any R w (by rw [hR]; exact markL_length _)
  rw [← hR]
  clear hR hs
  have b := Below.refl w.heap.size w
  generalize (⟨s.toArray⟩ : ByteArray) = sb at *
  go_enter Try.func42, Try.ntmps42
  go_wp2_with fail
  refine (HO.out _).mono ?_
  rintro _ wc3 ⟨rfl, hc3⟩
  replace b := later b hc3
  clear hc3
  go_wp2_with fail
  refine (HB.out _).mono ?_
  rintro _ wc4 ⟨rfl, hc4⟩
  replace b := later b hc4
  clear hc4
  go_wp2_with fail
  go_ret
  exact ⟨rfl, b⟩
set_option maxRecDepth 100000 in
set_option maxHeartbeats 1600000 in
theorem refSecret_any (seed : List UInt8) (i k : Nat) (hl : seed.length = 32) (hi : i < 16) (hk : k < 2) (w : World) :
    Calls Try.prog 43 #[hv seed, .int .i64 i, .int .i64 k] w fun e w' => e = .returned (.string ⟨(secretL seed i k).toArray⟩) ∧ Below w.heap.size w w' := by
  obtain ⟨R, hR⟩ : ∃ R, R = secretL seed i k := ⟨_, rfl⟩
  obtain ⟨c, hc⟩ : ∃ c : UInt8, c = UInt8.ofNat (2 * i + k) := ⟨_, rfl⟩
  have HT : Hid (∀ w, Calls Try.prog 71 #[.string ⟨#[115, 101, 99, 114, 101, 116]⟩, .string ⟨seed.toArray⟩, .string ⟨#[c]⟩] w fun e w' => e = .returned (hv R) ∧ Below w.heap.size w w') := fun w => by
    rw [hR, hc]; exact refTwo_any tagSecret seed [UInt8.ofNat (2 * i + k)] w (by decide) (by omega) (by simp)
  have HB : Hid (∀ w, Calls Try.prog 70 #[hv R] w fun e w' => e = .returned (.string ⟨R.toArray⟩) ∧ Below w.heap.size w w') := fun w => refBytes_any R w (by rw [hR]; exact secretL_length _ _ _)
  have HS : Hid (∀ w, Calls Try.prog 70 #[hv seed] w fun e w' => e = .returned (.string ⟨seed.toArray⟩) ∧ Below w.heap.size w w') := fun w => refBytes_any seed w hl
  have HC : Hid ((2 * (i : Int) + (k : Int)) = (c.toNat : Int)) := by rw [hc, UInt8.toNat_ofNat']; unfold Hid; omega
  rw [← hR]
  have hA := HashAt.new w seed hl
  have hB := below1 w (.cells (bvs seed).toArray 23)
  clear hR hc hl
  unfold hv
  go_enter Try.func43, Try.ntmps43
  go_wp2_with fail
  show Code.wp _ _ _ _ (w.alloc (.cells (bvs seed).toArray 23))
  generalize w.alloc (.cells (bvs seed).toArray 23) = W at *
  have hs1 : w.heap.size < W.heap.size := hA.lt
  refine region_float W.heap.size [([0, 2, 3, 4, 5, 6], true, [1]), ([], false, [7]), ([], false, [8]), ([], true, [9]), ([], true, [10]), ([], false, [11])] (by kernel_rfl) (by kernel_rfl) (by kernel_rfl) (by decide) (by first | exact Nat.le_refl _ | omega) ?_
  intro wf0 hwf0 hsf0
  simp only [pickFl, pickOps, List.getElem?_cons_succ, List.getElem?_cons_zero, List.nil_append, List.cons_append]
  refine fl_float ?_
  repeat (first | go_big_quiet_skip | (go_big_quiet_want; first | (refine mix_load_hash _ rfl rfl (by assumption) (by first | assumption | omega) ?_; simp only [Act.put, List.setIfInBounds_toArray, List.set_cons_succ, List.set_cons_zero]; go_big_quiet_on) | (go_big_quiet_op; go_big_quiet_on)))
  refine wpQuiet_nil ?_
  refine fl_call (args := #[hv seed]) (by rfl) rfl (by kernel_rfl) (by simp only [List.map_toArray, List.map_cons, List.map_nil]; rfl) (fun w' hC => HS.out w') ?_
  intro _ _
  simp only [Act.put, List.setIfInBounds_toArray, List.set_cons_succ, List.set_cons_zero]
  refine fl_loud ?_
  repeat (first | go_big_quiet_skip | (go_big_quiet_want; first | (refine mix_load_hash _ rfl rfl (by assumption) (by first | assumption | omega) ?_; simp only [Act.put, List.setIfInBounds_toArray, List.set_cons_succ, List.set_cons_zero]; go_big_quiet_on) | (go_big_quiet_op; go_big_quiet_on)))
  refine wpQuiet_nil ?_
  intro w2 hw2 hC2
  go_wp2_with fail
  rw [HC.out]
  have hy : Byts (w2.alloc (.cells (bvs [c]).toArray 5)) w2.heap.size 5 [c] := Arr.new w2 (bvs [c]) 5
  have hb2 := below1 w2 (.cells (bvs [c]).toArray 5)
  show mixQ _ _ _ _ (w2.alloc (.cells (bvs [c]).toArray 5))
  refine mixQ_mk (mixed_now (Nat.le_refl _) hC2 hb2) ?_
  generalize w2.alloc (.cells (bvs [c]).toArray 5) = W2 at *
  refine fl_loud ?_
  repeat (first | go_big_quiet_skip | (go_big_quiet_want; first | (refine mix_load_hash _ rfl rfl (by assumption) (by first | assumption | omega) ?_; simp only [Act.put, List.setIfInBounds_toArray, List.set_cons_succ, List.set_cons_zero]; go_big_quiet_on) | (go_big_quiet_op; go_big_quiet_on)))
  refine wpQuiet_nil ?_
  intro w3 hw3 hC3
  have ht := Byts.text (P := Try.prog) (hy.later hw3 : Byts _ _ _ _) 53 9 5 1 1 rfl Try.underlying53 Try.underlying5 Try.underlying9
  go_wp2_with fail
  refine mixQ_mk hC3 ?_
  clear ht hy hw3 hw2 hb2
  refine fl_float ?_
  repeat (first | go_big_quiet_skip | (go_big_quiet_want; first | (refine mix_load_hash _ rfl rfl (by assumption) (by first | assumption | omega) ?_; simp only [Act.put, List.setIfInBounds_toArray, List.set_cons_succ, List.set_cons_zero]; go_big_quiet_on) | (go_big_quiet_op; go_big_quiet_on)))
  refine wpQuiet_nil ?_
  refine fl_call (args := #[.string ⟨#[115, 101, 99, 114, 101, 116]⟩, .string ⟨seed.toArray⟩, .string ⟨#[c]⟩]) (by rfl) rfl (by kernel_rfl) (by simp only [List.map_toArray, List.map_cons, List.map_nil]; rfl) (fun w' hC => HT.out w') ?_
  intro _ _
  simp only [Act.put, List.setIfInBounds_toArray, List.set_cons_succ, List.set_cons_zero]
  refine fl_float ?_
  repeat (first | go_big_quiet_skip | (go_big_quiet_want; first | (refine mix_load_hash _ rfl rfl (by assumption) (by first | assumption | omega) ?_; simp only [Act.put, List.setIfInBounds_toArray, List.set_cons_succ, List.set_cons_zero]; go_big_quiet_on) | (go_big_quiet_op; go_big_quiet_on)))
  refine wpQuiet_nil ?_
  refine fl_call (args := #[hv R]) (by rfl) rfl (by kernel_rfl) (by simp only [List.map_toArray, List.map_cons, List.map_nil]; rfl) (fun w' hC => HB.out w') ?_
  intro _ _
  simp only [Act.put, List.setIfInBounds_toArray, List.set_cons_succ, List.set_cons_zero]
  refine fl_loud ?_
  repeat (first | go_big_quiet_skip | (go_big_quiet_want; first | (refine mix_load_hash _ rfl rfl (by assumption) (by first | assumption | omega) ?_; simp only [Act.put, List.setIfInBounds_toArray, List.set_cons_succ, List.set_cons_zero]; go_big_quiet_on) | (go_big_quiet_op; go_big_quiet_on)))
  refine wpQuiet_nil ?_
  intro w9 hw9 hC9
  go_wp2_with fail
  refine mixQ_mk hC9 (fl_end ?_)
  intro w10 hw10 hC10
  obtain ⟨s, rfl⟩ := hC10
  have hend := later hB s.ok
  go_wp2_with fail
  go_ret
  exact ⟨rfl, hend⟩
end Go.Proofs.Ytikphhhkikdhaaa
