/- The law ShaKnown: the document's examples. -/
import Derived.Test.YtfgmhmhankikmaaWorks03
namespace Go.Proofs.Ytfgmhmhankikmaa
open Go.RowKit Go.Lib

theorem hex_none : hexL (sha []) = [101, 51, 98, 48, 99, 52, 52, 50, 57, 56, 102, 99, 49, 99, 49, 52, 57, 97, 102, 98, 102, 52, 99, 56, 57, 57, 54, 102, 98, 57, 50, 52, 50, 55, 97, 101, 52, 49, 101, 52, 54, 52, 57, 98, 57, 51, 52, 99, 97, 52, 57, 53, 57, 57, 49, 98, 55, 56, 53, 50, 98, 56, 53, 53] := by decide +kernel
theorem read_short : readL (Lib.repeatL [48] 63) = (zero32, 2) := by decide +kernel
theorem read_big : readL (Lib.repeatL [48] 63 ++ [65]) = (zero32, 2) := by decide +kernel
theorem of_t : ofL ⟨#[116]⟩ [⟨#[97, 98]⟩] = sha [1, 116, 2, 97, 98] := by
  unfold ofL
  rw [show putText (⟨#[116]⟩ : ByteArray).data.toList ++ tellL [⟨#[97, 98]⟩] = [1, 116, 2, 97, 98] by decide +kernel]

set_option maxRecDepth 100000 in
set_option maxHeartbeats 3200000 in
theorem shaKnown_law (w : World) : Calls Try.prog 13 #[] w fun e w' => e = .returned (.bool true) ∧ Below w.heap.size w w' := by
  have hi0 : Hid ((Try.prog.info? 23).map (·.size) = some (bvs zero32).toArray.size) := by unfold Hid; kernel_rfl
  have ho0 := hide (show (bvs zero32).toArray.all (·.oneCell') = true by simpa using bvs_one zero32)
  have HR1 := hide (fun w : World => Try.strings_Repeat ⟨#[48]⟩ 63 w (by omega) (by show 1 * _ ≤ _; omega))
  replace HR1 : Hid (∀ w : World, Calls Try.prog 35 #[.string ⟨#[48]⟩, .int .i64 63] w fun e w' => e = .returned (.string ⟨(Lib.repeatL [48] 63).toArray⟩) ∧ Below w.heap.size w w') := HR1
  have HS := hide (show (⟨(Lib.repeatL [48] 63).toArray⟩ : ByteArray).size = 63 from rfl)
  have HA := hide (show readL (⟨(Lib.repeatL [48] 63).toArray⟩ : ByteArray).data.toList = (zero32, 2) from read_short)
  have HB : Hid (readL ((⟨(Lib.repeatL [48] 63).toArray⟩ : ByteArray) ++ ⟨#[65]⟩).data.toList = (zero32, 2)) := by
    have : ((⟨(Lib.repeatL [48] 63).toArray⟩ : ByteArray) ++ ⟨#[65]⟩).data.toList = Lib.repeatL [48] 63 ++ [65] := by simp
    unfold Hid; rw [this]; exact read_big
  generalize (⟨(Lib.repeatL [48] 63).toArray⟩ : ByteArray) = zs at *
  go_enter Try.func13, Try.ntmps13
  go_wp2_with fail
  refine (HR1.out _).mono ?_
  rintro _ w1 ⟨rfl, hb1⟩
  go_wp2_with fail
  refine (read_any _ _).mono ?_
  rintro _ w2 ⟨rfl, hb2⟩
  rw [HA.out]
  have q2 := hide (Arr.new w2 (bvs zero32) 23)
  have W2 := hide (later (later hb1 hb2) (below_setRow (below1 w2 (.cells (bvs zero32).toArray 23)) (Nat.le_refl _) (bvs zero32).toArray))
  clear hb1 hb2
  simp only [hv]
  go_wp2_with (refine wpList_store_row rfl 23 (.tmp 1) (.tmp 8) rfl w2.heap.size (bvs zero32).toArray rfl rfl 23 _ q2.out hi0.out rfl ho0.out ?_)
  show Calls _ _ _ ((w2.alloc (.cells (bvs zero32).toArray 23)).setRow w2.heap.size (bvs zero32).toArray) _
  clear q2
  generalize (w2.alloc (.cells (bvs zero32).toArray 23)).setRow w2.heap.size (bvs zero32).toArray = w3 at *
  refine (HR1.out _).mono ?_
  rintro _ w4 ⟨rfl, hb4⟩
  have c1 : ¬ 9223372036854775807 < zs.size + (⟨#[65]⟩ : ByteArray).size := by rw [HS.out]; show ¬ _ < 63 + 1; omega
  go_wp2_with fail
  refine (read_any _ _).mono ?_
  rintro _ w5 ⟨rfl, hb5⟩
  rw [HB.out]
  have q5 := hide (Arr.new w5 (bvs zero32) 23)
  have W5 := hide (later W2.out (later (later hb4 hb5) (below_setRow (below1 w5 (.cells (bvs zero32).toArray 23)) (Nat.le_refl _) (bvs zero32).toArray)))
  clear hb4 hb5 W2 c1
  simp only [hv]
  go_wp2_with (refine wpList_store_row rfl 23 (.tmp 3) (.tmp 14) rfl w5.heap.size (bvs zero32).toArray rfl rfl 23 _ q5.out hi0.out rfl ho0.out ?_)
  show Calls _ _ _ ((w5.alloc (.cells (bvs zero32).toArray 23)).setRow w5.heap.size (bvs zero32).toArray) _
  clear q5
  generalize (w5.alloc (.cells (bvs zero32).toArray 23)).setRow w5.heap.size (bvs zero32).toArray = w6 at *
  generalize zs ++ ⟨#[65]⟩ = zt at *
  refine (works03 _).mono ?_
  rintro _ w7 ⟨rfl, hb7⟩
  go_wp2_with fail
  refine (sum_any _ _ (by show 0 ≤ _; omega)).mono ?_
  rintro _ w8 ⟨rfl, hb8⟩
  go_wp2_with fail
  refine (hex_any _ _ (sha_length _)).mono ?_
  rintro _ w9 ⟨rfl, hb9⟩
  rw [show hexL (sha ((⟨#[]⟩ : ByteArray).data.toList)) = _ from hex_none]
  have W9 := hide (later W5.out (later hb7 (later hb8 hb9)))
  clear hb7 hb8 hb9 W5
  go_wp2_with fail
  refine (of_any ⟨#[116]⟩ [⟨#[97, 98]⟩] _ _ ⟨some ⟨w9.heap.size, 0, none⟩, 1, rfl, fun i hi => ⟨w9.heap.size, 0, rfl, by simp, ?hc⟩⟩ (by simp) (by decide +kernel)).mono ?_
  case hc =>
    have : i = 0 := by simp at hi; omega
    subst this
    have := Arr.cell (Arr.new w9 [.string ⟨#[97, 98]⟩] 9) (i := 0) (by decide)
    exact this
  rintro _ w10 ⟨rfl, hb10⟩
  rw [of_t]
  have W10 := hide (later W9.out (later (below1 w9 (.cells #[.string ⟨#[97, 98]⟩] 9)) hb10))
  clear hb10 W9
  go_wp2_with fail
  refine (sum_any _ _ (by show 5 ≤ _; omega)).mono ?_
  rintro _ w11 ⟨rfl, hb11⟩
  have W11 := hide (later W10.out hb11)
  clear hb11 W10
  rw [show sha ((⟨#[1, 116, 2, 97, 98]⟩ : ByteArray).data.toList) = sha [1, 116, 2, 97, 98] from rfl]
  have HL := hide (sha_length [1, 116, 2, 97, 98])
  generalize sha [1, 116, 2, 97, 98] = h5 at *
  simp only [hv]
  have heq : ∀ w, (Op.equalIn 10000 23 (.agg (bvs h5).toArray) (.agg (bvs h5).toArray)).run Try.prog w = .ok true w := fun w => by rw [run_eq_hash h5 h5 HL.out HL.out]; simp
  go_wp2_with fail
  go_ret
  exact ⟨rfl, W11.out⟩
end Go.Proofs.Ytfgmhmhankikmaa
