/- The reference's Tells, Check (mintageref05). -/
import Derived.Test.YtikphhhkikdhaaaOnceRef2
namespace Go.Proofs.Ytikphhhkikdhaaa
open Go.RowKit Go.Lib
set_option linter.unusedVariables false

set_option maxRecDepth 100000 in
set_option maxHeartbeats 1600000 in
theorem refTells_any (m : List UInt8) (sig : ByteArray) (hl : m.length = 32) (hs : sig.size = 1024) (w : World) :
    Calls Try.prog 23 #[hv m, .string sig] w fun e w' => e = .returned (.tuple #[hv (tellsL m sig), .int .i64 0]) ∧ Below w.heap.size w w' := by
  obtain ⟨R, hR⟩ : ∃ R, R = tellsL m sig := ⟨_, rfl⟩
  have HRA : Hid (R = ofX tagOnce [joinM (tellM m sig) 16]) := hR
  have HL : Hid (R.length = 32) := by rw [hR]; exact tellsL_length _ _
  rw [← hR]
  clear hR
  have HB := hide (fun (i : Nat) w (hi : i < 16) => refBit_any m i hl hi w)
  have HSZ := hide hs
  have hs1 : sig.size ≤ 1024 := by omega
  have hs2 : 1024 ≤ sig.size := by omega
  have d0 : ((sig.size : Int) != 1024) = false := by simp [hs]
  have hM0 := HashAt.alloc (HashAt.new w m hl) (.cells (bvs zero32).toArray 23)
  have hZ0 := HashAt.new2 w (.cells (bvs m).toArray 23) zero32 rfl
  have b0 := below2 w (.cells (bvs m).toArray 23) (.cells (bvs zero32).toArray 23)
  clear hl hs
  unfold hv
  go_enter Try.func23, Try.ntmps23
  go_wp2_with fail
  go_loopw [6, 7] (fun s i wr => ∃ (k : Nat) (S : ByteArray), k ≤ 16 ∧ i = .int .i64 k ∧ s = .string S ∧ Hid (S = ⟨(joinM (tellM m sig) k).toArray⟩) ∧ HashAt wr w.heap.size m ∧ HashAt wr (w.heap.size + 1) zero32 ∧ Below w.heap.size w wr) (fun _ i _ => 16 - (RowKit.intOf i).toNat)
  case atStart => exact ⟨0, _, by omega, rfl, rfl, rfl, hM0, hZ0, b0⟩
  case round =>
    obtain ⟨k, S, hk, rfl, rfl, HSS, hM, hZ, b⟩ := hrel
    clear hM0 hZ0 b0
    by_cases hlt : k < 16
    · have C0 := hide (fun w => HB.out k w hlt)
      have hq := bitL_lt m k
      obtain ⟨q, hq'⟩ : ∃ q, q = bitL m k := ⟨_, rfl⟩
      rw [← hq'] at C0 hq
      obtain ⟨X, hX⟩ : ∃ u : ByteArray, u = ⟨(markL (cut sig (64 * k) (64 * k + 32))).toArray⟩ := ⟨_, rfl⟩
      have D1 : Hid (∀ w, Calls Try.prog 42 #[.string (sig.extract (64 * k) (64 * k + 32))] w fun e w' => e = .returned (.string X) ∧ Below w.heap.size w w') := fun w => by
        rw [hX]
        have := refMark_any (cut sig (64 * k) (64 * k + 32)) w (by rw [cut_length _ _ _ (by omega)]; omega)
        rwa [show (⟨(cut sig (64 * k) (64 * k + 32)).toArray⟩ : ByteArray) = sig.extract (64 * k) (64 * k + 32) from txt_back _] at this
      have e0 : S.size = 64 * k := by rw [HSS.out, ba_size, joinM_length _ (tellM_length m sig HSZ.out)]
      have e1 : X.size = 32 := by rw [hX, ba_size, markL_length]
      have hY : (⟨(cut sig (64 * k + 32) (64 * k + 64)).toArray⟩ : ByteArray) = sig.extract (64 * k + 32) (64 * k + 64) := txt_back _
      have HN0 : Hid (q = 0 → S ++ X ++ sig.extract (64 * k + 32) (64 * k + 64) = ⟨(joinM (tellM m sig) (k + 1)).toArray⟩) := fun h => by
        rw [HSS.out, hX, ← hY, cat_bytes, cat_bytes, joinM_succ]
        unfold tellM
        rw [if_neg (by omega), if_pos (by omega)]
      have HN1 : Hid (q = 1 → S ++ sig.extract (64 * k + 32) (64 * k + 64) ++ X = ⟨(joinM (tellM m sig) (k + 1)).toArray⟩) := fun h => by
        rw [HSS.out, hX, ← hY, cat_bytes, cat_bytes, joinM_succ]
        unfold tellM
        rw [if_neg (by omega), if_neg (by omega)]
      have e2 : (sig.extract (64 * k + 32) (64 * k + 64)).size = 32 := by rw [ByteArray.size_extract]; omega
      clear hq' hX hY
      go_wp2_with fail
      refine (D1.out _).mono ?_
      rintro _ wc1 ⟨rfl, hc1⟩
      replace hM := hM.later hc1
      replace hZ := hZ.later hc1
      replace b := later b hc1
      clear hc1
      go_wp2_with (refine wpl_load_hash rfl _ rfl rfl (by assumption) ?_)
      obtain ⟨Y, hY⟩ : ∃ u : ByteArray, u = sig.extract (64 * k + 32) (64 * k + 64) := ⟨_, rfl⟩
      rw [← hY] at HN0 HN1 e2 ⊢
      have z1 : ¬ 9223372036854775807 < S.size + X.size := by omega
      have z2 : ¬ 9223372036854775807 < (S ++ X).size + Y.size := by rw [ByteArray.size_append]; omega
      have z3 : ¬ 9223372036854775807 < S.size + Y.size := by omega
      have z4 : ¬ 9223372036854775807 < (S ++ Y).size + X.size := by rw [ByteArray.size_append]; omega
      clear hY e0 e1 e2
      refine (C0.out _).mono ?_
      rintro _ wc2 ⟨rfl, hc2⟩
      replace hM := hM.later hc2
      replace hZ := hZ.later hc2
      replace b := later b hc2
      clear hc2
      rcases (by omega : q = 0 ∨ q = 1) with rfl | rfl
      · go_wp2_with fail
        generalize hT : S ++ X ++ Y = T at *
        have HT := hide (HN0.out (by first | rfl | trivial))
        clear hT
        go_roundw
        case rel => exact ⟨k + 1, T, by omega, by simp, rfl, HT, hM, hZ, b⟩
        case measure => simp [RowKit.intOf]; omega
      · go_wp2_with fail
        generalize hT : S ++ Y ++ X = T at *
        have HT := hide (HN1.out (by first | rfl | trivial))
        clear hT
        go_roundw
        case rel => exact ⟨k + 1, T, by omega, by simp, rfl, HT, hM, hZ, b⟩
        case measure => simp [RowKit.intOf]; omega
    · have hk16 : k = 16 := by omega
      subst hk16
      have HO : Hid (∀ w, Calls Try.prog 44 #[.string ⟨#[111, 110, 99, 101]⟩, .string S] w fun e w' => e = .returned (hv R) ∧ Below w.heap.size w w') := fun w => by
        rw [HRA.out, HSS.out]; exact refOne_any tagOnce _ w (by decide) (by rw [joinM_length _ (tellM_length m sig HSZ.out)]; omega)
      clear HB
      go_wp2_with fail
      refine (HO.out _).mono ?_
      rintro _ wc3 ⟨rfl, hc3⟩
      replace b := later b hc3
      replace hZ := hZ.later hc3
      clear hc3
      have zr := hZ.row R HL.out
      have br := below_setRow (b := w.heap.size + 1) b (by omega) (bvs R).toArray
      go_wp2_with (refine wpl_store_hash rfl _ _ rfl rfl rfl HL.out hZ ?_)
      exact bodyPost_ret (ret_hash_tmp rfl _ _ (.int .i64 0) rfl rfl zr) rfl ⟨rfl, br⟩
set_option maxRecDepth 100000 in
set_option maxHeartbeats 400000 in
theorem refTells_bad (m : List UInt8) (sig : ByteArray) (hl : m.length = 32) (hs : sig.size ≠ 1024) (w : World) :
    Calls Try.prog 23 #[hv m, .string sig] w fun e w' => e = .returned (.tuple #[hv zero32, .int .i64 6]) ∧ Below w.heap.size w w' := by
  have hZ := HashAt.new2 w (.cells (bvs m).toArray 23) zero32 rfl
  have b0 := below2 w (.cells (bvs m).toArray 23) (.cells (bvs zero32).toArray 23)
  have hd : ((sig.size : Int) != 1024) = true := by simp; omega
  clear hs
  unfold hv
  go_enter Try.func23, Try.ntmps23
  have q1 := hZ.row zero32 rfl
  have b1 := below_setRow b0 (show w.heap.size ≤ w.heap.size + 1 by omega) (bvs zero32).toArray
  go_wp2_with (first | (refine wpl_build rfl 23 _ rfl (bvs zero32).toArray (by simpa using hashBuilt) ?_) | (refine wpl_store_hash (w := (w.alloc (.cells (bvs m).toArray 23)).alloc (.cells (bvs zero32).toArray 23)) rfl _ _ rfl rfl rfl rfl hZ ?_))
  show bodyPost _ _ _ _ _ (((w.alloc (.cells (bvs m).toArray 23)).alloc (.cells (bvs zero32).toArray 23)).setRow (w.heap.size + 1) (bvs zero32).toArray)
  generalize ((w.alloc (.cells (bvs m).toArray 23)).alloc (.cells (bvs zero32).toArray 23)).setRow (w.heap.size + 1) (bvs zero32).toArray = W at *
  exact bodyPost_ret (ret_hash_tmp (g := w.heap.size + 1) rfl _ _ (.int .i64 6) rfl rfl q1) rfl ⟨rfl, b1⟩
theorem refTells_all (m : List UInt8) (sig : ByteArray) (hl : m.length = 32) (w : World) :
    Calls Try.prog 23 #[hv m, .string sig] w fun e w' => e = .returned (.tuple #[hv (tellsR m sig).1, .int .i64 (tellsR m sig).2]) ∧ Below w.heap.size w w' := by
  unfold tellsR
  by_cases h : sig.size = 1024
  · rw [if_pos h]; exact refTells_any m sig hl h w
  · rw [if_neg h]; exact refTells_bad m sig hl h w
set_option maxRecDepth 100000 in
set_option maxHeartbeats 800000 in
theorem refCheck_any (p m : List UInt8) (sig : ByteArray) (hp : p.length = 32) (hl : m.length = 32) (hs : sig.size = 1024) (w : World) :
    Calls Try.prog 24 #[hv p, hv m, .string sig] w fun e w' => e = .returned (.bool (decide (tellsL m sig = p))) ∧ Below w.heap.size w w' := by
  have HT := hide (fun w => refTells_any m sig hl hs w)
  have HLR := hide (tellsL_length m sig)
  have hP := HashAt.alloc (HashAt.new w p hp) (.cells (bvs m).toArray 23)
  have hM := HashAt.new2 w (.cells (bvs p).toArray 23) m hl
  have b0 := below2 w (.cells (bvs p).toArray 23) (.cells (bvs m).toArray 23)
  have HP := hide hp
  clear hl hs hp
  generalize tellsL m sig = R at *
  unfold hv
  go_enter Try.func24, Try.ntmps24
  go_wp2_with (refine wpl_load_hash (w := (w.alloc (.cells (bvs p).toArray 23)).alloc (.cells (bvs m).toArray 23)) rfl _ rfl rfl hM ?_)
  show Calls _ _ _ ((w.alloc (.cells (bvs p).toArray 23)).alloc (.cells (bvs m).toArray 23)) _
  generalize (w.alloc (.cells (bvs p).toArray 23)).alloc (.cells (bvs m).toArray 23) = W at *
  refine (HT.out _).mono ?_
  rintro _ wc4 ⟨rfl, hc4⟩
  replace hP := hP.later hc4
  replace hM := hM.later hc4
  replace b0 := later b0 hc4
  clear hc4
  go_wp2_with (first | (refine wpl_load_hash rfl _ rfl rfl (by assumption) ?_) | (refine wpl_eq_hash rfl _ _ rfl rfl rfl HLR.out HP.out ?_) | (refine wpl_new_hash rfl _ _ rfl rfl rfl HLR.out ?_; intro w3 h3 hn5; replace hP := hP.later hn5; replace b0 := later b0 hn5; clear hn5))
  go_ret
  exact ⟨rfl, b0⟩
set_option maxRecDepth 100000 in
set_option maxHeartbeats 800000 in
theorem refCheck_bad (p m : List UInt8) (sig : ByteArray) (hp : p.length = 32) (hl : m.length = 32) (hs : sig.size ≠ 1024) (w : World) :
    Calls Try.prog 24 #[hv p, hv m, .string sig] w fun e w' => e = .returned (.bool false) ∧ Below w.heap.size w w' := by
  have HT := hide (fun w => refTells_bad m sig hl hs w)
  have hM := HashAt.new2 w (.cells (bvs p).toArray 23) m hl
  have b0 := below2 w (.cells (bvs p).toArray 23) (.cells (bvs m).toArray 23)
  clear hl hs hp
  unfold hv
  go_enter Try.func24, Try.ntmps24
  go_wp2_with (refine wpl_load_hash (w := (w.alloc (.cells (bvs p).toArray 23)).alloc (.cells (bvs m).toArray 23)) rfl _ rfl rfl hM ?_)
  show Calls _ _ _ ((w.alloc (.cells (bvs p).toArray 23)).alloc (.cells (bvs m).toArray 23)) _
  generalize (w.alloc (.cells (bvs p).toArray 23)).alloc (.cells (bvs m).toArray 23) = W at *
  refine (HT.out _).mono ?_
  rintro _ wc6 ⟨rfl, hc6⟩
  replace hM := hM.later hc6
  replace b0 := later b0 hc6
  clear hc6
  go_wp2_with (first | (refine wpl_load_hash rfl _ rfl rfl (by assumption) ?_) | (refine wpl_new_hash rfl _ _ rfl rfl rfl rfl ?_; intro w3 h3 hn7; replace b0 := later b0 hn7; clear hn7))
  go_ret
  exact ⟨rfl, b0⟩
theorem refCheck_all (p m : List UInt8) (sig : ByteArray) (hp : p.length = 32) (hl : m.length = 32) (w : World) :
    Calls Try.prog 24 #[hv p, hv m, .string sig] w fun e w' => e = .returned (.bool (checkR p m sig)) ∧ Below w.heap.size w w' := by
  unfold checkR
  by_cases h : sig.size = 1024
  · rw [decide_eq_true h, Bool.true_and]; exact refCheck_any p m sig hp hl h w
  · rw [decide_eq_false h, Bool.false_and]; exact refCheck_bad p m sig hp hl h w
end Go.Proofs.Ytikphhhkikdhaaa
