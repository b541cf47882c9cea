/- The reference's Bit, Public, Sign (mintageref05). -/
import Derived.Test.YtikphhhkikdhaaaOnceRef
namespace Go.Proofs.Ytikphhhkikdhaaa
open Go.RowKit Go.Lib

theorem ba_size (l : List UInt8) : (⟨l.toArray⟩ : ByteArray).size = l.length := by simp [ByteArray.size]
theorem bit_ref (m : List UInt8) (i : Nat) (hi : i < 16) : ((m.getD 0 0).toNat * 256 + (m.getD 1 0).toNat) / 2 ^ (15 - i) % 2 = bitL m i := by
  unfold bitL
  have h0 := (m.getD 0 0).toNat_lt
  have h1 := (m.getD 1 0).toNat_lt
  rcases (by omega : i = 0 ∨ i = 1 ∨ i = 2 ∨ i = 3 ∨ i = 4 ∨ i = 5 ∨ i = 6 ∨ i = 7 ∨ i = 8 ∨ i = 9 ∨ i = 10 ∨ i = 11 ∨ i = 12 ∨ i = 13 ∨ i = 14 ∨ i = 15) with rfl | rfl | rfl | rfl | rfl | rfl | rfl | rfl | rfl | rfl | rfl | rfl | rfl | rfl | rfl | rfl <;>
    simp only [Nat.reduceDiv, Nat.reduceMod, Nat.reduceSub, Nat.reducePow] <;> omega

set_option maxRecDepth 100000 in
set_option maxHeartbeats 1600000 in
theorem refBit_any (m : List UInt8) (i : Nat) (hl : m.length = 32) (hi : i < 16) (w : World) :
    Calls Try.prog 48 #[hv m, .int .i64 i] w fun e w' => e = .returned (.int .i64 (bitL m i)) ∧ Below w.heap.size w w' := by
  have hb := bit_ref m i hi
  have x1 := (m.getD 0 0).toNat_lt
  have y1 := (m.getD 1 0).toNat_lt
  have hA := HashAt.new w m hl
  have b0 := below1 w (.cells (bvs m).toArray 23)
  have c0 := Arr.cell hA.2 (i := 0) (by rw [bvs_length]; omega)
  have c1 := Arr.cell hA.2 (i := 1) (by rw [bvs_length]; omega)
  rw [bvs_getD m _ (by omega)] at c0 c1
  generalize (m.getD 0 0).toNat = x at *
  generalize (m.getD 1 0).toNat = y at *
  obtain ⟨R, hR⟩ : ∃ R, R = bitL m i := ⟨_, rfl⟩
  rw [← hR] at hb ⊢
  have HB := hide hb
  clear hb hR hl hA
  unfold hv
  go_enter Try.func48, Try.ntmps48
  go_wp2_with fail
  go_loop [5, 6] (fun n k => ∃ j q : Nat, i ≤ j ∧ j ≤ 15 ∧ k = .int .i64 j ∧ n = .int .i64 q ∧ q ≤ 65535 ∧ Hid (q = (x * 256 + y) / 2 ^ (15 - j))) (fun _ k => (RowKit.intOf k).toNat)
  case atStart => exact ⟨15, x * 256 + y, by omega, by omega, rfl, by simp, by omega, by unfold Hid; simp⟩
  case round =>
    obtain ⟨j, q, hj1, hj2, rfl, rfl, hq, HQ⟩ := hrel
    by_cases hlt : i < j
    · go_wp2_with fail
      go_round
      case rel =>
        refine ⟨j - 1, q / 2, by omega, by omega, by congr 1; omega, by simp, by omega, ?_⟩
        unfold Hid
        rw [HQ.out, Nat.div_div_eq_div_mul, ← Nat.pow_succ, show (15 - j).succ = 15 - (j - 1) by omega]
      case measure => simp [RowKit.intOf]; omega
    · have : j = i := by omega
      subst this
      have HB' : Hid (q % 2 = R) := by unfold Hid; rw [HQ.out]; exact HB.out
      go_wp2_with fail
      rw [show ((q : Int) % 2) = ((q % 2 : Nat) : Int) by omega, HB'.out]
      go_ret
      exact ⟨rfl, b0⟩

set_option maxRecDepth 100000 in
set_option maxHeartbeats 1600000 in
theorem refPublic_any (seed : List UInt8) (hl : seed.length = 32) (w : World) :
    Calls Try.prog 17 #[hv seed] w fun e w' => e = .returned (hv (publicL seed)) ∧ Below w.heap.size w w' := by
  obtain ⟨R, hR⟩ : ∃ R, R = publicL seed := ⟨_, rfl⟩
  have HRA : Hid (R = ofX tagOnce [joinM (seedM seed) 16]) := hR
  have HL : Hid (R.length = 32) := by rw [hR]; exact publicL_length _
  rw [← hR]
  clear hR
  have HS0 : Hid (∀ (i : Nat) w, i < 16 → Calls Try.prog 43 #[hv seed, .int .i64 i, .int .i64 0] w fun e w' => e = .returned (.string ⟨(secretL seed i 0).toArray⟩) ∧ Below w.heap.size w w') := fun i w hi => refSecret_any seed i 0 hl hi (by decide) w
  have HS1 : Hid (∀ (i : Nat) w, i < 16 → Calls Try.prog 43 #[hv seed, .int .i64 i, .int .i64 1] w fun e w' => e = .returned (.string ⟨(secretL seed i 1).toArray⟩) ∧ Below w.heap.size w w') := fun i w hi => refSecret_any seed i 1 hl hi (by decide) w
  have hA0 := HashAt.alloc (HashAt.new w seed hl) (.cells (bvs zero32).toArray 23)
  have hZ0 := HashAt.new2 w (.cells (bvs seed).toArray 23) zero32 rfl
  have b0 := below2 w (.cells (bvs seed).toArray 23) (.cells (bvs zero32).toArray 23)
  clear hl
  unfold hv
  go_enter Try.func17, Try.ntmps17
  go_wp2_with fail
  go_loopw [3, 4] (fun s i wr => ∃ (k : Nat) (S : ByteArray), k ≤ 16 ∧ i = .int .i64 k ∧ s = .string S ∧ Hid (S = ⟨(joinM (seedM seed) k).toArray⟩) ∧ HashAt wr w.heap.size seed ∧ HashAt wr (w.heap.size + 1) zero32 ∧ Below w.heap.size w wr) (fun _ i _ => 16 - (RowKit.intOf i).toNat)
  case atStart => exact ⟨0, _, by omega, rfl, rfl, rfl, hA0, hZ0, b0⟩
  case round =>
    obtain ⟨k, S, hk, rfl, rfl, HS, hA, hZ, b⟩ := hrel
    clear hA0 hZ0 b0
    by_cases hlt : k < 16
    · obtain ⟨u0, hu0⟩ : ∃ u : ByteArray, u = ⟨(secretL seed k 0).toArray⟩ := ⟨_, rfl⟩
      obtain ⟨u1, hu1⟩ : ∃ u : ByteArray, u = ⟨(secretL seed k 1).toArray⟩ := ⟨_, rfl⟩
      obtain ⟨x0, hx0⟩ : ∃ u : ByteArray, u = ⟨(markL (secretL seed k 0)).toArray⟩ := ⟨_, rfl⟩
      obtain ⟨x1, hx1⟩ : ∃ u : ByteArray, u = ⟨(markL (secretL seed k 1)).toArray⟩ := ⟨_, rfl⟩
      have C0 : Hid (∀ w, Calls Try.prog 43 #[hv seed, .int .i64 k, .int .i64 0] w fun e w' => e = .returned (.string u0) ∧ Below w.heap.size w w') := fun w => by rw [hu0]; exact HS0.out k w hlt
      have C1 : Hid (∀ w, Calls Try.prog 43 #[hv seed, .int .i64 k, .int .i64 1] w fun e w' => e = .returned (.string u1) ∧ Below w.heap.size w w') := fun w => by rw [hu1]; exact HS1.out k w hlt
      have D0 : Hid (∀ w, Calls Try.prog 42 #[.string u0] w fun e w' => e = .returned (.string x0) ∧ Below w.heap.size w w') := fun w => by rw [hu0, hx0]; exact refMark_any _ w (by rw [secretL_length]; omega)
      have D1 : Hid (∀ w, Calls Try.prog 42 #[.string u1] w fun e w' => e = .returned (.string x1) ∧ Below w.heap.size w w') := fun w => by rw [hu1, hx1]; exact refMark_any _ w (by rw [secretL_length]; omega)
      have e0 : S.size = 64 * k := by rw [HS.out, ba_size, joinM_length _ (seedM_length seed)]
      have e1 : x0.size = 32 := by rw [hx0, ba_size, markL_length]
      have e2 : x1.size = 32 := by rw [hx1, ba_size, markL_length]
      have z1 : ¬ 9223372036854775807 < S.size + x0.size := by omega
      have z2 : ¬ 9223372036854775807 < (S ++ x0).size + x1.size := by rw [ByteArray.size_append]; omega
      have HN : Hid (S ++ x0 ++ x1 = ⟨(joinM (seedM seed) (k + 1)).toArray⟩) := by
        unfold Hid
        rw [HS.out, hx0, hx1, cat_bytes, cat_bytes, joinM_succ]
        rfl
      clear hu0 hu1 hx0 hx1 e0 e1 e2
      go_wp2_with fail
      refine region_since (by kernel_rfl) (by kernel_rfl) ?_
      repeat (first | go_big_quiet_skip | (go_big_quiet_want; first | (refine quiet_load_hash _ rfl rfl (by assumption) ?_; simp only [Act.put, List.setIfInBounds_toArray, List.set_cons_succ, List.set_cons_zero]; go_big_quiet_on) | (go_big_quiet_op; go_big_quiet_on)))
      go_big_quiet_want; go_big_quiet_op
      refine ⟨_, fun _ => since_of (C0.out _), ?_⟩
      go_big_quiet_on
      repeat (first | go_big_quiet_skip | (go_big_quiet_want; first | (refine quiet_load_hash _ rfl rfl (by assumption) ?_; simp only [Act.put, List.setIfInBounds_toArray, List.set_cons_succ, List.set_cons_zero]; go_big_quiet_on) | (go_big_quiet_op; go_big_quiet_on)))
      go_big_quiet_want; go_big_quiet_op
      refine ⟨_, fun _ => since_of (D0.out _), ?_⟩
      go_big_quiet_on
      repeat (first | go_big_quiet_skip | (go_big_quiet_want; first | (refine quiet_load_hash _ rfl rfl (by assumption) ?_; simp only [Act.put, List.setIfInBounds_toArray, List.set_cons_succ, List.set_cons_zero]; go_big_quiet_on) | (go_big_quiet_op; go_big_quiet_on)))
      go_big_quiet_want; go_big_quiet_op
      refine ⟨_, fun _ => since_of (C1.out _), ?_⟩
      go_big_quiet_on
      repeat (first | go_big_quiet_skip | (go_big_quiet_want; first | (refine quiet_load_hash _ rfl rfl (by assumption) ?_; simp only [Act.put, List.setIfInBounds_toArray, List.set_cons_succ, List.set_cons_zero]; go_big_quiet_on) | (go_big_quiet_op; go_big_quiet_on)))
      go_big_quiet_want; go_big_quiet_op
      refine ⟨_, fun _ => since_of (D1.out _), ?_⟩
      go_big_quiet_on
      repeat (first | go_big_quiet_skip | (go_big_quiet_want; first | (refine quiet_load_hash _ rfl rfl (by assumption) ?_; simp only [Act.put, List.setIfInBounds_toArray, List.set_cons_succ, List.set_cons_zero]; go_big_quiet_on) | (go_big_quiet_op; go_big_quiet_on)))
      refine wpQuiet_nil ?_
      intro w5 hw5
      generalize S ++ x0 ++ x1 = T at *
      replace hA := hA.later hw5
      replace hZ := hZ.later hw5
      replace b := later b hw5
      clear hw5 C0 C1 D0 D1 z1 z2
      go_wp2_with fail
      go_roundw
      case rel => exact ⟨k + 1, T, by omega, by simp, rfl, HN, hA, hZ, b⟩
      case measure => simp [RowKit.intOf]; omega
    · have hk16 : k = 16 := by omega
      subst hk16
      have HO : Hid (∀ w, Calls Try.prog 44 #[.string ⟨#[111, 110, 99, 101]⟩, .string S] w fun e w' => e = .returned (hv R) ∧ Below w.heap.size w w') := fun w => by
        rw [HRA.out, HS.out]; exact refOne_any tagOnce _ w (by decide) (by rw [joinM_length _ (seedM_length seed)]; omega)
      clear HS0 HS1
      go_wp2_with fail
      refine (HO.out _).mono ?_
      rintro _ wc1 ⟨rfl, hc1⟩
      replace b := later b hc1
      replace hZ := hZ.later hc1
      clear hc1
      have zr := hZ.row R HL.out
      have br := below_setRow (b := w.heap.size + 1) b (by omega) (bvs R).toArray
      go_wp2_with (refine wpl_store_hash rfl _ _ rfl rfl rfl HL.out hZ ?_)
      exact bodyPost_ret (v := hv R) (ret_hash rfl _ _ rfl zr) rfl ⟨rfl, br⟩

set_option maxRecDepth 100000 in
set_option maxHeartbeats 1600000 in
theorem refSign_any (seed m : List UInt8) (hl : seed.length = 32) (hml : m.length = 32) (w : World) :
    Calls Try.prog 19 #[hv seed, hv m] w fun e w' => e = .returned (.string ⟨(signL seed m).toArray⟩) ∧ Below w.heap.size w w' := by
  obtain ⟨R, hR⟩ : ∃ R : ByteArray, R = ⟨(signL seed m).toArray⟩ := ⟨_, rfl⟩
  have HRA : Hid (R = ⟨(joinM (signM seed m) 16).toArray⟩) := hR
  rw [← hR]
  clear hR
  have HB := hide (fun (i : Nat) w (hi : i < 16) => refBit_any m i hml hi w)
  have HS := hide (fun (i k : Nat) w (hi : i < 16) (hk : k < 2) => refSecret_any seed i k hl hi hk w)
  have hA0 := HashAt.alloc (HashAt.new w seed hl) (.cells (bvs m).toArray 23)
  have hM0 := HashAt.new2 w (.cells (bvs seed).toArray 23) m hml
  have b0 := below2 w (.cells (bvs seed).toArray 23) (.cells (bvs m).toArray 23)
  clear hl hml
  unfold hv
  go_enter Try.func19, Try.ntmps19
  go_wp2_with fail
  go_loopw [5, 6] (fun s i wr => ∃ (k : Nat) (S : ByteArray), k ≤ 16 ∧ i = .int .i64 k ∧ s = .string S ∧ Hid (S = ⟨(joinM (signM seed m) k).toArray⟩) ∧ HashAt wr w.heap.size seed ∧ HashAt wr (w.heap.size + 1) m ∧ Below w.heap.size w wr) (fun _ i _ => 16 - (RowKit.intOf i).toNat)
  case atStart => exact ⟨0, _, by omega, rfl, rfl, rfl, hA0, hM0, b0⟩
  case round =>
    obtain ⟨k, S, hk, rfl, rfl, HSS, hA, hM, b⟩ := hrel
    clear hA0 hM0 b0
    by_cases hlt : k < 16
    · have C0 := hide (fun w => HB.out k w hlt)
      have hq := bitL_lt m k
      obtain ⟨q, hq'⟩ : ∃ q, q = bitL m k := ⟨_, rfl⟩
      rw [← hq'] at C0 hq
      obtain ⟨u0, hu0⟩ : ∃ u : ByteArray, u = ⟨(secretL seed k q).toArray⟩ := ⟨_, rfl⟩
      obtain ⟨u1, hu1⟩ : ∃ u : ByteArray, u = ⟨(secretL seed k (1 - q)).toArray⟩ := ⟨_, rfl⟩
      obtain ⟨x1, hx1⟩ : ∃ u : ByteArray, u = ⟨(markL (secretL seed k (1 - q))).toArray⟩ := ⟨_, rfl⟩
      have C1 : Hid (∀ w, Calls Try.prog 43 #[hv seed, .int .i64 k, .int .i64 q] w fun e w' => e = .returned (.string u0) ∧ Below w.heap.size w w') := fun w => by rw [hu0]; exact HS.out k q w hlt hq
      have C2 : Hid (∀ w, Calls Try.prog 43 #[hv seed, .int .i64 k, .int .i64 (1 - (q : Int))] w fun e w' => e = .returned (.string u1) ∧ Below w.heap.size w w') := fun w => by
        rw [hu1, show (1 - (q : Int)) = ((1 - q : Nat) : Int) by omega]; exact HS.out k (1 - q) w hlt (by omega)
      have D1 : Hid (∀ w, Calls Try.prog 42 #[.string u1] w fun e w' => e = .returned (.string x1) ∧ Below w.heap.size w w') := fun w => by rw [hu1, hx1]; exact refMark_any _ w (by rw [secretL_length]; omega)
      have e0 : S.size = 64 * k := by rw [HSS.out, ba_size, joinM_length _ (signM_length seed m)]
      have e1 : u0.size = 32 := by rw [hu0, ba_size, secretL_length]
      have e2 : x1.size = 32 := by rw [hx1, ba_size, markL_length]
      have z1 : ¬ 9223372036854775807 < S.size + u0.size := by omega
      have z2 : ¬ 9223372036854775807 < (S ++ u0).size + x1.size := by rw [ByteArray.size_append]; omega
      have HN : Hid (S ++ u0 ++ x1 = ⟨(joinM (signM seed m) (k + 1)).toArray⟩) := by
        unfold Hid
        rw [HSS.out, hu0, hx1, cat_bytes, cat_bytes, joinM_succ, hq']
        rfl
      clear hu0 hu1 hx1 hq' e0 e1 e2
      go_wp2_with (refine wpl_load_hash rfl _ rfl rfl (by assumption) ?_)
      refine (C0.out _).mono ?_
      rintro _ wc2 ⟨rfl, hc2⟩
      replace hA := hA.later hc2
      replace hM := hM.later hc2
      replace b := later b hc2
      clear hc2
      go_wp2_with fail
      refine region_since (by kernel_rfl) (by kernel_rfl) ?_
      repeat (first | go_big_quiet_skip | (go_big_quiet_want; first | (refine quiet_load_hash _ rfl rfl (by assumption) ?_; simp only [Act.put, List.setIfInBounds_toArray, List.set_cons_succ, List.set_cons_zero]; go_big_quiet_on) | (go_big_quiet_op; go_big_quiet_on)))
      go_big_quiet_want; go_big_quiet_op
      refine ⟨_, fun _ => since_of (C1.out _), ?_⟩
      go_big_quiet_on
      repeat (first | go_big_quiet_skip | (go_big_quiet_want; first | (refine quiet_load_hash _ rfl rfl (by assumption) ?_; simp only [Act.put, List.setIfInBounds_toArray, List.set_cons_succ, List.set_cons_zero]; go_big_quiet_on) | (go_big_quiet_op; go_big_quiet_on)))
      go_big_quiet_want; go_big_quiet_op
      refine ⟨_, fun _ => since_of (C2.out _), ?_⟩
      go_big_quiet_on
      repeat (first | go_big_quiet_skip | (go_big_quiet_want; first | (refine quiet_load_hash _ rfl rfl (by assumption) ?_; simp only [Act.put, List.setIfInBounds_toArray, List.set_cons_succ, List.set_cons_zero]; go_big_quiet_on) | (go_big_quiet_op; go_big_quiet_on)))
      go_big_quiet_want; go_big_quiet_op
      refine ⟨_, fun _ => since_of (D1.out _), ?_⟩
      go_big_quiet_on
      repeat (first | go_big_quiet_skip | (go_big_quiet_want; first | (refine quiet_load_hash _ rfl rfl (by assumption) ?_; simp only [Act.put, List.setIfInBounds_toArray, List.set_cons_succ, List.set_cons_zero]; go_big_quiet_on) | (go_big_quiet_op; go_big_quiet_on)))
      refine wpQuiet_nil ?_
      intro w5 hw5
      generalize S ++ u0 ++ x1 = T at *
      replace hA := hA.later hw5
      replace hM := hM.later hw5
      replace b := later b hw5
      clear hw5 C0 C1 C2 D1 z1 z2
      go_wp2_with fail
      go_roundw
      case rel => exact ⟨k + 1, T, by omega, by simp, rfl, HN, hA, hM, b⟩
      case measure => simp [RowKit.intOf]; omega
    · have hk16 : k = 16 := by omega
      subst hk16
      have HE : Hid (S = R) := by unfold Hid; rw [HSS.out, HRA.out]
      clear HB HS HSS HRA
      go_wp2_with fail
      rw [HE.out]
      go_ret
      exact ⟨rfl, b⟩
end Go.Proofs.Ytikphhhkikdhaaa
