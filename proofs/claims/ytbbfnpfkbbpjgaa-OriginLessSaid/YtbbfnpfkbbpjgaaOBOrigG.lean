/- Package origin: numbers, put, Put's closures. -/
import Derived.Test.YtbbfnpfkbbpjgaaOBOrigF
import Derived.Test.YtbbfnpfkbbpjgaaOBMCells
namespace Go.Proofs.Ytbbfnpfkbbpjgaa
open Go.RowKit Go.Lib
set_option linter.unusedVariables false
set_option linter.unusedSimpArgs false

set_option maxRecDepth 100000 in
set_option maxHeartbeats 1600000 in
theorem numbers_any (v : Value) (L : List Nat) (w : World) (hv : Sl w v 1 (numsC L)) (hL : ∀ x ∈ L, U64 x) (hm : L.length ≤ 15) :
    Calls Try.prog 64 #[v] w fun e w' => e = .returned (.string ⟨(L.flatMap putL).toArray⟩) ∧ Below w.heap.size w w' := by
  obtain ⟨a, c, rfl, -⟩ := Sl.shape hv
  obtain ⟨m, hmm⟩ : ∃ m, m = L.length := ⟨_, rfl⟩
  have HM := hide hmm
  have HS0 := hide (fun k => nums_small (L := L) hm k)
  rw [← hmm] at hm ⊢
  have HL := hide hL
  have b := Below.refl w.heap.size w
  obtain ⟨RES, hRES⟩ : ∃ R : ByteArray, R = ⟨(L.flatMap putL).toArray⟩ := ⟨_, rfl⟩
  rw [← hRES]
  have HRES := hide hRES
  clear hmm hL hRES
  go_enter Try.func64, Try.ntmps64
  go_wp2_with fail
  go_loopw [3, 8] (fun s i wr => ∃ (k : Nat) (S : ByteArray), i = .int .i64 k ∧ k ≤ m ∧ s = .string S ∧ Hid (S = ⟨((L.take k).flatMap putL).toArray⟩) ∧ Below w.heap.size w wr) (fun _ i _ => m - (RowKit.intOf i).toNat)
  case atStart => exact ⟨0, _, rfl, by omega, rfl, hide rfl, b⟩
  case round =>
    clear b
    obtain ⟨k, S, rfl, hk, rfl, HS, b⟩ := hrel
    by_cases hlt : k < m
    · obtain ⟨n, hn⟩ : ∃ n, L[k]? = some n := ⟨_, List.getElem?_eq_getElem (by rw [← HM.out]; exact hlt)⟩
      obtain ⟨bb, k0, c', he, _, hcs⟩ := Sl.block (hv.later b) (by rw [← HM.out]; omega)
      simp only [Value.slice.injEq] at he
      obtain ⟨rfl, -, rfl⟩ := he
      have d1 := (hcs k n hn).num
      have HPN := hide (fun w => put_any n w (HL.out n (List.mem_of_getElem? hn)))
      have HNX := hide (flat_next putL L k n hn)
      have e0 : S.size ≤ 150 := by rw [HS.out, ba_size]; exact HS0.out k
      obtain ⟨x0, hx0⟩ : ∃ u : ByteArray, u = ⟨(putL n).toArray⟩ := ⟨_, rfl⟩
      have e1 : x0.size ≤ 10 := by rw [hx0, ba_size]; exact putL_length n
      rw [← hx0] at HPN
      have z1 : ¬ 9223372036854775807 < S.size + x0.size := by omega
      have HSN : Hid (S ++ x0 = ⟨((L.take (k + 1)).flatMap putL).toArray⟩) := by
        unfold Hid
        rw [HS.out, hx0, cat_bytes, HNX.out]
      clear hcs hn hx0 e0 e1 HNX HL
      go_wp2_with (first | (with_reducible show wpList _ _ _ (⟨_, Op.load _ _, _, _, _, _⟩ :: _) _ _; refine wpl_load_one rfl 23 _ rfl rfl d1 (by kernel_rfl) ?_) | (go_at_call 68; refine (HPN.out _).mono ?_; rintro _ _ ⟨rfl, hc⟩; (try replace F1 := F1.later hc); (try replace F2 := F2.later hc); (try replace F3 := F3.later hc); (try replace F4 := F4.later hc); (try replace F5 := F5.later hc); (try replace F6 := F6.later hc); (try replace F7 := F7.later hc); (try replace F8 := F8.later hc); (try replace F9 := F9.later hc); (try replace G1 := G1.later hc); (try replace G2 := G2.later hc); (try replace G3 := G3.later hc); (try replace z := z.later hc); (try replace b := later b hc); (try replace bB := mixed hB bB hc); clear hc))
      generalize S ++ x0 = T at *
      go_roundw
      case rel => exact ⟨k + 1, T, by simp, by omega, rfl, HSN, b⟩
      case measure => simp [RowKit.intOf]; omega
    · obtain rfl : m = k := by omega
      rw [List.take_of_length_le (by rw [← HM.out]; exact Nat.le_refl _)] at HS
      have HE : Hid (S = RES) := by rw [HRES.out]; exact HS
      clear hlt hk HS HL
      go_wp2_with fail
      go_ret
      exact ⟨by rw [HE.out]; rfl, b⟩
set_option maxRecDepth 100000 in
set_option maxHeartbeats 1600000 in
theorem putOut1 (x : OutT) (w : World) (ok : x.Ok) : Calls Try.prog 67 #[outV x] w fun e w' => e = .returned (.string ⟨(outtL x).toArray⟩) ∧ Below w.heap.size w w' := by
  have OX := hide ok
  have HH0 : Hid (x.dst.length = 32) := ok.1
  have HH1 : Hid (x.stake.length = 32) := ok.2.1
  have HC0 := hide (fun w => bytes_any x.dst w ok.1)
  have HC1 := hide (fun w => bytes_any x.stake w ok.2.1)
  have HC2 := hide (fun w => put_any x.amount w ok.2.2)
  obtain ⟨y0, hy0⟩ : ∃ u : ByteArray, u = ⟨x.dst.toArray⟩ := ⟨_, rfl⟩
  obtain ⟨y1, hy1⟩ : ∃ u : ByteArray, u = ⟨x.stake.toArray⟩ := ⟨_, rfl⟩
  obtain ⟨y2, hy2⟩ : ∃ u : ByteArray, u = ⟨(putL x.amount).toArray⟩ := ⟨_, rfl⟩
  have u0 : y0.size = 32 := by rw [hy0, ba_size, HH0.out]
  have u1 : y1.size = 32 := by rw [hy1, ba_size, HH1.out]
  have u2 : y2.size ≤ 10 := by rw [hy2, ba_size]; exact putL_length _
  have z1 : ¬ 9223372036854775807 < y0.size + y1.size := by omega
  have z2 : ¬ 9223372036854775807 < (y0 ++ y1).size + y2.size := by simp only [ByteArray.size_append]; omega
  have hSN : (⟨(outtL x).toArray⟩ : ByteArray) = y0 ++ y1 ++ y2 := by
    rw [hy0, hy1, hy2]
    simp only [cat_bytes]
    unfold outtL
    simp only [List.append_assoc]
  rw [hSN]
  obtain ⟨RES, hRES⟩ : ∃ R, R = y0 ++ y1 ++ y2 := ⟨_, rfl⟩
  rw [← hRES]
  have HRES := hide hRES
  clear hRES
  rw [← hy0] at HC0
  rw [← hy1] at HC1
  rw [← hy2] at HC2
  have b := Below.refl w.heap.size w
  clear hy0 hy1 hy2 u0 u1 u2 ok hSN
  have mF3 := True.intro
  go_enter Try.func67, Try.ntmps67
  go_wp2_with (first | (with_reducible show wpList _ _ _ (⟨_, Op.box _ _, _, _, _, _⟩ :: _) _ _; clear mF3; refine wpl_box_out rfl _ rfl rfl OX.out ?_; intro _ g2 hg2 F3 hb; (try have := F1.lt); (try have := F2.lt); (try have := F3.lt); (try have := F4.lt); (try have := F5.lt); (try have := F6.lt); (try have := F7.lt); (try have := F8.lt); (try have := F9.lt); (try have := z.lt); (try have := G1.lt); (try have := G2.lt); (try have := G3.lt); (try have := b.size); (try replace F1 := F1.later hb); (try replace F2 := F2.later hb); (try replace F3 := F3.later hb); (try replace F4 := F4.later hb); (try replace F5 := F5.later hb); (try replace F6 := F6.later hb); (try replace F7 := F7.later hb); (try replace F8 := F8.later hb); (try replace F9 := F9.later hb); (try replace G1 := G1.later hb); (try replace G2 := G2.later hb); (try replace G3 := G3.later hb); (try replace z := z.later hb); (try replace b := later b hb); (try replace bB := mixed hB bB hb); clear hb) | (with_reducible show Code.wp _ (Code.region _ _ true) _ _ _; (try simp only [Act.put, List.setIfInBounds_toArray, List.set_cons_succ, List.set_cons_zero]); fail))
  (try simp only [Act.put, List.setIfInBounds_toArray, List.set_cons_succ, List.set_cons_zero])
  refine region_since (by kernel_rfl) (by kernel_rfl) ?_
  repeat (first | go_big_quiet_skip | (go_big_quiet_want; first | ((with_reducible show Oper.quiet _ ⟨_, Op.load _ _, _, _, _, _⟩ _ _ _); first | (refine since_load_elem _ rfl rfl (OutAt.dst F3) (HH0.out) ?_; simp only [Act.put, List.setIfInBounds_toArray, List.set_cons_succ, List.set_cons_zero]; go_big_quiet_on) | (refine since_load_elem _ rfl rfl (OutAt.stake F3) (HH1.out) ?_; simp only [Act.put, List.setIfInBounds_toArray, List.set_cons_succ, List.set_cons_zero]; go_big_quiet_on) | (refine since_load_one 23 _ rfl rfl (OutAt.amount F3) (by kernel_rfl) ?_; simp only [Act.put, List.setIfInBounds_toArray, List.set_cons_succ, List.set_cons_zero]; go_big_quiet_on)) | (go_big_quiet_op; first | go_big_quiet_on | (refine ⟨_, fun _ => since_of (HC0.out _), ?_⟩; clear HC0; go_big_quiet_on) | (refine ⟨_, fun _ => since_of (HC1.out _), ?_⟩; go_big_quiet_on) | (refine ⟨_, fun _ => since_of (HC2.out _), ?_⟩; go_big_quiet_on))))
  refine wpQuiet_nil ?_
  intro _ hq
  (try replace F1 := F1.later hq); (try replace F2 := F2.later hq); (try replace F3 := F3.later hq); (try replace F4 := F4.later hq); (try replace F5 := F5.later hq); (try replace F6 := F6.later hq); (try replace F7 := F7.later hq); (try replace F8 := F8.later hq); (try replace F9 := F9.later hq); (try replace G1 := G1.later hq); (try replace G2 := G2.later hq); (try replace G3 := G3.later hq); (try replace z := z.later hq); (try replace b := later b hq); (try replace bB := mixed hB bB hq)
  clear hq z1 z2
  generalize y0 ++ y1 ++ y2 = T at *
  go_wp2_with fail
  go_ret
  exact ⟨by rw [HRES.out]; rfl, b⟩
set_option maxRecDepth 100000 in
set_option maxHeartbeats 1600000 in
theorem putTrust1 (x : TrustT) (w : World) (ok : x.Ok) : Calls Try.prog 72 #[trustV x] w fun e w' => e = .returned (.string ⟨(trustL x).toArray⟩) ∧ Below w.heap.size w w' := by
  have OX := hide ok
  have HH0 : Hid (x.key.length = 32) := ok.1
  have HH1 : Hid (x.pool.length = 32) := ok.2
  have HC0 := hide (fun w => bytes_any x.key w ok.1)
  have HC1 := hide (fun w => bytes_any x.pool w ok.2)
  obtain ⟨y0, hy0⟩ : ∃ u : ByteArray, u = ⟨x.key.toArray⟩ := ⟨_, rfl⟩
  obtain ⟨y1, hy1⟩ : ∃ u : ByteArray, u = ⟨x.pool.toArray⟩ := ⟨_, rfl⟩
  have u0 : y0.size = 32 := by rw [hy0, ba_size, HH0.out]
  have u1 : y1.size = 32 := by rw [hy1, ba_size, HH1.out]
  have z1 : ¬ 9223372036854775807 < y0.size + y1.size := by omega
  have hSN : (⟨(trustL x).toArray⟩ : ByteArray) = y0 ++ y1 := by
    rw [hy0, hy1]
    simp only [cat_bytes]
    rfl
  rw [hSN]
  obtain ⟨RES, hRES⟩ : ∃ R, R = y0 ++ y1 := ⟨_, rfl⟩
  rw [← hRES]
  have HRES := hide hRES
  clear hRES
  rw [← hy0] at HC0
  rw [← hy1] at HC1
  have b := Below.refl w.heap.size w
  clear hy0 hy1 u0 u1 ok hSN
  have mF3 := True.intro
  go_enter Try.func72, Try.ntmps72
  go_wp2_with (first | (with_reducible show wpList _ _ _ (⟨_, Op.box _ _, _, _, _, _⟩ :: _) _ _; clear mF3; refine wpl_box_trust rfl _ rfl rfl OX.out ?_; intro _ g2 hg2 F3 hb; (try have := F1.lt); (try have := F2.lt); (try have := F3.lt); (try have := F4.lt); (try have := F5.lt); (try have := F6.lt); (try have := F7.lt); (try have := F8.lt); (try have := F9.lt); (try have := z.lt); (try have := G1.lt); (try have := G2.lt); (try have := G3.lt); (try have := b.size); (try replace F1 := F1.later hb); (try replace F2 := F2.later hb); (try replace F3 := F3.later hb); (try replace F4 := F4.later hb); (try replace F5 := F5.later hb); (try replace F6 := F6.later hb); (try replace F7 := F7.later hb); (try replace F8 := F8.later hb); (try replace F9 := F9.later hb); (try replace G1 := G1.later hb); (try replace G2 := G2.later hb); (try replace G3 := G3.later hb); (try replace z := z.later hb); (try replace b := later b hb); (try replace bB := mixed hB bB hb); clear hb) | (with_reducible show Code.wp _ (Code.region _ _ true) _ _ _; (try simp only [Act.put, List.setIfInBounds_toArray, List.set_cons_succ, List.set_cons_zero]); fail))
  (try simp only [Act.put, List.setIfInBounds_toArray, List.set_cons_succ, List.set_cons_zero])
  refine region_since (by kernel_rfl) (by kernel_rfl) ?_
  repeat (first | go_big_quiet_skip | (go_big_quiet_want; first | ((with_reducible show Oper.quiet _ ⟨_, Op.load _ _, _, _, _, _⟩ _ _ _); first | (refine since_load_elem _ rfl rfl (TrustAt.key F3) (HH0.out) ?_; simp only [Act.put, List.setIfInBounds_toArray, List.set_cons_succ, List.set_cons_zero]; go_big_quiet_on) | (refine since_load_elem _ rfl rfl (TrustAt.pool F3) (HH1.out) ?_; simp only [Act.put, List.setIfInBounds_toArray, List.set_cons_succ, List.set_cons_zero]; go_big_quiet_on)) | (go_big_quiet_op; first | go_big_quiet_on | (refine ⟨_, fun _ => since_of (HC0.out _), ?_⟩; clear HC0; go_big_quiet_on) | (refine ⟨_, fun _ => since_of (HC1.out _), ?_⟩; go_big_quiet_on))))
  refine wpQuiet_nil ?_
  intro _ hq
  (try replace F1 := F1.later hq); (try replace F2 := F2.later hq); (try replace F3 := F3.later hq); (try replace F4 := F4.later hq); (try replace F5 := F5.later hq); (try replace F6 := F6.later hq); (try replace F7 := F7.later hq); (try replace F8 := F8.later hq); (try replace F9 := F9.later hq); (try replace G1 := G1.later hq); (try replace G2 := G2.later hq); (try replace G3 := G3.later hq); (try replace z := z.later hq); (try replace b := later b hq); (try replace bB := mixed hB bB hq)
  clear hq z1
  generalize y0 ++ y1 = T at *
  go_wp2_with fail
  go_ret
  exact ⟨by rw [HRES.out]; rfl, b⟩
theorem seat_nums {x : SeatT} (ok : x.Ok) : ∀ y ∈ [x.pledge, x.cost, x.margin], U64 y := by
  intro y hy
  simp only [List.mem_cons, List.not_mem_nil, or_false] at hy
  rcases hy with rfl | rfl | rfl
  · exact ok.2.2.1
  · exact ok.2.2.2.1
  · exact ok.2.2.2.2
set_option maxRecDepth 100000 in
set_option maxHeartbeats 1600000 in
theorem putSeat1 (x : SeatT) (w : World) (ok : x.Ok) : Calls Try.prog 70 #[seatV x] w fun e w' => e = .returned (.string ⟨(seatL x).toArray⟩) ∧ Below w.heap.size w w' := by
  have OX := hide ok
  have HH0 : Hid (x.pool.length = 32) := ok.1
  have HH1 : Hid (x.key.length = 32) := ok.2.1
  have HC0 := hide (fun w => bytes_any x.pool w ok.1)
  have HC1 := hide (fun w => bytes_any x.key w ok.2.1)
  have HC2 := hide (fun v w (hsl : Sl w v 1 (numsC [x.pledge, x.cost, x.margin])) => numbers_any v [x.pledge, x.cost, x.margin] w hsl (seat_nums ok) (show 3 ≤ 15 by decide))
  have HP3 : Hid ([(0, Value.int .u64 (x.pledge : Int)), (1, .int .u64 (x.cost : Int)), (2, .int .u64 (x.margin : Int))] = (numCs [x.pledge, x.cost, x.margin]).zipIdx.map fun x => (x.2, x.1)) := rfl
  obtain ⟨L3, hL3⟩ : ∃ L, L = [x.pledge, x.cost, x.margin] := ⟨_, rfl⟩
  obtain ⟨y0, hy0⟩ : ∃ u : ByteArray, u = ⟨x.pool.toArray⟩ := ⟨_, rfl⟩
  obtain ⟨y1, hy1⟩ : ∃ u : ByteArray, u = ⟨x.key.toArray⟩ := ⟨_, rfl⟩
  obtain ⟨y2, hy2⟩ : ∃ u : ByteArray, u = ⟨(L3.flatMap putL).toArray⟩ := ⟨_, rfl⟩
  have HL3 : Hid (L3.length = 3) := by rw [hL3]; exact hide rfl
  have u0 : y0.size = 32 := by rw [hy0, ba_size, HH0.out]
  have u1 : y1.size = 32 := by rw [hy1, ba_size, HH1.out]
  have u2 : y2.size ≤ 150 := by
    have := nums_small (L := L3) (by rw [HL3.out]; decide) 3
    rw [List.take_of_length_le (by rw [HL3.out]; exact Nat.le_refl _)] at this
    rw [hy2, ba_size]
    exact this
  have z1 : ¬ 9223372036854775807 < y0.size + y1.size := by omega
  have z2 : ¬ 9223372036854775807 < (y0 ++ y1).size + y2.size := by simp only [ByteArray.size_append]; omega
  have hSN : (⟨(seatL x).toArray⟩ : ByteArray) = y0 ++ y1 ++ y2 := by
    rw [hy0, hy1, hy2, hL3]
    simp only [cat_bytes]
    unfold seatL
    simp only [List.append_assoc, List.flatMap_cons, List.flatMap_nil, List.append_nil]
  rw [hSN]
  obtain ⟨RES, hRES⟩ : ∃ R, R = y0 ++ y1 ++ y2 := ⟨_, rfl⟩
  rw [← hRES]
  have HRES := hide hRES
  clear hRES
  rw [← hy0] at HC0
  rw [← hy1] at HC1
  rw [← hL3] at HC2 HP3
  rw [← hy2] at HC2
  have b := Below.refl w.heap.size w
  clear hy0 hy1 hy2 hL3 u0 u1 u2 ok hSN
  have mF3 := True.intro
  go_enter Try.func70, Try.ntmps70
  go_wp2_with (first | (with_reducible show wpList _ _ _ (⟨_, Op.box _ _, _, _, _, _⟩ :: _) _ _; clear mF3; refine wpl_box_seat rfl _ rfl rfl OX.out ?_; intro _ g2 hg2 F3 hb; (try have := F1.lt); (try have := F2.lt); (try have := F3.lt); (try have := F4.lt); (try have := F5.lt); (try have := F6.lt); (try have := F7.lt); (try have := F8.lt); (try have := F9.lt); (try have := z.lt); (try have := G1.lt); (try have := G2.lt); (try have := G3.lt); (try have := b.size); (try replace F1 := F1.later hb); (try replace F2 := F2.later hb); (try replace F3 := F3.later hb); (try replace F4 := F4.later hb); (try replace F5 := F5.later hb); (try replace F6 := F6.later hb); (try replace F7 := F7.later hb); (try replace F8 := F8.later hb); (try replace F9 := F9.later hb); (try replace G1 := G1.later hb); (try replace G2 := G2.later hb); (try replace G3 := G3.later hb); (try replace z := z.later hb); (try replace b := later b hb); (try replace bB := mixed hB bB hb); clear hb) | (with_reducible show Code.wp _ (Code.region _ _ true) _ _ _; (try simp only [Act.put, List.setIfInBounds_toArray, List.set_cons_succ, List.set_cons_zero]); fail))
  (try simp only [Act.put, List.setIfInBounds_toArray, List.set_cons_succ, List.set_cons_zero])
  refine region_plan (fun x => Below _ _ x) (.fl [0, 1, 3, 4, 7, 8, 9, 10, 11, 12] 2 (.fl [] 5 (.one [6] 13 (.fl [] 14 (.stop [15, 16]))))) (by kernel_rfl) (by kernel_rfl) (by kernel_rfl) (by decide) (lasts_below (Nat.le_refl _)) (Below.refl _ _) ?_
  intro _ _ _ _
  refine plan_fl ?_
  simp only [pickOps, opAt, List.getElem?_cons_succ, List.getElem?_cons_zero, List.nil_append, List.cons_append]
  repeat (first | go_big_quiet_skip | (go_big_quiet_want; first | ((with_reducible show Oper.quiet _ ⟨_, Op.load _ _, _, _, _, _⟩ _ _ _); first | (first | (refine plan_load_elem _ rfl rfl (SeatAt.pool F3) HH0.out ?_; simp only [Act.put, List.setIfInBounds_toArray, List.set_cons_succ, List.set_cons_zero]; go_big_quiet_on) | (refine plan_load_elem _ rfl rfl (SeatAt.key F3) HH1.out ?_; simp only [Act.put, List.setIfInBounds_toArray, List.set_cons_succ, List.set_cons_zero]; go_big_quiet_on) | (refine plan_load_one 23 _ rfl rfl (SeatAt.pledge F3) (by kernel_rfl) ?_; simp only [Act.put, List.setIfInBounds_toArray, List.set_cons_succ, List.set_cons_zero]; go_big_quiet_on) | (refine plan_load_one 23 _ rfl rfl (SeatAt.cost F3) (by kernel_rfl) ?_; simp only [Act.put, List.setIfInBounds_toArray, List.set_cons_succ, List.set_cons_zero]; go_big_quiet_on) | (refine plan_load_one 23 _ rfl rfl (SeatAt.margin F3) (by kernel_rfl) ?_; simp only [Act.put, List.setIfInBounds_toArray, List.set_cons_succ, List.set_cons_zero]; go_big_quiet_on))) | (go_big_quiet_op; first | go_big_quiet_on | (refine ⟨_, fun _ => rfl, ?_⟩; go_big_quiet_on))))
  refine wpQuiet_nil ?_
  refine fl_call (by rfl) rfl (by kernel_rfl) (by simp only [List.map_toArray, List.map_cons, List.map_nil] <;> rfl) (fun w' hC => HC0.out w') ?_
  clear HC0
  simp only [Act.put, List.setIfInBounds_toArray, List.set_cons_succ, List.set_cons_zero]
  refine plan_fl ?_
  simp only [pickOps, opAt, List.getElem?_cons_succ, List.getElem?_cons_zero, List.nil_append, List.cons_append]
  repeat (first | go_big_quiet_skip | (go_big_quiet_want; first | ((with_reducible show Oper.quiet _ ⟨_, Op.load _ _, _, _, _, _⟩ _ _ _); first | fail) | (go_big_quiet_op; first | go_big_quiet_on | (refine ⟨_, fun _ => rfl, ?_⟩; go_big_quiet_on))))
  refine wpQuiet_nil ?_
  refine fl_call (by rfl) rfl (by kernel_rfl) (by simp only [List.map_toArray, List.map_cons, List.map_nil] <;> rfl) (fun w' hC => HC1.out w') ?_
  simp only [Act.put, List.setIfInBounds_toArray, List.set_cons_succ, List.set_cons_zero]
  refine plan_one ?_
  simp only [pickOps, opAt, List.getElem?_cons_succ, List.getElem?_cons_zero, List.nil_append, List.cons_append]
  repeat (first | go_big_quiet_skip | (go_big_quiet_want; first | ((with_reducible show Oper.quiet _ ⟨_, Op.load _ _, _, _, _, _⟩ _ _ _); first | fail) | (go_big_quiet_op; first | go_big_quiet_on | (refine ⟨_, fun _ => rfl, ?_⟩; go_big_quiet_on))))
  refine wpQuiet_nil ?_
  intro _ hb k
  replace b := later b k
  clear hb
  refine wpl_numsR rfl 3 _ rfl L3 HL3.out (by simp only [List.map_toArray, List.map_cons, List.map_nil]; exact HP3.out) (by decide) (by decide) ?_
  intro wz g9 B hBB hg9 O1 hb
  replace b := later b hb
  have S1 := O1.sl
  replace k := later k hb
  clear hb O1 hBB hg9
  refine goQ_since (lasts_below (Nat.le_refl _)) k ?_
  clear k
  (try simp only [Act.put, List.setIfInBounds_toArray, List.set_cons_succ, List.set_cons_zero])
  refine plan_fl ?_
  simp only [pickOps, opAt, List.getElem?_cons_succ, List.getElem?_cons_zero, List.nil_append, List.cons_append]
  repeat (first | go_big_quiet_skip | (go_big_quiet_want; first | ((with_reducible show Oper.quiet _ ⟨_, Op.load _ _, _, _, _, _⟩ _ _ _); first | fail) | (go_big_quiet_op; first | go_big_quiet_on | (refine ⟨_, fun _ => rfl, ?_⟩; go_big_quiet_on))))
  refine wpQuiet_nil ?_
  refine fl_call (by rfl) rfl (by kernel_rfl) (by simp only [List.map_toArray, List.map_cons, List.map_nil] <;> rfl) (fun w' hC => HC2.out _ w' (S1.later (Kl.out hC))) ?_
  simp only [Act.put, List.setIfInBounds_toArray, List.set_cons_succ, List.set_cons_zero]
  refine plan_stop ?_
  simp only [pickOps, opAt, List.getElem?_cons_succ, List.getElem?_cons_zero, List.nil_append, List.cons_append]
  repeat (first | go_big_quiet_skip | (go_big_quiet_want; first | ((with_reducible show Oper.quiet _ ⟨_, Op.load _ _, _, _, _, _⟩ _ _ _); first | fail) | (go_big_quiet_op; first | go_big_quiet_on | (refine ⟨_, fun _ => rfl, ?_⟩; go_big_quiet_on))))
  refine wpQuiet_nil ?_
  intro _ hb k
  replace b := later b k
  clear hb k z1 z2
  generalize y0 ++ y1 ++ y2 = T at *
  go_wp2_with fail
  go_ret
  exact ⟨by rw [HRES.out]; rfl, b⟩
set_option maxRecDepth 100000 in
set_option maxHeartbeats 3200000 in
theorem oput_out (g : Nat) (X : List UInt8) (v : Value) (l : List OutT) (w : World) (hB : Bld w g X) (hs : ∀ w', Below g w w' → Sl w' v 65 (l.map outCs)) (hok : ∀ x ∈ l, x.Ok) (hm : l.length ≤ 32) (hX : X.length ≤ 100000) :
    Calls Try.prog 66 #[.pointer (some ⟨g, 0, none⟩), v, .func (.func 67) #[] #[]] w fun e w' => e = .returned (.tuple #[]) ∧ Bld w' g (X ++ listL outtL l) ∧ Below g w w' := by
  obtain ⟨a, c, rfl, -⟩ := (hs w (Below.refl _ _)).shape
  obtain ⟨n, hn⟩ : ∃ n, n = l.length := ⟨_, rfl⟩
  have HN := hide hn
  have HL := hide hok
  have HPN := hide (fun w => put_any l.length w (show l.length < 18446744073709551616 by omega))
  rw [← hn] at HPN
  rw [← hn] at hm hs ⊢
  have kw : IntKind.u64.wrap (n : Int) = (n : Int) := by rw [IntKind.wrap_u64]; omega
  have p1 := putL_length n
  obtain ⟨Y, hY⟩ : ∃ Y, Y = X ++ putL n := ⟨_, rfl⟩
  have hYL : Y.length ≤ 100010 := by rw [hY, List.length_append]; omega
  have HY := hide hY
  have HR : Hid (X ++ listL outtL l = Y ++ l.flatMap outtL) := by rw [hY, hn]; unfold listL; rw [List.append_assoc]; exact hide rfl
  rw [HR.out]
  have HSL := hide hs
  have F1 := hB
  have b := Below.refl g w
  have hgw := hB.lt
  clear hn hok hs hB hY HR
  go_enter Try.func66, Try.ntmps66
  go_wp2_with (first | (go_at_call 68; refine (HPN.out _).mono ?_; rintro _ _ ⟨rfl, hc⟩; have := F1.lt; replace F1 := F1.later hc; replace b := below_more b hc (Nat.le_of_lt this); clear hc) | (go_at_call 63; refine (bld_write _ _ _ _ F1 (by omega)).mono ?_; rintro _ _ ⟨rfl, t1, hc⟩; clear F1; have F1 := t1; replace b := b.trans hc; clear t1 hc))
  rw [← HY.out] at F1
  clear HPN kw p1
  go_loopw [16] (fun i wr => ∃ k : Nat, i = .int .i64 k ∧ k ≤ n ∧ Bld wr g (Y ++ (l.take k).flatMap outtL) ∧ Below g w wr) (fun i _ => n - (RowKit.intOf i).toNat)
  case atStart => exact ⟨0, rfl, by omega, by simpa using F1, b⟩
  clear F1 b
  obtain ⟨k, rfl, hk, F1, b⟩ := hrel
  by_cases hlt : k < n
  case pos =>
    obtain ⟨x, hx, okx⟩ := get_ok HL.out (k := k) (by rw [← HN.out]; exact hlt)
    obtain ⟨bb, k0, c', he, _, hcs⟩ := (HSL.out _ b).block (by rw [← HN.out]; omega)
    simp only [Value.slice.injEq] at he
    obtain ⟨rfl, -, rfl⟩ := he
    have d1 := hcs k x hx
    have HNX := hide (flat_next outtL l k x hx)
    have hX2 : (Y ++ (l.take k).flatMap outtL).length ≤ 110000 := by
      have := flat_small out_le' HL.out (by rw [← HN.out]; exact hm) k
      rw [List.length_append]
      omega
    have hx1 := out_le' x okx
    have HC := hide (fun w => putOut1 x w okx)
    have OX := hide okx
    clear hcs hx okx
    generalize hXe : (Y ++ (l.take k).flatMap outtL) = X2 at *
    have HXE := hide hXe
    clear hXe
    go_wp2_with (first | (with_reducible show wpList _ _ _ (⟨_, Op.load _ _, _, _, _, _⟩ :: _) _ _; refine wpl_ld_out rfl _ rfl rfl d1 OX.out ?_) | (with_reducible show wpList _ _ _ (⟨_, Op.alloc _, _, _, _, _⟩ :: _) _ _; refine wpl_mk_out rfl rfl ?_; intro _ g5 hg5 F3 ha) | (with_reducible show wpList _ _ _ (⟨_, Op.store _ _ _, _, _, _, _⟩ :: _) _ _; refine wpl_set_out rfl _ _ rfl rfl rfl OX.out F3 ?_; intro _ t1 ht; have hb := below_touch ha ht hg5 (Nat.le_refl _); clear F3; have F3 := t1; clear t1 ha ht; have := F1.lt; replace F1 := F1.later hb; replace b := below_more b hb (Nat.le_of_lt this); clear hb) | (with_reducible show wpList _ _ _ (⟨_, Op.load _ _, _, _, _, _⟩ :: _) _ _; refine wpl_ld_out rfl _ rfl rfl (F3.cells) OX.out ?_) | (go_at_call 67; refine (HC.out _).mono ?_; rintro _ _ ⟨rfl, hc⟩; have := F1.lt; replace F1 := F1.later hc; replace b := below_more b hc (Nat.le_of_lt this); clear hc F3) | (go_at_call 63; refine (bld_write _ _ _ _ F1 (by omega)).mono ?_; rintro _ _ ⟨rfl, t1, hc⟩; clear F1; have F1 := t1; replace b := b.trans hc; clear t1 hc))
    go_roundw
    case rel => exact ⟨k + 1, by simp, by omega, by rw [HNX.out, ← List.append_assoc, HXE.out]; exact F1, b⟩
    case measure => simp [RowKit.intOf]; omega
  obtain rfl : n = k := by omega
  rw [List.take_of_length_le (by rw [← HN.out]; exact Nat.le_refl _)] at F1
  go_wp2_with fail
  go_end0
  exact ⟨rfl, F1, b⟩
set_option maxRecDepth 100000 in
set_option maxHeartbeats 3200000 in
theorem oput_seat (g : Nat) (X : List UInt8) (v : Value) (l : List SeatT) (w : World) (hB : Bld w g X) (hs : ∀ w', Below g w w' → Sl w' v 67 (l.map seatCs)) (hok : ∀ x ∈ l, x.Ok) (hm : l.length ≤ 32) (hX : X.length ≤ 100000) :
    Calls Try.prog 69 #[.pointer (some ⟨g, 0, none⟩), v, .func (.func 70) #[] #[]] w fun e w' => e = .returned (.tuple #[]) ∧ Bld w' g (X ++ listL seatL l) ∧ Below g w w' := by
  obtain ⟨a, c, rfl, -⟩ := (hs w (Below.refl _ _)).shape
  obtain ⟨n, hn⟩ : ∃ n, n = l.length := ⟨_, rfl⟩
  have HN := hide hn
  have HL := hide hok
  have HPN := hide (fun w => put_any l.length w (show l.length < 18446744073709551616 by omega))
  rw [← hn] at HPN
  rw [← hn] at hm hs ⊢
  have kw : IntKind.u64.wrap (n : Int) = (n : Int) := by rw [IntKind.wrap_u64]; omega
  have p1 := putL_length n
  obtain ⟨Y, hY⟩ : ∃ Y, Y = X ++ putL n := ⟨_, rfl⟩
  have hYL : Y.length ≤ 100010 := by rw [hY, List.length_append]; omega
  have HY := hide hY
  have HR : Hid (X ++ listL seatL l = Y ++ l.flatMap seatL) := by rw [hY, hn]; unfold listL; rw [List.append_assoc]; exact hide rfl
  rw [HR.out]
  have HSL := hide hs
  have F1 := hB
  have b := Below.refl g w
  have hgw := hB.lt
  clear hn hok hs hB hY HR
  go_enter Try.func69, Try.ntmps69
  go_wp2_with (first | (go_at_call 68; refine (HPN.out _).mono ?_; rintro _ _ ⟨rfl, hc⟩; have := F1.lt; replace F1 := F1.later hc; replace b := below_more b hc (Nat.le_of_lt this); clear hc) | (go_at_call 63; refine (bld_write _ _ _ _ F1 (by omega)).mono ?_; rintro _ _ ⟨rfl, t1, hc⟩; clear F1; have F1 := t1; replace b := b.trans hc; clear t1 hc))
  rw [← HY.out] at F1
  clear HPN kw p1
  go_loopw [16] (fun i wr => ∃ k : Nat, i = .int .i64 k ∧ k ≤ n ∧ Bld wr g (Y ++ (l.take k).flatMap seatL) ∧ Below g w wr) (fun i _ => n - (RowKit.intOf i).toNat)
  case atStart => exact ⟨0, rfl, by omega, by simpa using F1, b⟩
  clear F1 b
  obtain ⟨k, rfl, hk, F1, b⟩ := hrel
  by_cases hlt : k < n
  case pos =>
    obtain ⟨x, hx, okx⟩ := get_ok HL.out (k := k) (by rw [← HN.out]; exact hlt)
    obtain ⟨bb, k0, c', he, _, hcs⟩ := (HSL.out _ b).block (by rw [← HN.out]; omega)
    simp only [Value.slice.injEq] at he
    obtain ⟨rfl, -, rfl⟩ := he
    have d1 := hcs k x hx
    have HNX := hide (flat_next seatL l k x hx)
    have hX2 : (Y ++ (l.take k).flatMap seatL).length ≤ 110000 := by
      have := flat_small seat_le HL.out (by rw [← HN.out]; exact hm) k
      rw [List.length_append]
      omega
    have hx1 := seat_le x okx
    have HC := hide (fun w => putSeat1 x w okx)
    have OX := hide okx
    clear hcs hx okx
    generalize hXe : (Y ++ (l.take k).flatMap seatL) = X2 at *
    have HXE := hide hXe
    clear hXe
    go_wp2_with (first | (with_reducible show wpList _ _ _ (⟨_, Op.load _ _, _, _, _, _⟩ :: _) _ _; refine wpl_ld_seat rfl _ rfl rfl d1 OX.out ?_) | (with_reducible show wpList _ _ _ (⟨_, Op.alloc _, _, _, _, _⟩ :: _) _ _; refine wpl_mk_seat rfl rfl ?_; intro _ g5 hg5 F3 ha) | (with_reducible show wpList _ _ _ (⟨_, Op.store _ _ _, _, _, _, _⟩ :: _) _ _; refine wpl_set_seat rfl _ _ rfl rfl rfl OX.out F3 ?_; intro _ t1 ht; have hb := below_touch ha ht hg5 (Nat.le_refl _); clear F3; have F3 := t1; clear t1 ha ht; have := F1.lt; replace F1 := F1.later hb; replace b := below_more b hb (Nat.le_of_lt this); clear hb) | (with_reducible show wpList _ _ _ (⟨_, Op.load _ _, _, _, _, _⟩ :: _) _ _; refine wpl_ld_seat rfl _ rfl rfl (F3.cells) OX.out ?_) | (go_at_call 70; refine (HC.out _).mono ?_; rintro _ _ ⟨rfl, hc⟩; have := F1.lt; replace F1 := F1.later hc; replace b := below_more b hc (Nat.le_of_lt this); clear hc F3) | (go_at_call 63; refine (bld_write _ _ _ _ F1 (by omega)).mono ?_; rintro _ _ ⟨rfl, t1, hc⟩; clear F1; have F1 := t1; replace b := b.trans hc; clear t1 hc))
    go_roundw
    case rel => exact ⟨k + 1, by simp, by omega, by rw [HNX.out, ← List.append_assoc, HXE.out]; exact F1, b⟩
    case measure => simp [RowKit.intOf]; omega
  obtain rfl : n = k := by omega
  rw [List.take_of_length_le (by rw [← HN.out]; exact Nat.le_refl _)] at F1
  go_wp2_with fail
  go_end0
  exact ⟨rfl, F1, b⟩
set_option maxRecDepth 100000 in
set_option maxHeartbeats 3200000 in
theorem oput_trust (g : Nat) (X : List UInt8) (v : Value) (l : List TrustT) (w : World) (hB : Bld w g X) (hs : ∀ w', Below g w w' → Sl w' v 64 (l.map trustCs)) (hok : ∀ x ∈ l, x.Ok) (hm : l.length ≤ 32) (hX : X.length ≤ 100000) :
    Calls Try.prog 71 #[.pointer (some ⟨g, 0, none⟩), v, .func (.func 72) #[] #[]] w fun e w' => e = .returned (.tuple #[]) ∧ Bld w' g (X ++ listL trustL l) ∧ Below g w w' := by
  obtain ⟨a, c, rfl, -⟩ := (hs w (Below.refl _ _)).shape
  obtain ⟨n, hn⟩ : ∃ n, n = l.length := ⟨_, rfl⟩
  have HN := hide hn
  have HL := hide hok
  have HPN := hide (fun w => put_any l.length w (show l.length < 18446744073709551616 by omega))
  rw [← hn] at HPN
  rw [← hn] at hm hs ⊢
  have kw : IntKind.u64.wrap (n : Int) = (n : Int) := by rw [IntKind.wrap_u64]; omega
  have p1 := putL_length n
  obtain ⟨Y, hY⟩ : ∃ Y, Y = X ++ putL n := ⟨_, rfl⟩
  have hYL : Y.length ≤ 100010 := by rw [hY, List.length_append]; omega
  have HY := hide hY
  have HR : Hid (X ++ listL trustL l = Y ++ l.flatMap trustL) := by rw [hY, hn]; unfold listL; rw [List.append_assoc]; exact hide rfl
  rw [HR.out]
  have HSL := hide hs
  have F1 := hB
  have b := Below.refl g w
  have hgw := hB.lt
  clear hn hok hs hB hY HR
  go_enter Try.func71, Try.ntmps71
  go_wp2_with (first | (go_at_call 68; refine (HPN.out _).mono ?_; rintro _ _ ⟨rfl, hc⟩; have := F1.lt; replace F1 := F1.later hc; replace b := below_more b hc (Nat.le_of_lt this); clear hc) | (go_at_call 63; refine (bld_write _ _ _ _ F1 (by omega)).mono ?_; rintro _ _ ⟨rfl, t1, hc⟩; clear F1; have F1 := t1; replace b := b.trans hc; clear t1 hc))
  rw [← HY.out] at F1
  clear HPN kw p1
  go_loopw [16] (fun i wr => ∃ k : Nat, i = .int .i64 k ∧ k ≤ n ∧ Bld wr g (Y ++ (l.take k).flatMap trustL) ∧ Below g w wr) (fun i _ => n - (RowKit.intOf i).toNat)
  case atStart => exact ⟨0, rfl, by omega, by simpa using F1, b⟩
  clear F1 b
  obtain ⟨k, rfl, hk, F1, b⟩ := hrel
  by_cases hlt : k < n
  case pos =>
    obtain ⟨x, hx, okx⟩ := get_ok HL.out (k := k) (by rw [← HN.out]; exact hlt)
    obtain ⟨bb, k0, c', he, _, hcs⟩ := (HSL.out _ b).block (by rw [← HN.out]; omega)
    simp only [Value.slice.injEq] at he
    obtain ⟨rfl, -, rfl⟩ := he
    have d1 := hcs k x hx
    have HNX := hide (flat_next trustL l k x hx)
    have hX2 : (Y ++ (l.take k).flatMap trustL).length ≤ 110000 := by
      have := flat_small trust_le HL.out (by rw [← HN.out]; exact hm) k
      rw [List.length_append]
      omega
    have hx1 := trust_le x okx
    have HC := hide (fun w => putTrust1 x w okx)
    have OX := hide okx
    clear hcs hx okx
    generalize hXe : (Y ++ (l.take k).flatMap trustL) = X2 at *
    have HXE := hide hXe
    clear hXe
    go_wp2_with (first | (with_reducible show wpList _ _ _ (⟨_, Op.load _ _, _, _, _, _⟩ :: _) _ _; refine wpl_ld_trust rfl _ rfl rfl d1 OX.out ?_) | (with_reducible show wpList _ _ _ (⟨_, Op.alloc _, _, _, _, _⟩ :: _) _ _; refine wpl_mk_trust rfl rfl ?_; intro _ g5 hg5 F3 ha) | (with_reducible show wpList _ _ _ (⟨_, Op.store _ _ _, _, _, _, _⟩ :: _) _ _; refine wpl_set_trust rfl _ _ rfl rfl rfl OX.out F3 ?_; intro _ t1 ht; have hb := below_touch ha ht hg5 (Nat.le_refl _); clear F3; have F3 := t1; clear t1 ha ht; have := F1.lt; replace F1 := F1.later hb; replace b := below_more b hb (Nat.le_of_lt this); clear hb) | (with_reducible show wpList _ _ _ (⟨_, Op.load _ _, _, _, _, _⟩ :: _) _ _; refine wpl_ld_trust rfl _ rfl rfl (F3.cells) OX.out ?_) | (go_at_call 72; refine (HC.out _).mono ?_; rintro _ _ ⟨rfl, hc⟩; have := F1.lt; replace F1 := F1.later hc; replace b := below_more b hc (Nat.le_of_lt this); clear hc F3) | (go_at_call 63; refine (bld_write _ _ _ _ F1 (by omega)).mono ?_; rintro _ _ ⟨rfl, t1, hc⟩; clear F1; have F1 := t1; replace b := b.trans hc; clear t1 hc))
    go_roundw
    case rel => exact ⟨k + 1, by simp, by omega, by rw [HNX.out, ← List.append_assoc, HXE.out]; exact F1, b⟩
    case measure => simp [RowKit.intOf]; omega
  obtain rfl : n = k := by omega
  rw [List.take_of_length_le (by rw [← HN.out]; exact Nat.le_refl _)] at F1
  go_wp2_with fail
  go_end0
  exact ⟨rfl, F1, b⟩
end Go.Proofs.Ytbbfnpfkbbpjgaa
