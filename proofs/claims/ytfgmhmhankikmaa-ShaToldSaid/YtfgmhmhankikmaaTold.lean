/- mintagelaw03.told, untold as contracts. -/
import Derived.Test.YtfgmhmhankikmaaRefOf
import Derived.Test.YtfgmhmhankikmaaShaParts
namespace Go.Proofs.Ytfgmhmhankikmaa
open Go.RowKit Go.Lib

/-- The text of a row of bytes of one's own. -/
theorem Owns.text {w : World} {base : Nat} {v : Value} {l : List UInt8} (h : Owns w base 5 1 v l.length (bvs l)) (h0 : 0 < l.length) :
    (convert 28 9 v).run Try.prog w = .ok (.string ⟨l.toArray⟩) w := by
  obtain ⟨g, cap, rfl, _⟩ := h.at_ h0
  refine run_convert_bytes_back w 28 9 5 ⟨g, 0, none⟩ cap l Try.underlying28 Try.underlying5 Try.underlying9 (fun j hj => ?_)
  have hadd : (⟨g, 0, none⟩ : Addr).add j = ⟨g, j, none⟩ := by unfold Addr.add; split <;> simp_all
  rw [hadd, h.cell j (by omega), bvs_getD _ _ hj]
  simp [hj]

set_option maxRecDepth 100000 in
set_option maxHeartbeats 3200000 in
theorem told_any (s : ByteArray) (w : World) (hs : s.size ≤ 1099511627776) :
    Calls Try.prog 31 #[.string s] w fun e w' => e = .returned (.string ⟨(putText s.data.toList).toArray⟩) ∧ Below w.heap.size w w' := by
  have HSL := hide (show s.data.toList.length = s.size by simp)
  have HE : Hid ((⟨(putL s.size).toArray⟩ : ByteArray) ++ s = ⟨(putText s.data.toList).toArray⟩) := by
    unfold Hid putText
    apply ByteArray.ext
    rw [HSL.out]
    simp
  have c1 : ¬ 9223372036854775807 < (⟨(putL s.size).toArray⟩ : ByteArray).size + s.size := by
    have : (⟨(putL s.size).toArray⟩ : ByteArray).size = (putL s.size).length := rfl
    have := putL_length s.size
    omega
  obtain ⟨R, hR⟩ : ∃ R, R = putL s.size := ⟨_, rfl⟩
  rw [← hR] at HE c1
  have HR := hide hR
  have C1 := hide c1
  clear hR c1
  go_enter Try.func31, Try.ntmps31
  go_wp2_with fail
  have o0 := nil_made w w.heap.size 5 (Nat.le_refl _)
  have hb0 := below1 w (.cells #[] 5)
  have hW : w.heap.size ≤ (w.alloc (.cells #[] 5)).heap.size := by simp
  show Code.wp _ _ _ _ (w.alloc (.cells #[] 5))
  generalize w.alloc (.cells #[] 5) = W at *
  go_loopw [3, 4] (fun b n wr => ∃ (m k : Nat) (pre : List UInt8), n = .int .i64 m ∧ k ≤ 9 ∧ m < 2 ^ (64 - 7 * k) ∧ m ≤ 1099511627776 ∧ pre.length = k ∧ R = pre ++ putF (10 - k) m ∧ Owns wr w.heap.size 5 1 b k (bvs pre) ∧ Below w.heap.size w wr ∧ w.heap.size ≤ wr.heap.size) (fun _ n _ => (RowKit.intOf n).toNat)
  case atStart => exact ⟨s.size, 0, [], rfl, by omega, by simp; omega, hs, rfl, HR.out, o0, hb0, hW⟩
  case round =>
    obtain ⟨m, k, pre, rfl, hk, hmk, hm, hpl, hpre, ho, hb, hw⟩ := hrel
    have HMK := hide hmk
    have HPL := hide hpl
    have HPRE := hide hpre
    clear hmk hpl hpre o0 hb0 hW
    by_cases hge : 128 ≤ m
    · have hk9 : k < 9 := by
        rcases Nat.lt_or_ge k 9 with h | h
        · exact h
        · have : k = 9 := by omega
          subst this
          have := HMK.out
          simp at this
          omega
      have HM2 : Hid (m / 128 < 2 ^ (64 - 7 * (k + 1))) := by
        unfold Hid
        have h := HMK.out
        rw [show 64 - 7 * k = (64 - 7 * (k + 1)) + 7 by omega, Nat.pow_add] at h
        exact Nat.div_lt_of_lt_mul (by rw [Nat.mul_comm]; exact h)
      have HP2 : Hid (R = (pre ++ [UInt8.ofNat (m % 128 + 128)]) ++ putF (10 - (k + 1)) (m / 128)) := by
        unfold Hid
        rw [HPRE.out, show 10 - k = (10 - (k + 1)) + 1 by omega]
        simp only [putF]
        rw [if_neg (by omega)]
        simp
      have HB2 : Hid (bvs (pre ++ [UInt8.ofNat (m % 128 + 128)]) = bvs pre ++ [.int .u8 ((m : Int) % 128 + 128)]) := by
        unfold Hid
        rw [bvs_append]
        have : ((UInt8.ofNat (m % 128 + 128)).toNat : Int) = (m : Int) % 128 + 128 := by rw [UInt8.toNat_ofNat']; omega
        simp only [bvs, List.map_cons, List.map_nil, this]
      have HD : Hid (m / 128 < m) := by unfold Hid; omega
      have i1 : (128 : Int) ≤ (m : Int) := by omega
      go_wp2_with (refine wpl_append elemBytes rfl _ _ rfl w.heap.size rfl (ho.alloc (.cells #[.int .u8 ((m : Int) % 128 + 128)] 5)) ⟨wr.heap.size, 0, none⟩ 1 1 [.int .u8 ((m : Int) % 128 + 128)] rfl rfl (news_new wr #[.int .u8 ((m : Int) % 128 + 128)] 5) (one_byte_ok _ rfl) (by omega) (by simp; omega) ?_)
      intro v3 w3 hown' hb3 _ _
      have hb4 : Below w.heap.size w w3 := hb.trans (((Below.refl _ _).alloc hw _).trans hb3)
      have hw4 : w.heap.size ≤ w3.heap.size := hb4.size
      clear hb3 ho hb
      go_wp2_with fail
      go_roundw
      case rel => exact ⟨m / 128, k + 1, pre ++ [UInt8.ofNat (m % 128 + 128)], by simp, by omega, HM2.out, by omega, by simp [HPL.out], HP2.out, by rw [HB2.out]; exact hown', hb4, hw4⟩
      case measure => simp [RowKit.intOf]; omega
    · have hlt : m < 128 := by omega
      have HP2 : Hid (R = pre ++ [UInt8.ofNat m]) := by
        unfold Hid
        rw [HPRE.out, show 10 - k = (9 - k) + 1 by omega]
        simp only [putF]
        rw [if_pos hlt]
      have HB2 : Hid (bvs pre ++ [.int .u8 (m : Int)] = bvs R) := by
        unfold Hid
        rw [HP2.out, bvs_append]
        have : ((UInt8.ofNat m).toNat : Int) = (m : Int) := by rw [UInt8.toNat_ofNat']; omega
        simp only [bvs, List.map_cons, List.map_nil, this]
      have HRL : Hid (k + 1 = R.length) := by unfold Hid; rw [HP2.out]; simp [HPL.out]
      have i1 : ¬ (128 : Int) ≤ (m : Int) := by omega
      have m1 : (m : Int) % 256 = (m : Int) := by omega
      go_wp2_with (refine wpl_append elemBytes rfl _ _ rfl w.heap.size rfl (ho.alloc (.cells #[.int .u8 (m : Int)] 5)) ⟨wr.heap.size, 0, none⟩ 1 1 [.int .u8 (m : Int)] rfl rfl (news_new wr #[.int .u8 (m : Int)] 5) (one_byte_ok _ rfl) (by omega) (by simp; omega) ?_)
      intro v3 w3 hown' hb3 _ _
      have hb4 : Below w.heap.size w w3 := hb.trans (((Below.refl _ _).alloc hw _).trans hb3)
      rw [HB2.out, HRL.out] at hown'
      have ht := hown'.text (by rw [← HRL.out]; omega)
      have c1 := C1.out
      have he := HE.out
      generalize (⟨R.toArray⟩ : ByteArray) = Rb at *
      clear hb3 ho hb hown' m1
      go_wp2_with fail
      go_ret
      exact ⟨rfl, hb4⟩

/-! ### untold -/
theorem putF_head (f m : Nat) : ∃ r, putF (f + 1) m = UInt8.ofNat (if m < 128 then m else m % 128 + 128) :: r := by
  simp only [putF]
  split
  · exact ⟨[], rfl⟩
  · exact ⟨_, rfl⟩
set_option maxRecDepth 100000 in
set_option maxHeartbeats 3200000 in
theorem untold_any (t rest : List UInt8) (w : World) (ht : t.length ≤ 16384) (hr : rest.length ≤ 1099511627776) :
    Calls Try.prog 32 #[.string ⟨(putText t ++ rest).toArray⟩] w fun e w' => e = .returned (.tuple #[.string ⟨t.toArray⟩, .string ⟨rest.toArray⟩, .bool true]) ∧ Below w.heap.size w w' := by
  obtain ⟨S, hS⟩ : ∃ S : ByteArray, S = ⟨(putText t ++ rest).toArray⟩ := ⟨_, rfl⟩
  rw [← hS]
  have HS := hide hS
  have HLS : Hid (S.data.toList = putL t.length ++ (t ++ rest)) := by unfold Hid; rw [hS]; simp [putText]
  have hsz : S.size = (putL t.length).length + (t.length + rest.length) := by rw [hS]; show (putText t ++ rest).length = _; simp only [putText, List.length_append]; omega
  have hpl := putL_length t.length
  have HSZ := hide hsz
  have hszb : S.size ≤ 1099511627776 + 16394 := by omega
  clear hS hsz hpl
  go_enter Try.func32, Try.ntmps32
  go_wp2_with fail
  go_loop [0, 5, 6, 7] (fun s n times i => ∃ (a k m : Nat) (pre : List UInt8), s = .string S ∧ i = .int .i64 k ∧ times = .int .i64 ((128 ^ k : Nat) : Int) ∧ n = .int .i64 a ∧ k ≤ 2 ∧ m < 128 ^ (3 - k) ∧ pre.length = k ∧ putL t.length = pre ++ putF (10 - k) m ∧ a + m * 128 ^ k = t.length) (fun _ _ _ i => 4 - (RowKit.intOf i).toNat)
  case atStart => exact ⟨0, 0, t.length, [], rfl, rfl, rfl, rfl, by omega, by show t.length < 128 ^ 3; omega, rfl, rfl, by simp⟩
  case round =>
    obtain ⟨a, k, m, pre, rfl, rfl, rfl, rfl, hk, hm, hpl, hpre, ham⟩ := hrel
    obtain ⟨r, hr'⟩ := putF_head (9 - k) m
    have hbyte : S.data.toList.getD k 0 = UInt8.ofNat (if m < 128 then m else m % 128 + 128) := by
      rw [HLS.out, hpre, show 10 - k = (9 - k) + 1 by omega, hr', List.getD_eq_getElem?_getD, List.append_assoc, List.getElem?_append_right (by omega), hpl, Nat.sub_self]
      simp
    have hksz : k < S.size := by
      rw [HSZ.out, hpre, show 10 - k = (9 - k) + 1 by omega, hr']; simp [hpl]; omega
    have hx := byte_at S k hksz
    rw [hbyte] at hx
    have hmP : m % 128 * 128 ^ k ≤ m * 128 ^ k := Nat.mul_le_mul_right _ (Nat.mod_le _ _)
    obtain ⟨q, hq⟩ : ∃ q, q = m % 128 * 128 ^ k := ⟨_, rfl⟩
    have hq1 : q ≤ 16384 := by omega
    have ha1 : a ≤ 16384 := by omega
    have hP1 : 128 ^ k ≤ 16384 := by
      have := Nat.pow_le_pow_right (show 0 < 128 by omega) hk
      simpa using this
    have hi : (k : Int) < (S.size : Int) := by omega
    have hi4 : (k : Int) < 4 := by omega
    by_cases hlt : m < 128
    · rw [if_pos hlt] at hx
      have hc : ((UInt8.ofNat m).toNat : Int) = (m : Int) := by rw [UInt8.toNat_ofNat']; omega
      rw [hc] at hx
      have hm128 : (m : Int) % 128 = (m : Int) := by omega
      have hmq : (m : Int) * ((128 ^ k : Nat) : Int) = (q : Int) := by rw [hq, Nat.mod_eq_of_lt hlt]; push_cast; rfl
      have haq : a + q = t.length := by rw [hq, Nat.mod_eq_of_lt hlt]; exact ham
      have HEX : Hid (S.extract (k + 1) S.size = ⟨(t ++ rest).toArray⟩) := by
        unfold Hid
        apply ByteArray.ext
        rw [ByteArray.data_extract]
        apply Array.ext'
        have e0 : putL t.length = pre ++ [UInt8.ofNat m] := by
          rw [hpre, show 10 - k = (9 - k) + 1 by omega]
          simp only [putF]
          rw [if_pos hlt]
        have e1 : S.data.toList = (pre ++ [UInt8.ofNat m]) ++ (t ++ rest) := by rw [HLS.out, e0]
        have e2 : S.size = S.data.toList.length := by simp
        rw [Array.toList_extract, List.extract_eq_take_drop, e2, e1]
        have e3 : (pre ++ [UInt8.ofNat m]).length = k + 1 := by simp [hpl]
        rw [← e3, List.drop_left, List.take_of_length_le (by simp; omega)]
      have HAM := hide ham
      have HPL := hide hpl
      have HQ := hide hq
      have HAQ := hide haq
      have HPRE := hide hpre
      have HBY := hide hbyte
      have hmi : (m : Int) < 128 := by omega
      generalize 128 ^ k = P at *
      clear ham hpl hq haq hpre hr' hbyte hmP hm hc
      have hle : ¬ ((S.size - (k + 1) : Nat) : Int) < (a : Int) + (q : Int) := by
        have h1 := HSZ.out
        have h2 : (putL t.length).length = k + 1 := by
          rw [HPRE.out, show 10 - k = (9 - k) + 1 by omega]
          simp only [putF]
          rw [if_pos hlt]
          simp [HPL.out]
        have h3 := HAQ.out
        omega
      have hAQ : (a : Int) + (q : Int) = (t.length : Int) := by have := HAQ.out; omega
      go_wp2_with fail
      rw [HEX.out]
      have hts : (⟨(t ++ rest).toArray⟩ : ByteArray).size = t.length + rest.length := by show (t ++ rest).length = _; simp
      have hj1 : (t.length : Int) ≤ ((t.length + rest.length : Nat) : Int) := by omega
      have E1 : Hid ((⟨(t ++ rest).toArray⟩ : ByteArray).extract 0 t.length = ⟨t.toArray⟩) := by
        unfold Hid
        apply ByteArray.ext
        rw [ByteArray.data_extract]
        apply Array.ext'
        rw [Array.toList_extract, List.extract_eq_take_drop]
        simp
      have E2 : Hid ((⟨(t ++ rest).toArray⟩ : ByteArray).extract t.length (t.length + rest.length) = ⟨rest.toArray⟩) := by
        unfold Hid
        apply ByteArray.ext
        rw [ByteArray.data_extract]
        apply Array.ext'
        rw [Array.toList_extract, List.extract_eq_take_drop]
        simp
      refine region_since (by kernel_rfl) (by kernel_rfl) ?_
      repeat (first | go_big_quiet_skip | (go_big_quiet_want; go_big_quiet_op; go_big_quiet_on))
      refine wpQuiet_nil ?_
      intro w1 hw1
      go_wp2_with fail
      go_ret3
      rw [E1.out, E2.out]
      exact ⟨rfl, hw1⟩
    · rw [if_neg hlt] at hx
      have hk1 : k ≤ 1 := by
        rcases Nat.lt_or_ge k 2 with h | h
        · omega
        · have : k = 2 := by omega
          subst this
          simp at hm
          omega
      have hc : ((UInt8.ofNat (m % 128 + 128)).toNat : Int) = ((m % 128 + 128 : Nat) : Int) := by rw [UInt8.toNat_ofNat']; omega
      rw [hc] at hx
      have HM2 : Hid (m / 128 < 128 ^ (3 - (k + 1))) := by
        unfold Hid
        rw [show 3 - k = (3 - (k + 1)) + 1 by omega, Nat.pow_succ] at hm
        exact Nat.div_lt_of_lt_mul (by rw [Nat.mul_comm]; exact hm)
      have HP2 : Hid (putL t.length = (pre ++ [UInt8.ofNat (m % 128 + 128)]) ++ putF (10 - (k + 1)) (m / 128)) := by
        unfold Hid
        rw [hpre, show 10 - k = (10 - (k + 1)) + 1 by omega]
        simp only [putF]
        rw [if_neg hlt]
        simp
      have HA2 : Hid (a + q + m / 128 * 128 ^ (k + 1) = t.length) := by
        unfold Hid
        have e : m / 128 * 128 ^ (k + 1) = 128 * (m / 128) * 128 ^ k := by rw [Nat.pow_succ]; ac_rfl
        have e2 : 128 * (m / 128) * 128 ^ k + m % 128 * 128 ^ k = m * 128 ^ k := by rw [← Nat.add_mul, Nat.div_add_mod]
        rw [e, hq]
        omega
      have HT2 : Hid ((((128 ^ k : Nat) : Int)) * 128 = ((128 ^ (k + 1) : Nat) : Int)) := by unfold Hid; rw [Nat.pow_succ]; push_cast; rfl
      have hm128 : ((m % 128 + 128 : Nat) : Int) % 128 = ((m % 128 : Nat) : Int) := by omega
      have hmq : ((m % 128 : Nat) : Int) * ((128 ^ k : Nat) : Int) = (q : Int) := by rw [hq]; push_cast; rfl
      have hge : ¬ ((m % 128 + 128 : Nat) : Int) < 128 := by omega
      have hyb : ((m % 128 + 128 : Nat) : Int) < 256 := by omega
      have HPL : Hid ((pre ++ [UInt8.ofNat (m % 128 + 128)]).length = k + 1) := by unfold Hid; simp [hpl]
      clear hc hbyte hr' hmP hq hpre hpl ham hm hlt
      generalize m % 128 + 128 = y at *
      generalize m % 128 = r2 at *
      generalize 128 ^ k = P at *
      go_wp2_with fail
      go_round
      case rel => exact ⟨a + q, k + 1, m / 128, pre ++ [UInt8.ofNat y], rfl, by go_num, by rw [← HT2.out], by go_num, by omega, HM2.out, HPL.out, HP2.out, HA2.out⟩
      case measure => simp [RowKit.intOf]; omega
end Go.Proofs.Ytfgmhmhankikmaa
