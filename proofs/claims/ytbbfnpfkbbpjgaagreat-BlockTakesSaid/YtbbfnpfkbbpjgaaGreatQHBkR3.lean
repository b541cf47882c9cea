/- The reference of layer 15: Take. -/
import Derived.Test.YtbbfnpfkbbpjgaaGreatQHBlkV
import Derived.Test.YtbbfnpfkbbpjgaaGreatQHBuilderS
import Derived.Test.YtbbfnpfkbbpjgaaGreatQHDgText
import Derived.Test.YtbbfnpfkbbpjgaaGreatQHBkR1
import Derived.Test.YtbbfnpfkbbpjgaaGreatQHHdRef5
import Derived.Test.YtbbfnpfkbbpjgaaGreatQHDeedTR
namespace Go.Proofs.YtbbfnpfkbbpjgaaGreat
open Go.RowKit Go.Lib
set_option linter.unusedVariables false
set_option linter.unusedSimpArgs false
set_option maxRecDepth 100000
set_option maxHeartbeats 4000000
theorem ext_h (s : ByteArray) (n : Nat) : s.extract 0 n = ⟨(s.data.toList.take n).toArray⟩ := by
 apply ByteArray.ext
 apply Array.toList_inj.1
 simp
theorem j3z (s : ByteArray) (n : Nat) : (s.extract n s.size).size = s.size - n := by rw [ByteArray.size_extract]; omega
theorem x5d (s : ByteArray) (w : World) (hs : s.size ≤ 1048576) :
  Calls Tryz.prog 28 #[.string s] w fun e w' => (∃ v, e = .returned (.tuple #[v, .int .i64 (takB s.data.toList).2]) ∧ BlkIs w' v (takB s.data.toList).1) ∧ Below w.heap.size w w' := by
 have hz : s.data.toList.length = s.size := by simp
 have b := Below.refl w.heap.size w
 have HZO := hide q4w
 have HB0 := hide blkBuilt0
 obtain ⟨T, hT⟩ : ∃ T, T = takB s.data.toList := ⟨_, rfl⟩
 rw [← hT]
 by_cases h0 : s.size < 2320
 ·have c0 : decide ((s.size : Int) < 2320) = true := decide_eq_true (by omega)
  have HR : Hid (T = (blk0, 6)) := by rw [hT]; exact z0y (by rw [hz]; exact h0)
  clear hT hz
  have mF2 := True.intro
  have mF4 := True.intro
  go_enter Tryz.func28, Tryz.ntmps28
  go_wp2_with (first | (with_reducible refine w22g ?_; first | (clear mF2; refine q0z rfl rfl ?_; have qb2 := b.size; intro _ g2 hg2 F2 hb; (try replace b := later b hb); clear hb) | (clear mF4; refine q0z rfl rfl ?_; have qb4 := b.size; intro _ g4 hg4 F4 hb; have q24 := F2.lt; (try replace F2 := F2.later hb); (try replace b := later b hb); clear hb)) | ((with_reducible refine w19g ?_); refine q0q rfl 51 rfl (cs := blkCs hd0 nilD) HB0.out ?_) | ((with_reducible refine w23g ?_); refine q0j rfl _ _ rfl rfl (d := hd0) (v := nilD) rfl HZO.out rfl F4 ?_; intro _ t1 ht1; clear F4; replace F2 := F2.tt ht1; replace b := q0b b ht1 (by omega) (Nat.le_refl _); have F4 := t1; clear t1 ht1) | (with_reducible refine w16g ?_; first | refine q0v rfl _ rfl rfl F4 ?_) | ((with_reducible refine w23g ?_); refine q0j rfl _ _ rfl rfl rfl HZO.out rfl F2 ?_; intro _ t1 ht1; clear F2; replace b := q0b b ht1 (by omega) (Nat.le_refl _); have F2 := t1; clear t1 ht1))
  exact bodyPost_ret (q4m rfl _ _ _ rfl rfl F2) rfl ⟨⟨_, by rw [HR.out]; rfl, by rw [HR.out]; exact ⟨_, rfl, q3z _, q4w⟩⟩, b⟩
 have c0 : decide ((s.size : Int) < 2320) = false := decide_eq_false (by omega)
 have q0 : 2320 ≤ s.size := by omega
 have hl0 : ¬ s.data.toList.length < 2320 := by rw [hz]; omega
 have hL : (s.data.toList.take 2320).length = 2320 := by rw [List.length_take, hz]; omega
 obtain ⟨h, hh⟩ : ∃ h, h = hdOf (s.data.toList.take 2320) := ⟨_, rfl⟩
 have HHO : Hid h.Ok := by rw [hh]; exact x0c hL
 obtain ⟨sh, hsh⟩ : ∃ u : ByteArray, u = s.extract 0 2320 := ⟨_, rfl⟩
 have HHT : Hid (∀ w, Calls Tryz.prog 69 #[.string sh] w fun e w' => e = .returned (.tuple #[hdV h, .int .i64 0]) ∧ Below w.heap.size w w') := fun w => by
  rw [hsh, ext_h, hh]
  exact j7q _ hL w
 obtain ⟨s2, hs2⟩ : ∃ u : ByteArray, u = s.extract 2320 s.size := ⟨_, rfl⟩
 have e2 : s2.data.toList = s.data.toList.drop 2320 := by rw [hs2]; exact j5k s 2320
 have hz2 : s2.size ≤ 1048576 := by rw [hs2, j3z]; omega
 have HTK := hide (fun w => q8y s2 w (by omega))
 have HBB1 := hide (blkBuilt1 HHO.out)
 unfold takeV at HTK
 cases hq : takeO s2.data.toList with
 | none =>
  have HR : Hid (T = (blk0, 6)) := by rw [hT]; exact z1k hl0 (by rw [← e2]; exact hq)
  rw [hq] at HTK
  clear hT hz hl0 hL hh hq e2
  have mF2 := True.intro
  have mF4 := True.intro
  have mF5 := True.intro
  have mF7 := True.intro
  go_enter Tryz.func28, Tryz.ntmps28
  go_wp2_with (first | (with_reducible refine w22g ?_; first | (clear mF2; refine q0z rfl rfl ?_; have qb2 := b.size; intro _ g2 hg2 F2 hb; (try replace b := later b hb); clear hb) | (clear mF4; refine q0z rfl rfl ?_; have qb4 := b.size; intro _ g4 hg4 F4 hb; have q24 := F2.lt; (try replace F2 := F2.later hb); (try replace b := later b hb); clear hb)) | ((with_reducible refine w19g ?_); refine q0q rfl 51 rfl (cs := blkCs hd0 nilD) HB0.out ?_) | ((with_reducible refine w23g ?_); refine q0j rfl _ _ rfl rfl (d := hd0) (v := nilD) rfl HZO.out rfl F4 ?_; intro _ t1 ht1; clear F4; replace F2 := F2.tt ht1; replace b := q0b b ht1 (by omega) (Nat.le_refl _); have F4 := t1; clear t1 ht1) | (go_at_call 69; rw [← hsh]; refine (HHT.out _).mono ?_; rintro _ _ ⟨rfl, hc⟩; (try replace F2 := F2.later hc); (try replace F4 := F4.later hc); (try replace b := later b hc); clear hc) | (with_reducible refine w24g ?_; clear mF5; refine q4s rfl rfl ?_; have qb5 := b.size; intro _ g5 hg5 F5 hb; have q25 := F2.lt; have q45 := F4.lt; (try replace F2 := F2.later hb); (try replace F4 := F4.later hb); (try replace b := later b hb); clear hb) | ((with_reducible refine w25g ?_); refine q3x rfl _ _ rfl rfl rfl HHO.out F5 ?_; intro _ t1 ht1; clear F5; replace F2 := F2.tt ht1; replace F4 := F4.tt ht1; replace b := q0b b ht1 (by omega) (Nat.le_refl _); have F5 := t1; clear t1 ht1) | (with_reducible refine w9g ?_; refine q4a rfl _ rfl rfl F5 ?_) | ((with_reducible refine w19g ?_); refine q2x rfl 51 _ rfl rfl (cs := blkCs h nilD) HBB1.out ?_) | (with_reducible refine w22g ?_; clear mF7; refine q0z rfl rfl ?_; have qb7 := b.size; intro _ g7 hg7 F7 hb; have q27 := F2.lt; have q47 := F4.lt; have q57 := F5.lt; (try replace F2 := F2.later hb); (try replace F4 := F4.later hb); (try replace F5 := F5.later hb); (try replace b := later b hb); clear hb) | ((with_reducible refine w23g ?_); refine q0j rfl _ _ rfl rfl (d := h) (v := nilD) rfl HHO.out rfl F7 ?_; intro _ t1 ht1; clear F7; replace F2 := F2.tt ht1; replace F4 := F4.tt ht1; replace b := q0b b ht1 (by omega) (Nat.le_refl _); have F7 := t1; clear t1 ht1) | (with_reducible show wpList _ _ _ (⟨_, Op.slice _ _ _ _ _, _, _, _, _⟩ :: _) _ _; fail) | (go_at_call 70; rw [← hs2]; refine (HTK.out _).mono ?_; rintro _ _ ⟨⟨c, rfl, hc0⟩, hc⟩; have hcn : c ≠ 0 := (fun h => by have := hc0.1 h; cases this); have hcb : (c != 0) = true := bne_iff_ne.2 hcn; clear hc0 hcn; (try replace F2 := F2.later hc); (try replace F4 := F4.later hc); (try replace F7 := F7.later hc); (try replace b := later b hc); clear hc) | (with_reducible refine w16g ?_; first | refine q0v rfl _ rfl rfl F4 ?_) | ((with_reducible refine w23g ?_); refine q0j rfl _ _ rfl rfl rfl HZO.out rfl F2 ?_; intro _ t1 ht1; clear F2; (try replace F7 := F7.tt ht1); replace b := q0b b ht1 (by omega) (Nat.le_refl _); have F2 := t1; clear t1 ht1))
  exact bodyPost_ret (q4m rfl _ _ _ rfl rfl F2) rfl ⟨⟨_, by rw [HR.out]; rfl, by rw [HR.out]; exact ⟨_, rfl, q3z _, q4w⟩⟩, b⟩
 | some x =>
  obtain ⟨n, k⟩ := x
  have h2 : takeO (s.data.toList.drop 2320) = some (n, k) := by rw [← e2]; exact hq
  obtain ⟨hn64, -, -, hkl⟩ := q6n hq
  have hk2 : k ≤ s2.size := by
   have : s2.data.toList.length = s2.size := by simp
   omega
  have qk : k ≤ (s.extract 2320 s.size).size := by rw [← hs2]; exact hk2
  rw [hq] at HTK
  obtain ⟨s3, hs3⟩ : ∃ u : ByteArray, u = s2.extract k s2.size := ⟨_, rfl⟩
  have e3 : s3.data.toList = (s.data.toList.drop 2320).drop k := by rw [hs3, j5k, e2]
  have hz3 : s3.size ≤ 1048576 := by rw [hs3, j3z]; omega
  by_cases hn : 16 < n
  ·have HR : Hid (T = (blk0, 6)) := by rw [hT]; exact z1g hl0 h2 hn
   have c1 : decide ((16 : Int) < (n : Int)) = true := decide_eq_true (by omega)
   clear hT hz hl0 hL hh hq e2 h2 e3
   have mF2 := True.intro
   have mF4 := True.intro
   have mF5 := True.intro
   have mF7 := True.intro
   go_enter Tryz.func28, Tryz.ntmps28
   go_wp2_with (first | (with_reducible refine w22g ?_; first | (clear mF2; refine q0z rfl rfl ?_; have qb2 := b.size; intro _ g2 hg2 F2 hb; (try replace b := later b hb); clear hb) | (clear mF4; refine q0z rfl rfl ?_; have qb4 := b.size; intro _ g4 hg4 F4 hb; have q24 := F2.lt; (try replace F2 := F2.later hb); (try replace b := later b hb); clear hb)) | ((with_reducible refine w19g ?_); refine q0q rfl 51 rfl (cs := blkCs hd0 nilD) HB0.out ?_) | ((with_reducible refine w23g ?_); refine q0j rfl _ _ rfl rfl (d := hd0) (v := nilD) rfl HZO.out rfl F4 ?_; intro _ t1 ht1; clear F4; replace F2 := F2.tt ht1; replace b := q0b b ht1 (by omega) (Nat.le_refl _); have F4 := t1; clear t1 ht1) | (go_at_call 69; rw [← hsh]; refine (HHT.out _).mono ?_; rintro _ _ ⟨rfl, hc⟩; (try replace F2 := F2.later hc); (try replace F4 := F4.later hc); (try replace b := later b hc); clear hc) | (with_reducible refine w24g ?_; clear mF5; refine q4s rfl rfl ?_; have qb5 := b.size; intro _ g5 hg5 F5 hb; have q25 := F2.lt; have q45 := F4.lt; (try replace F2 := F2.later hb); (try replace F4 := F4.later hb); (try replace b := later b hb); clear hb) | ((with_reducible refine w25g ?_); refine q3x rfl _ _ rfl rfl rfl HHO.out F5 ?_; intro _ t1 ht1; clear F5; replace F2 := F2.tt ht1; replace F4 := F4.tt ht1; replace b := q0b b ht1 (by omega) (Nat.le_refl _); have F5 := t1; clear t1 ht1) | (with_reducible refine w9g ?_; refine q4a rfl _ rfl rfl F5 ?_) | ((with_reducible refine w19g ?_); refine q2x rfl 51 _ rfl rfl (cs := blkCs h nilD) HBB1.out ?_) | (with_reducible refine w22g ?_; clear mF7; refine q0z rfl rfl ?_; have qb7 := b.size; intro _ g7 hg7 F7 hb; have q27 := F2.lt; have q47 := F4.lt; have q57 := F5.lt; (try replace F2 := F2.later hb); (try replace F4 := F4.later hb); (try replace F5 := F5.later hb); (try replace b := later b hb); clear hb) | ((with_reducible refine w23g ?_); refine q0j rfl _ _ rfl rfl (d := h) (v := nilD) rfl HHO.out rfl F7 ?_; intro _ t1 ht1; clear F7; replace F2 := F2.tt ht1; replace F4 := F4.tt ht1; replace b := q0b b ht1 (by omega) (Nat.le_refl _); have F7 := t1; clear t1 ht1) | (go_at_call 70; rw [← hs2]; refine (HTK.out _).mono ?_; rintro _ _ ⟨⟨c, rfl, hc0⟩, hc⟩; have hcn : c = 0 := hc0.2 rfl; clear hc0; subst hcn; (try replace F2 := F2.later hc); (try replace F4 := F4.later hc); (try replace F7 := F7.later hc); (try replace b := later b hc); clear hc) | (with_reducible refine w16g ?_; first | refine q0v rfl _ rfl rfl F4 ?_) | ((with_reducible refine w23g ?_); refine q0j rfl _ _ rfl rfl rfl HZO.out rfl F2 ?_; intro _ t1 ht1; clear F2; (try replace F7 := F7.tt ht1); replace b := q0b b ht1 (by omega) (Nat.le_refl _); have F2 := t1; clear t1 ht1))
   exact bodyPost_ret (q4m rfl _ _ _ rfl rfl F2) rfl ⟨⟨_, by rw [HR.out]; rfl, by rw [HR.out]; exact ⟨_, rfl, q3z _, q4w⟩⟩, b⟩
  have c1 : decide ((16 : Int) < (n : Int)) = false := decide_eq_false (by omega)
  have HTN := hide (fun (h4 : dsP n s3.data.toList = none) => show T = (blk0, 6) by rw [hT]; exact z1h hl0 h2 hn (by rw [← e3]; exact h4))
  have HTS := hide (fun (l : List Deed) (r : List UInt8) (h4 : dsP n s3.data.toList = some (l, r)) => show T = if r = [] ∧ mayB ⟨h, l⟩ = true then (⟨h, l⟩, 0) else (blk0, 6) by rw [hT, hh]; exact z1b hl0 h2 hn (by rw [← e3]; exact h4))
  have h16 : n ≤ 16 := by omega
  clear hT hz hl0 hL hh hq e2 h2 e3 hn hn64
  have mF2 := True.intro
  have mF4 := True.intro
  have mF5 := True.intro
  have mF7 := True.intro
  go_enter Tryz.func28, Tryz.ntmps28
  go_wp2_with (first | (with_reducible refine w22g ?_; first | (clear mF2; refine q0z rfl rfl ?_; have qb2 := b.size; intro _ g2 hg2 F2 hb; (try replace b := later b hb); clear hb) | (clear mF4; refine q0z rfl rfl ?_; have qb4 := b.size; intro _ g4 hg4 F4 hb; have q24 := F2.lt; (try replace F2 := F2.later hb); (try replace b := later b hb); clear hb)) | ((with_reducible refine w19g ?_); refine q0q rfl 51 rfl (cs := blkCs hd0 nilD) HB0.out ?_) | ((with_reducible refine w23g ?_); refine q0j rfl _ _ rfl rfl (d := hd0) (v := nilD) rfl HZO.out rfl F4 ?_; intro _ t1 ht1; clear F4; replace F2 := F2.tt ht1; replace b := q0b b ht1 (by omega) (Nat.le_refl _); have F4 := t1; clear t1 ht1) | (go_at_call 69; rw [← hsh]; refine (HHT.out _).mono ?_; rintro _ _ ⟨rfl, hc⟩; (try replace F2 := F2.later hc); (try replace F4 := F4.later hc); (try replace b := later b hc); clear hc) | (with_reducible refine w24g ?_; clear mF5; refine q4s rfl rfl ?_; have qb5 := b.size; intro _ g5 hg5 F5 hb; have q25 := F2.lt; have q45 := F4.lt; (try replace F2 := F2.later hb); (try replace F4 := F4.later hb); (try replace b := later b hb); clear hb) | ((with_reducible refine w25g ?_); refine q3x rfl _ _ rfl rfl rfl HHO.out F5 ?_; intro _ t1 ht1; clear F5; replace F2 := F2.tt ht1; replace F4 := F4.tt ht1; replace b := q0b b ht1 (by omega) (Nat.le_refl _); have F5 := t1; clear t1 ht1) | (with_reducible refine w9g ?_; refine q4a rfl _ rfl rfl F5 ?_) | ((with_reducible refine w19g ?_); refine q2x rfl 51 _ rfl rfl (cs := blkCs h nilD) HBB1.out ?_) | (with_reducible refine w22g ?_; clear mF7; refine q0z rfl rfl ?_; have qb7 := b.size; intro _ g7 hg7 F7 hb; have q27 := F2.lt; have q47 := F4.lt; have q57 := F5.lt; (try replace F2 := F2.later hb); (try replace F4 := F4.later hb); (try replace F5 := F5.later hb); (try replace b := later b hb); clear hb) | ((with_reducible refine w23g ?_); refine q0j rfl _ _ rfl rfl (d := h) (v := nilD) rfl HHO.out rfl F7 ?_; intro _ t1 ht1; clear F7; replace F2 := F2.tt ht1; replace F4 := F4.tt ht1; replace b := q0b b ht1 (by omega) (Nat.le_refl _); have F7 := t1; clear t1 ht1) | (go_at_call 70; rw [← hs2]; refine (HTK.out _).mono ?_; rintro _ _ ⟨⟨c, rfl, hc0⟩, hc⟩; have hcn : c = 0 := hc0.2 rfl; clear hc0; subst hcn; (try replace F2 := F2.later hc); (try replace F4 := F4.later hc); (try replace F7 := F7.later hc); (try replace b := later b hc); clear hc))
  have HE3 : (s.extract 2320 s.size).extract k (s.size - 2320) = s3 := by rw [hs3, hs2, j3z]
  have hB2 : g2 < g7 + 1 := by omega
  have hB4 : g4 < g7 + 1 := by omega
  have hw2 : w.heap.size ≤ g2 := by omega
  have hw7 : w.heap.size ≤ g7 := by omega
  have hBz := F7.lt
  go_loopw [0, 11] (fun z i wr => ∃ (j : Nat) (s' : ByteArray) (ds : List Deed) (v : Value), z = .string s' ∧ i = .int .u64 j ∧ j ≤ n ∧ s'.size ≤ 1048576 ∧ Hid (ds.length = j) ∧ Hid (dsP n s3.data.toList = gotD ds (dsP (n - j) s'.data.toList)) ∧ KAt wr g7 h v ∧ DsOwn wr (g7 + 1) v ds ∧ KAt wr g2 hd0 nilD ∧ KAt wr g4 hd0 nilD ∧ Below w.heap.size w wr ∧ g7 + 1 ≤ wr.heap.size) (fun _ i _ => n - (RowKit.intOf i).toNat)
  case atStart => exact ⟨0, _, [], nilD, rfl, rfl, by omega, by rw [HE3]; exact hz3, hide rfl, by rw [HE3, x9h]; exact hide rfl, F7, DsOwn.nil _ _, F2, F4, b, hBz⟩
  clear F2 F4 F5 F7 b hBz HTK HHT HBB1 HE3 hs3 hs2 hsh hz3 hz2 hk2 hkl qk
  obtain ⟨j, s', ds, v, rfl, rfl, hj, hz', HLN, HX, F7, O7, F2, F4, b, hBz⟩ := hrel
  by_cases hlt : j < n
  case pos =>
   obtain ⟨m, hm⟩ : ∃ m, n - j = m + 1 := ⟨n - j - 1, by omega⟩
   have hmj : n - (j + 1) = m := by omega
   rw [hm] at HX
   have HTT := hide (fun w => j9n s' w hz')
   unfold tkV at HTT
   cases hq : takeT 32768 s'.data.toList with
   | none =>
    have HR : Hid (T = (blk0, 6)) := HTN.out (by rw [HX.out]; exact x6x hq)
    rw [hq] at HTT
    clear HX hq hm hmj HTN HTS
    go_wp2_with (first | (go_at_call 71; refine (HTT.out _).mono ?_; rintro _ _ ⟨⟨c, rfl, hc0⟩, hc⟩; have hcn : c ≠ 0 := (fun h => by have := hc0.1 h; cases this); have hcb : (c != 0) = true := bne_iff_ne.2 hcn; clear hc0 hcn; (try replace F2 := F2.later hc); (try replace F4 := F4.later hc); (try replace F7 := F7.later hc); (try replace b := later b hc); clear hc) | (with_reducible refine w16g ?_; refine q0v rfl _ rfl rfl F4 ?_) | ((with_reducible refine w23g ?_); refine q0j rfl _ _ rfl rfl rfl HZO.out rfl F2 ?_; intro _ t1 ht1; clear F2; (try replace F7 := F7.tt ht1); replace b := q0b b ht1 (by omega) (Nat.le_refl _); have F2 := t1; clear t1 ht1))
    exact bodyPost_ret (q4m rfl _ _ _ rfl rfl F2) rfl ⟨⟨_, by rw [HR.out]; rfl, by rw [HR.out]; exact ⟨_, rfl, q3z _, q4w⟩⟩, b⟩
   | some y =>
    obtain ⟨t, k3⟩ := y
    obtain ⟨-, -, ht3, hk3⟩ := j5z hq
    have hk3' : k3 ≤ s'.size := by
     have : s'.data.toList.length = s'.size := by simp
     omega
    rw [hq] at HTT
    obtain ⟨sx, hsx⟩ : ∃ u : ByteArray, u = ⟨t.toArray⟩ := ⟨_, rfl⟩
    have hxl : sx.data.toList = t := by rw [hsx]
    have hxz : sx.size ≤ 1048576 := by rw [hsx]; show t.toArray.size ≤ _; rw [List.size_toArray]; omega
    have HRT := hide (fun w => j6m j5b sx w hxz)
    rw [hxl] at HRT
    have e1 : ((some (t, k3)).getD ([], 0)).1 = t := rfl
    have e2 : ((some (t, k3)).getD ([], 0)).2 = k3 := rfl
    rw [e1, e2, ← hsx] at HTT
    have HGB := hide (fun (h2 : (takeD t).2 ≠ 0) => HTN.out (by rw [HX.out]; exact x9g hq h2))
    have HGO := hide (fun (h2 : (takeD t).2 = 0) => show dsP n s3.data.toList = gotD (ds ++ [(takeD t).1]) (dsP m (s'.extract k3 s'.size).data.toList) by rw [HX.out, j5k]; exact x8k hq h2)
    have hzx : (s'.extract k3 s'.size).size ≤ 1048576 := by rw [j3z]; omega
    have HZX := hide hzx
    clear HX hq hm hsx hxl e1 e2 hk3 ht3 hxz hzx
    generalize (takeD t).1 = dd at *
    generalize (takeD t).2 = dc at *
    by_cases hdc : dc = 0
    ·subst hdc
     have HGO2 := hide (HGO.out rfl)
     clear HGO HGB HTN HTS
     obtain ⟨a7, c7, rfl⟩ := O7.shape
     rw [HLN.out] at F7 O7
     have HMJ := hide hmj
     have h7g : ∀ y, (Value.slice a7 j c7).ownBlock = some y → g7 + 1 ≤ y := O7.ge
     have mF5 := True.intro
     clear hmj
     go_wp2_with (first | (go_at_call 71; refine (HTT.out _).mono ?_; rintro _ _ ⟨⟨c, rfl, hc0⟩, hb⟩; have hcn : c = 0 := hc0.2 rfl; clear hc0; subst hcn; (try replace F2 := F2.later hb); (try replace F4 := F4.later hb); (try replace F7 := F7.later hb); (try replace O7 := O7.later hb); replace b := later b hb; replace hBz := Nat.le_trans hBz hb.size; clear hb) | (go_at_call 72; have hv7 := O7.lt; have hBd := hBz; refine (HRT.out _).mono ?_; rintro _ _ ⟨⟨v', rfl, IO⟩, hb⟩; (try replace F2 := F2.later hb); (try replace F4 := F4.later hb); (try replace F7 := F7.later hb); (try replace O7 := O7.later hb); replace b := later b hb; replace hBz := Nat.le_trans hBz hb.size; clear hb; obtain ⟨D2, hD2, K2⟩ := IO.kpd; obtain ⟨y1, y2, y3, y4, y5, rfl, S1, S2, S3, S4, S5, hok⟩ := K2.now; have o1 := S1.one'; have o2 := S2.one'; have o3 := S3.one'; have o4 := S4.one'; have o5 := S5.one'; clear S1 S2 S3 S4 S5 hok IO) | (with_reducible refine w12g ?_; clear mF5; refine q1x rfl rfl ?_; intro _ g5 hg5 F5 ha; simp only [pS]) | ((with_reducible refine w13g ?_); refine q1b rfl _ _ rfl rfl (v1 := y1) (v2 := y2) (v3 := y3) (v4 := y4) (v5 := y5) (f := dd.fee) (s := dd.frm) (t := dd.til) rfl o1 o2 o3 o4 o5 F5 ?_; intro _ t1 ht1; have hb := q0b ha ht1 hg5 (Nat.le_refl _); clear F5; (try replace F2 := F2.later hb); (try replace F4 := F4.later hb); (try replace F7 := F7.later hb); (try replace O7 := O7.later hb); (try replace K2 := K2.later hb); (try replace hD2 := (fun y hy => ⟨(hD2 y hy).1, Nat.lt_of_lt_of_le (hD2 y hy).2 hb.size⟩ : ∀ y, D2 y → _ ∧ _)); replace b := later b hb; replace hBz := Nat.le_trans hBz hb.size; have F5 := t1; clear t1 ht1 ha hb; simp only [pS]) | (with_reducible refine w0g ?_; refine q0a rfl 42 _ rfl rfl (KAt.ds F7) (by kernel_rfl) ?_) | (with_reducible refine w11g ?_; refine q1g rfl _ rfl rfl F5 ?_) | ((with_reducible refine w7g ?_); refine j8n rfl _ rfl rfl o1 o2 o3 o4 o5 ?_; intro _ g9 _ S9 hb; (try replace F2 := F2.later hb); (try replace F4 := F4.later hb); (try replace F5 := F5.later hb); (try replace F7 := F7.later hb); (try replace O7 := O7.later hb); (try replace K2 := K2.later hb); (try replace hD2 := (fun y hy => ⟨(hD2 y hy).1, Nat.lt_of_lt_of_le (hD2 y hy).2 hb.size⟩ : ∀ y, D2 y → _ ∧ _)); replace b := later b hb; replace hBz := Nat.le_trans hBz hb.size; clear hb) | ((with_reducible refine w15g ?_); refine j1p rfl _ _ rfl rfl O7 rfl S9 K2 hD2 hv7 hBd o1 o2 o3 o4 o5 (j + 1) (by rw [HLN.out]) (by omega) hBz ?_; intro a8 c8 _ O8 ht; replace F7 := F7.touch ht (fun hh => by have := h7g _ hh; omega); replace F2 := F2.touch ht (fun hh => by have := h7g _ hh; omega); replace F4 := F4.touch ht (fun hh => by have := h7g _ hh; omega); replace b := b.trans (ht.below (B := w.heap.size) b.size (fun y hy => by have := h7g y hy; omega)); replace hBz := Nat.le_trans hBz ht.size; clear O7 ht K2 S9 hD2) | ((with_reducible show wpList _ _ _ (⟨_, Op.store 42 _ _, _, _, _, _⟩ :: _) _ _); refine j4x rfl _ _ rfl rfl rfl rfl rfl F7 ?_; intro _ t1 ht1; clear F7; replace O8 := O8.tt ht1 (by omega); replace F2 := F2.tt ht1; replace F4 := F4.tt ht1; replace b := q0b b ht1 hw7 (Nat.le_refl _); replace hBz := Nat.le_trans hBz ht1.size; have F7 := t1; clear t1 ht1))
     go_roundw
     case rel => exact ⟨j + 1, s'.extract k3 s'.size, ds ++ [dd], .slice a8 (j + 1) c8, rfl, by simp, by omega, HZX.out, hide (by rw [List.length_append, HLN.out]; rfl), by rw [HMJ.out]; exact HGO2, F7, O8, F2, F4, b, hBz⟩
     case measure => simp [RowKit.intOf]; omega
    ·have hcb2 : (dc != 0) = true := bne_iff_ne.2 hdc
     have HR : Hid (T = (blk0, 6)) := HGB.out hdc
     clear HGO HGB HTN HTS hdc hmj
     obtain ⟨a7, c7, rfl⟩ := O7.shape
     have mF5 := True.intro
     go_wp2_with (first | (go_at_call 71; refine (HTT.out _).mono ?_; rintro _ _ ⟨⟨c, rfl, hc0⟩, hb⟩; have hcn : c = 0 := hc0.2 rfl; clear hc0; subst hcn; (try replace F2 := F2.later hb); (try replace F4 := F4.later hb); (try replace F7 := F7.later hb); (try replace O7 := O7.later hb); replace b := later b hb; replace hBz := Nat.le_trans hBz hb.size; clear hb) | (go_at_call 72; have hv7 := O7.lt; have hBd := hBz; refine (HRT.out _).mono ?_; rintro _ _ ⟨⟨v', rfl, IO⟩, hb⟩; (try replace F2 := F2.later hb); (try replace F4 := F4.later hb); (try replace F7 := F7.later hb); (try replace O7 := O7.later hb); replace b := later b hb; replace hBz := Nat.le_trans hBz hb.size; clear hb; obtain ⟨D2, hD2, K2⟩ := IO.kpd; obtain ⟨y1, y2, y3, y4, y5, rfl, S1, S2, S3, S4, S5, hok⟩ := K2.now; have o1 := S1.one'; have o2 := S2.one'; have o3 := S3.one'; have o4 := S4.one'; have o5 := S5.one'; clear S1 S2 S3 S4 S5 hok IO) | (with_reducible refine w12g ?_; clear mF5; refine q1x rfl rfl ?_; intro _ g5 hg5 F5 ha; simp only [pS]) | ((with_reducible refine w13g ?_); refine q1b rfl _ _ rfl rfl (v1 := y1) (v2 := y2) (v3 := y3) (v4 := y4) (v5 := y5) (f := dd.fee) (s := dd.frm) (t := dd.til) rfl o1 o2 o3 o4 o5 F5 ?_; intro _ t1 ht1; have hb := q0b ha ht1 hg5 (Nat.le_refl _); clear F5; (try replace F2 := F2.later hb); (try replace F4 := F4.later hb); (try replace F7 := F7.later hb); (try replace O7 := O7.later hb); (try replace K2 := K2.later hb); (try replace hD2 := (fun y hy => ⟨(hD2 y hy).1, Nat.lt_of_lt_of_le (hD2 y hy).2 hb.size⟩ : ∀ y, D2 y → _ ∧ _)); replace b := later b hb; replace hBz := Nat.le_trans hBz hb.size; have F5 := t1; clear t1 ht1 ha hb; simp only [pS]) | (with_reducible refine w16g ?_; refine q0v rfl _ rfl rfl F4 ?_) | ((with_reducible refine w23g ?_); refine q0j rfl _ _ rfl rfl rfl HZO.out rfl F2 ?_; intro _ t1 ht1; clear F2; (try replace F7 := F7.tt ht1); replace b := q0b b ht1 (by omega) (Nat.le_refl _); have F2 := t1; clear t1 ht1))
     exact bodyPost_ret (q4m rfl _ _ _ rfl rfl F2) rfl ⟨⟨_, by rw [HR.out]; rfl, by rw [HR.out]; exact ⟨_, rfl, q3z _, q4w⟩⟩, b⟩
  obtain rfl : n = j := by omega
  have hTS := HTS.out ds s'.data.toList (by rw [HX.out, Nat.sub_self]; exact x9b)
  have HM := hide (fun (w' : World) (O : DsOwn w' (g7 + 1) v ds) => x9f _ ⟨h, ds⟩ w' ⟨v, rfl, O.is, HHO.out⟩ (by show ds.length ≤ 1000; rw [HLN.out]; omega))
  obtain ⟨a7, c7, rfl⟩ := O7.shape
  clear HX HTN HTS hlt hj
  by_cases hr : s'.data.toList = []
  ·have HE : Hid ((s'.toList == (⟨#[]⟩ : ByteArray).toList) = true) := by rw [ByteArray.toList_eq, hr, ByteArray.toList_eq]; exact hide rfl
   cases hm : mayB ⟨h, ds⟩
   ·have HR : Hid (T = (blk0, 6)) := by rw [hTS, if_neg (by rw [hm]; simp)]; exact hide rfl
    rw [hm] at HM
    clear hTS hr hm
    go_wp2_with (first | (with_reducible refine w8g ?_; refine q5c rfl _ _ rfl rfl rfl HE.out ?_) | (go_at_call 32; refine (HM.out _ O7).mono ?_; rintro _ _ ⟨rfl, hb⟩; (try replace F2 := F2.later hb); (try replace F4 := F4.later hb); (try replace F7 := F7.later hb); (try replace O7 := O7.later hb); replace b := later b hb; replace hBz := Nat.le_trans hBz hb.size; clear hb) | (with_reducible refine w16g ?_; first | refine q0v rfl _ rfl rfl F7 ?_ | refine q0v rfl _ rfl rfl F4 ?_) | ((with_reducible refine w23g ?_); refine q0j rfl _ _ rfl rfl rfl HZO.out rfl F2 ?_; intro _ t1 ht1; clear F2; (try replace F7 := F7.tt ht1); replace b := q0b b ht1 (by omega) (Nat.le_refl _); have F2 := t1; clear t1 ht1))
    exact bodyPost_ret (q4m rfl _ _ _ rfl rfl F2) rfl ⟨⟨_, by rw [HR.out]; rfl, by rw [HR.out]; exact ⟨_, rfl, q3z _, q4w⟩⟩, b⟩
   ·have HR : Hid (T = (⟨h, ds⟩, 0)) := by rw [hTS, if_pos ⟨hr, hm⟩]; exact hide rfl
    rw [hm] at HM
    clear hTS hr hm
    go_wp2_with (first | (with_reducible refine w8g ?_; refine q5c rfl _ _ rfl rfl rfl HE.out ?_) | (go_at_call 32; refine (HM.out _ O7).mono ?_; rintro _ _ ⟨rfl, hb⟩; (try replace F2 := F2.later hb); (try replace F4 := F4.later hb); (try replace F7 := F7.later hb); (try replace O7 := O7.later hb); replace b := later b hb; replace hBz := Nat.le_trans hBz hb.size; clear hb) | (with_reducible refine w16g ?_; refine q0v rfl _ rfl rfl F7 ?_) | ((with_reducible refine w23g ?_); refine q0j rfl _ _ rfl rfl (d := h) rfl HHO.out rfl F2 ?_; intro _ t1 ht1; clear F2; replace O7 := O7.tt ht1 hB2; replace b := q0b b ht1 hw2 (Nat.le_refl _); have F2 := t1; clear t1 ht1))
    exact bodyPost_ret (q4m rfl _ _ _ rfl rfl F2) rfl ⟨⟨_, by rw [HR.out]; rfl, by rw [HR.out]; exact ⟨_, rfl, O7.is, HHO.out⟩⟩, b⟩
  ·have HE : Hid ((s'.toList == (⟨#[]⟩ : ByteArray).toList) = false) := by rw [ByteArray.toList_eq, ByteArray.toList_eq]; unfold Hid; rw [beq_eq_false_iff_ne]; exact hr
   have HR : Hid (T = (blk0, 6)) := by rw [hTS, if_neg (fun h => hr h.1)]; exact hide rfl
   clear hTS hr HM
   go_wp2_with (first | (with_reducible refine w8g ?_; refine q5c rfl _ _ rfl rfl rfl HE.out ?_) | (with_reducible refine w16g ?_; refine q0v rfl _ rfl rfl F4 ?_) | ((with_reducible refine w23g ?_); refine q0j rfl _ _ rfl rfl rfl HZO.out rfl F2 ?_; intro _ t1 ht1; clear F2; (try replace F7 := F7.tt ht1); replace b := q0b b ht1 (by omega) (Nat.le_refl _); have F2 := t1; clear t1 ht1))
   exact bodyPost_ret (q4m rfl _ _ _ rfl rfl F2) rfl ⟨⟨_, by rw [HR.out]; rfl, by rw [HR.out]; exact ⟨_, rfl, q3z _, q4w⟩⟩, b⟩
end Go.Proofs.YtbbfnpfkbbpjgaaGreat
