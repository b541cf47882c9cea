/- The law ShaTold: a row of parts under a tag is told by its bytes, in one way alone. -/
import Derived.Test.YtfgmhmhankikmaaTold
namespace Go.Proofs.Ytfgmhmhankikmaa
open Go.RowKit Go.Lib

theorem tellL_drop (ps : List ByteArray) (k : Nat) (h : k < ps.length) : tellL (ps.drop k) = putText (ps.getD k ByteArray.empty).data.toList ++ tellL (ps.drop (k + 1)) := by
  unfold tellL
  rw [drop_getD ps k ByteArray.empty h, List.flatMap_cons]
theorem back (b : ByteArray) : (⟨b.data.toList.toArray⟩ : ByteArray) = b := by cases b; simp
theorem tellL_drop_le (ps : List ByteArray) (k : Nat) : (tellL (ps.drop k)).length ≤ (tellL ps).length := by
  have : tellL ps = tellL (ps.take k) ++ tellL (ps.drop k) := by unfold tellL; rw [← List.flatMap_append, List.take_append_drop]
  rw [this, List.length_append]
  omega
theorem partsN_each (ps : List ByteArray) (h : partsN ps ≤ 16384) (k : Nat) (hk : k < ps.length) : (ps.getD k ByteArray.empty).size ≤ 16384 := by
  have h1 := partsN_take ps k hk
  have h2 : partsN (ps.take (k + 1)) ≤ partsN ps := by
    have : partsN ps = partsN (ps.take (k + 1)) + partsN (ps.drop (k + 1)) := by
      unfold partsN; rw [← List.sum_append, ← List.map_append, List.take_append_drop]
    omega
  omega

set_option maxRecDepth 100000 in
set_option maxHeartbeats 6400000 in
theorem shaTold_row (w : World) (tag : ByteArray) (_ : tag.size ≤ 9223372036854775807) (v : Value) (ps : List ByteArray) (hv0 : Strs w v ps) (hn : ps.length ≤ 9223372036854775807) :
    Calls Try.prog 11 #[.string tag, v] w fun e w' => e = .returned (.bool true) ∧ Below w.heap.size w w' := by
  have HV := hide hv0
  obtain ⟨a, cap, rfl, hcell⟩ := strs_at hv0
  have HCELL := hide hcell
  clear hcell hv0
  go_enter Try.func11, Try.ntmps11
  go_wp2_with fail
  go_loop [5, 21] (fun m i => ∃ k : Nat, k ≤ ps.length ∧ i = .int .i64 k ∧ m = .int .i64 (partsN (ps.take k)) ∧ partsN (ps.take k) ≤ 16384) (fun _ i => ps.length - (RowKit.intOf i).toNat)
  case atStart => exact ⟨0, by omega, rfl, rfl, by simp [partsN]⟩
  case round =>
    obtain ⟨k, hk, rfl, rfl, hpn⟩ := hrel
    by_cases hlt : k < ps.length
    · obtain ⟨g, off, rfl, hg, hc⟩ := HCELL.out k hlt
      have HPN := hide (partsN_take ps k hlt)
      generalize ps.getD k ByteArray.empty = pk at *
      generalize partsN (ps.take k) = m at *
      by_cases hbig : 16384 < pk.size
      · have e1 : min (pk.size : Int) 16384 = 16384 := by omega
        have e2 : (16384 : Int) < (m : Int) + 16385 := by omega
        go_wp2_with fail
        refine (works03 _).mono ?_
        rintro _ w1 ⟨rfl, hb1⟩
        go_wp2_with fail
        go_ret
        exact ⟨rfl, hb1⟩
      · have e1 : min (pk.size : Int) 16384 = (pk.size : Int) := by omega
        have e0 : min pk.size 16384 = pk.size := by omega
        by_cases hover : 16384 < m + (pk.size + 1)
        · have e2 : (16384 : Int) < (m : Int) + ((pk.size : Int) + 1) := by omega
          clear e0
          go_wp2_with fail
          refine (works03 _).mono ?_
          rintro _ w1 ⟨rfl, hb1⟩
          go_wp2_with fail
          go_ret
          exact ⟨rfl, hb1⟩
        · have e2 : ¬ (16384 : Int) < (m : Int) + ((pk.size : Int) + 1) := by omega
          have HN : Hid (partsN (ps.take (k + 1)) = m + (pk.size + 1)) := by unfold Hid; rw [HPN.out, e0]
          clear e0
          go_wp2_with fail
          go_round
          case rel => exact ⟨k + 1, by omega, by go_num, by rw [HN.out]; simp, by rw [HN.out]; omega⟩
          case measure => simp [RowKit.intOf]; omega
    · have hkn : k = ps.length := by omega
      subst hkn
      rw [List.take_length] at hpn
      obtain ⟨hpb1, hpb2⟩ := partsN_bound ps hpn
      by_cases htag : 16384 < tag.size
      · have e2 : (16384 : Int) < (tag.size : Int) := by omega
        go_wp2_with fail
        refine (works03 _).mono ?_
        rintro _ w1 ⟨rfl, hb1⟩
        go_wp2_with fail
        go_ret
        exact ⟨rfl, hb1⟩
      · have e2 : ¬ (16384 : Int) < (tag.size : Int) := by omega
        have htl : (putText tag.data.toList).length ≤ 16394 := by
          have h4 := putL_length tag.data.toList.length
          have h3 : tag.data.toList.length = tag.size := by simp
          have e3 : (putText tag.data.toList).length = (putL tag.data.toList.length).length + tag.size := by simp [putText]
          omega
        have HSZ : Hid ((putText tag.data.toList ++ tellL ps).length ≤ 1099511627776) := by
          unfold Hid; rw [List.length_append]; omega
        have HEACH := hide (partsN_each ps hpn)
        have HL : Hid ((ofL tag ps).length = 32) := sha_length _
        have HT0 : Hid (putText tag.data.toList ++ tellL (ps.take 0) = putText tag.data.toList) := by simp [tellL, Hid]
        clear hk hlt
        go_wp2_with fail
        refine (told_any tag _ (by omega)).mono ?_
        rintro _ w1 ⟨rfl, hb1⟩
        go_wp2_with fail
        go_loopw [8, 43] (fun sv i wr => ∃ k : Nat, k ≤ ps.length ∧ i = .int .i64 k ∧ sv = .string ⟨(putText tag.data.toList ++ tellL (ps.take k)).toArray⟩ ∧ Below w.heap.size w wr) (fun _ i _ => ps.length - (RowKit.intOf i).toNat)
        case atStart => exact ⟨0, by omega, rfl, by rw [HT0.out], hb1⟩
        case round =>
          obtain ⟨k, hk, rfl, rfl, qb⟩ := hrel
          clear hb1
          by_cases hlt : k < ps.length
          · obtain ⟨g, off, rfl, hg, hc⟩ := HCELL.out k hlt
            have c1 : wr.cell? ⟨g, off + k, none⟩ = some (.string (ps.getD k ByteArray.empty)) := (qb.cell (p := ⟨g, off + k, none⟩) hg).trans hc
            have hz := HEACH.out k hlt
            have HT : Hid ((⟨(putText tag.data.toList ++ tellL (ps.take k)).toArray⟩ : ByteArray) ++ ⟨(putText (ps.getD k ByteArray.empty).data.toList).toArray⟩ = ⟨(putText tag.data.toList ++ tellL (ps.take (k + 1))).toArray⟩) := by
              unfold Hid; rw [cat_bytes, tellL_take ps k hlt, List.append_assoc]
            have HC : Hid (¬ 9223372036854775807 < (⟨(putText tag.data.toList ++ tellL (ps.take k)).toArray⟩ : ByteArray).size + (⟨(putText (ps.getD k ByteArray.empty).data.toList).toArray⟩ : ByteArray).size) := by
              have h1 := HSZ.out
              have h2 := tellL_le ps (k + 1)
              rw [tellL_take ps k hlt] at h2
              simp only [List.length_append] at h1 h2
              show ¬ _ < (putText tag.data.toList ++ tellL (ps.take k)).length + (putText (ps.getD k ByteArray.empty).data.toList).length
              rw [List.length_append]
              omega
            generalize ps.getD k ByteArray.empty = pk at *
            generalize (⟨(putText tag.data.toList ++ tellL (ps.take k)).toArray⟩ : ByteArray) = sk at *
            clear hc
            go_wp2_with fail
            refine (told_any pk _ (by omega)).mono ?_
            rintro _ w3 ⟨rfl, hb3⟩
            have b3 := qb.trans (hb3.mono qb.size)
            generalize (⟨(putText pk.data.toList).toArray⟩ : ByteArray) = pt at *
            have hc := HC.out
            clear c1 qb
            go_wp2_with fail
            go_roundw
            case rel => exact ⟨k + 1, by omega, by simp, by rw [HT.out], b3⟩
            case measure => simp [RowKit.intOf]; omega
          · have hkn : k = ps.length := by omega
            subst hkn
            rw [List.take_length]
            have HX : Hid (sha (⟨(putText tag.data.toList ++ tellL ps).toArray⟩ : ByteArray).data.toList = ofL tag ps) := rfl
            have HLS : Hid ((⟨(putText tag.data.toList ++ tellL ps).toArray⟩ : ByteArray).size ≤ 1099511627776) := HSZ.out
            have hstr := strs_later HV.out (show Below w.heap.size w wr from qb)
            have HUN := hide (fun W => untold_any tag.data.toList (tellL ps) W (by simp; omega) (by omega))
            obtain ⟨all, hall⟩ : ∃ all : ByteArray, all = ⟨(putText tag.data.toList ++ tellL ps).toArray⟩ := ⟨_, rfl⟩
            rw [← hall] at HX HLS HUN ⊢
            clear hall
            go_wp2_with fail
            refine (of_any tag ps _ _ hstr (by omega) HSZ.out).mono ?_
            rintro _ w5 ⟨rfl, hb5⟩
            clear hstr
            go_wp2_with fail
            refine (sum_any all _ HLS.out).mono ?_
            rintro _ w6 ⟨rfl, hb6⟩
            rw [HX.out]
            generalize ofL tag ps = x at *
            have hbb := later qb (later hb5 hb6)
            clear qb hb5 hb6
            go_wp2_with (refine wpl_ne_hash rfl _ _ rfl rfl rfl HL.out HL.out ?_)
            refine (HUN.out _).mono ?_
            rintro _ w7 ⟨rfl, hb7⟩
            rw [back tag]
            have hb8 := later hbb hb7
            have HD0 : Hid (ps.drop 0 = ps) := by simp [Hid]
            clear hbb hb7
            go_wp2_with fail
            go_loopw [12, 73] (fun sv i wr => ∃ k : Nat, k ≤ ps.length ∧ i = .int .i64 k ∧ sv = .string ⟨(tellL (ps.drop k)).toArray⟩ ∧ Below w.heap.size w wr) (fun _ i _ => ps.length - (RowKit.intOf i).toNat)
            case atStart => exact ⟨0, by omega, rfl, by rw [HD0.out], hb8⟩
            case round =>
              obtain ⟨k, hk, rfl, rfl, qb⟩ := hrel
              clear hb8
              by_cases hlt : k < ps.length
              · obtain ⟨g, off, rfl, hg, hc⟩ := HCELL.out k hlt
                have c1 : wr.cell? ⟨g, off + k, none⟩ = some (.string (ps.getD k ByteArray.empty)) := (qb.cell (p := ⟨g, off + k, none⟩) hg).trans hc
                have hz := HEACH.out k hlt
                have HDR := hide (tellL_drop ps k hlt)
                have HDL := hide (tellL_drop_le ps (k + 1))
                have HPB := hide hpb1
                generalize ps.getD k ByteArray.empty = pk at *
                have HU2 := hide (fun W => untold_any pk.data.toList (tellL (ps.drop (k + 1))) W (by simp; omega) (by have := HDL.out; omega))
                rw [← HDR.out] at HU2
                clear hc
                generalize (⟨(tellL (ps.drop k)).toArray⟩ : ByteArray) = sk at *
                go_wp2_with fail
                refine (HU2.out _).mono ?_
                rintro _ w9 ⟨rfl, hb9⟩
                rw [back pk]
                have hb10 := qb.trans (hb9.mono qb.size)
                obtain ⟨sk2, hsk2⟩ : ∃ sk2 : ByteArray, sk2 = ⟨(tellL (ps.drop (k + 1))).toArray⟩ := ⟨_, rfl⟩
                rw [← hsk2]
                have HSK := hide hsk2
                clear hsk2
                clear c1 qb hb9
                go_wp2_with fail
                go_roundw
                case rel => exact ⟨k + 1, by omega, by simp, by rw [HSK.out], hb10⟩
                case measure => simp [RowKit.intOf]; omega
              · have hkn : k = ps.length := by omega
                subst hkn
                have HE : Hid ((⟨(tellL (ps.drop ps.length)).toArray⟩ : ByteArray) = ⟨#[]⟩) := by unfold Hid; rw [List.drop_length]; rfl
                rw [HE.out]
                go_wp2_with fail
                refine (works03 _).mono ?_
                rintro _ w9 ⟨rfl, hb9⟩
                go_wp2_with fail
                go_ret
                exact ⟨rfl, later qb hb9⟩
end Go.Proofs.Ytfgmhmhankikmaa
