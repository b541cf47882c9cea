/- mintageref03.Of as a contract. -/
import Derived.Test.YtikphhhkikdhaaaRefSum
import Derived.Test.YtikphhhkikdhaaaRefPut
import Derived.Test.YtikphhhkikdhaaaOf
namespace Go.Proofs.Ytikphhhkikdhaaa
open Go.RowKit Go.Lib

theorem cat_bytes (a b : List UInt8) : (⟨a.toArray⟩ : ByteArray) ++ ⟨b.toArray⟩ = ⟨(a ++ b).toArray⟩ := by apply ByteArray.ext; simp
theorem strs_at {w : World} {v : Value} {ps : List ByteArray} (h : Strs w v ps) : ∃ a cap, v = .slice a ps.length cap ∧ ∀ i, i < ps.length → ∃ g off, a = some ⟨g, off, none⟩ ∧ g < w.heap.size ∧ w.cell? ⟨g, off + i, none⟩ = some (.string (ps.getD i ByteArray.empty)) := h
theorem tellL_take (ps : List ByteArray) (k : Nat) (h : k < ps.length) : tellL (ps.take (k + 1)) = tellL (ps.take k) ++ putText (ps.getD k ByteArray.empty).data.toList := by
  unfold tellL
  rw [take_next ps k ByteArray.empty h, List.flatMap_append]
  simp
theorem tellL_le (ps : List ByteArray) (k : Nat) : (tellL (ps.take k)).length ≤ (tellL ps).length := by
  have : tellL ps = tellL (ps.take k) ++ tellL (ps.drop k) := by unfold tellL; rw [← List.flatMap_append, List.take_append_drop]
  rw [this, List.length_append]
  omega

set_option maxRecDepth 100000 in
set_option maxHeartbeats 3200000 in
theorem refOf_any (tag : ByteArray) (ps : List ByteArray) (v : Value) (w : World) (hv0 : Strs w v ps) (hn : ps.length < 4611686018427387904) (hs : (putText tag.data.toList ++ tellL ps).length ≤ 1099511627776) :
    Calls Try.prog 72 #[.string tag, v] w fun e w' => e = .returned (hv (ofL tag ps)) ∧ Below w.heap.size w w' := by
  obtain ⟨R, hR⟩ : ∃ R, R = ofL tag ps := ⟨_, rfl⟩
  rw [← hR]
  have HR := hide hR
  clear hR
  have HS := hide hs
  clear hs
  have HST : Hid (∀ i, i < ps.length → (ps.getD i ByteArray.empty).size ≤ 1099511627776) := by
    intro i hi
    have h := HS.out
    have hm : ps.getD i ByteArray.empty ∈ ps := by rw [List.getD_eq_getElem?_getD, List.getElem?_eq_getElem hi]; exact List.getElem_mem hi
    have := tellL_part ps _ hm
    rw [List.length_append] at h
    omega
  have htg : tag.size ≤ 1099511627776 := by
    have h := HS.out
    have h2 := putText_size tag
    rw [List.length_append] at h
    omega
  obtain ⟨a, cap, rfl, hcell⟩ := strs_at hv0
  have HCELL := hide hcell
  clear hcell hv0
  have HZ := HashAt.zero w
  have hb := below1 w (.cells (bvs zero32).toArray 23)
  go_enter Try.func72, Try.ntmps72
  go_wp2_with fail
  show Calls _ _ _ (w.alloc (.cells (bvs zero32).toArray 23)) _
  generalize w.alloc (.cells (bvs zero32).toArray 23) = W at *
  refine (refPutText_any tag _ htg).mono ?_
  rintro _ w1 ⟨rfl, hb1⟩
  have z1 := HZ.later hb1
  have b1 := later hb hb1
  have HT0 : Hid (putText tag.data.toList ++ tellL (ps.take 0) = putText tag.data.toList) := by simp [tellL, Hid]
  clear HZ hb hb1 htg
  go_wp2_with fail
  go_loopw [5, 6] (fun sv i wr => ∃ k : Nat, k ≤ ps.length ∧ i = .int .i64 k ∧ sv = .string ⟨(putText tag.data.toList ++ tellL (ps.take k)).toArray⟩ ∧ HashAt wr w.heap.size zero32 ∧ Below w.heap.size w wr) (fun _ i _ => ps.length - (RowKit.intOf i).toNat)
  case atStart => exact ⟨0, by omega, rfl, by rw [HT0.out], z1, b1⟩
  case round =>
    obtain ⟨k, hk, rfl, rfl, qz, qb⟩ := hrel
    clear z1 b1
    by_cases hlt : k < ps.length
    · obtain ⟨g, off, rfl, hg, hc⟩ := HCELL.out k hlt
      have c1 : wr.cell? ⟨g, off + k, none⟩ = some (.string (ps.getD k ByteArray.empty)) := (qb.cell (p := ⟨g, off + k, none⟩) hg).trans hc
      have hz := HST.out k hlt
      have HT : Hid ((⟨(putText tag.data.toList ++ tellL (ps.take k)).toArray⟩ : ByteArray) ++ ⟨(putText (ps.getD k ByteArray.empty).data.toList).toArray⟩ = ⟨(putText tag.data.toList ++ tellL (ps.take (k + 1))).toArray⟩) := by
        unfold Hid; rw [cat_bytes, tellL_take ps k hlt, List.append_assoc]
      have HC : Hid (¬ 9223372036854775807 < (⟨(putText tag.data.toList ++ tellL (ps.take k)).toArray⟩ : ByteArray).size + (⟨(putText (ps.getD k ByteArray.empty).data.toList).toArray⟩ : ByteArray).size) := by
        have h1 := HS.out
        have h2 := tellL_le ps (k + 1)
        rw [tellL_take ps k hlt] at h2
        simp only [List.length_append] at h1 h2
        show ¬ _ < (putText tag.data.toList ++ tellL (ps.take k)).length + (putText (ps.getD k ByteArray.empty).data.toList).length
        rw [List.length_append]
        omega
      generalize ps.getD k ByteArray.empty = pk at *
      generalize (⟨(putText tag.data.toList ++ tellL (ps.take k)).toArray⟩ : ByteArray) = sk at *
      clear hc
      go_wp2_with fail
      refine (refPutText_any pk _ hz).mono ?_
      rintro _ w3 ⟨rfl, hb3⟩
      have z3 := qz.later hb3
      have b3 := qb.trans (hb3.mono qb.size)
      generalize (⟨(putText pk.data.toList).toArray⟩ : ByteArray) = pt at *
      have hc := HC.out
      clear c1 qz qb
      go_wp2_with fail
      go_roundw
      case rel => exact ⟨k + 1, by omega, by simp, by rw [HT.out], z3, b3⟩
      case measure => simp [RowKit.intOf]; omega
    · have hkn : k = ps.length := by omega
      subst hkn
      rw [List.take_length]
      have HRA : Hid (R = sha (⟨(putText tag.data.toList ++ tellL ps).toArray⟩ : ByteArray).data.toList) := by rw [HR.out]; rfl
      have HLS : Hid ((⟨(putText tag.data.toList ++ tellL ps).toArray⟩ : ByteArray).size ≤ 1099511627776) := HS.out
      generalize (⟨(putText tag.data.toList ++ tellL ps).toArray⟩ : ByteArray) = all at *
      go_wp2_with fail
      refine (refSum_any all _ HLS.out).mono ?_
      rintro _ w7 ⟨rfl, hb7⟩
      rw [← HRA.out]
      have hlR : Hid (R.length = 32) := by rw [HRA.out]; exact sha_length _
      have z7 := qz.later hb7
      have hfin := hide (z7.row R hlR.out)
      have hBe := hide (below_setRow (qb.trans (hb7.mono qb.size)) (Nat.le_refl w.heap.size) (bvs R).toArray)
      clear qz qb hb7
      go_wp2_with (refine wpl_store_hash rfl _ _ rfl rfl rfl hlR.out z7 ?_)
      exact bodyPost_ret (v := hv R) (ret_hash rfl _ _ rfl hfin.out) rfl ⟨rfl, hBe.out⟩
end Go.Proofs.Ytikphhhkikdhaaa
