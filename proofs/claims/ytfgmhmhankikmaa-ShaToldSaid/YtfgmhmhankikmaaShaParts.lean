/- The law ShaParts: any parts under any tag. -/
import Derived.Test.YtfgmhmhankikmaaRefOf
import Derived.Test.YtfgmhmhankikmaaWorks03
namespace Go.Proofs.Ytfgmhmhankikmaa
open Go.RowKit Go.Lib

/-- How much parts are counted as. -/
def partsN (ps : List ByteArray) : Nat := (ps.map fun s => min s.size 16384 + 1).sum
theorem partsN_take (ps : List ByteArray) (k : Nat) (h : k < ps.length) : partsN (ps.take (k + 1)) = partsN (ps.take k) + (min (ps.getD k ByteArray.empty).size 16384 + 1) := by
  unfold partsN
  rw [take_next ps k ByteArray.empty h]
  simp
theorem partsN_bound (ps : List ByteArray) (h : partsN ps ≤ 16384) : (tellL ps).length ≤ 16384 * 11 ∧ ps.length ≤ 16384 := by
  have key : ∀ ps : List ByteArray, partsN ps ≤ 16384 → (tellL ps).length ≤ partsN ps * 11 ∧ ps.length ≤ partsN ps := by
    intro ps
    induction ps with
    | nil => intro _; simp [tellL, partsN]
    | cons a ps ih =>
      intro h
      have e : partsN (a :: ps) = min a.size 16384 + 1 + partsN ps := by simp [partsN]
      obtain ⟨h1, h2⟩ := ih (by omega)
      have h3 : a.data.toList.length = a.size := by simp
      have h4 := putL_length a.data.toList.length
      have e2 : (tellL (a :: ps)).length = (putText a.data.toList).length + (tellL ps).length := by simp [tellL]
      have e3 : (putText a.data.toList).length = (putL a.data.toList.length).length + a.size := by simp [putText]
      rw [e2, e3, e, List.length_cons]
      omega
  have := key ps h
  omega

theorem strs_later {w w' : World} {v : Value} {ps : List ByteArray} (h : Strs w v ps) (hb : Below w.heap.size w w') : Strs w' v ps := by
  obtain ⟨a, cap, hv, hc⟩ := h
  refine ⟨a, cap, hv, fun i hi => ?_⟩
  obtain ⟨g, off, h1, h2, h3⟩ := hc i hi
  exact ⟨g, off, h1, Nat.lt_of_lt_of_le h2 hb.size, (hb.cell (p := ⟨g, off + i, none⟩) h2).trans h3⟩

set_option maxRecDepth 100000 in
set_option maxHeartbeats 3200000 in
theorem shaParts_row (w : World) (tag : ByteArray) (_ : tag.size ≤ 9223372036854775807) (v : Value) (ps : List ByteArray) (hv0 : Strs w v ps) (hn : ps.length ≤ 9223372036854775807) :
    Calls Try.prog 10 #[.string tag, v] w fun e w' => e = .returned (.bool true) ∧ Below w.heap.size w w' := by
  have HV := hide hv0
  obtain ⟨a, cap, rfl, hcell⟩ := strs_at hv0
  have HCELL := hide hcell
  clear hcell hv0
  go_enter Try.func10, Try.ntmps10
  go_wp2_with fail
  go_loop [5, 10] (fun m i => ∃ k : Nat, k ≤ ps.length ∧ i = .int .i64 k ∧ m = .int .i64 (partsN (ps.take k)) ∧ partsN (ps.take k) ≤ 16384) (fun _ i => ps.length - (RowKit.intOf i).toNat)
  case atStart => exact ⟨0, by omega, rfl, rfl, by simp [partsN]⟩
  case round =>
    obtain ⟨k, hk, rfl, rfl, hpn⟩ := hrel
    by_cases hlt : k < ps.length
    · obtain ⟨g, off, rfl, hg, hc⟩ := HCELL.out k hlt
      have HPN := hide (partsN_take ps k hlt)
      generalize ps.getD k ByteArray.empty = pk at *
      generalize partsN (ps.take k) = m at *
      by_cases hbig : 16384 < pk.size
      · have e1 : min (pk.size : Int) 16384 = 16384 := by omega
        have e2 : (16384 : Int) < (m : Int) + 16385 := by omega
        go_wp2_with fail
        refine (works03 _).mono ?_
        rintro _ w1 ⟨rfl, hb1⟩
        go_wp2_with fail
        go_ret
        exact ⟨rfl, hb1⟩
      · have e1 : min (pk.size : Int) 16384 = (pk.size : Int) := by omega
        have e0 : min pk.size 16384 = pk.size := by omega
        by_cases hover : 16384 < m + (pk.size + 1)
        · have e2 : (16384 : Int) < (m : Int) + ((pk.size : Int) + 1) := by omega
          clear e0
          go_wp2_with fail
          refine (works03 _).mono ?_
          rintro _ w1 ⟨rfl, hb1⟩
          go_wp2_with fail
          go_ret
          exact ⟨rfl, hb1⟩
        · have e2 : ¬ (16384 : Int) < (m : Int) + ((pk.size : Int) + 1) := by omega
          have HN : Hid (partsN (ps.take (k + 1)) = m + (pk.size + 1)) := by unfold Hid; rw [HPN.out, e0]
          clear e0
          go_wp2_with fail
          go_round
          case rel => exact ⟨k + 1, by omega, by go_num, by rw [HN.out]; simp, by rw [HN.out]; omega⟩
          case measure => simp [RowKit.intOf]; omega
    · have hkn : k = ps.length := by omega
      subst hkn
      rw [List.take_length] at hpn
      obtain ⟨hpb1, hpb2⟩ := partsN_bound ps hpn
      by_cases htag : 16384 < tag.size
      · have e2 : (16384 : Int) < (tag.size : Int) := by omega
        go_wp2_with fail
        refine (works03 _).mono ?_
        rintro _ w1 ⟨rfl, hb1⟩
        go_wp2_with fail
        go_ret
        exact ⟨rfl, hb1⟩
      · have e2 : ¬ (16384 : Int) < (tag.size : Int) := by omega
        have hsz : (putText tag.data.toList ++ tellL ps).length ≤ 1099511627776 := by
          have h4 := putL_length tag.data.toList.length
          have h3 : tag.data.toList.length = tag.size := by simp
          have e3 : (putText tag.data.toList).length = (putL tag.data.toList.length).length + tag.size := by simp [putText]
          rw [List.length_append, e3]
          omega
        have HSZ := hide hsz
        have HL : Hid ((ofL tag ps).length = 32) := sha_length _
        clear hsz
        go_wp2_with fail
        refine (of_any tag ps _ _ HV.out (by omega) HSZ.out).mono ?_
        rintro _ w1 ⟨rfl, hb1⟩
        have HV1 := hide (strs_later HV.out hb1)
        obtain ⟨x, hx⟩ : ∃ x, x = ofL tag ps := ⟨_, rfl⟩
        rw [← hx] at HL ⊢
        have HX := hide hx
        clear hx
        go_wp2_with fail
        refine (refOf_any tag ps _ _ HV1.out (by omega) HSZ.out).mono ?_
        rintro _ w2 ⟨rfl, hb2⟩
        rw [← HX.out]
        go_wp2_with (refine wpl_eq_hash rfl _ _ rfl rfl rfl HL.out HL.out ?_)
        go_ret
        exact ⟨by simp, later hb1 hb2⟩
end Go.Proofs.Ytfgmhmhankikmaa
