/- The law ShaHexes: any hash as digits, any digits as a hash. -/
import Derived.Test.YtfgmhmhankikmaaWorks03
import Derived.Test.YtfgmhmhankikmaaShaBack
import Derived.Test.YtfgmhmhankikmaaRef03
import Derived.Test.YtfgmhmhankikmaaHash
namespace Go.Proofs.Ytfgmhmhankikmaa
open Go.RowKit Go.Lib

def okHex (c : UInt8) : Bool := decide (0 ≤ digV c)
theorem okHex_eq (c : UInt8) : okHex c = (decide (48 ≤ c.toNat ∧ c.toNat ≤ 57) || decide (97 ≤ c.toNat ∧ c.toNat ≤ 102)) := by
  have : ∀ n : Fin 256, okHex (UInt8.ofNat n.1) = (decide (48 ≤ n.1 ∧ n.1 ≤ 57) || decide (97 ≤ n.1 ∧ n.1 ≤ 102)) := by decide +kernel
  have h := this ⟨c.toNat, c.toNat_lt⟩
  simpa using h
theorem hexD_digV (c : UInt8) (h : okHex c = true) : hexD (digV c).toNat = c := by
  have : ∀ n : Fin 256, okHex (UInt8.ofNat n.1) = true → hexD (digV (UInt8.ofNat n.1)).toNat = UInt8.ofNat n.1 := by decide +kernel
  have h := this ⟨c.toNat, c.toNat_lt⟩ (by simpa using h)
  simpa using h
def okTo (s : ByteArray) (k : Nat) : Bool := decide (s.size = 64) && (s.data.toList.take k).all okHex
theorem okTo_succ (s : ByteArray) (k : Nat) (h : k < s.size) : okTo s (k + 1) = (okTo s k && okHex (s.data.toList.getD k 0)) := by
  have hl : k < s.data.toList.length := by simpa using h
  unfold okTo
  rw [List.take_succ_eq_append_getElem hl, List.all_append, Bool.and_assoc, List.getD_eq_getElem?_getD, List.getElem?_eq_getElem hl]
  simp
theorem readL_ok (s : ByteArray) : readL s.data.toList = if okTo s s.size = true then (rd s.data.toList 64, 0) else (zero32, 2) := by
  have hl : s.data.toList.length = s.size := by simp
  unfold readL okTo
  rw [hl, List.take_of_length_le (by omega)]
  have e : (fun c => decide (0 ≤ digV c)) = okHex := rfl
  rw [e]
  congr 1
  rw [Bool.and_eq_true, decide_eq_true_eq]
theorem hex_rd (s : List UInt8) (hl : s.length = 64) (ha : s.all okHex = true) : hexL (rd s 64) = s := by
  have hok : ∀ j, j < 64 → okHex (s.getD j 0) = true := fun j hj => by
    have := List.all_eq_true.1 ha (s.getD j 0) (by rw [List.getD_eq_getElem?_getD, List.getElem?_eq_getElem (by omega)]; exact List.getElem_mem _)
    exact this
  have hr : ∀ j, j < 64 → (digV (s.getD j 0)).toNat < 16 := fun j _ => by have := digV_range (s.getD j 0); omega
  obtain ⟨l, hll⟩ : ∃ l : List UInt8, l = (List.range 32).map fun j => UInt8.ofNat ((digV (s.getD (2 * j) 0)).toNat * 16 + (digV (s.getD (2 * j + 1) 0)).toNat) := ⟨_, rfl⟩
  have hlen : l.length = 32 := by rw [hll]; simp
  have hget : ∀ j, j < 32 → (l.getD j 0).toNat = (digV (s.getD (2 * j) 0)).toNat * 16 + (digV (s.getD (2 * j + 1) 0)).toNat := fun j hj => by
    rw [hll]
    simp only [List.getD_eq_getElem?_getD, List.getElem?_map, List.getElem?_range hj, Option.map_some, Option.getD_some]
    have h1 := hr (2 * j) (by omega)
    have h2 := hr (2 * j + 1) (by omega)
    simp only [List.getD_eq_getElem?_getD] at h1 h2
    rw [UInt8.toNat_ofNat']
    omega
  have hs : hexL l = s := by
    apply List.ext_getElem
    · rw [hexL_length, hlen, hl]
    · intro i h1 h2
      have e1 : (hexL l)[i] = (hexL l).getD i 0 := by simp [h1]
      have e2 : s[i] = s.getD i 0 := by simp [h2]
      rw [e1, e2]
      rcases Nat.mod_two_eq_zero_or_one i with h | h
      · obtain ⟨j, rfl⟩ : ∃ j, i = 2 * j := ⟨i / 2, by omega⟩
        have g1 := hr (2 * j) (by omega)
        have g2 := hr (2 * j + 1) (by omega)
        rw [hexL_even l j (by omega), hget j (by omega), show ((digV (s.getD (2 * j) 0)).toNat * 16 + (digV (s.getD (2 * j + 1) 0)).toNat) / 16 = (digV (s.getD (2 * j) 0)).toNat by omega]
        exact hexD_digV _ (hok _ (by omega))
      · obtain ⟨j, rfl⟩ : ∃ j, i = 2 * j + 1 := ⟨i / 2, by omega⟩
        have g1 := hr (2 * j) (by omega)
        have g2 := hr (2 * j + 1) (by omega)
        rw [hexL_odd l j (by omega), hget j (by omega), show ((digV (s.getD (2 * j) 0)).toNat * 16 + (digV (s.getD (2 * j + 1) 0)).toNat) % 16 = (digV (s.getD (2 * j + 1) 0)).toNat by omega]
        exact hexD_digV _ (hok _ (by omega))
  have h := read_hex l hlen
  rw [hs] at h
  unfold readL at h
  split at h
  · rw [(Prod.mk.inj h).1, hs]
  · exact absurd (Prod.mk.inj h).2 (by decide)

set_option maxRecDepth 100000 in
set_option maxHeartbeats 3200000 in
theorem shaHexes_big (l : List UInt8) (s : ByteArray) (hs : 16384 < s.size) (w : World) :
    Calls Try.prog 12 #[hv l, .string s] w fun e w' => e = .returned (.bool true) ∧ Below w.heap.size w w' := by
  have hb := hide (below1 w (.cells (bvs l).toArray 23))
  have hd : decide ((16384 : Int) < (s.size : Int)) = true := by simp; omega
  unfold hv
  go_enter Try.func12, Try.ntmps12
  go_wp2_with fail
  show Code.wp _ _ _ _ (w.alloc (.cells (bvs l).toArray 23))
  generalize w.alloc (.cells (bvs l).toArray 23) = W at *
  refine region_since (by kernel_rfl) (by kernel_rfl) ?_
  repeat (first | go_big_quiet_skip | (go_big_quiet_want; go_big_quiet_op; go_big_quiet_on))
  refine wpQuiet_nil ?_
  intro w1 hw1
  go_wp2_with fail
  refine (works03 _).mono ?_
  rintro _ w2 ⟨rfl, hb2⟩
  go_wp2_with fail
  go_ret
  exact ⟨rfl, later hb.out (later hw1 hb2)⟩

set_option maxRecDepth 100000 in
set_option maxHeartbeats 6400000 in
theorem shaHexes_small (l : List UInt8) (hl : l.length = 32) (s : ByteArray) (hs : s.size ≤ 16384) (w : World) :
    Calls Try.prog 12 #[hv l, .string s] w fun e w' => e = .returned (.bool true) ∧ Below w.heap.size w w' := by
  have hb := hide (below1 w (.cells (bvs l).toArray 23))
  have hA := HashAt.new w l hl
  have hd : decide ((16384 : Int) < (s.size : Int)) = false := by simp; omega
  have HL := hide hl
  clear hl
  unfold hv
  go_enter Try.func12, Try.ntmps12
  go_wp2_with fail
  show Code.wp _ _ _ _ (w.alloc (.cells (bvs l).toArray 23))
  generalize w.alloc (.cells (bvs l).toArray 23) = W at *
  refine region_since (by kernel_rfl) (by kernel_rfl) ?_
  iterate 4 (first | go_big_quiet_skip | (go_big_quiet_want; go_big_quiet_op; go_big_quiet_on))
  go_big_quiet_want
  refine quiet_load_hash _ rfl rfl (by assumption) ?_
  simp only [Act.put, List.setIfInBounds_toArray, List.set_cons_succ, List.set_cons_zero]
  go_big_quiet_on
  go_big_quiet_want; go_big_quiet_op
  refine ⟨_, fun _ => since_of (hex_any l _ HL.out), ?_⟩
  go_big_quiet_on
  go_big_quiet_want
  refine quiet_load_hash _ rfl rfl (by assumption) ?_
  simp only [Act.put, List.setIfInBounds_toArray, List.set_cons_succ, List.set_cons_zero]
  go_big_quiet_on
  go_big_quiet_want; go_big_quiet_op
  refine ⟨_, fun _ => since_of (refHex_any l _ HL.out), ?_⟩
  go_big_quiet_on
  iterate 3 (first | go_big_quiet_skip | (go_big_quiet_want; go_big_quiet_op; go_big_quiet_on))
  go_big_quiet_want
  refine quiet_load_hash _ rfl rfl (by assumption) ?_
  simp only [Act.put, List.setIfInBounds_toArray, List.set_cons_succ, List.set_cons_zero]
  go_big_quiet_on
  go_big_quiet_want; go_big_quiet_op
  refine ⟨_, fun _ => since_of (bytes_any l _ HL.out), ?_⟩
  go_big_quiet_on
  go_big_quiet_want
  refine quiet_load_hash _ rfl rfl (by assumption) ?_
  simp only [Act.put, List.setIfInBounds_toArray, List.set_cons_succ, List.set_cons_zero]
  go_big_quiet_on
  go_big_quiet_want; go_big_quiet_op
  refine ⟨_, fun _ => since_of (refBytes_any l _ HL.out), ?_⟩
  go_big_quiet_on
  repeat (first | go_big_quiet_skip | (go_big_quiet_want; go_big_quiet_op; go_big_quiet_on))
  refine wpQuiet_nil ?_
  intro w1 hw1
  clear hd
  go_wp2_with fail
  refine (read_any _ _).mono ?_
  rintro _ w2 ⟨rfl, hb2⟩
  obtain ⟨g, e0, hge⟩ : ∃ g e0, readL s.data.toList = (g, e0) := ⟨_, _, rfl⟩
  have hgl : g.length = 32 := by
    have h := hge
    unfold readL at h
    split at h
    · rw [← (Prod.mk.inj h).1]; exact rd_length _ _
    · rw [← (Prod.mk.inj h).1]; rfl
  rw [hge]
  have HGE := hide hge
  replace hgl := hide hgl
  obtain ⟨hS, hSb⟩ := hash_set w2 g hgl.out
  have hbb := hide (later hb.out (later hw1 (later hb2 hSb)))
  clear hge hw1 hb2 hA hSb hb
  replace hS := hide hS
  go_wp2_with (refine wpl_store_hash rfl _ _ rfl rfl rfl hgl.out (HashAt.zero w2) ?_)
  show Code.wp _ _ _ _ ((w2.alloc (.cells (bvs zero32).toArray 23)).setRow w2.heap.size (bvs g).toArray)
  generalize (w2.alloc (.cells (bvs zero32).toArray 23)).setRow w2.heap.size (bvs g).toArray = W3 at *
  go_loop [7, 8] (fun okv i => ∃ k : Nat, k ≤ s.size ∧ i = .int .i64 k ∧ okv = .bool (okTo s k)) (fun _ i => s.size - (RowKit.intOf i).toNat)
  case atStart =>
    refine ⟨0, by omega, rfl, ?_⟩
    have : ((s.size : Int) == 64) = okTo s 0 := by
      unfold okTo
      rw [List.take_zero, List.all_nil, Bool.and_true, Bool.eq_iff_iff]
      simp
      omega
    rw [this]
  case round =>
    obtain ⟨k, hk, rfl, rfl⟩ := hrel
    by_cases hlt : k < s.size
    · have HT := hide (okTo_succ s k hlt)
      have hx := byte_at s k hlt
      have HO := hide (okHex_eq (s.data.toList.getD k 0))
      generalize s.data.toList.getD k 0 = c at *
      generalize okHex c = oc at *
      generalize c.toNat = n at *
      generalize okTo s k = b at *
      cases b
      · go_wp2_with fail
        go_round
        case rel => exact ⟨k + 1, by omega, by go_num, by rw [HT.out]; rfl⟩
        case measure => simp [RowKit.intOf]; omega
      · by_cases h1 : 48 ≤ n
        · by_cases h2 : n ≤ 57
          · have HO2 : Hid (oc = true) := by unfold Hid; rw [HO.out]; simp; omega
            have d1 : (48 : Int) ≤ (n : Int) := by omega
            have d2 : (n : Int) ≤ 57 := by omega
            go_wp2_with fail
            go_round
            case rel => exact ⟨k + 1, by omega, by go_num, by rw [HT.out, HO2.out]; rfl⟩
            case measure => simp [RowKit.intOf]; omega
          · by_cases h3 : 97 ≤ n
            · by_cases h4 : n ≤ 102
              · have HO2 : Hid (oc = true) := by unfold Hid; rw [HO.out]; simp; omega
                have d1 : (48 : Int) ≤ (n : Int) := by omega
                have d2 : ¬ (n : Int) ≤ 57 := by omega
                have d3 : (97 : Int) ≤ (n : Int) := by omega
                have d4 : (n : Int) ≤ 102 := by omega
                go_wp2_with fail
                go_round
                case rel => exact ⟨k + 1, by omega, by go_num, by rw [HT.out, HO2.out]; rfl⟩
                case measure => simp [RowKit.intOf]; omega
              · have HO2 : Hid (oc = false) := by unfold Hid; rw [HO.out]; simp; omega
                have d1 : (48 : Int) ≤ (n : Int) := by omega
                have d2 : ¬ (n : Int) ≤ 57 := by omega
                have d3 : (97 : Int) ≤ (n : Int) := by omega
                have d4 : ¬ (n : Int) ≤ 102 := by omega
                go_wp2_with fail
                go_round
                case rel => exact ⟨k + 1, by omega, by go_num, by rw [HT.out, HO2.out]; rfl⟩
                case measure => simp [RowKit.intOf]; omega
            · have HO2 : Hid (oc = false) := by unfold Hid; rw [HO.out]; simp; omega
              have d1 : (48 : Int) ≤ (n : Int) := by omega
              have d2 : ¬ (n : Int) ≤ 57 := by omega
              have d3 : ¬ (97 : Int) ≤ (n : Int) := by omega
              go_wp2_with fail
              go_round
              case rel => exact ⟨k + 1, by omega, by go_num, by rw [HT.out, HO2.out]; rfl⟩
              case measure => simp [RowKit.intOf]; omega
        · have HO2 : Hid (oc = false) := by unfold Hid; rw [HO.out]; simp; omega
          have d1 : ¬ (48 : Int) ≤ (n : Int) := by omega
          have d3 : ¬ (97 : Int) ≤ (n : Int) := by omega
          go_wp2_with fail
          go_round
          case rel => exact ⟨k + 1, by omega, by go_num, by rw [HT.out, HO2.out]; rfl⟩
          case measure => simp [RowKit.intOf]; omega
    · have hks : k = s.size := by omega
      subst hks
      have HR := HGE.out
      rw [readL_ok] at HR
      have HK := hide (show okTo s s.size = true → s.size = 64 ∧ s.data.toList.all okHex = true from fun h => by
        unfold okTo at h
        rw [Bool.and_eq_true, decide_eq_true_eq] at h
        rw [List.take_of_length_le (by simp)] at h
        exact h)
      generalize okTo s s.size = b at *
      cases b
      · rw [if_neg (by decide)] at HR
        obtain ⟨rfl, rfl⟩ := Prod.mk.inj HR
        clear HR
        have hS' := hS.out
        go_wp2_with (first | (refine wpl_load_hash rfl _ rfl rfl hS' ?_) | (refine wpl_zero_hash rfl rfl ?_) | (refine wpl_eq_hash rfl _ _ rfl rfl rfl rfl rfl ?_))
        go_ret
        exact ⟨by simp, hbb.out⟩
      · rw [if_pos rfl] at HR
        obtain ⟨hg, rfl⟩ := Prod.mk.inj HR
        have HH : Hid (hexL g = s.data.toList) := by
          unfold Hid
          obtain ⟨h1, h2⟩ := HK.out rfl
          rw [← hg]; exact hex_rd _ (by simpa using h1) h2
        clear HR hg
        have hS' := hS.out
        go_wp2_with (first | (refine wpl_load_hash rfl _ rfl rfl hS' ?_))
        refine (hex_any g _ hgl.out).mono ?_
        rintro _ w5 ⟨rfl, hb5⟩
        have he : (hexL g == s.toList) = true := by
          rw [HH.out, ByteArray.toList_eq]; simp
        go_wp2_with fail
        go_ret
        exact ⟨by simp, later hbb.out hb5⟩
theorem shaHexes_row (l : List UInt8) (hl : l.length = 32) (s : ByteArray) (_ : s.size ≤ 9223372036854775807) (w : World) :
    Calls Try.prog 12 #[hv l, .string s] w fun e w' => e = .returned (.bool true) ∧ Below w.heap.size w w' := by
  by_cases h : 16384 < s.size
  · exact shaHexes_big l s h w
  · exact shaHexes_small l hl s (by omega) w
end Go.Proofs.Ytfgmhmhankikmaa
