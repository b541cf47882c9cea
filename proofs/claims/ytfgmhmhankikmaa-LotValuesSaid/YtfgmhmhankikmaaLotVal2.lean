/- lot.Value, and the reference's parts, Value, Nonce as contracts. -/
import Derived.Test.YtfgmhmhankikmaaLotVal
import Derived.Test.YtfgmhmhankikmaaRef03
namespace Go.Proofs.Ytfgmhmhankikmaa
open Go.RowKit Go.Lib

/-- The first four bytes as a number. -/
def lotN (R : List UInt8) : Nat := (R.getD 0 0).toNat * 16777216 + (R.getD 1 0).toNat * 65536 + (R.getD 2 0).toNat * 256 + (R.getD 3 0).toNat
theorem shl_or (p c : W32) (hp : p.toNat < 16777216) (hc : c.toNat < 256) : (p <<< 8 ||| c).toNat = p.toNat * 256 + c.toNat := by
  rw [BitVec.toNat_or, BitVec.toNat_shiftLeft, Nat.mod_eq_of_lt (by rw [Nat.shiftLeft_eq]; omega), ← Nat.shiftLeft_add_eq_or_of_lt (by omega : c.toNat < 2 ^ 8), Nat.shiftLeft_eq]
theorem byteW_nat (R : List UInt8) (k : Nat) : (byteW R 0 k).toNat = (R.getD k 0).toNat := by
  unfold byteW
  have := (R.getD (0 + k) 0).toNat_lt
  rw [BitVec.toNat_ofNat, Nat.mod_eq_of_lt (by omega), Nat.zero_add]
theorem part_lotN (R : List UInt8) : wv (part (byteW R 0) 0 4) = (lotN R : Int) := by
  have c0 := (R.getD 0 0).toNat_lt
  have c1 := (R.getD 1 0).toNat_lt
  have c2 := (R.getD 2 0).toNat_lt
  have c3 := (R.getD 3 0).toNat_lt
  have b0 := byteW_nat R 0
  have b1 := byteW_nat R 1
  have b2 := byteW_nat R 2
  have b3 := byteW_nat R 3
  have p1 : (part (byteW R 0) 0 1).toNat = (R.getD 0 0).toNat := by
    simp only [part, Nat.mul_zero, Nat.zero_add]
    rw [shl_or _ _ (by simp) (by rw [b0]; omega), b0]
    simp
  have p2 : (part (byteW R 0) 0 2).toNat = (R.getD 0 0).toNat * 256 + (R.getD 1 0).toNat := by
    have e : part (byteW R 0) 0 2 = part (byteW R 0) 0 1 <<< 8 ||| byteW R 0 1 := rfl
    rw [e, shl_or _ _ (by rw [p1]; omega) (by rw [b1]; omega), p1, b1]
  have p3 : (part (byteW R 0) 0 3).toNat = ((R.getD 0 0).toNat * 256 + (R.getD 1 0).toNat) * 256 + (R.getD 2 0).toNat := by
    have e : part (byteW R 0) 0 3 = part (byteW R 0) 0 2 <<< 8 ||| byteW R 0 2 := rfl
    rw [e, shl_or _ _ (by rw [p2]; omega) (by rw [b2]; omega), p2, b2]
  have e : part (byteW R 0) 0 4 = part (byteW R 0) 0 3 <<< 8 ||| byteW R 0 3 := rfl
  unfold wv
  rw [e, shl_or _ _ (by rw [p3]; omega) (by rw [b3]; omega), p3, b3]
  unfold lotN
  omega
theorem byteW_cell {w : World} {g : Nat} {R : List UInt8} (h : HashAt w g R) (k : Nat) (hk : k < 32) : w.cell? ⟨g, k, none⟩ = some (.int .u8 (wv (byteW R 0 k))) := by
  have := Byts.cell (l := R) h.2 (i := k) (by rw [h.1]; exact hk)
  rw [this]
  unfold wv
  rw [byteW_nat]

set_option maxRecDepth 100000 in
set_option maxHeartbeats 3200000 in
theorem lotValue_any (h : List UInt8) (slot : Nat) (pool : List UInt8) (hh : h.length = 32) (hp : pool.length = 32) (w : World) :
    Calls Try.prog 36 #[hv h, .int .u64 slot, hv pool] w fun e w' => e = .returned (.int .u32 (lotN (lotX [108, 111, 116] h slot pool))) ∧ Below w.heap.size w w' := by
  have HL : Hid ((lotX [108, 111, 116] h slot pool).length = 32) := ofX_length _ _
  have q1 := (HashAt.new w h hh).alloc (.cells (bvs pool).toArray 23)
  have q2 := HashAt.new2 w (.cells (bvs h).toArray 23) pool hp
  have hb := below2 w (.cells (bvs h).toArray 23) (.cells (bvs pool).toArray 23)
  have HC := hide (fun w => lotTold_any [108, 111, 116] h slot pool (by decide) hh hp w)
  have HP := hide (part_lotN (lotX [108, 111, 116] h slot pool))
  generalize lotX [108, 111, 116] h slot pool = R at *
  replace hh := hide hh
  replace hp := hide hp
  unfold hv
  go_enter Try.func36, Try.ntmps36
  go_wp2_with (first | (refine wpl_load_hash rfl _ rfl rfl q1 ?_) | (refine wpl_load_hash rfl _ rfl rfl q2 ?_))
  refine (HC.out _).mono ?_
  rintro _ w1 ⟨rfl, hb1⟩
  obtain ⟨hS, hSb⟩ := hash_set w1 R HL.out
  have hBe := hide (later hb (later hb1 hSb))
  clear q1 q2 hb hb1 hSb
  replace hS := hide hS
  go_wp2_with (refine wpl_store_hash rfl _ _ rfl rfl rfl HL.out (HashAt.zero w1) ?_)
  show Code.wp _ _ _ _ ((w1.alloc (.cells (bvs zero32).toArray 23)).setRow w1.heap.size (bvs R).toArray)
  generalize (w1.alloc (.cells (bvs zero32).toArray 23)).setRow w1.heap.size (bvs R).toArray = W at *
  go_loop [8, 17] (fun n i => ∃ k : Nat, k ≤ 4 ∧ i = .int .i64 k ∧ n = .int .u32 (wv (part (byteW R 0) 0 k))) (fun _ i => 4 - (RowKit.intOf i).toNat)
  case atStart => exact ⟨0, by omega, rfl, rfl⟩
  case round =>
    obtain ⟨k, hk, rfl, rfl⟩ := hrel
    by_cases hlt : k < 4
    · have c0 := byteW_cell hS.out k (by omega)
      have e3 := w_or (part (byteW R 0) 0 k <<< 8) (byteW R 0 k)
      have HN : Hid (part (byteW R 0) 0 (k + 1) = part (byteW R 0) 0 k <<< 8 ||| byteW R 0 k) := by unfold Hid; simp only [part, Nat.mul_zero, Nat.zero_add]
      generalize byteW R 0 k = c at *
      generalize part (byteW R 0) 0 k = p at *
      have i1 : (k : Int) < 4 := by omega
      have L2 : ∀ a : W32, wv a % (4294967296 : Int) = wv a := w_mod
      have L5 : ∀ a : W32, wv a * (256 : Int) % (4294967296 : Int) = wv (a <<< 8) := w_shl8
      go_wp2_with fail
      go_round
      case rel => exact ⟨k + 1, by omega, by go_num, by rw [HN.out]⟩
      case measure => simp [RowKit.intOf]; omega
    · have hk4 : k = 4 := by omega
      subst hk4
      rw [HP.out]
      go_wp2_with fail
      go_ret
      exact ⟨rfl, hBe.out⟩

/-- A value that is a slice of the parts. -/
def PartsAt (w : World) (ps : List (List UInt8)) (e : Ending) (w' : World) : Prop := ∃ v, e = .returned v ∧ Strs w' v (ps.map txt) ∧ Below w.heap.size w w'
theorem strs_below {w w' : World} {v : Value} {ps : List ByteArray} (h : Strs w v ps) (hb : Below w.heap.size w w') : Strs w' v ps := by
  obtain ⟨a, cap, hv, hc⟩ := h
  refine ⟨a, cap, hv, fun i hi => ?_⟩
  obtain ⟨g, off, h1, h2, h3⟩ := hc i hi
  exact ⟨g, off, h1, Nat.lt_of_lt_of_le h2 hb.size, (hb.cell (p := ⟨g, off + i, none⟩) h2).trans h3⟩
theorem refOf_strs (tag : List UInt8) (ps : List (List UInt8)) (v : Value) (w : World) (ht : tag.length ≤ 1048576) (hp : ∀ p ∈ ps, p.length ≤ 1048576) (hn : ps.length ≤ 16) (hv0 : Strs w v (ps.map txt)) :
    Calls Try.prog 30 #[.string ⟨tag.toArray⟩, v] w fun e w' => e = .returned (hv (ofX tag ps)) ∧ Below w.heap.size w w' := by
  have hl : (putText (txt tag).data.toList ++ tellL (ps.map txt)).length ≤ 1099511627776 := by
    have h1 := putText_le tag
    have h2 := tells_le ps 1048576 hp
    rw [tellL_txt, List.length_append]
    have h3 : ps.length * (10 + 1048576) ≤ 16 * (10 + 1048576) := Nat.mul_le_mul_right _ hn
    show (putText tag).length + _ ≤ _
    omega
  have := refOf_any (txt tag) (ps.map txt) v w hv0 (by simp; omega) hl
  rw [ofL_txt] at this
  exact this

set_option maxRecDepth 100000 in
set_option maxHeartbeats 3200000 in
theorem refParts_any (h : List UInt8) (slot : Nat) (pool : List UInt8) (hh : h.length = 32) (hp : pool.length = 32) (hs : slot < 18446744073709551616) (w : World) :
    Calls Try.prog 67 #[hv h, .int .u64 slot, hv pool] w (PartsAt w [h, eightL slot, pool]) := by
  have q1 := (HashAt.new w h hh).alloc (.cells (bvs pool).toArray 23)
  have q2 := HashAt.new2 w (.cells (bvs h).toArray 23) pool hp
  have hb := below2 w (.cells (bvs h).toArray 23) (.cells (bvs pool).toArray 23)
  have HE := hide (fun w => refEight_any slot w hs)
  replace hh := hide hh
  replace hp := hide hp
  clear hs
  unfold hv
  go_enter Try.func67, Try.ntmps67
  go_wp2_with fail
  show Code.wp _ _ _ _ ((w.alloc (.cells (bvs h).toArray 23)).alloc (.cells (bvs pool).toArray 23))
  generalize (w.alloc (.cells (bvs h).toArray 23)).alloc (.cells (bvs pool).toArray 23) = W at *
  have hl2 := q2.lt
  have hB : W.heap.size ≤ W.heap.size := Nat.le_refl _
  refine region_mix W.heap.size [([0, 2, 4], [1]), ([], [3]), ([], [5]), ([], [6]), ([7], [])] (by kernel_rfl) (by kernel_rfl) (by kernel_rfl) (by decide) ?_
  intro w0 hw0 _
  simp only [pickAll, pickOps, List.getElem?_cons_succ, List.getElem?_cons_zero, List.nil_append, List.cons_append]
  refine wpMix_cons ?_
  repeat (first | go_big_quiet_skip | (go_big_quiet_want; first | (refine mix_load_hash _ rfl rfl (by assumption) (by omega) ?_; simp only [Act.put, List.setIfInBounds_toArray, List.set_cons_succ, List.set_cons_zero]; go_big_quiet_on) | (go_big_quiet_op; go_big_quiet_on)))
  refine wpQuiet_nil ?_
  go_wp2_with fail
  refine (refBytes_any h _ hh.out).mono ?_
  rintro _ w1 ⟨rfl, hb1⟩
  have hm1 := mixed hB hw0 hb1
  go_wp2_with fail
  refine mixQ_mk (fromly hm1) (wpMix_cons (wpQuiet_nil ?_))
  go_wp2_with fail
  refine (HE.out _).mono ?_
  rintro _ w2 ⟨rfl, hb2⟩
  have hm2 := mixed hB hm1 hb2
  go_wp2_with fail
  refine mixQ_mk (fromly hm2) (wpMix_cons (wpQuiet_nil ?_))
  go_wp2_with fail
  refine (refBytes_any pool _ hp.out).mono ?_
  rintro _ w3 ⟨rfl, hb3⟩
  have hm3 := mixed hB hm2 hb3
  go_wp2_with fail
  refine mixQ_mk (fromly hm3) (wpMix_cons (wpQuiet_nil ?_))
  go_wp2_with fail
  have hm4 := mixed_alloc hB hm3 (.cells #[.string (txt h), .string (txt (eightL slot)), .string (txt pool)] 9)
  have hst := strs_new w3 [h, eightL slot, pool]
  refine mixQ_mk (fromly hm4) (wpMix_cons ?_)
  repeat (first | go_big_quiet_skip | (go_big_quiet_want; go_big_quiet_op; go_big_quiet_on))
  refine wpQuiet_nil (wpMix_last (fromly hm4) ?_)
  have hbe := later hb hm4
  clear hm1 hm2 hm3 hm4 hb1 hb2 hb3 hw0 q1 q2
  go_wp2_with fail
  go_ret
  exact ⟨_, rfl, hst, hbe⟩

set_option maxRecDepth 100000 in
set_option maxHeartbeats 3200000 in
theorem refNonce_any (h : List UInt8) (slot : Nat) (pool : List UInt8) (hh : h.length = 32) (hp : pool.length = 32) (hs : slot < 18446744073709551616) (w : World) :
    Calls Try.prog 39 #[hv h, .int .u64 slot, hv pool] w fun e w' => e = .returned (hv (lotX [110, 111, 110, 99, 101] h slot pool)) ∧ Below w.heap.size w w' := by
  have HL : Hid ((lotX [110, 111, 110, 99, 101] h slot pool).length = 32) := ofX_length _ _
  have HX : Hid (lotX [110, 111, 110, 99, 101] h slot pool = ofX [110, 111, 110, 99, 101] [h, eightL slot, pool]) := rfl
  have q1 := ((HashAt.new w h hh).alloc (.cells (bvs pool).toArray 23)).alloc (.cells (bvs zero32).toArray 23)
  have q2 := (HashAt.new2 w (.cells (bvs h).toArray 23) pool hp).alloc (.cells (bvs zero32).toArray 23)
  have q3 : HashAt (((w.alloc (.cells (bvs h).toArray 23)).alloc (.cells (bvs pool).toArray 23)).alloc (.cells (bvs zero32).toArray 23)) (w.heap.size + 1 + 1) zero32 := by
    have := HashAt.zero ((w.alloc (.cells (bvs h).toArray 23)).alloc (.cells (bvs pool).toArray 23))
    have e : ((w.alloc (.cells (bvs h).toArray 23)).alloc (.cells (bvs pool).toArray 23)).heap.size = w.heap.size + 1 + 1 := by simp
    rwa [e] at this
  have hb := below3 w (.cells (bvs h).toArray 23) (.cells (bvs pool).toArray 23) (.cells (bvs zero32).toArray 23)
  have HC := hide (fun w => refParts_any h slot pool hh hp hs w)
  generalize lotX [110, 111, 110, 99, 101] h slot pool = R at *
  have hsm := three_small (hash_small hh) (eight_small slot) (hash_small hp)
  replace hsm := hide hsm
  replace hh := hide hh
  replace hp := hide hp
  clear hs
  unfold hv
  go_enter Try.func39, Try.ntmps39
  go_wp2_with (first | (refine wpl_load_hash rfl _ rfl rfl q1 ?_) | (refine wpl_load_hash rfl _ rfl rfl q2 ?_))
  refine (HC.out _).mono ?_
  rintro _ w1 ⟨v, rfl, hst, hb1⟩
  have q4 := q3.later hb1
  clear q1 q2 q3
  go_wp2_with fail
  refine (refOf_strs [110, 111, 110, 99, 101] _ v _ (by decide) hsm.out (by simp) hst).mono ?_
  rintro _ w2 ⟨rfl, hb2⟩
  rw [← HX.out]
  have q5 := q4.later hb2
  have hfin := hide (q5.row R HL.out)
  have hBe := hide (below_setRow (later hb (later hb1 hb2)) (by omega : w.heap.size ≤ w.heap.size + 1 + 1) (bvs R).toArray)
  clear q4 hb hb1 hb2 hst
  go_wp2_with (refine wpl_store_hash rfl _ _ rfl rfl rfl HL.out q5 ?_)
  exact bodyPost_ret (v := hv R) (ret_hash rfl _ _ rfl hfin.out) rfl ⟨rfl, hBe.out⟩

set_option maxRecDepth 100000 in
set_option maxHeartbeats 3200000 in
theorem refValue_any (h : List UInt8) (slot : Nat) (pool : List UInt8) (hh : h.length = 32) (hp : pool.length = 32) (hs : slot < 18446744073709551616) (w : World) :
    Calls Try.prog 37 #[hv h, .int .u64 slot, hv pool] w fun e w' => e = .returned (.int .u32 (lotN (lotX [108, 111, 116] h slot pool))) ∧ Below w.heap.size w w' := by
  have HL : Hid ((lotX [108, 111, 116] h slot pool).length = 32) := ofX_length _ _
  have HX : Hid (lotX [108, 111, 116] h slot pool = ofX [108, 111, 116] [h, eightL slot, pool]) := rfl
  have q1 := (HashAt.new w h hh).alloc (.cells (bvs pool).toArray 23)
  have q2 := HashAt.new2 w (.cells (bvs h).toArray 23) pool hp
  have hb := below2 w (.cells (bvs h).toArray 23) (.cells (bvs pool).toArray 23)
  have HC := hide (fun w => refParts_any h slot pool hh hp hs w)
  generalize lotX [108, 111, 116] h slot pool = R at *
  have hsm := three_small (hash_small hh) (eight_small slot) (hash_small hp)
  replace hsm := hide hsm
  replace hh := hide hh
  replace hp := hide hp
  clear hs
  unfold hv
  go_enter Try.func37, Try.ntmps37
  go_wp2_with (first | (refine wpl_load_hash rfl _ rfl rfl q1 ?_) | (refine wpl_load_hash rfl _ rfl rfl q2 ?_))
  refine (HC.out _).mono ?_
  rintro _ w1 ⟨v, rfl, hst, hb1⟩
  clear q1 q2
  go_wp2_with fail
  refine (refOf_strs [108, 111, 116] _ v _ (by decide) hsm.out (by simp) hst).mono ?_
  rintro _ w2 ⟨rfl, hb2⟩
  rw [← HX.out]
  obtain ⟨hS, hSb⟩ := hash_set w2 R HL.out
  have hBe := hide (later hb (later hb1 (later hb2 hSb)))
  clear hb hb1 hb2 hSb hst
  have k0 := Byts.cell (l := R) hS.2 (i := 0) (by rw [HL.out]; omega)
  have k1 := Byts.cell (l := R) hS.2 (i := 1) (by rw [HL.out]; omega)
  have k2 := Byts.cell (l := R) hS.2 (i := 2) (by rw [HL.out]; omega)
  have k3 := Byts.cell (l := R) hS.2 (i := 3) (by rw [HL.out]; omega)
  have c0 := (R.getD 0 0).toNat_lt
  have c1 := (R.getD 1 0).toNat_lt
  have c2 := (R.getD 2 0).toNat_lt
  have c3 := (R.getD 3 0).toNat_lt
  have HN : Hid ((lotN R : Int) = ((R.getD 0 0).toNat : Int) * 16777216 + ((R.getD 1 0).toNat : Int) * 65536 + ((R.getD 2 0).toNat : Int) * 256 + ((R.getD 3 0).toNat : Int)) := by unfold Hid lotN; omega
  generalize (R.getD 0 0).toNat = d0 at *
  generalize (R.getD 1 0).toNat = d1 at *
  generalize (R.getD 2 0).toNat = d2 at *
  generalize (R.getD 3 0).toNat = d3 at *
  clear hS
  go_wp2_with (refine wpl_store_hash (w := w2.alloc (.cells (bvs zero32).toArray 23)) rfl _ _ rfl rfl rfl HL.out (HashAt.zero w2) ?_)
  go_ret
  exact ⟨by rw [HN.out]; rfl, hBe.out⟩
end Go.Proofs.Ytfgmhmhankikmaa
