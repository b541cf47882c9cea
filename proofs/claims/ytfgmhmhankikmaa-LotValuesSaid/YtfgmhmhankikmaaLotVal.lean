/- lot.told, lot.Value, lot.Nonce and the reference's parts, Value, Nonce as contracts. -/
import Derived.Test.YtfgmhmhankikmaaOfs
namespace Go.Proofs.Ytfgmhmhankikmaa
open Go.RowKit Go.Lib

/-- The parts of a nonce, a slot, a pool under a tag. -/
def lotX (tag h : List UInt8) (slot : Nat) (pool : List UInt8) : List UInt8 := ofX tag [h, eightL slot, pool]
theorem eight_small (n : Nat) : (eightL n).length ≤ 1048576 := by rw [eightL_length]; omega
theorem hash_small {l : List UInt8} (h : l.length = 32) : l.length ≤ 1048576 := by omega
theorem below3r (w : World) (o1 o2 o3 : Obj) : Below w.heap.size w (((w.alloc o1).alloc o2).alloc o3) := below3 w o1 o2 o3

set_option maxRecDepth 100000 in
set_option maxHeartbeats 3200000 in
theorem lotTold_any (tag h : List UInt8) (slot : Nat) (pool : List UInt8) (ht : tag.length ≤ 1048576) (hh : h.length = 32) (hp : pool.length = 32) (w : World) :
    Calls Try.prog 66 #[.string ⟨tag.toArray⟩, hv h, .int .u64 slot, hv pool] w fun e w' => e = .returned (hv (lotX tag h slot pool)) ∧ Below w.heap.size w w' := by
  have HX : Hid (lotX tag h slot pool = ofX tag [h, eightL slot, pool]) := rfl
  have HL := hide (ofX_length tag [h, eightL slot, pool])
  rw [← HX.out] at HL
  generalize lotX tag h slot pool = R at *
  have q1 := ((HashAt.new w h hh).alloc (.cells (bvs pool).toArray 23)).alloc (.cells (bvs zero32).toArray 23)
  have q2 := (HashAt.new2 w (.cells (bvs h).toArray 23) pool hp).alloc (.cells (bvs zero32).toArray 23)
  have q3 : HashAt (((w.alloc (.cells (bvs h).toArray 23)).alloc (.cells (bvs pool).toArray 23)).alloc (.cells (bvs zero32).toArray 23)) (w.heap.size + 1 + 1) zero32 := by
    have := HashAt.zero ((w.alloc (.cells (bvs h).toArray 23)).alloc (.cells (bvs pool).toArray 23))
    have e : ((w.alloc (.cells (bvs h).toArray 23)).alloc (.cells (bvs pool).toArray 23)).heap.size = w.heap.size + 1 + 1 := by simp
    rwa [e] at this
  have hb := below3 w (.cells (bvs h).toArray 23) (.cells (bvs pool).toArray 23) (.cells (bvs zero32).toArray 23)
  replace hh := hide hh
  replace hp := hide hp
  unfold hv
  go_enter Try.func66, Try.ntmps66
  go_wp2_with fail
  show Code.wp _ _ _ _ (((w.alloc (.cells (bvs h).toArray 23)).alloc (.cells (bvs pool).toArray 23)).alloc (.cells (bvs zero32).toArray 23))
  generalize ((w.alloc (.cells (bvs h).toArray 23)).alloc (.cells (bvs pool).toArray 23)).alloc (.cells (bvs zero32).toArray 23) = W at *
  have hB : w.heap.size + 1 + 1 ≤ W.heap.size := by have := q3.lt; omega
  refine region_mix (w.heap.size + 1 + 1) [([0, 1, 3, 5], [2]), ([], [4]), ([], [6]), ([], [7]), ([], [8]), ([], [9])] (by kernel_rfl) (by kernel_rfl) (by kernel_rfl) (by decide) ?_
  intro w0 hw0 _
  simp only [pickAll, pickOps, List.getElem?_cons_succ, List.getElem?_cons_zero, List.nil_append, List.cons_append]
  have hm0 := hw0.mono hB
  refine wpMix_cons ?_
  repeat (first | go_big_quiet_skip | (go_big_quiet_want; first | (refine mix_load_hash _ rfl rfl (by assumption) (by omega) ?_; simp only [Act.put, List.setIfInBounds_toArray, List.set_cons_succ, List.set_cons_zero]; go_big_quiet_on) | (go_big_quiet_op; go_big_quiet_on)))
  refine wpQuiet_nil ?_
  go_wp2_with fail
  refine (bytes_any h _ hh.out).mono ?_
  rintro _ w1 ⟨rfl, hb1⟩
  have hm1 := mixed hB hm0 hb1
  go_wp2_with fail
  refine mixQ_mk (fromly hm1) (wpMix_cons (wpQuiet_nil ?_))
  go_wp2_with fail
  refine (eight_any slot _).mono ?_
  rintro _ w2 ⟨rfl, hb2⟩
  have hm2 := mixed hB hm1 hb2
  go_wp2_with fail
  refine mixQ_mk (fromly hm2) (wpMix_cons (wpQuiet_nil ?_))
  go_wp2_with fail
  refine (bytes_any pool _ hp.out).mono ?_
  rintro _ w3 ⟨rfl, hb3⟩
  have hm3 := mixed hB hm2 hb3
  go_wp2_with fail
  refine mixQ_mk (fromly hm3) (wpMix_cons (wpQuiet_nil ?_))
  go_wp2_with fail
  refine mixQ_mk (fromly (mixed_alloc hB hm3 _)) (wpMix_cons (wpQuiet_nil ?_))
  go_wp2_with fail
  refine (of3 tag h (eightL slot) pool w3 ht (hash_small hh.out) (eight_small _) (hash_small hp.out)).mono ?_
  rintro _ w4 ⟨rfl, hb4⟩
  have hm4 := mixed hB hm3 hb4
  rw [← HX.out]
  have q4 : HashAt w4 (w.heap.size + 1 + 1) zero32 := q3.later (hw0.trans ((hb1.trans (hb2.mono hb1.size) |>.trans (hb3.mono (Nat.le_trans hb1.size hb2.size)) |>.trans (hb4.mono (Nat.le_trans hb1.size (Nat.le_trans hb2.size hb3.size)))).mono hw0.size))
  have hfin := hide (q4.row R HL.out)
  have hmf : Below (w.heap.size + 1 + 1) W (w4.setRow (w.heap.size + 1 + 1) (bvs R).toArray) := below_setRow hm4 (Nat.le_refl _) _
  have hBe := hide (hb.trans (hmf.mono (by omega)))
  clear q1 q2 q3 hb hw0 hm0 hm1 hm2 hm3 hb1 hb2 hb3 hb4
  go_wp2_with fail
  refine mixQ_mk (fromly hm4) (wpMix_cons (wpQuiet_nil ?_))
  go_wp2_with (refine wpl_store_hash rfl _ _ rfl rfl rfl HL.out q4 ?_)
  refine mixQ_mk (fromly hmf) (wpMix_end ?_)
  go_wp2_with fail
  exact bodyPost_ret (v := hv R) (ret_hash rfl _ _ rfl hfin.out) rfl ⟨rfl, hBe.out⟩

set_option maxRecDepth 100000 in
set_option maxHeartbeats 3200000 in
theorem lotNonce_any (h : List UInt8) (slot : Nat) (pool : List UInt8) (hh : h.length = 32) (hp : pool.length = 32) (w : World) :
    Calls Try.prog 38 #[hv h, .int .u64 slot, hv pool] w fun e w' => e = .returned (hv (lotX [110, 111, 110, 99, 101] h slot pool)) ∧ Below w.heap.size w w' := by
  have HL : Hid ((lotX [110, 111, 110, 99, 101] h slot pool).length = 32) := ofX_length _ _
  have q1 := ((HashAt.new w h hh).alloc (.cells (bvs pool).toArray 23)).alloc (.cells (bvs zero32).toArray 23)
  have q2 := (HashAt.new2 w (.cells (bvs h).toArray 23) pool hp).alloc (.cells (bvs zero32).toArray 23)
  have q3 : HashAt (((w.alloc (.cells (bvs h).toArray 23)).alloc (.cells (bvs pool).toArray 23)).alloc (.cells (bvs zero32).toArray 23)) (w.heap.size + 1 + 1) zero32 := by
    have := HashAt.zero ((w.alloc (.cells (bvs h).toArray 23)).alloc (.cells (bvs pool).toArray 23))
    have e : ((w.alloc (.cells (bvs h).toArray 23)).alloc (.cells (bvs pool).toArray 23)).heap.size = w.heap.size + 1 + 1 := by simp
    rwa [e] at this
  have hb := below3 w (.cells (bvs h).toArray 23) (.cells (bvs pool).toArray 23) (.cells (bvs zero32).toArray 23)
  have HC := hide (fun w => lotTold_any [110, 111, 110, 99, 101] h slot pool (by decide) hh hp w)
  generalize lotX [110, 111, 110, 99, 101] h slot pool = R at *
  replace hh := hide hh
  replace hp := hide hp
  unfold hv
  go_enter Try.func38, Try.ntmps38
  go_wp2_with (first | (refine wpl_load_hash rfl _ rfl rfl q1 ?_) | (refine wpl_load_hash rfl _ rfl rfl q2 ?_))
  refine (HC.out _).mono ?_
  rintro _ w1 ⟨rfl, hb1⟩
  have q4 := q3.later hb1
  have hfin := hide (q4.row R HL.out)
  have hBe := hide (below_setRow (later hb hb1) (by omega : w.heap.size ≤ w.heap.size + 1 + 1) (bvs R).toArray)
  clear q1 q2 q3 hb hb1
  go_wp2_with (refine wpl_store_hash rfl _ _ rfl rfl rfl HL.out q4 ?_)
  exact bodyPost_ret (v := hv R) (ret_hash rfl _ _ rfl hfin.out) rfl ⟨rfl, hBe.out⟩
end Go.Proofs.Ytfgmhmhankikmaa
