/- The law LotValues: any nonce, slot and pool. -/
import Derived.Test.YtfgmhmhankikmaaLotVal2
import Derived.Test.YtfgmhmhankikmaaLotKnown
namespace Go.Proofs.Ytfgmhmhankikmaa
open Go.RowKit Go.Lib

set_option maxRecDepth 100000 in
set_option maxHeartbeats 6400000 in
theorem lotValues_law (h : List UInt8) (hh : h.length = 32) (slot : Nat) (hs : slot < 18446744073709551616) (pool : List UInt8) (hp : pool.length = 32) (w : World) :
    Calls Try.prog 14 #[hv h, .int .u64 slot, hv pool] w fun e w' => e = .returned (.bool true) ∧ Below w.heap.size w w' := by
  have q1 := (HashAt.new w h hh).alloc (.cells (bvs pool).toArray 23)
  have q2 := HashAt.new2 w (.cells (bvs h).toArray 23) pool hp
  have hb := below2 w (.cells (bvs h).toArray 23) (.cells (bvs pool).toArray 23)
  have HV := hide (fun w => lotValue_any h slot pool hh hp w)
  have HRV := hide (fun w => refValue_any h slot pool hh hp hs w)
  have HN := hide (fun w => lotNonce_any h slot pool hh hp w)
  have HRN := hide (fun w => refNonce_any h slot pool hh hp hs w)
  have HL : Hid ((lotX [110, 111, 110, 99, 101] h slot pool).length = 32) := ofX_length _ _
  generalize lotN (lotX [108, 111, 116] h slot pool) = n at *
  generalize lotX [110, 111, 110, 99, 101] h slot pool = R at *
  clear hh hp hs
  unfold hv
  go_enter Try.func14, Try.ntmps14
  go_wp2_with fail
  show Code.wp _ _ _ _ ((w.alloc (.cells (bvs h).toArray 23)).alloc (.cells (bvs pool).toArray 23))
  generalize (w.alloc (.cells (bvs h).toArray 23)).alloc (.cells (bvs pool).toArray 23) = W at *
  refine region_since (by kernel_rfl) (by kernel_rfl) ?_
  repeat (first | go_big_quiet_skip | (go_big_quiet_want; first | (refine quiet_load_hash _ rfl rfl (by assumption) ?_; simp only [Act.put, List.setIfInBounds_toArray, List.set_cons_succ, List.set_cons_zero]; go_big_quiet_on) | (go_big_quiet_op; go_big_quiet_on)))
  go_big_quiet_want; go_big_quiet_op
  refine ⟨_, fun _ => since_of (HV.out _), ?_⟩
  go_big_quiet_on
  repeat (first | go_big_quiet_skip | (go_big_quiet_want; first | (refine quiet_load_hash _ rfl rfl (by assumption) ?_; simp only [Act.put, List.setIfInBounds_toArray, List.set_cons_succ, List.set_cons_zero]; go_big_quiet_on) | (go_big_quiet_op; go_big_quiet_on)))
  go_big_quiet_want; go_big_quiet_op
  refine ⟨_, fun _ => since_of (HRV.out _), ?_⟩
  go_big_quiet_on
  repeat (first | go_big_quiet_skip | (go_big_quiet_want; first | (refine quiet_load_hash _ rfl rfl (by assumption) ?_; simp only [Act.put, List.setIfInBounds_toArray, List.set_cons_succ, List.set_cons_zero]; go_big_quiet_on) | (go_big_quiet_op; go_big_quiet_on)))
  go_big_quiet_want; go_big_quiet_op
  refine ⟨_, fun _ => since_of (HN.out _), ?_⟩
  go_big_quiet_on
  repeat (first | go_big_quiet_skip | (go_big_quiet_want; first | (refine quiet_load_hash _ rfl rfl (by assumption) ?_; simp only [Act.put, List.setIfInBounds_toArray, List.set_cons_succ, List.set_cons_zero]; go_big_quiet_on) | (go_big_quiet_op; go_big_quiet_on)))
  go_big_quiet_want; go_big_quiet_op
  refine ⟨_, fun _ => since_of (HRN.out _), ?_⟩
  go_big_quiet_on
  go_big_quiet_want
  refine quiet_same_hash _ _ rfl R HL.out rfl rfl ?_
  simp only [Act.put, List.setIfInBounds_toArray, List.set_cons_succ, List.set_cons_zero]
  go_big_quiet_on
  iterate 2 (first | go_big_quiet_skip | (go_big_quiet_want; go_big_quiet_op; go_big_quiet_on))
  go_big_quiet_want; go_big_quiet_op
  refine ⟨_, fun _ => since_of (works7 _), ?_⟩
  go_big_quiet_on
  repeat (first | go_big_quiet_skip | (go_big_quiet_want; go_big_quiet_op; go_big_quiet_on))
  refine wpQuiet_nil ?_
  intro w1 hw1
  go_wp2_with fail
  go_ret
  exact ⟨rfl, later hb hw1⟩
theorem lotValues_row (h : List UInt8) (hh : h.length = 32) (slot : Int) (hs : (Lit.int .u64 slot).wf = true) (pool : List UInt8) (hp : pool.length = 32) (w : World) :
    Calls Try.prog 14 #[hv h, .int .u64 slot, hv pool] w fun e w' => e = .returned (.bool true) ∧ Below w.heap.size w w' := by
  obtain ⟨h0, h1⟩ := word_wf hs
  obtain ⟨n, rfl⟩ := Int.eq_ofNat_of_zero_le h0
  exact lotValues_law h hh n (by omega) pool hp w
end Go.Proofs.Ytfgmhmhankikmaa
