/- The law OnceShort: what stands in a message behind its first two bytes makes no difference. -/
import Derived.Test.YtikphhhkikdhaaaOnceWorks
import Derived.Test.YtikphhhkikdhaaaCells
namespace Go.Proofs.Ytikphhhkikdhaaa
open Go.RowKit Go.Lib

set_option maxRecDepth 100000 in
set_option maxHeartbeats 800000 in
theorem onceShort_big (seed a b : List UInt8) (sig : ByteArray) (hs : 4096 < sig.size) (w : World) :
    Calls Try.prog 8 #[hv seed, hv a, hv b, .string sig] w fun e w' => e = .returned (.bool true) ∧ Below w.heap.size w w' := by
  have b0 := below3a w (.cells (bvs seed).toArray 23) (.cells (bvs a).toArray 23) (.cells (bvs b).toArray 23)
  have hd : decide ((4096 : Int) < (sig.size : Int)) = true := by simp; omega
  unfold hv
  go_enter Try.func8, Try.ntmps8
  go_wp2_with fail
  show Calls _ _ _ (((w.alloc (.cells (bvs seed).toArray 23)).alloc (.cells (bvs a).toArray 23)).alloc (.cells (bvs b).toArray 23)) _
  generalize ((w.alloc (.cells (bvs seed).toArray 23)).alloc (.cells (bvs a).toArray 23)).alloc (.cells (bvs b).toArray 23) = W at *
  refine (works05 _).mono ?_
  rintro _ wc1 ⟨rfl, hc1⟩
  replace b0 := later b0 hc1
  clear hc1
  go_wp2_with fail
  go_ret
  exact ⟨rfl, b0⟩

set_option maxRecDepth 100000 in
set_option maxHeartbeats 3200000 in
theorem onceShort_small (seed a b : List UInt8) (sig : ByteArray) (hl : seed.length = 32) (ha : a.length = 32) (hb : b.length = 32) (hs : sig.size ≤ 4096) (w : World) :
    Calls Try.prog 8 #[hv seed, hv a, hv b, .string sig] w fun e w' => e = .returned (.bool true) ∧ Below w.heap.size w w' := by
  have hd : decide ((4096 : Int) < (sig.size : Int)) = false := by simp; omega
  clear hs
  have b0 := below3a w (.cells (bvs seed).toArray 23) (.cells (bvs a).toArray 23) (.cells (bvs b).toArray 23)
  have hS : HashAt (((w.alloc (.cells (bvs seed).toArray 23)).alloc (.cells (bvs a).toArray 23)).alloc (.cells (bvs b).toArray 23)) w.heap.size seed := HashAt.alloc (HashAt.alloc (HashAt.new w seed hl) _) _
  have hA : HashAt (((w.alloc (.cells (bvs seed).toArray 23)).alloc (.cells (bvs a).toArray 23)).alloc (.cells (bvs b).toArray 23)) (w.heap.size + 1) a := HashAt.alloc (HashAt.new2 w _ a ha) _
  have hB : HashAt (((w.alloc (.cells (bvs seed).toArray 23)).alloc (.cells (bvs a).toArray 23)).alloc (.cells (bvs b).toArray 23)) (w.heap.size + 2) b := HashAt.new3 w _ _ b hb
  obtain ⟨x0, hx0⟩ : ∃ x, x = a.getD 0 0 := ⟨_, rfl⟩
  obtain ⟨x1, hx1⟩ : ∃ x, x = a.getD 1 0 := ⟨_, rfl⟩
  obtain ⟨c, hc⟩ : ∃ c, c = (b.set 0 x0).set 1 x1 := ⟨_, rfl⟩
  have hcl : c.length = 32 := by rw [hc]; simpa using hb
  have e0 : c.getD 0 0 = a.getD 0 0 := by rw [hc, ← hx0]; simp [hb]
  have e1 : c.getD 1 0 = a.getD 1 0 := by rw [hc, ← hx1]; simp [hb]
  obtain ⟨R, hR⟩ : ∃ R, R = tellsR a sig := ⟨_, rfl⟩
  obtain ⟨S, hSg⟩ : ∃ S, S = signL seed a := ⟨_, rfl⟩
  have HTa : Hid (∀ w, Calls Try.prog 20 #[hv a, .string sig] w fun e w' => e = .returned (.tuple #[hv R.1, .int .i64 R.2]) ∧ Below w.heap.size w w') := fun w => by rw [hR]; exact tells_all a sig ha w
  have HTc : Hid (∀ w, Calls Try.prog 20 #[hv c, .string sig] w fun e w' => e = .returned (.tuple #[hv R.1, .int .i64 R.2]) ∧ Below w.heap.size w w') := fun w => by rw [hR, ← tellsR_two c a sig e0 e1]; exact tells_all c sig hcl w
  have HSa : Hid (∀ w, Calls Try.prog 18 #[hv seed, hv a] w fun e w' => e = .returned (.string ⟨S.toArray⟩) ∧ Below w.heap.size w w') := fun w => by rw [hSg]; exact sign_any seed a hl ha w
  have HSc : Hid (∀ w, Calls Try.prog 18 #[hv seed, hv c] w fun e w' => e = .returned (.string ⟨S.toArray⟩) ∧ Below w.heap.size w w') := fun w => by rw [hSg, ← signL_two seed c a e0 e1]; exact sign_any seed c hl hcl w
  have HRl : Hid (R.1.length = 32) := by rw [hR]; exact tellsR_length a sig
  generalize (⟨S.toArray⟩ : ByteArray) = sg at *
  clear hSg
  obtain ⟨R, n⟩ := R
  clear hR
  have g0 : ∀ W, HashAt W (w.heap.size + 1) a → W.cell? ⟨w.heap.size + 1, 0, none⟩ = some (.int .u8 (x0.toNat : Int)) := fun W h => by
    rw [Arr.cell h.2 (i := 0) (by rw [bvs_length]; omega), bvs_getD a _ (by omega), hx0]
  have g1 : ∀ W, HashAt W (w.heap.size + 1) a → W.cell? ⟨w.heap.size + 1, 1, none⟩ = some (.int .u8 (x1.toNat : Int)) := fun W h => by
    rw [Arr.cell h.2 (i := 1) (by rw [bvs_length]; omega), bvs_getD a _ (by omega), hx1]
  have HC : Hid (c = (b.set 0 x0).set 1 x1) := hc
  have HBL := hide hb
  have HCL := hide hcl
  clear hx0 hx1 hc hcl e0 e1 hl ha hb
  unfold hv
  go_enter Try.func8, Try.ntmps8
  go_wp2_with fail
  show Code.wp _ _ _ _ (((w.alloc (.cells (bvs seed).toArray 23)).alloc (.cells (bvs a).toArray 23)).alloc (.cells (bvs b).toArray 23))
  generalize ((w.alloc (.cells (bvs seed).toArray 23)).alloc (.cells (bvs a).toArray 23)).alloc (.cells (bvs b).toArray 23) = W at *
  refine region_mix (w.heap.size + 2) [([0, 1, 2, 3, 4], [5]), ([6], [7])] (by kernel_rfl) (by kernel_rfl) (by kernel_rfl) (by decide) ?_
  intro w0 hw0 hs0
  have c0 := g0 _ hA
  have c1 := g1 _ hA
  have q0 := fun s : From (w.heap.size + 2) W => From.cell c0 (by show w.heap.size + 1 < _; omega) s
  have q1 := fun s : From (w.heap.size + 2) W => From.cell c1 (by show w.heap.size + 1 < _; omega) s
  have sW : w.heap.size + 2 ≤ W.heap.size := Nat.le_of_lt hB.lt
  simp only [pickAll, pickOps, List.getElem?_cons_succ, List.getElem?_cons_zero, List.nil_append, List.cons_append]
  refine wpMix_cons ?_
  repeat (first | go_big_quiet_skip | (go_big_quiet_want; go_big_quiet_op; go_big_quiet_on))
  refine wpQuiet_nil ?_
  have hB0 := (hB.later hw0).2
  have hw1 := hw0.mono sW
  clear hw0 hs0
  have d0 := Arr.thaw hB0 0
  have d0' := Arr.cell hB0 (i := 0) (by rw [bvs_length, HBL.out]; omega)
  go_wp2_with fail
  have r1 : Arr (w0.setCell ⟨w.heap.size + 2, 0, none⟩ (.int .u8 (x0.toNat : Int))) (w.heap.size + 2) 23 (bvs (b.set 0 x0)) := by rw [← bvs_set]; exact Arr.set hB0 0 _
  have hw2 : Below (w.heap.size + 2) W (w0.setCell ⟨w.heap.size + 2, 0, none⟩ (.int .u8 (x0.toNat : Int))) := hw1.setCell (Nat.le_refl _) _
  clear hB0 hw1 d0 d0'
  generalize w0.setCell ⟨w.heap.size + 2, 0, none⟩ (.int .u8 (x0.toNat : Int)) = w1 at *
  refine mixQ_mk (fromly hw2) (wpMix_cons ?_)
  repeat (first | go_big_quiet_skip | (go_big_quiet_want; go_big_quiet_op; go_big_quiet_on))
  refine wpQuiet_nil ?_
  have d0 := Arr.thaw r1 1
  have d0' := Arr.cell r1 (i := 1) (by rw [bvs_length, List.length_set, HBL.out]; omega)
  go_wp2_with fail
  have r2 : Arr (w1.setCell ⟨w.heap.size + 2, 1, none⟩ (.int .u8 (x1.toNat : Int))) (w.heap.size + 2) 23 (bvs c) := by rw [HC.out, ← bvs_set]; exact Arr.set r1 1 _
  have hw3 : Below (w.heap.size + 2) W (w1.setCell ⟨w.heap.size + 2, 1, none⟩ (.int .u8 (x1.toNat : Int))) := hw2.setCell (Nat.le_refl _) _
  clear r1 hw2 d0 d0' c0 c1 q0 q1 g0 g1 sW
  generalize w1.setCell ⟨w.heap.size + 2, 1, none⟩ (.int .u8 (x1.toNat : Int)) = w2 at *
  refine mixQ_mk (fromly hw3) (wpMix_end ?_)
  have hS2 := hS.below hw3 (by omega)
  have hA2 := hA.below hw3 (by omega)
  have hC2 : HashAt w2 (w.heap.size + 2) c := ⟨HCL.out, r2⟩
  have b2 := b0.trans (hw3.mono (by omega))
  clear b0 hS hA hB hw3 r2
  go_wp2_with (refine wpl_load_hash rfl _ rfl rfl (by assumption) ?_)
  refine (HTa.out _).mono ?_
  rintro _ wc2 ⟨rfl, hc2⟩
  replace b2 := later b2 hc2
  replace hS2 := hS2.later hc2
  replace hA2 := hA2.later hc2
  replace hC2 := hC2.later hc2
  clear hc2
  go_wp2_with (first | (refine wpl_load_hash rfl _ rfl rfl (by assumption) ?_) | (refine wpl_new_hash rfl _ _ rfl rfl rfl HRl.out ?_; intro w3 h3 hn3; replace b2 := later b2 hn3; replace hS2 := hS2.later hn3; replace hA2 := hA2.later hn3; replace hC2 := hC2.later hn3; clear hn3))
  refine (HTc.out _).mono ?_
  rintro _ wc4 ⟨rfl, hc4⟩
  replace b2 := later b2 hc4
  replace hS2 := hS2.later hc4
  replace hA2 := hA2.later hc4
  replace hC2 := hC2.later hc4
  replace h3 := h3.later hc4
  clear hc4
  go_wp2_with (first | (refine wpl_load_hash rfl _ rfl rfl (by assumption) ?_) | (refine wpl_new_hash rfl _ _ rfl rfl rfl HRl.out ?_; intro w4 h4 hn5; replace b2 := later b2 hn5; replace hS2 := hS2.later hn5; replace hA2 := hA2.later hn5; replace hC2 := hC2.later hn5; replace h3 := h3.later hn5; clear hn5))
  refine region_since (by kernel_rfl) (by kernel_rfl) ?_
  repeat (first | go_big_quiet_skip | (go_big_quiet_want; first | (refine quiet_load_hash _ rfl rfl (by assumption) ?_; simp only [Act.put, List.setIfInBounds_toArray, List.set_cons_succ, List.set_cons_zero]; go_big_quiet_on) | (go_big_quiet_op; go_big_quiet_on)))
  go_big_quiet_want; go_big_quiet_op
  refine ⟨_, fun _ => since_of (HSa.out _), ?_⟩
  go_big_quiet_on
  repeat (first | go_big_quiet_skip | (go_big_quiet_want; first | (refine quiet_load_hash _ rfl rfl (by assumption) ?_; simp only [Act.put, List.setIfInBounds_toArray, List.set_cons_succ, List.set_cons_zero]; go_big_quiet_on) | (go_big_quiet_op; go_big_quiet_on)))
  go_big_quiet_want; go_big_quiet_op
  refine ⟨_, fun _ => since_of (HSc.out _), ?_⟩
  go_big_quiet_on
  repeat (first | go_big_quiet_skip | (go_big_quiet_want; first | (refine quiet_load_hash _ rfl rfl (by assumption) ?_; simp only [Act.put, List.setIfInBounds_toArray, List.set_cons_succ, List.set_cons_zero]; go_big_quiet_on) | (go_big_quiet_op; go_big_quiet_on)))
  go_big_quiet_want
  refine quiet_eq _ _ rfl rfl rfl HRl.out HRl.out ?_; simp only [Act.put, List.setIfInBounds_toArray, List.set_cons_succ, List.set_cons_zero, decide_true]; go_big_quiet_on
  repeat (first | go_big_quiet_skip | (go_big_quiet_want; first | (refine quiet_load_hash _ rfl rfl (by assumption) ?_; simp only [Act.put, List.setIfInBounds_toArray, List.set_cons_succ, List.set_cons_zero]; go_big_quiet_on) | (go_big_quiet_op; go_big_quiet_on)))
  go_big_quiet_want; go_big_quiet_op
  refine ⟨_, fun _ => since_of (works05 _), ?_⟩
  go_big_quiet_on
  repeat (first | go_big_quiet_skip | (go_big_quiet_want; first | (refine quiet_load_hash _ rfl rfl (by assumption) ?_; simp only [Act.put, List.setIfInBounds_toArray, List.set_cons_succ, List.set_cons_zero]; go_big_quiet_on) | (go_big_quiet_op; go_big_quiet_on)))
  refine wpQuiet_nil ?_
  intro w5 hw5
  go_wp2_with fail
  go_ret
  exact ⟨rfl, later b2 hw5⟩
theorem onceShort_row (seed : List UInt8) (hl : seed.length = 32) (a : List UInt8) (ha : a.length = 32) (b : List UInt8) (hb : b.length = 32) (sig : ByteArray) (_ : sig.size ≤ 9223372036854775807) (w : World) :
    Calls Try.prog 8 #[hv seed, hv a, hv b, .string sig] w fun e w' => e = .returned (.bool true) ∧ Below w.heap.size w w' := by
  by_cases h : sig.size ≤ 4096
  · exact onceShort_small seed a b sig hl ha hb h w
  · exact onceShort_big seed a b sig (by omega) w
end Go.Proofs.Ytikphhhkikdhaaa
