/- Package origin: Param. -/
import Derived.Test.YtbbfnpfkbbpjgaaOBOrig1
namespace Go.Proofs.Ytbbfnpfkbbpjgaa
open Go.RowKit Go.Lib
set_option linter.unusedVariables false
set_option linter.unusedSimpArgs false

theorem spans_at {w : World} {g : Nat} (h : Arr w g 122 spanCs) (i : Nat) (v : Value) (hv : spanCs[i]? = some v) : w.cell? ⟨g, i, none⟩ = some v := by
  have := Cells.arr h i v hv
  rwa [Nat.zero_add] at this
set_option maxRecDepth 100000 in
set_option maxHeartbeats 800000 in
theorem param0 (n : Nat) (w : World) : Calls Try.prog 24 #[.int .u64 0, .int .u64 n] w fun e w' => e = .returned (.int .i64 (parE 0 n)) ∧ Below w.heap.size w w' := by
  have b := Below.refl w.heap.size w
  have HSP := hide spans_any
  have c1 : decide ((n : Int) < 0) = false := decide_eq_false (by omega)
  by_cases h2 : 1099511627775 < n
  · rw [show parE 0 n = 2 by simp [parE]; omega]
    have c2 := decide_eq_true (show (1099511627775 : Int) < (n : Int) by omega)
    clear h2
    go_enter Try.func24, Try.ntmps24
    go_wp2_with (first | (go_at_call 75; refine (HSP.out _).mono ?_; rintro _ _ ⟨rfl, hc⟩; (try replace F1 := F1.later hc); (try replace F2 := F2.later hc); (try replace F3 := F3.later hc); (try replace F4 := F4.later hc); (try replace F5 := F5.later hc); (try replace F6 := F6.later hc); (try replace F7 := F7.later hc); (try replace F8 := F8.later hc); (try replace F9 := F9.later hc); (try replace G1 := G1.later hc); (try replace G2 := G2.later hc); (try replace G3 := G3.later hc); (try replace z := z.later hc); (try replace b := later b hc); (try replace bB := mixed hB bB hc); clear hc) | (with_reducible show wpList _ _ _ (⟨_, Op.alloc _, _, _, _, _⟩ :: _) _ _; refine wpl_mk rfl 122 rfl spanZero (cs := List.replicate 16 (.int .u64 0)) rfl ?_; intro _ g hg F1 ha; simp only [Act.put, List.setIfInBounds_toArray, List.set_cons_succ, List.set_cons_zero]) | ((with_reducible show wpList _ _ _ (⟨_, Op.store _ _ _, _, _, _, _⟩ :: _) _ _); refine wpl_fill rfl 122 _ _ rfl (cs := spanCs) rfl rfl F1 spanSz rfl (by decide) ?_; intro _ t1 ht1; have hb := below_touch ha ht1 hg (Nat.le_refl _); clear F1; replace b := later b hb; have d0 := spans_at t1 0 _ rfl; have d1 := spans_at t1 1 _ rfl; clear t1 ht1 ha hb; simp only [Act.put, List.setIfInBounds_toArray, List.set_cons_succ, List.set_cons_zero]) | (with_reducible show wpList _ _ _ (⟨_, Op.load _ _, _, _, _, _⟩ :: _) _ _; refine wpl_load_one rfl 23 _ rfl rfl d0 (by kernel_rfl) ?_) | (with_reducible show wpList _ _ _ (⟨_, Op.load _ _, _, _, _, _⟩ :: _) _ _; refine wpl_load_one rfl 23 _ rfl rfl d1 (by kernel_rfl) ?_))
    go_ret
    exact ⟨rfl, b⟩
  · rw [show parE 0 n = 0 by simp [parE]; omega]
    have c2 := decide_eq_false (show ¬ (1099511627775 : Int) < (n : Int) by omega)
    clear h2
    go_enter Try.func24, Try.ntmps24
    go_wp2_with (first | (go_at_call 75; refine (HSP.out _).mono ?_; rintro _ _ ⟨rfl, hc⟩; (try replace F1 := F1.later hc); (try replace F2 := F2.later hc); (try replace F3 := F3.later hc); (try replace F4 := F4.later hc); (try replace F5 := F5.later hc); (try replace F6 := F6.later hc); (try replace F7 := F7.later hc); (try replace F8 := F8.later hc); (try replace F9 := F9.later hc); (try replace G1 := G1.later hc); (try replace G2 := G2.later hc); (try replace G3 := G3.later hc); (try replace z := z.later hc); (try replace b := later b hc); (try replace bB := mixed hB bB hc); clear hc) | (with_reducible show wpList _ _ _ (⟨_, Op.alloc _, _, _, _, _⟩ :: _) _ _; refine wpl_mk rfl 122 rfl spanZero (cs := List.replicate 16 (.int .u64 0)) rfl ?_; intro _ g hg F1 ha; simp only [Act.put, List.setIfInBounds_toArray, List.set_cons_succ, List.set_cons_zero]) | ((with_reducible show wpList _ _ _ (⟨_, Op.store _ _ _, _, _, _, _⟩ :: _) _ _); refine wpl_fill rfl 122 _ _ rfl (cs := spanCs) rfl rfl F1 spanSz rfl (by decide) ?_; intro _ t1 ht1; have hb := below_touch ha ht1 hg (Nat.le_refl _); clear F1; replace b := later b hb; have d0 := spans_at t1 0 _ rfl; have d1 := spans_at t1 1 _ rfl; clear t1 ht1 ha hb; simp only [Act.put, List.setIfInBounds_toArray, List.set_cons_succ, List.set_cons_zero]) | (with_reducible show wpList _ _ _ (⟨_, Op.load _ _, _, _, _, _⟩ :: _) _ _; refine wpl_load_one rfl 23 _ rfl rfl d0 (by kernel_rfl) ?_) | (with_reducible show wpList _ _ _ (⟨_, Op.load _ _, _, _, _, _⟩ :: _) _ _; refine wpl_load_one rfl 23 _ rfl rfl d1 (by kernel_rfl) ?_))
    go_ret
    exact ⟨rfl, b⟩
set_option maxRecDepth 100000 in
set_option maxHeartbeats 800000 in
theorem param1 (n : Nat) (w : World) : Calls Try.prog 24 #[.int .u64 1, .int .u64 n] w fun e w' => e = .returned (.int .i64 (parE 1 n)) ∧ Below w.heap.size w w' := by
  have b := Below.refl w.heap.size w
  have HSP := hide spans_any
  have c1 : decide ((n : Int) < 0) = false := decide_eq_false (by omega)
  by_cases h2 : 1048575 < n
  · rw [show parE 1 n = 2 by simp [parE]; omega]
    have c2 := decide_eq_true (show (1048575 : Int) < (n : Int) by omega)
    clear h2
    go_enter Try.func24, Try.ntmps24
    go_wp2_with (first | (go_at_call 75; refine (HSP.out _).mono ?_; rintro _ _ ⟨rfl, hc⟩; (try replace F1 := F1.later hc); (try replace F2 := F2.later hc); (try replace F3 := F3.later hc); (try replace F4 := F4.later hc); (try replace F5 := F5.later hc); (try replace F6 := F6.later hc); (try replace F7 := F7.later hc); (try replace F8 := F8.later hc); (try replace F9 := F9.later hc); (try replace G1 := G1.later hc); (try replace G2 := G2.later hc); (try replace G3 := G3.later hc); (try replace z := z.later hc); (try replace b := later b hc); (try replace bB := mixed hB bB hc); clear hc) | (with_reducible show wpList _ _ _ (⟨_, Op.alloc _, _, _, _, _⟩ :: _) _ _; refine wpl_mk rfl 122 rfl spanZero (cs := List.replicate 16 (.int .u64 0)) rfl ?_; intro _ g hg F1 ha; simp only [Act.put, List.setIfInBounds_toArray, List.set_cons_succ, List.set_cons_zero]) | ((with_reducible show wpList _ _ _ (⟨_, Op.store _ _ _, _, _, _, _⟩ :: _) _ _); refine wpl_fill rfl 122 _ _ rfl (cs := spanCs) rfl rfl F1 spanSz rfl (by decide) ?_; intro _ t1 ht1; have hb := below_touch ha ht1 hg (Nat.le_refl _); clear F1; replace b := later b hb; have d0 := spans_at t1 2 _ rfl; have d1 := spans_at t1 3 _ rfl; clear t1 ht1 ha hb; simp only [Act.put, List.setIfInBounds_toArray, List.set_cons_succ, List.set_cons_zero]) | (with_reducible show wpList _ _ _ (⟨_, Op.load _ _, _, _, _, _⟩ :: _) _ _; refine wpl_load_one rfl 23 _ rfl rfl d0 (by kernel_rfl) ?_) | (with_reducible show wpList _ _ _ (⟨_, Op.load _ _, _, _, _, _⟩ :: _) _ _; refine wpl_load_one rfl 23 _ rfl rfl d1 (by kernel_rfl) ?_))
    go_ret
    exact ⟨rfl, b⟩
  · rw [show parE 1 n = 0 by simp [parE]; omega]
    have c2 := decide_eq_false (show ¬ (1048575 : Int) < (n : Int) by omega)
    clear h2
    go_enter Try.func24, Try.ntmps24
    go_wp2_with (first | (go_at_call 75; refine (HSP.out _).mono ?_; rintro _ _ ⟨rfl, hc⟩; (try replace F1 := F1.later hc); (try replace F2 := F2.later hc); (try replace F3 := F3.later hc); (try replace F4 := F4.later hc); (try replace F5 := F5.later hc); (try replace F6 := F6.later hc); (try replace F7 := F7.later hc); (try replace F8 := F8.later hc); (try replace F9 := F9.later hc); (try replace G1 := G1.later hc); (try replace G2 := G2.later hc); (try replace G3 := G3.later hc); (try replace z := z.later hc); (try replace b := later b hc); (try replace bB := mixed hB bB hc); clear hc) | (with_reducible show wpList _ _ _ (⟨_, Op.alloc _, _, _, _, _⟩ :: _) _ _; refine wpl_mk rfl 122 rfl spanZero (cs := List.replicate 16 (.int .u64 0)) rfl ?_; intro _ g hg F1 ha; simp only [Act.put, List.setIfInBounds_toArray, List.set_cons_succ, List.set_cons_zero]) | ((with_reducible show wpList _ _ _ (⟨_, Op.store _ _ _, _, _, _, _⟩ :: _) _ _); refine wpl_fill rfl 122 _ _ rfl (cs := spanCs) rfl rfl F1 spanSz rfl (by decide) ?_; intro _ t1 ht1; have hb := below_touch ha ht1 hg (Nat.le_refl _); clear F1; replace b := later b hb; have d0 := spans_at t1 2 _ rfl; have d1 := spans_at t1 3 _ rfl; clear t1 ht1 ha hb; simp only [Act.put, List.setIfInBounds_toArray, List.set_cons_succ, List.set_cons_zero]) | (with_reducible show wpList _ _ _ (⟨_, Op.load _ _, _, _, _, _⟩ :: _) _ _; refine wpl_load_one rfl 23 _ rfl rfl d0 (by kernel_rfl) ?_) | (with_reducible show wpList _ _ _ (⟨_, Op.load _ _, _, _, _, _⟩ :: _) _ _; refine wpl_load_one rfl 23 _ rfl rfl d1 (by kernel_rfl) ?_))
    go_ret
    exact ⟨rfl, b⟩
set_option maxRecDepth 100000 in
set_option maxHeartbeats 800000 in
theorem param2 (n : Nat) (w : World) : Calls Try.prog 24 #[.int .u64 2, .int .u64 n] w fun e w' => e = .returned (.int .i64 (parE 2 n)) ∧ Below w.heap.size w w' := by
  have b := Below.refl w.heap.size w
  have HSP := hide spans_any
  have c1 : decide ((n : Int) < 0) = false := decide_eq_false (by omega)
  by_cases h2 : 1099511627775 < n
  · rw [show parE 2 n = 2 by simp [parE]; omega]
    have c2 := decide_eq_true (show (1099511627775 : Int) < (n : Int) by omega)
    clear h2
    go_enter Try.func24, Try.ntmps24
    go_wp2_with (first | (go_at_call 75; refine (HSP.out _).mono ?_; rintro _ _ ⟨rfl, hc⟩; (try replace F1 := F1.later hc); (try replace F2 := F2.later hc); (try replace F3 := F3.later hc); (try replace F4 := F4.later hc); (try replace F5 := F5.later hc); (try replace F6 := F6.later hc); (try replace F7 := F7.later hc); (try replace F8 := F8.later hc); (try replace F9 := F9.later hc); (try replace G1 := G1.later hc); (try replace G2 := G2.later hc); (try replace G3 := G3.later hc); (try replace z := z.later hc); (try replace b := later b hc); (try replace bB := mixed hB bB hc); clear hc) | (with_reducible show wpList _ _ _ (⟨_, Op.alloc _, _, _, _, _⟩ :: _) _ _; refine wpl_mk rfl 122 rfl spanZero (cs := List.replicate 16 (.int .u64 0)) rfl ?_; intro _ g hg F1 ha; simp only [Act.put, List.setIfInBounds_toArray, List.set_cons_succ, List.set_cons_zero]) | ((with_reducible show wpList _ _ _ (⟨_, Op.store _ _ _, _, _, _, _⟩ :: _) _ _); refine wpl_fill rfl 122 _ _ rfl (cs := spanCs) rfl rfl F1 spanSz rfl (by decide) ?_; intro _ t1 ht1; have hb := below_touch ha ht1 hg (Nat.le_refl _); clear F1; replace b := later b hb; have d0 := spans_at t1 4 _ rfl; have d1 := spans_at t1 5 _ rfl; clear t1 ht1 ha hb; simp only [Act.put, List.setIfInBounds_toArray, List.set_cons_succ, List.set_cons_zero]) | (with_reducible show wpList _ _ _ (⟨_, Op.load _ _, _, _, _, _⟩ :: _) _ _; refine wpl_load_one rfl 23 _ rfl rfl d0 (by kernel_rfl) ?_) | (with_reducible show wpList _ _ _ (⟨_, Op.load _ _, _, _, _, _⟩ :: _) _ _; refine wpl_load_one rfl 23 _ rfl rfl d1 (by kernel_rfl) ?_))
    go_ret
    exact ⟨rfl, b⟩
  · rw [show parE 2 n = 0 by simp [parE]; omega]
    have c2 := decide_eq_false (show ¬ (1099511627775 : Int) < (n : Int) by omega)
    clear h2
    go_enter Try.func24, Try.ntmps24
    go_wp2_with (first | (go_at_call 75; refine (HSP.out _).mono ?_; rintro _ _ ⟨rfl, hc⟩; (try replace F1 := F1.later hc); (try replace F2 := F2.later hc); (try replace F3 := F3.later hc); (try replace F4 := F4.later hc); (try replace F5 := F5.later hc); (try replace F6 := F6.later hc); (try replace F7 := F7.later hc); (try replace F8 := F8.later hc); (try replace F9 := F9.later hc); (try replace G1 := G1.later hc); (try replace G2 := G2.later hc); (try replace G3 := G3.later hc); (try replace z := z.later hc); (try replace b := later b hc); (try replace bB := mixed hB bB hc); clear hc) | (with_reducible show wpList _ _ _ (⟨_, Op.alloc _, _, _, _, _⟩ :: _) _ _; refine wpl_mk rfl 122 rfl spanZero (cs := List.replicate 16 (.int .u64 0)) rfl ?_; intro _ g hg F1 ha; simp only [Act.put, List.setIfInBounds_toArray, List.set_cons_succ, List.set_cons_zero]) | ((with_reducible show wpList _ _ _ (⟨_, Op.store _ _ _, _, _, _, _⟩ :: _) _ _); refine wpl_fill rfl 122 _ _ rfl (cs := spanCs) rfl rfl F1 spanSz rfl (by decide) ?_; intro _ t1 ht1; have hb := below_touch ha ht1 hg (Nat.le_refl _); clear F1; replace b := later b hb; have d0 := spans_at t1 4 _ rfl; have d1 := spans_at t1 5 _ rfl; clear t1 ht1 ha hb; simp only [Act.put, List.setIfInBounds_toArray, List.set_cons_succ, List.set_cons_zero]) | (with_reducible show wpList _ _ _ (⟨_, Op.load _ _, _, _, _, _⟩ :: _) _ _; refine wpl_load_one rfl 23 _ rfl rfl d0 (by kernel_rfl) ?_) | (with_reducible show wpList _ _ _ (⟨_, Op.load _ _, _, _, _, _⟩ :: _) _ _; refine wpl_load_one rfl 23 _ rfl rfl d1 (by kernel_rfl) ?_))
    go_ret
    exact ⟨rfl, b⟩
set_option maxRecDepth 100000 in
set_option maxHeartbeats 800000 in
theorem param3 (n : Nat) (w : World) : Calls Try.prog 24 #[.int .u64 3, .int .u64 n] w fun e w' => e = .returned (.int .i64 (parE 3 n)) ∧ Below w.heap.size w w' := by
  have b := Below.refl w.heap.size w
  have HSP := hide spans_any
  have c1 : decide ((n : Int) < 0) = false := decide_eq_false (by omega)
  by_cases h2 : 1099511627775 < n
  · rw [show parE 3 n = 2 by simp [parE]; omega]
    have c2 := decide_eq_true (show (1099511627775 : Int) < (n : Int) by omega)
    clear h2
    go_enter Try.func24, Try.ntmps24
    go_wp2_with (first | (go_at_call 75; refine (HSP.out _).mono ?_; rintro _ _ ⟨rfl, hc⟩; (try replace F1 := F1.later hc); (try replace F2 := F2.later hc); (try replace F3 := F3.later hc); (try replace F4 := F4.later hc); (try replace F5 := F5.later hc); (try replace F6 := F6.later hc); (try replace F7 := F7.later hc); (try replace F8 := F8.later hc); (try replace F9 := F9.later hc); (try replace G1 := G1.later hc); (try replace G2 := G2.later hc); (try replace G3 := G3.later hc); (try replace z := z.later hc); (try replace b := later b hc); (try replace bB := mixed hB bB hc); clear hc) | (with_reducible show wpList _ _ _ (⟨_, Op.alloc _, _, _, _, _⟩ :: _) _ _; refine wpl_mk rfl 122 rfl spanZero (cs := List.replicate 16 (.int .u64 0)) rfl ?_; intro _ g hg F1 ha; simp only [Act.put, List.setIfInBounds_toArray, List.set_cons_succ, List.set_cons_zero]) | ((with_reducible show wpList _ _ _ (⟨_, Op.store _ _ _, _, _, _, _⟩ :: _) _ _); refine wpl_fill rfl 122 _ _ rfl (cs := spanCs) rfl rfl F1 spanSz rfl (by decide) ?_; intro _ t1 ht1; have hb := below_touch ha ht1 hg (Nat.le_refl _); clear F1; replace b := later b hb; have d0 := spans_at t1 6 _ rfl; have d1 := spans_at t1 7 _ rfl; clear t1 ht1 ha hb; simp only [Act.put, List.setIfInBounds_toArray, List.set_cons_succ, List.set_cons_zero]) | (with_reducible show wpList _ _ _ (⟨_, Op.load _ _, _, _, _, _⟩ :: _) _ _; refine wpl_load_one rfl 23 _ rfl rfl d0 (by kernel_rfl) ?_) | (with_reducible show wpList _ _ _ (⟨_, Op.load _ _, _, _, _, _⟩ :: _) _ _; refine wpl_load_one rfl 23 _ rfl rfl d1 (by kernel_rfl) ?_))
    go_ret
    exact ⟨rfl, b⟩
  · rw [show parE 3 n = 0 by simp [parE]; omega]
    have c2 := decide_eq_false (show ¬ (1099511627775 : Int) < (n : Int) by omega)
    clear h2
    go_enter Try.func24, Try.ntmps24
    go_wp2_with (first | (go_at_call 75; refine (HSP.out _).mono ?_; rintro _ _ ⟨rfl, hc⟩; (try replace F1 := F1.later hc); (try replace F2 := F2.later hc); (try replace F3 := F3.later hc); (try replace F4 := F4.later hc); (try replace F5 := F5.later hc); (try replace F6 := F6.later hc); (try replace F7 := F7.later hc); (try replace F8 := F8.later hc); (try replace F9 := F9.later hc); (try replace G1 := G1.later hc); (try replace G2 := G2.later hc); (try replace G3 := G3.later hc); (try replace z := z.later hc); (try replace b := later b hc); (try replace bB := mixed hB bB hc); clear hc) | (with_reducible show wpList _ _ _ (⟨_, Op.alloc _, _, _, _, _⟩ :: _) _ _; refine wpl_mk rfl 122 rfl spanZero (cs := List.replicate 16 (.int .u64 0)) rfl ?_; intro _ g hg F1 ha; simp only [Act.put, List.setIfInBounds_toArray, List.set_cons_succ, List.set_cons_zero]) | ((with_reducible show wpList _ _ _ (⟨_, Op.store _ _ _, _, _, _, _⟩ :: _) _ _); refine wpl_fill rfl 122 _ _ rfl (cs := spanCs) rfl rfl F1 spanSz rfl (by decide) ?_; intro _ t1 ht1; have hb := below_touch ha ht1 hg (Nat.le_refl _); clear F1; replace b := later b hb; have d0 := spans_at t1 6 _ rfl; have d1 := spans_at t1 7 _ rfl; clear t1 ht1 ha hb; simp only [Act.put, List.setIfInBounds_toArray, List.set_cons_succ, List.set_cons_zero]) | (with_reducible show wpList _ _ _ (⟨_, Op.load _ _, _, _, _, _⟩ :: _) _ _; refine wpl_load_one rfl 23 _ rfl rfl d0 (by kernel_rfl) ?_) | (with_reducible show wpList _ _ _ (⟨_, Op.load _ _, _, _, _, _⟩ :: _) _ _; refine wpl_load_one rfl 23 _ rfl rfl d1 (by kernel_rfl) ?_))
    go_ret
    exact ⟨rfl, b⟩
set_option maxRecDepth 100000 in
set_option maxHeartbeats 800000 in
theorem param4 (n : Nat) (w : World) : Calls Try.prog 24 #[.int .u64 4, .int .u64 n] w fun e w' => e = .returned (.int .i64 (parE 4 n)) ∧ Below w.heap.size w w' := by
  have b := Below.refl w.heap.size w
  have HSP := hide spans_any
  have c1 : decide ((n : Int) < 0) = false := decide_eq_false (by omega)
  by_cases h2 : 1000 < n
  · rw [show parE 4 n = 2 by simp [parE]; omega]
    have c2 := decide_eq_true (show (1000 : Int) < (n : Int) by omega)
    clear h2
    go_enter Try.func24, Try.ntmps24
    go_wp2_with (first | (go_at_call 75; refine (HSP.out _).mono ?_; rintro _ _ ⟨rfl, hc⟩; (try replace F1 := F1.later hc); (try replace F2 := F2.later hc); (try replace F3 := F3.later hc); (try replace F4 := F4.later hc); (try replace F5 := F5.later hc); (try replace F6 := F6.later hc); (try replace F7 := F7.later hc); (try replace F8 := F8.later hc); (try replace F9 := F9.later hc); (try replace G1 := G1.later hc); (try replace G2 := G2.later hc); (try replace G3 := G3.later hc); (try replace z := z.later hc); (try replace b := later b hc); (try replace bB := mixed hB bB hc); clear hc) | (with_reducible show wpList _ _ _ (⟨_, Op.alloc _, _, _, _, _⟩ :: _) _ _; refine wpl_mk rfl 122 rfl spanZero (cs := List.replicate 16 (.int .u64 0)) rfl ?_; intro _ g hg F1 ha; simp only [Act.put, List.setIfInBounds_toArray, List.set_cons_succ, List.set_cons_zero]) | ((with_reducible show wpList _ _ _ (⟨_, Op.store _ _ _, _, _, _, _⟩ :: _) _ _); refine wpl_fill rfl 122 _ _ rfl (cs := spanCs) rfl rfl F1 spanSz rfl (by decide) ?_; intro _ t1 ht1; have hb := below_touch ha ht1 hg (Nat.le_refl _); clear F1; replace b := later b hb; have d0 := spans_at t1 8 _ rfl; have d1 := spans_at t1 9 _ rfl; clear t1 ht1 ha hb; simp only [Act.put, List.setIfInBounds_toArray, List.set_cons_succ, List.set_cons_zero]) | (with_reducible show wpList _ _ _ (⟨_, Op.load _ _, _, _, _, _⟩ :: _) _ _; refine wpl_load_one rfl 23 _ rfl rfl d0 (by kernel_rfl) ?_) | (with_reducible show wpList _ _ _ (⟨_, Op.load _ _, _, _, _, _⟩ :: _) _ _; refine wpl_load_one rfl 23 _ rfl rfl d1 (by kernel_rfl) ?_))
    go_ret
    exact ⟨rfl, b⟩
  · rw [show parE 4 n = 0 by simp [parE]; omega]
    have c2 := decide_eq_false (show ¬ (1000 : Int) < (n : Int) by omega)
    clear h2
    go_enter Try.func24, Try.ntmps24
    go_wp2_with (first | (go_at_call 75; refine (HSP.out _).mono ?_; rintro _ _ ⟨rfl, hc⟩; (try replace F1 := F1.later hc); (try replace F2 := F2.later hc); (try replace F3 := F3.later hc); (try replace F4 := F4.later hc); (try replace F5 := F5.later hc); (try replace F6 := F6.later hc); (try replace F7 := F7.later hc); (try replace F8 := F8.later hc); (try replace F9 := F9.later hc); (try replace G1 := G1.later hc); (try replace G2 := G2.later hc); (try replace G3 := G3.later hc); (try replace z := z.later hc); (try replace b := later b hc); (try replace bB := mixed hB bB hc); clear hc) | (with_reducible show wpList _ _ _ (⟨_, Op.alloc _, _, _, _, _⟩ :: _) _ _; refine wpl_mk rfl 122 rfl spanZero (cs := List.replicate 16 (.int .u64 0)) rfl ?_; intro _ g hg F1 ha; simp only [Act.put, List.setIfInBounds_toArray, List.set_cons_succ, List.set_cons_zero]) | ((with_reducible show wpList _ _ _ (⟨_, Op.store _ _ _, _, _, _, _⟩ :: _) _ _); refine wpl_fill rfl 122 _ _ rfl (cs := spanCs) rfl rfl F1 spanSz rfl (by decide) ?_; intro _ t1 ht1; have hb := below_touch ha ht1 hg (Nat.le_refl _); clear F1; replace b := later b hb; have d0 := spans_at t1 8 _ rfl; have d1 := spans_at t1 9 _ rfl; clear t1 ht1 ha hb; simp only [Act.put, List.setIfInBounds_toArray, List.set_cons_succ, List.set_cons_zero]) | (with_reducible show wpList _ _ _ (⟨_, Op.load _ _, _, _, _, _⟩ :: _) _ _; refine wpl_load_one rfl 23 _ rfl rfl d0 (by kernel_rfl) ?_) | (with_reducible show wpList _ _ _ (⟨_, Op.load _ _, _, _, _, _⟩ :: _) _ _; refine wpl_load_one rfl 23 _ rfl rfl d1 (by kernel_rfl) ?_))
    go_ret
    exact ⟨rfl, b⟩
set_option maxRecDepth 100000 in
set_option maxHeartbeats 800000 in
theorem param5 (n : Nat) (w : World) : Calls Try.prog 24 #[.int .u64 5, .int .u64 n] w fun e w' => e = .returned (.int .i64 (parE 5 n)) ∧ Below w.heap.size w w' := by
  have b := Below.refl w.heap.size w
  have HSP := hide spans_any
  have c1 : decide ((n : Int) < 0) = false := decide_eq_false (by omega)
  by_cases h2 : 1000 < n
  · rw [show parE 5 n = 2 by simp [parE]; omega]
    have c2 := decide_eq_true (show (1000 : Int) < (n : Int) by omega)
    clear h2
    go_enter Try.func24, Try.ntmps24
    go_wp2_with (first | (go_at_call 75; refine (HSP.out _).mono ?_; rintro _ _ ⟨rfl, hc⟩; (try replace F1 := F1.later hc); (try replace F2 := F2.later hc); (try replace F3 := F3.later hc); (try replace F4 := F4.later hc); (try replace F5 := F5.later hc); (try replace F6 := F6.later hc); (try replace F7 := F7.later hc); (try replace F8 := F8.later hc); (try replace F9 := F9.later hc); (try replace G1 := G1.later hc); (try replace G2 := G2.later hc); (try replace G3 := G3.later hc); (try replace z := z.later hc); (try replace b := later b hc); (try replace bB := mixed hB bB hc); clear hc) | (with_reducible show wpList _ _ _ (⟨_, Op.alloc _, _, _, _, _⟩ :: _) _ _; refine wpl_mk rfl 122 rfl spanZero (cs := List.replicate 16 (.int .u64 0)) rfl ?_; intro _ g hg F1 ha; simp only [Act.put, List.setIfInBounds_toArray, List.set_cons_succ, List.set_cons_zero]) | ((with_reducible show wpList _ _ _ (⟨_, Op.store _ _ _, _, _, _, _⟩ :: _) _ _); refine wpl_fill rfl 122 _ _ rfl (cs := spanCs) rfl rfl F1 spanSz rfl (by decide) ?_; intro _ t1 ht1; have hb := below_touch ha ht1 hg (Nat.le_refl _); clear F1; replace b := later b hb; have d0 := spans_at t1 10 _ rfl; have d1 := spans_at t1 11 _ rfl; clear t1 ht1 ha hb; simp only [Act.put, List.setIfInBounds_toArray, List.set_cons_succ, List.set_cons_zero]) | (with_reducible show wpList _ _ _ (⟨_, Op.load _ _, _, _, _, _⟩ :: _) _ _; refine wpl_load_one rfl 23 _ rfl rfl d0 (by kernel_rfl) ?_) | (with_reducible show wpList _ _ _ (⟨_, Op.load _ _, _, _, _, _⟩ :: _) _ _; refine wpl_load_one rfl 23 _ rfl rfl d1 (by kernel_rfl) ?_))
    go_ret
    exact ⟨rfl, b⟩
  · rw [show parE 5 n = 0 by simp [parE]; omega]
    have c2 := decide_eq_false (show ¬ (1000 : Int) < (n : Int) by omega)
    clear h2
    go_enter Try.func24, Try.ntmps24
    go_wp2_with (first | (go_at_call 75; refine (HSP.out _).mono ?_; rintro _ _ ⟨rfl, hc⟩; (try replace F1 := F1.later hc); (try replace F2 := F2.later hc); (try replace F3 := F3.later hc); (try replace F4 := F4.later hc); (try replace F5 := F5.later hc); (try replace F6 := F6.later hc); (try replace F7 := F7.later hc); (try replace F8 := F8.later hc); (try replace F9 := F9.later hc); (try replace G1 := G1.later hc); (try replace G2 := G2.later hc); (try replace G3 := G3.later hc); (try replace z := z.later hc); (try replace b := later b hc); (try replace bB := mixed hB bB hc); clear hc) | (with_reducible show wpList _ _ _ (⟨_, Op.alloc _, _, _, _, _⟩ :: _) _ _; refine wpl_mk rfl 122 rfl spanZero (cs := List.replicate 16 (.int .u64 0)) rfl ?_; intro _ g hg F1 ha; simp only [Act.put, List.setIfInBounds_toArray, List.set_cons_succ, List.set_cons_zero]) | ((with_reducible show wpList _ _ _ (⟨_, Op.store _ _ _, _, _, _, _⟩ :: _) _ _); refine wpl_fill rfl 122 _ _ rfl (cs := spanCs) rfl rfl F1 spanSz rfl (by decide) ?_; intro _ t1 ht1; have hb := below_touch ha ht1 hg (Nat.le_refl _); clear F1; replace b := later b hb; have d0 := spans_at t1 10 _ rfl; have d1 := spans_at t1 11 _ rfl; clear t1 ht1 ha hb; simp only [Act.put, List.setIfInBounds_toArray, List.set_cons_succ, List.set_cons_zero]) | (with_reducible show wpList _ _ _ (⟨_, Op.load _ _, _, _, _, _⟩ :: _) _ _; refine wpl_load_one rfl 23 _ rfl rfl d0 (by kernel_rfl) ?_) | (with_reducible show wpList _ _ _ (⟨_, Op.load _ _, _, _, _, _⟩ :: _) _ _; refine wpl_load_one rfl 23 _ rfl rfl d1 (by kernel_rfl) ?_))
    go_ret
    exact ⟨rfl, b⟩
set_option maxRecDepth 100000 in
set_option maxHeartbeats 800000 in
theorem param6 (n : Nat) (w : World) : Calls Try.prog 24 #[.int .u64 6, .int .u64 n] w fun e w' => e = .returned (.int .i64 (parE 6 n)) ∧ Below w.heap.size w w' := by
  have b := Below.refl w.heap.size w
  have HSP := hide spans_any
  by_cases h1 : n < 1
  · rw [show parE 6 n = 2 by simp [parE]; omega]
    have c1 := decide_eq_true (show (n : Int) < 1 by omega)
    clear h1
    go_enter Try.func24, Try.ntmps24
    go_wp2_with (first | (go_at_call 75; refine (HSP.out _).mono ?_; rintro _ _ ⟨rfl, hc⟩; (try replace F1 := F1.later hc); (try replace F2 := F2.later hc); (try replace F3 := F3.later hc); (try replace F4 := F4.later hc); (try replace F5 := F5.later hc); (try replace F6 := F6.later hc); (try replace F7 := F7.later hc); (try replace F8 := F8.later hc); (try replace F9 := F9.later hc); (try replace G1 := G1.later hc); (try replace G2 := G2.later hc); (try replace G3 := G3.later hc); (try replace z := z.later hc); (try replace b := later b hc); (try replace bB := mixed hB bB hc); clear hc) | (with_reducible show wpList _ _ _ (⟨_, Op.alloc _, _, _, _, _⟩ :: _) _ _; refine wpl_mk rfl 122 rfl spanZero (cs := List.replicate 16 (.int .u64 0)) rfl ?_; intro _ g hg F1 ha; simp only [Act.put, List.setIfInBounds_toArray, List.set_cons_succ, List.set_cons_zero]) | ((with_reducible show wpList _ _ _ (⟨_, Op.store _ _ _, _, _, _, _⟩ :: _) _ _); refine wpl_fill rfl 122 _ _ rfl (cs := spanCs) rfl rfl F1 spanSz rfl (by decide) ?_; intro _ t1 ht1; have hb := below_touch ha ht1 hg (Nat.le_refl _); clear F1; replace b := later b hb; have d0 := spans_at t1 12 _ rfl; have d1 := spans_at t1 13 _ rfl; clear t1 ht1 ha hb; simp only [Act.put, List.setIfInBounds_toArray, List.set_cons_succ, List.set_cons_zero]) | (with_reducible show wpList _ _ _ (⟨_, Op.load _ _, _, _, _, _⟩ :: _) _ _; refine wpl_load_one rfl 23 _ rfl rfl d0 (by kernel_rfl) ?_) | (with_reducible show wpList _ _ _ (⟨_, Op.load _ _, _, _, _, _⟩ :: _) _ _; refine wpl_load_one rfl 23 _ rfl rfl d1 (by kernel_rfl) ?_))
    go_ret
    exact ⟨rfl, b⟩
  have c1 : decide ((n : Int) < 1) = false := decide_eq_false (by omega)
  by_cases h2 : 1000 < n
  · rw [show parE 6 n = 2 by simp [parE]; omega]
    have c2 := decide_eq_true (show (1000 : Int) < (n : Int) by omega)
    clear h2 h1
    go_enter Try.func24, Try.ntmps24
    go_wp2_with (first | (go_at_call 75; refine (HSP.out _).mono ?_; rintro _ _ ⟨rfl, hc⟩; (try replace F1 := F1.later hc); (try replace F2 := F2.later hc); (try replace F3 := F3.later hc); (try replace F4 := F4.later hc); (try replace F5 := F5.later hc); (try replace F6 := F6.later hc); (try replace F7 := F7.later hc); (try replace F8 := F8.later hc); (try replace F9 := F9.later hc); (try replace G1 := G1.later hc); (try replace G2 := G2.later hc); (try replace G3 := G3.later hc); (try replace z := z.later hc); (try replace b := later b hc); (try replace bB := mixed hB bB hc); clear hc) | (with_reducible show wpList _ _ _ (⟨_, Op.alloc _, _, _, _, _⟩ :: _) _ _; refine wpl_mk rfl 122 rfl spanZero (cs := List.replicate 16 (.int .u64 0)) rfl ?_; intro _ g hg F1 ha; simp only [Act.put, List.setIfInBounds_toArray, List.set_cons_succ, List.set_cons_zero]) | ((with_reducible show wpList _ _ _ (⟨_, Op.store _ _ _, _, _, _, _⟩ :: _) _ _); refine wpl_fill rfl 122 _ _ rfl (cs := spanCs) rfl rfl F1 spanSz rfl (by decide) ?_; intro _ t1 ht1; have hb := below_touch ha ht1 hg (Nat.le_refl _); clear F1; replace b := later b hb; have d0 := spans_at t1 12 _ rfl; have d1 := spans_at t1 13 _ rfl; clear t1 ht1 ha hb; simp only [Act.put, List.setIfInBounds_toArray, List.set_cons_succ, List.set_cons_zero]) | (with_reducible show wpList _ _ _ (⟨_, Op.load _ _, _, _, _, _⟩ :: _) _ _; refine wpl_load_one rfl 23 _ rfl rfl d0 (by kernel_rfl) ?_) | (with_reducible show wpList _ _ _ (⟨_, Op.load _ _, _, _, _, _⟩ :: _) _ _; refine wpl_load_one rfl 23 _ rfl rfl d1 (by kernel_rfl) ?_))
    go_ret
    exact ⟨rfl, b⟩
  · rw [show parE 6 n = 0 by simp [parE]; omega]
    have c2 := decide_eq_false (show ¬ (1000 : Int) < (n : Int) by omega)
    clear h2 h1
    go_enter Try.func24, Try.ntmps24
    go_wp2_with (first | (go_at_call 75; refine (HSP.out _).mono ?_; rintro _ _ ⟨rfl, hc⟩; (try replace F1 := F1.later hc); (try replace F2 := F2.later hc); (try replace F3 := F3.later hc); (try replace F4 := F4.later hc); (try replace F5 := F5.later hc); (try replace F6 := F6.later hc); (try replace F7 := F7.later hc); (try replace F8 := F8.later hc); (try replace F9 := F9.later hc); (try replace G1 := G1.later hc); (try replace G2 := G2.later hc); (try replace G3 := G3.later hc); (try replace z := z.later hc); (try replace b := later b hc); (try replace bB := mixed hB bB hc); clear hc) | (with_reducible show wpList _ _ _ (⟨_, Op.alloc _, _, _, _, _⟩ :: _) _ _; refine wpl_mk rfl 122 rfl spanZero (cs := List.replicate 16 (.int .u64 0)) rfl ?_; intro _ g hg F1 ha; simp only [Act.put, List.setIfInBounds_toArray, List.set_cons_succ, List.set_cons_zero]) | ((with_reducible show wpList _ _ _ (⟨_, Op.store _ _ _, _, _, _, _⟩ :: _) _ _); refine wpl_fill rfl 122 _ _ rfl (cs := spanCs) rfl rfl F1 spanSz rfl (by decide) ?_; intro _ t1 ht1; have hb := below_touch ha ht1 hg (Nat.le_refl _); clear F1; replace b := later b hb; have d0 := spans_at t1 12 _ rfl; have d1 := spans_at t1 13 _ rfl; clear t1 ht1 ha hb; simp only [Act.put, List.setIfInBounds_toArray, List.set_cons_succ, List.set_cons_zero]) | (with_reducible show wpList _ _ _ (⟨_, Op.load _ _, _, _, _, _⟩ :: _) _ _; refine wpl_load_one rfl 23 _ rfl rfl d0 (by kernel_rfl) ?_) | (with_reducible show wpList _ _ _ (⟨_, Op.load _ _, _, _, _, _⟩ :: _) _ _; refine wpl_load_one rfl 23 _ rfl rfl d1 (by kernel_rfl) ?_))
    go_ret
    exact ⟨rfl, b⟩
set_option maxRecDepth 100000 in
set_option maxHeartbeats 800000 in
theorem param7 (n : Nat) (w : World) : Calls Try.prog 24 #[.int .u64 7, .int .u64 n] w fun e w' => e = .returned (.int .i64 (parE 7 n)) ∧ Below w.heap.size w w' := by
  have b := Below.refl w.heap.size w
  have HSP := hide spans_any
  by_cases h1 : n < 1
  · rw [show parE 7 n = 2 by simp [parE]; omega]
    have c1 := decide_eq_true (show (n : Int) < 1 by omega)
    clear h1
    go_enter Try.func24, Try.ntmps24
    go_wp2_with (first | (go_at_call 75; refine (HSP.out _).mono ?_; rintro _ _ ⟨rfl, hc⟩; (try replace F1 := F1.later hc); (try replace F2 := F2.later hc); (try replace F3 := F3.later hc); (try replace F4 := F4.later hc); (try replace F5 := F5.later hc); (try replace F6 := F6.later hc); (try replace F7 := F7.later hc); (try replace F8 := F8.later hc); (try replace F9 := F9.later hc); (try replace G1 := G1.later hc); (try replace G2 := G2.later hc); (try replace G3 := G3.later hc); (try replace z := z.later hc); (try replace b := later b hc); (try replace bB := mixed hB bB hc); clear hc) | (with_reducible show wpList _ _ _ (⟨_, Op.alloc _, _, _, _, _⟩ :: _) _ _; refine wpl_mk rfl 122 rfl spanZero (cs := List.replicate 16 (.int .u64 0)) rfl ?_; intro _ g hg F1 ha; simp only [Act.put, List.setIfInBounds_toArray, List.set_cons_succ, List.set_cons_zero]) | ((with_reducible show wpList _ _ _ (⟨_, Op.store _ _ _, _, _, _, _⟩ :: _) _ _); refine wpl_fill rfl 122 _ _ rfl (cs := spanCs) rfl rfl F1 spanSz rfl (by decide) ?_; intro _ t1 ht1; have hb := below_touch ha ht1 hg (Nat.le_refl _); clear F1; replace b := later b hb; have d0 := spans_at t1 14 _ rfl; have d1 := spans_at t1 15 _ rfl; clear t1 ht1 ha hb; simp only [Act.put, List.setIfInBounds_toArray, List.set_cons_succ, List.set_cons_zero]) | (with_reducible show wpList _ _ _ (⟨_, Op.load _ _, _, _, _, _⟩ :: _) _ _; refine wpl_load_one rfl 23 _ rfl rfl d0 (by kernel_rfl) ?_) | (with_reducible show wpList _ _ _ (⟨_, Op.load _ _, _, _, _, _⟩ :: _) _ _; refine wpl_load_one rfl 23 _ rfl rfl d1 (by kernel_rfl) ?_))
    go_ret
    exact ⟨rfl, b⟩
  have c1 : decide ((n : Int) < 1) = false := decide_eq_false (by omega)
  by_cases h2 : 32768 < n
  · rw [show parE 7 n = 2 by simp [parE]; omega]
    have c2 := decide_eq_true (show (32768 : Int) < (n : Int) by omega)
    clear h2 h1
    go_enter Try.func24, Try.ntmps24
    go_wp2_with (first | (go_at_call 75; refine (HSP.out _).mono ?_; rintro _ _ ⟨rfl, hc⟩; (try replace F1 := F1.later hc); (try replace F2 := F2.later hc); (try replace F3 := F3.later hc); (try replace F4 := F4.later hc); (try replace F5 := F5.later hc); (try replace F6 := F6.later hc); (try replace F7 := F7.later hc); (try replace F8 := F8.later hc); (try replace F9 := F9.later hc); (try replace G1 := G1.later hc); (try replace G2 := G2.later hc); (try replace G3 := G3.later hc); (try replace z := z.later hc); (try replace b := later b hc); (try replace bB := mixed hB bB hc); clear hc) | (with_reducible show wpList _ _ _ (⟨_, Op.alloc _, _, _, _, _⟩ :: _) _ _; refine wpl_mk rfl 122 rfl spanZero (cs := List.replicate 16 (.int .u64 0)) rfl ?_; intro _ g hg F1 ha; simp only [Act.put, List.setIfInBounds_toArray, List.set_cons_succ, List.set_cons_zero]) | ((with_reducible show wpList _ _ _ (⟨_, Op.store _ _ _, _, _, _, _⟩ :: _) _ _); refine wpl_fill rfl 122 _ _ rfl (cs := spanCs) rfl rfl F1 spanSz rfl (by decide) ?_; intro _ t1 ht1; have hb := below_touch ha ht1 hg (Nat.le_refl _); clear F1; replace b := later b hb; have d0 := spans_at t1 14 _ rfl; have d1 := spans_at t1 15 _ rfl; clear t1 ht1 ha hb; simp only [Act.put, List.setIfInBounds_toArray, List.set_cons_succ, List.set_cons_zero]) | (with_reducible show wpList _ _ _ (⟨_, Op.load _ _, _, _, _, _⟩ :: _) _ _; refine wpl_load_one rfl 23 _ rfl rfl d0 (by kernel_rfl) ?_) | (with_reducible show wpList _ _ _ (⟨_, Op.load _ _, _, _, _, _⟩ :: _) _ _; refine wpl_load_one rfl 23 _ rfl rfl d1 (by kernel_rfl) ?_))
    go_ret
    exact ⟨rfl, b⟩
  · rw [show parE 7 n = 0 by simp [parE]; omega]
    have c2 := decide_eq_false (show ¬ (32768 : Int) < (n : Int) by omega)
    clear h2 h1
    go_enter Try.func24, Try.ntmps24
    go_wp2_with (first | (go_at_call 75; refine (HSP.out _).mono ?_; rintro _ _ ⟨rfl, hc⟩; (try replace F1 := F1.later hc); (try replace F2 := F2.later hc); (try replace F3 := F3.later hc); (try replace F4 := F4.later hc); (try replace F5 := F5.later hc); (try replace F6 := F6.later hc); (try replace F7 := F7.later hc); (try replace F8 := F8.later hc); (try replace F9 := F9.later hc); (try replace G1 := G1.later hc); (try replace G2 := G2.later hc); (try replace G3 := G3.later hc); (try replace z := z.later hc); (try replace b := later b hc); (try replace bB := mixed hB bB hc); clear hc) | (with_reducible show wpList _ _ _ (⟨_, Op.alloc _, _, _, _, _⟩ :: _) _ _; refine wpl_mk rfl 122 rfl spanZero (cs := List.replicate 16 (.int .u64 0)) rfl ?_; intro _ g hg F1 ha; simp only [Act.put, List.setIfInBounds_toArray, List.set_cons_succ, List.set_cons_zero]) | ((with_reducible show wpList _ _ _ (⟨_, Op.store _ _ _, _, _, _, _⟩ :: _) _ _); refine wpl_fill rfl 122 _ _ rfl (cs := spanCs) rfl rfl F1 spanSz rfl (by decide) ?_; intro _ t1 ht1; have hb := below_touch ha ht1 hg (Nat.le_refl _); clear F1; replace b := later b hb; have d0 := spans_at t1 14 _ rfl; have d1 := spans_at t1 15 _ rfl; clear t1 ht1 ha hb; simp only [Act.put, List.setIfInBounds_toArray, List.set_cons_succ, List.set_cons_zero]) | (with_reducible show wpList _ _ _ (⟨_, Op.load _ _, _, _, _, _⟩ :: _) _ _; refine wpl_load_one rfl 23 _ rfl rfl d0 (by kernel_rfl) ?_) | (with_reducible show wpList _ _ _ (⟨_, Op.load _ _, _, _, _, _⟩ :: _) _ _; refine wpl_load_one rfl 23 _ rfl rfl d1 (by kernel_rfl) ?_))
    go_ret
    exact ⟨rfl, b⟩
set_option maxRecDepth 100000 in
set_option maxHeartbeats 800000 in
theorem param_any (p n : Nat) (w : World) : Calls Try.prog 24 #[.int .u64 p, .int .u64 n] w fun e w' => e = .returned (.int .i64 (parE p n)) ∧ Below w.heap.size w w' := by
  by_cases h8 : p < 8
  · have hc : p = 0 ∨ p = 1 ∨ p = 2 ∨ p = 3 ∨ p = 4 ∨ p = 5 ∨ p = 6 ∨ p = 7 := by omega
    rcases hc with rfl | rfl | rfl | rfl | rfl | rfl | rfl | rfl
    · exact param0 n w
    · exact param1 n w
    · exact param2 n w
    · exact param3 n w
    · exact param4 n w
    · exact param5 n w
    · exact param6 n w
    · exact param7 n w
  · have b := Below.refl w.heap.size w
    have HSP := hide spans_any
    have hR : parE p n = 5 := by
      unfold parE
      rw [if_neg (by omega), if_neg (by omega), if_neg (by omega), if_neg (by omega), if_neg (by omega)]
    rw [hR]
    have c0 : decide ((8 : Int) ≤ (p : Int)) = true := decide_eq_true (by omega)
    clear hR
    go_enter Try.func24, Try.ntmps24
    go_wp2_with (first | (go_at_call 75; refine (HSP.out _).mono ?_; rintro _ _ ⟨rfl, hc⟩; (try replace F1 := F1.later hc); (try replace F2 := F2.later hc); (try replace F3 := F3.later hc); (try replace F4 := F4.later hc); (try replace F5 := F5.later hc); (try replace F6 := F6.later hc); (try replace F7 := F7.later hc); (try replace F8 := F8.later hc); (try replace F9 := F9.later hc); (try replace G1 := G1.later hc); (try replace G2 := G2.later hc); (try replace G3 := G3.later hc); (try replace z := z.later hc); (try replace b := later b hc); (try replace bB := mixed hB bB hc); clear hc) | (with_reducible show wpList _ _ _ (⟨_, Op.alloc _, _, _, _, _⟩ :: _) _ _; refine wpl_mk rfl 122 rfl spanZero (cs := List.replicate 16 (.int .u64 0)) rfl ?_; intro _ g hg F1 ha; simp only [Act.put, List.setIfInBounds_toArray, List.set_cons_succ, List.set_cons_zero]) | ((with_reducible show wpList _ _ _ (⟨_, Op.store _ _ _, _, _, _, _⟩ :: _) _ _); refine wpl_fill rfl 122 _ _ rfl (cs := spanCs) rfl rfl F1 spanSz rfl (by decide) ?_; intro _ t1 ht1; have hb := below_touch ha ht1 hg (Nat.le_refl _); clear F1; replace b := later b hb; have d0 := spans_at t1 0 _ rfl; have d1 := spans_at t1 1 _ rfl; clear t1 ht1 ha hb; simp only [Act.put, List.setIfInBounds_toArray, List.set_cons_succ, List.set_cons_zero]) | (with_reducible show wpList _ _ _ (⟨_, Op.load _ _, _, _, _, _⟩ :: _) _ _; refine wpl_load_one rfl 23 _ rfl rfl d0 (by kernel_rfl) ?_) | (with_reducible show wpList _ _ _ (⟨_, Op.load _ _, _, _, _, _⟩ :: _) _ _; refine wpl_load_one rfl 23 _ rfl rfl d1 (by kernel_rfl) ?_))
    go_ret
    exact ⟨rfl, b⟩
end Go.Proofs.Ytbbfnpfkbbpjgaa
