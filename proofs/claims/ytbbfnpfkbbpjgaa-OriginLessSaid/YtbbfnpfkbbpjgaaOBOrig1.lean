/- Package origin: parameters, what is within; the reference's. -/
import Derived.Test.YtbbfnpfkbbpjgaaOBTakeW
import Derived.Test.YtbbfnpfkbbpjgaaOBStep
namespace Go.Proofs.Ytbbfnpfkbbpjgaa
open Go.RowKit Go.Lib
set_option linter.unusedVariables false
set_option linter.unusedSimpArgs false

set_option maxRecDepth 100000 in
theorem within_any (n l m : Nat) (w : World) : Calls Try.prog 76 #[.int .u64 n, .int .u64 l, .int .u64 m] w fun e w' => e = .returned (.bool (decide (l ≤ n) && decide (n ≤ m))) ∧ Below w.heap.size w w' := by
  have b := Below.refl w.heap.size w
  have c1 : decide ((l : Int) ≤ (n : Int)) = decide (l ≤ n) := decide_eq_decide.2 (by omega)
  have c2 : decide ((n : Int) ≤ (m : Int)) = decide (n ≤ m) := decide_eq_decide.2 (by omega)
  obtain ⟨A, hA⟩ : ∃ A, decide (l ≤ n) = A := ⟨_, rfl⟩
  obtain ⟨B, hB⟩ : ∃ B, decide (n ≤ m) = B := ⟨_, rfl⟩
  rw [hA] at c1 ⊢
  rw [hB] at c2 ⊢
  cases A <;> cases B
  all_goals
    go_enter Try.func76, Try.ntmps76
    go_wp2_with fail
    go_ret
    exact ⟨rfl, b⟩
def spanCs : List Value := [.int .u64 0, .int .u64 1099511627775, .int .u64 0, .int .u64 1048575, .int .u64 0, .int .u64 1099511627775, .int .u64 0, .int .u64 1099511627775, .int .u64 0, .int .u64 1000, .int .u64 0, .int .u64 1000, .int .u64 1, .int .u64 1000, .int .u64 1, .int .u64 32768]
set_option maxRecDepth 100000 in
theorem refParam0 (n : Nat) (w : World) : Calls Try.prog 39 #[.int .u64 0, .int .u64 n] w fun e w' => e = .returned (.int .i64 (parE 0 n)) ∧ Below w.heap.size w w' := by
  have b := Below.refl w.heap.size w
  by_cases h : n < 1099511627776
  · rw [show parE 0 n = 0 by simp [parE, h]]
    have c1 := decide_eq_true (show (n : Int) < 1099511627776 by omega)
    clear h
    go_enter Try.func39, Try.ntmps39
    go_wp2_with fail
    go_ret
    exact ⟨rfl, b⟩
  · rw [show parE 0 n = 2 by simp [parE]; omega]
    have c1 := decide_eq_false (show ¬ (n : Int) < 1099511627776 by omega)
    clear h
    go_enter Try.func39, Try.ntmps39
    go_wp2_with fail
    go_ret
    exact ⟨rfl, b⟩
set_option maxRecDepth 100000 in
theorem refParam1 (n : Nat) (w : World) : Calls Try.prog 39 #[.int .u64 1, .int .u64 n] w fun e w' => e = .returned (.int .i64 (parE 1 n)) ∧ Below w.heap.size w w' := by
  have b := Below.refl w.heap.size w
  by_cases h : n < 1048576
  · rw [show parE 1 n = 0 by simp [parE, h]]
    have c1 := decide_eq_true (show (n : Int) < 1048576 by omega)
    clear h
    go_enter Try.func39, Try.ntmps39
    go_wp2_with fail
    go_ret
    exact ⟨rfl, b⟩
  · rw [show parE 1 n = 2 by simp [parE]; omega]
    have c1 := decide_eq_false (show ¬ (n : Int) < 1048576 by omega)
    clear h
    go_enter Try.func39, Try.ntmps39
    go_wp2_with fail
    go_ret
    exact ⟨rfl, b⟩
set_option maxRecDepth 100000 in
theorem refParam2 (n : Nat) (w : World) : Calls Try.prog 39 #[.int .u64 2, .int .u64 n] w fun e w' => e = .returned (.int .i64 (parE 2 n)) ∧ Below w.heap.size w w' := by
  have b := Below.refl w.heap.size w
  by_cases h : n < 1099511627776
  · rw [show parE 2 n = 0 by simp [parE, h]]
    have c1 := decide_eq_true (show (n : Int) < 1099511627776 by omega)
    clear h
    go_enter Try.func39, Try.ntmps39
    go_wp2_with fail
    go_ret
    exact ⟨rfl, b⟩
  · rw [show parE 2 n = 2 by simp [parE]; omega]
    have c1 := decide_eq_false (show ¬ (n : Int) < 1099511627776 by omega)
    clear h
    go_enter Try.func39, Try.ntmps39
    go_wp2_with fail
    go_ret
    exact ⟨rfl, b⟩
set_option maxRecDepth 100000 in
theorem refParam3 (n : Nat) (w : World) : Calls Try.prog 39 #[.int .u64 3, .int .u64 n] w fun e w' => e = .returned (.int .i64 (parE 3 n)) ∧ Below w.heap.size w w' := by
  have b := Below.refl w.heap.size w
  by_cases h : n < 1099511627776
  · rw [show parE 3 n = 0 by simp [parE, h]]
    have c1 := decide_eq_true (show (n : Int) < 1099511627776 by omega)
    clear h
    go_enter Try.func39, Try.ntmps39
    go_wp2_with fail
    go_ret
    exact ⟨rfl, b⟩
  · rw [show parE 3 n = 2 by simp [parE]; omega]
    have c1 := decide_eq_false (show ¬ (n : Int) < 1099511627776 by omega)
    clear h
    go_enter Try.func39, Try.ntmps39
    go_wp2_with fail
    go_ret
    exact ⟨rfl, b⟩
set_option maxRecDepth 100000 in
theorem refParam4 (n : Nat) (w : World) : Calls Try.prog 39 #[.int .u64 4, .int .u64 n] w fun e w' => e = .returned (.int .i64 (parE 4 n)) ∧ Below w.heap.size w w' := by
  have b := Below.refl w.heap.size w
  by_cases h : n ≤ 1000
  · rw [show parE 4 n = 0 by simp [parE, h]]
    have c1 := decide_eq_true (show (n : Int) ≤ 1000 by omega)
    clear h
    go_enter Try.func39, Try.ntmps39
    go_wp2_with fail
    go_ret
    exact ⟨rfl, b⟩
  · rw [show parE 4 n = 2 by simp [parE]; omega]
    have c1 := decide_eq_false (show ¬ (n : Int) ≤ 1000 by omega)
    clear h
    go_enter Try.func39, Try.ntmps39
    go_wp2_with fail
    go_ret
    exact ⟨rfl, b⟩
set_option maxRecDepth 100000 in
theorem refParam5 (n : Nat) (w : World) : Calls Try.prog 39 #[.int .u64 5, .int .u64 n] w fun e w' => e = .returned (.int .i64 (parE 5 n)) ∧ Below w.heap.size w w' := by
  have b := Below.refl w.heap.size w
  by_cases h : n ≤ 1000
  · rw [show parE 5 n = 0 by simp [parE, h]]
    have c1 := decide_eq_true (show (n : Int) ≤ 1000 by omega)
    clear h
    go_enter Try.func39, Try.ntmps39
    go_wp2_with fail
    go_ret
    exact ⟨rfl, b⟩
  · rw [show parE 5 n = 2 by simp [parE]; omega]
    have c1 := decide_eq_false (show ¬ (n : Int) ≤ 1000 by omega)
    clear h
    go_enter Try.func39, Try.ntmps39
    go_wp2_with fail
    go_ret
    exact ⟨rfl, b⟩
set_option maxRecDepth 100000 in
theorem refParam6 (n : Nat) (w : World) : Calls Try.prog 39 #[.int .u64 6, .int .u64 n] w fun e w' => e = .returned (.int .i64 (parE 6 n)) ∧ Below w.heap.size w w' := by
  have b := Below.refl w.heap.size w
  by_cases h1 : 1 ≤ n
  · have c1 := decide_eq_true (show (1 : Int) ≤ (n : Int) by omega)
    by_cases h2 : n ≤ 1000
    · rw [show parE 6 n = 0 by simp [parE, h1, h2]]
      have c2 := decide_eq_true (show (n : Int) ≤ 1000 by omega)
      clear h1 h2
      go_enter Try.func39, Try.ntmps39
      go_wp2_with fail
      go_ret
      exact ⟨rfl, b⟩
    · rw [show parE 6 n = 2 by simp [parE]; omega]
      have c2 := decide_eq_false (show ¬ (n : Int) ≤ 1000 by omega)
      clear h1 h2
      go_enter Try.func39, Try.ntmps39
      go_wp2_with fail
      go_ret
      exact ⟨rfl, b⟩
  · rw [show parE 6 n = 2 by simp [parE]; omega]
    have c1 := decide_eq_false (show ¬ (1 : Int) ≤ (n : Int) by omega)
    clear h1
    go_enter Try.func39, Try.ntmps39
    go_wp2_with fail
    go_ret
    exact ⟨rfl, b⟩
set_option maxRecDepth 100000 in
theorem refParam7 (n : Nat) (w : World) : Calls Try.prog 39 #[.int .u64 7, .int .u64 n] w fun e w' => e = .returned (.int .i64 (parE 7 n)) ∧ Below w.heap.size w w' := by
  have b := Below.refl w.heap.size w
  by_cases h1 : 1 ≤ n
  · have c1 := decide_eq_true (show (1 : Int) ≤ (n : Int) by omega)
    by_cases h2 : n ≤ 32768
    · rw [show parE 7 n = 0 by simp [parE, h1, h2]]
      have c2 := decide_eq_true (show (n : Int) ≤ 32768 by omega)
      clear h1 h2
      go_enter Try.func39, Try.ntmps39
      go_wp2_with fail
      go_ret
      exact ⟨rfl, b⟩
    · rw [show parE 7 n = 2 by simp [parE]; omega]
      have c2 := decide_eq_false (show ¬ (n : Int) ≤ 32768 by omega)
      clear h1 h2
      go_enter Try.func39, Try.ntmps39
      go_wp2_with fail
      go_ret
      exact ⟨rfl, b⟩
  · rw [show parE 7 n = 2 by simp [parE]; omega]
    have c1 := decide_eq_false (show ¬ (1 : Int) ≤ (n : Int) by omega)
    clear h1
    go_enter Try.func39, Try.ntmps39
    go_wp2_with fail
    go_ret
    exact ⟨rfl, b⟩
set_option maxRecDepth 100000 in
theorem refParam_any (p n : Nat) (w : World) : Calls Try.prog 39 #[.int .u64 p, .int .u64 n] w fun e w' => e = .returned (.int .i64 (parE p n)) ∧ Below w.heap.size w w' := by
  by_cases h8 : p < 8
  · have hc : p = 0 ∨ p = 1 ∨ p = 2 ∨ p = 3 ∨ p = 4 ∨ p = 5 ∨ p = 6 ∨ p = 7 := by omega
    rcases hc with rfl | rfl | rfl | rfl | rfl | rfl | rfl | rfl
    · exact refParam0 n w
    · exact refParam1 n w
    · exact refParam2 n w
    · exact refParam3 n w
    · exact refParam4 n w
    · exact refParam5 n w
    · exact refParam6 n w
    · exact refParam7 n w
  · have b := Below.refl w.heap.size w
    have hR : parE p n = 5 := by
      unfold parE
      rw [if_neg (by omega), if_neg (by omega), if_neg (by omega), if_neg (by omega), if_neg (by omega)]
    rw [hR]
    have c0 : ((p : Int) == 0) = false := by rw [beq_eq_false_iff_ne]; omega
    have c1 : ((p : Int) == 1) = false := by rw [beq_eq_false_iff_ne]; omega
    have c2 : ((p : Int) == 2) = false := by rw [beq_eq_false_iff_ne]; omega
    have c3 : ((p : Int) == 3) = false := by rw [beq_eq_false_iff_ne]; omega
    have c4 : ((p : Int) == 4) = false := by rw [beq_eq_false_iff_ne]; omega
    have c5 : ((p : Int) == 5) = false := by rw [beq_eq_false_iff_ne]; omega
    have c6 : ((p : Int) == 6) = false := by rw [beq_eq_false_iff_ne]; omega
    have c7 : ((p : Int) == 7) = false := by rw [beq_eq_false_iff_ne]; omega
    clear hR h8
    go_enter Try.func39, Try.ntmps39
    go_wp2_with fail
    go_ret
    exact ⟨rfl, b⟩
theorem spanSz : (Try.prog.info? 122).map (·.size) = some 16 := by kernel_rfl
theorem spanZero : (Try.prog.info? 122).bind (·.zero) = some (.agg (List.replicate 16 (.int .u64 0)).toArray) := by kernel_rfl
set_option maxRecDepth 100000 in
set_option maxHeartbeats 1600000 in
theorem spans_any (w : World) : Calls Try.prog 75 #[] w fun e w' => e = .returned (.agg spanCs.toArray) ∧ Below w.heap.size w w' := by
  have b := Below.refl w.heap.size w
  go_enter Try.func75, Try.ntmps75
  go_wp2_with (first | (with_reducible show wpList _ _ _ (⟨_, Op.alloc _, _, _, _, _⟩ :: _) _ _; refine wpl_mk rfl 122 rfl spanZero (cs := List.replicate 16 (.int .u64 0)) rfl ?_; intro _ g hg F1 hb; replace b := later b hb; clear hb) | ((with_reducible show wpList _ _ _ (⟨_, Op.store _ _ _, _, _, _, _⟩ :: _) _ _); refine wpl_fill rfl 122 _ _ rfl (cs := spanCs) rfl rfl F1 spanSz rfl (by decide) ?_; intro _ t1 ht1; clear F1; replace b := below_touch b ht1 hg (Nat.le_refl _); have F1 := t1; clear t1 ht1))
  exact bodyPost_ret (results_cell_row rfl _ _ _ 122 spanCs.toArray (0, 0) _ rfl F1 Try.underlying122 rfl spanSz) rfl ⟨rfl, b⟩
end Go.Proofs.Ytbbfnpfkbbpjgaa
