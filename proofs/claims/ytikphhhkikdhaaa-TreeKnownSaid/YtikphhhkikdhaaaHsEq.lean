/- slices.Equal at slices of hashes that hold the same. -/
import Derived.Test.YtikphhhkikdhaaaPlan
import Derived.Test.YtikphhhkikdhaaaBuild
namespace Go.Proofs.Ytikphhhkikdhaaa
open Go.RowKit Go.Lib
set_option linter.unusedVariables false
set_option linter.unusedSimpArgs false

set_option maxRecDepth 100000 in
set_option maxHeartbeats 800000 in
theorem hsEqual_same (v1 v2 : Value) (l : List (List UInt8)) (w : World) (h1 : Hs w v1 l) (h2 : Hs w v2 l) :
    Calls Try.prog 36 #[v1, v2] w fun e w' => e = .returned (.bool true) ∧ Below w.heap.size w w' := by
  obtain ⟨a1, cap1, rfl, hc1, hm1, _⟩ := h1.shape
  obtain ⟨a2, cap2, rfl, hc2, hm2, _⟩ := h2.shape
  obtain ⟨n, hn⟩ : ∃ n, n = l.length := ⟨_, rfl⟩
  have HN := hide hn
  rw [← hn] at hc1 hc2 ⊢
  have hcap : n ≤ maxLen := by omega
  unfold maxLen at hcap
  clear hn hm1 hm2
  have b := Below.refl w.heap.size w
  go_enter Try.func36, Try.ntmps36
  go_wp2_with fail
  go_loopw [13] (fun i wr => ∃ k : Nat, i = .int .i64 k ∧ k ≤ n ∧ Below w.heap.size w wr) (fun i _ => n - (RowKit.intOf i).toNat)
  case atStart => exact ⟨0, rfl, by omega, b⟩
  case round =>
    obtain ⟨k, rfl, hk, b⟩ := hrel
    by_cases hlt : k < n
    · obtain ⟨b1, k1, p1, e1, _, _, _, c1⟩ := (h1.later b).block (by rw [← HN.out]; omega)
      obtain ⟨b2, k2, p2, e2, _, _, _, c2⟩ := (h2.later b).block (by rw [← HN.out]; omega)
      simp only [Value.slice.injEq] at e1 e2
      obtain ⟨rfl, -, rfl⟩ := e1
      obtain ⟨rfl, -, rfl⟩ := e2
      have d1 := c1 k (by rw [← HN.out]; omega)
      have d2 := c2 k (by rw [← HN.out]; omega)
      have l0 : (l.getD k []).length = 32 := h1.2 _ (by rw [List.getD_eq_getElem?_getD, List.getElem?_eq_getElem (by rw [← HN.out]; omega)]; exact List.getElem_mem _)
      have L0 := hide l0
      clear c1 c2 l0
      generalize l.getD k [] = x at *
      go_wp2_with fail
      refine region_since (by kernel_rfl) (by kernel_rfl) ?_
      repeat (first | go_big_quiet_skip | (go_big_quiet_want; first | (refine quiet_load_hash _ rfl rfl (by assumption) ?_; simp only [Act.put, List.setIfInBounds_toArray, List.set_cons_succ, List.set_cons_zero]; go_big_quiet_on) | ((first | (refine since_load_elem _ rfl rfl d1 L0.out ?_) | (refine since_load_elem _ rfl rfl d2 L0.out ?_) | (refine quiet_ne _ _ rfl rfl rfl L0.out L0.out ?_; simp only [decide_true, Bool.not_true])); simp only [Act.put, List.setIfInBounds_toArray, List.set_cons_succ, List.set_cons_zero]; go_big_quiet_on) | (go_big_quiet_op; go_big_quiet_on)))
      refine wpQuiet_nil ?_
      intro w2 hb2
      replace b := later b hb2
      clear d1 d2 hb2
      go_wp2_with fail
      go_roundw
      case rel => exact ⟨k + 1, by simp, by omega, b⟩
      case measure => simp [RowKit.intOf]; omega
    · have hkn : k = n := by omega
      subst hkn
      go_wp2_with fail
      go_ret
      exact ⟨rfl, b⟩
end Go.Proofs.Ytikphhhkikdhaaa
