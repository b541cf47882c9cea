/- mintagelaw04.works (gen_works04.py prints it). -/
import Derived.Test.YtikphhhkikdhaaaRefTree2
namespace Go.Proofs.Ytikphhhkikdhaaa
open Go.RowKit Go.Lib
set_option linter.unusedVariables false
set_option linter.unusedSimpArgs false

theorem treeL_one (A : H32) : checkL (treeL [A]) 1 0 A [] = true := by
  have := check_back [A] 0 (by simp) (by simp)
  rwa [show provL [A] 0 = [] from rfl] at this
theorem treeL_more (A x root : H32) : checkL root 1 0 A [x] = false := by
  have := check_more [A] 0 (by simp) (by simp) x root
  rwa [show provL [A] 0 = [] from rfl] at this
set_option maxRecDepth 100000 in
set_option maxHeartbeats 3200000 in
theorem works04 (w : World) : Calls Try.prog 27 #[] w fun e w' => e = .returned (.bool true) ∧ Below w.heap.size w w' := by
  obtain ⟨A, hA⟩ : ∃ A, A = sha ((⟨#[97]⟩ : ByteArray).data.toList) := ⟨_, rfl⟩
  obtain ⟨R, hR⟩ : ∃ R, R = treeL [A] := ⟨_, rfl⟩
  have HA : Hid (A.length = 32) := by rw [hA]; exact sha_length _
  have HR : Hid (R.length = 32) := by rw [hR]; exact rootL_length _ _
  have HS : Hid (∀ w, Calls Try.prog 33 #[.string ⟨#[97]⟩] w fun e w' => e = .returned (hv A) ∧ Below w.heap.size w w') := fun w => by rw [hA]; exact sum_any _ w (by decide)
  have HT : Hid (∀ w v, Hs w v [A] → Calls Try.prog 28 #[v] w fun e w' => e = .returned (hv R) ∧ Below w.heap.size w w') := fun w v h => by rw [hR]; exact treeRoot_any v [A] w h (by simp)
  have HF : Hid (∀ w v, Hs w v [A] → Calls Try.prog 29 #[v] w fun e w' => e = .returned (hv R) ∧ Below w.heap.size w w') := fun w v h => by rw [hR]; exact refRoot_any v [A] w h (by simp)
  have H0 : Hid (∀ w, Calls Try.prog 30 #[hv R, .int .i64 1, .int .i64 0, hv A, .slice none 0 0] w fun e w' => e = .returned (.bool true) ∧ Below w.heap.size w w') := fun w => by
    have := treeCheck_any R A 1 0 (.slice none 0 0) [] w HR.out HA.out (Hs.nil w) (by simp)
    rwa [hR, treeL_one, ← hR] at this
  have H1 : Hid (∀ w v, Hs w v [A] → Calls Try.prog 30 #[hv R, .int .i64 1, .int .i64 0, hv A, v] w fun e w' => e = .returned (.bool false) ∧ Below w.heap.size w w') := fun w v h => by
    have := treeCheck_any R A 1 0 v [A] w HR.out HA.out h (by simp)
    rwa [treeL_more] at this
  clear hA hR
  have b := Below.refl w.heap.size w
  go_enter Try.func27, Try.ntmps27
  go_wp2_with fail
  refine (HS.out _).mono ?_
  rintro _ wc1 ⟨rfl, hc1⟩
  replace b := later b hc1
  clear hc1
  go_wp2_with (refine wpl_new_hash rfl _ _ rfl rfl rfl HA.out ?_; intro w2 z hn2; replace b := later b hn2; clear hn2)
  generalize wc1.heap.size = g0 at *
  simp only [Act.put, List.setIfInBounds_toArray, List.set_cons_succ, List.set_cons_zero]
  refine region_plan (fun x => Below (w2).heap.size (w2) x) (.two [0, 3] 1 (.fl [] 2 (.one [] 4 (.fl [] 5 (.one [6, 7, 8, 11] 9 (.fl [] 10 (.fl [] 12 (.two [13, 14, 15, 18, 19] 16 (.fl [] 17 (.one [] 20 (.fl [] 21 (.stop [22, 23, 24])))) 20 (.one [] 16 (.fl [] 17 (.fl [] 21 (.stop [22, 23, 24]))))))))))) 4 (.one [] 1 (.fl [] 2 (.fl [] 5 (.one [6, 7, 8, 11] 9 (.fl [] 10 (.fl [] 12 (.two [13, 14, 15, 18, 19] 16 (.fl [] 17 (.one [] 20 (.fl [] 21 (.stop [22, 23, 24])))) 20 (.one [] 16 (.fl [] 17 (.fl [] 21 (.stop [22, 23, 24])))))))))))) (by kernel_rfl) (by kernel_rfl) (by kernel_rfl) (by decide) (lasts_below (Nat.le_refl _)) (Below.refl _ _) ?_
  intro wpl0 _ _ _
  refine plan_two ?_
  simp only [pickOps, opAt, List.getElem?_cons_succ, List.getElem?_cons_zero, List.nil_append, List.cons_append]
  repeat (first | go_big_quiet_skip | (go_big_quiet_want; first | (refine plan_load_hash _ rfl rfl (by assumption) ?_; simp only [Act.put, List.setIfInBounds_toArray, List.set_cons_succ, List.set_cons_zero]; go_big_quiet_on) | (go_big_quiet_op; go_big_quiet_on)))
  refine wpQuiet_nil ?_
  intro w' _ k
  refine ⟨?_, ?_⟩
  · skip
    refine wpl_hashes rfl 1 _ rfl [A] rfl (by simp only [List.map_toArray, List.map_cons, List.map_nil]; rfl) (by intro h hh; simp at hh; subst hh; exact HA.out) (by decide) (by decide) ?_
    intro w1 s1 b1 q1
    have e1 := later k b1
    replace z := z.later e1
    replace b := later b e1
    refine goQ_since (lasts_below (Nat.le_refl _)) e1 ?_
    clear e1 b1 q1 k
    generalize w'.heap.size = g1 at *
    simp only [Act.put, List.setIfInBounds_toArray, List.set_cons_succ, List.set_cons_zero]
    refine plan_fl ?_
    simp only [pickOps, opAt, List.getElem?_cons_succ, List.getElem?_cons_zero, List.nil_append, List.cons_append]
    refine wpQuiet_nil ?_
    refine fl_call (args := #[.slice (some ⟨g1, 0, none⟩) 1 1]) (by rfl) rfl (by kernel_rfl) (by simp only [List.map_toArray, List.map_cons, List.map_nil]; rfl) (fun w' hC => HT.out _ _ (s1.later (Kl.out hC))) ?_
    simp only [Act.put, List.setIfInBounds_toArray, List.set_cons_succ, List.set_cons_zero]
    refine plan_one ?_
    simp only [pickOps, opAt, List.getElem?_cons_succ, List.getElem?_cons_zero, List.nil_append, List.cons_append]
    repeat (first | go_big_quiet_skip | (go_big_quiet_want; first | (refine plan_load_hash _ rfl rfl (by assumption) ?_; simp only [Act.put, List.setIfInBounds_toArray, List.set_cons_succ, List.set_cons_zero]; go_big_quiet_on) | (go_big_quiet_op; go_big_quiet_on)))
    refine wpQuiet_nil ?_
    intro w' _ k
    refine wpl_hashes rfl 1 _ rfl [A] rfl (by simp only [List.map_toArray, List.map_cons, List.map_nil]; rfl) (by intro h hh; simp at hh; subst hh; exact HA.out) (by decide) (by decide) ?_
    intro w2 s2 b2 q2
    have e2 := later k b2
    replace z := z.later e2
    replace b := later b e2
    refine goQ_since (lasts_below (Nat.le_refl _)) e2 ?_
    clear e2 b2 q2 k
    generalize w'.heap.size = g2 at *
    simp only [Act.put, List.setIfInBounds_toArray, List.set_cons_succ, List.set_cons_zero]
    refine plan_fl ?_
    simp only [pickOps, opAt, List.getElem?_cons_succ, List.getElem?_cons_zero, List.nil_append, List.cons_append]
    refine wpQuiet_nil ?_
    refine fl_call (args := #[.slice (some ⟨g2, 0, none⟩) 1 1]) (by rfl) rfl (by kernel_rfl) (by simp only [List.map_toArray, List.map_cons, List.map_nil]; rfl) (fun w' hC => HF.out _ _ (s2.later (Kl.out hC))) ?_
    simp only [Act.put, List.setIfInBounds_toArray, List.set_cons_succ, List.set_cons_zero]
    clear s1 s2
    refine plan_one ?_
    simp only [pickOps, opAt, List.getElem?_cons_succ, List.getElem?_cons_zero, List.nil_append, List.cons_append]
    repeat (first | go_big_quiet_skip | (go_big_quiet_want; first | (refine plan_load_hash _ rfl rfl (by assumption) ?_; simp only [Act.put, List.setIfInBounds_toArray, List.set_cons_succ, List.set_cons_zero]; go_big_quiet_on) | ((refine quiet_eq _ _ rfl rfl rfl HR.out HR.out ?_; simp only [decide_true]); simp only [Act.put, List.setIfInBounds_toArray, List.set_cons_succ, List.set_cons_zero]; go_big_quiet_on) | (go_big_quiet_op; go_big_quiet_on)))
    refine wpQuiet_nil ?_
    intro w' _ k
    refine wpl_hashes rfl 1 _ rfl [A] rfl (by simp only [List.map_toArray, List.map_cons, List.map_nil]; rfl) (by intro h hh; simp at hh; subst hh; exact HA.out) (by decide) (by decide) ?_
    intro w3 s3 b3 q3
    have e3 := later k b3
    replace z := z.later e3
    replace b := later b e3
    refine goQ_since (lasts_below (Nat.le_refl _)) e3 ?_
    clear e3 b3 q3 k
    generalize w'.heap.size = g3 at *
    simp only [Act.put, List.setIfInBounds_toArray, List.set_cons_succ, List.set_cons_zero]
    refine plan_fl ?_
    simp only [pickOps, opAt, List.getElem?_cons_succ, List.getElem?_cons_zero, List.nil_append, List.cons_append]
    refine wpQuiet_nil ?_
    refine fl_call (args := #[.slice (some ⟨g3, 0, none⟩) 1 1]) (by rfl) rfl (by kernel_rfl) (by simp only [List.map_toArray, List.map_cons, List.map_nil]; rfl) (fun w' hC => HT.out _ _ (s3.later (Kl.out hC))) ?_
    simp only [Act.put, List.setIfInBounds_toArray, List.set_cons_succ, List.set_cons_zero]
    refine plan_fl ?_
    simp only [pickOps, opAt, List.getElem?_cons_succ, List.getElem?_cons_zero, List.nil_append, List.cons_append]
    refine wpQuiet_nil ?_
    refine fl_call (args := #[hv R, .int .i64 1, .int .i64 0, hv A, .slice none 0 0]) (by rfl) rfl (by kernel_rfl) (by simp only [List.map_toArray, List.map_cons, List.map_nil]; rfl) (fun w' hC => H0.out _) ?_
    simp only [Act.put, List.setIfInBounds_toArray, List.set_cons_succ, List.set_cons_zero]
    clear s3
    refine plan_two ?_
    simp only [pickOps, opAt, List.getElem?_cons_succ, List.getElem?_cons_zero, List.nil_append, List.cons_append]
    repeat (first | go_big_quiet_skip | (go_big_quiet_want; first | (refine plan_load_hash _ rfl rfl (by assumption) ?_; simp only [Act.put, List.setIfInBounds_toArray, List.set_cons_succ, List.set_cons_zero]; go_big_quiet_on) | (go_big_quiet_op; go_big_quiet_on)))
    refine wpQuiet_nil ?_
    intro w' _ k
    refine ⟨?_, ?_⟩
    · skip
      refine wpl_hashes rfl 1 _ rfl [A] rfl (by simp only [List.map_toArray, List.map_cons, List.map_nil]; rfl) (by intro h hh; simp at hh; subst hh; exact HA.out) (by decide) (by decide) ?_
      intro w4 s4 b4 q4
      have e4 := later k b4
      replace z := z.later e4
      replace b := later b e4
      refine goQ_since (lasts_below (Nat.le_refl _)) e4 ?_
      clear e4 b4 q4 k
      generalize w'.heap.size = g4 at *
      simp only [Act.put, List.setIfInBounds_toArray, List.set_cons_succ, List.set_cons_zero]
      refine plan_fl ?_
      simp only [pickOps, opAt, List.getElem?_cons_succ, List.getElem?_cons_zero, List.nil_append, List.cons_append]
      refine wpQuiet_nil ?_
      refine fl_call (args := #[.slice (some ⟨g4, 0, none⟩) 1 1]) (by rfl) rfl (by kernel_rfl) (by simp only [List.map_toArray, List.map_cons, List.map_nil]; rfl) (fun w' hC => HT.out _ _ (s4.later (Kl.out hC))) ?_
      simp only [Act.put, List.setIfInBounds_toArray, List.set_cons_succ, List.set_cons_zero]
      refine plan_one ?_
      simp only [pickOps, opAt, List.getElem?_cons_succ, List.getElem?_cons_zero, List.nil_append, List.cons_append]
      repeat (first | go_big_quiet_skip | (go_big_quiet_want; first | (refine plan_load_hash _ rfl rfl (by assumption) ?_; simp only [Act.put, List.setIfInBounds_toArray, List.set_cons_succ, List.set_cons_zero]; go_big_quiet_on) | (go_big_quiet_op; go_big_quiet_on)))
      refine wpQuiet_nil ?_
      intro w' _ k
      refine wpl_hashes rfl 1 _ rfl [A] rfl (by simp only [List.map_toArray, List.map_cons, List.map_nil]; rfl) (by intro h hh; simp at hh; subst hh; exact HA.out) (by decide) (by decide) ?_
      intro w5 s5 b5 q5
      have e5 := later k b5
      replace z := z.later e5
      replace b := later b e5
      refine goQ_since (lasts_below (Nat.le_refl _)) e5 ?_
      clear e5 b5 q5 k
      generalize w'.heap.size = g5 at *
      simp only [Act.put, List.setIfInBounds_toArray, List.set_cons_succ, List.set_cons_zero]
      refine plan_fl ?_
      simp only [pickOps, opAt, List.getElem?_cons_succ, List.getElem?_cons_zero, List.nil_append, List.cons_append]
      refine wpQuiet_nil ?_
      refine fl_call (args := #[hv R, .int .i64 1, .int .i64 0, hv A, .slice (some ⟨g5, 0, none⟩) 1 1]) (by rfl) rfl (by kernel_rfl) (by simp only [List.map_toArray, List.map_cons, List.map_nil]; rfl) (fun w' hC => H1.out _ _ (s5.later (Kl.out hC))) ?_
      simp only [Act.put, List.setIfInBounds_toArray, List.set_cons_succ, List.set_cons_zero]
      refine plan_stop ?_
      simp only [pickOps, opAt, List.getElem?_cons_succ, List.getElem?_cons_zero, List.nil_append, List.cons_append]
      repeat (first | go_big_quiet_skip | (go_big_quiet_want; first | (refine plan_load_hash _ rfl rfl (by assumption) ?_; simp only [Act.put, List.setIfInBounds_toArray, List.set_cons_succ, List.set_cons_zero]; go_big_quiet_on) | (go_big_quiet_op; go_big_quiet_on)))
      refine wpQuiet_nil ?_
      intro w' _ k
      replace b := later b k
      clear z k
      go_wp2_with fail
      go_ret
      exact ⟨rfl, b⟩
    · skip
      refine wpl_hashes rfl 1 _ rfl [A] rfl (by simp only [List.map_toArray, List.map_cons, List.map_nil]; rfl) (by intro h hh; simp at hh; subst hh; exact HA.out) (by decide) (by decide) ?_
      intro w6 s6 b6 q6
      have e6 := later k b6
      replace z := z.later e6
      replace b := later b e6
      refine goQ_since (lasts_below (Nat.le_refl _)) e6 ?_
      clear e6 b6 q6 k
      generalize w'.heap.size = g6 at *
      simp only [Act.put, List.setIfInBounds_toArray, List.set_cons_succ, List.set_cons_zero]
      refine plan_one ?_
      simp only [pickOps, opAt, List.getElem?_cons_succ, List.getElem?_cons_zero, List.nil_append, List.cons_append]
      repeat (first | go_big_quiet_skip | (go_big_quiet_want; first | (refine plan_load_hash _ rfl rfl (by assumption) ?_; simp only [Act.put, List.setIfInBounds_toArray, List.set_cons_succ, List.set_cons_zero]; go_big_quiet_on) | (go_big_quiet_op; go_big_quiet_on)))
      refine wpQuiet_nil ?_
      intro w' _ k
      refine wpl_hashes rfl 1 _ rfl [A] rfl (by simp only [List.map_toArray, List.map_cons, List.map_nil]; rfl) (by intro h hh; simp at hh; subst hh; exact HA.out) (by decide) (by decide) ?_
      intro w7 s7 b7 q7
      have e7 := later k b7
      replace z := z.later e7
      replace b := later b e7
      replace s6 := s6.later e7
      refine goQ_since (lasts_below (Nat.le_refl _)) e7 ?_
      clear e7 b7 q7 k
      generalize w'.heap.size = g7 at *
      simp only [Act.put, List.setIfInBounds_toArray, List.set_cons_succ, List.set_cons_zero]
      refine plan_fl ?_
      simp only [pickOps, opAt, List.getElem?_cons_succ, List.getElem?_cons_zero, List.nil_append, List.cons_append]
      refine wpQuiet_nil ?_
      refine fl_call (args := #[.slice (some ⟨g7, 0, none⟩) 1 1]) (by rfl) rfl (by kernel_rfl) (by simp only [List.map_toArray, List.map_cons, List.map_nil]; rfl) (fun w' hC => HT.out _ _ (s7.later (Kl.out hC))) ?_
      simp only [Act.put, List.setIfInBounds_toArray, List.set_cons_succ, List.set_cons_zero]
      refine plan_fl ?_
      simp only [pickOps, opAt, List.getElem?_cons_succ, List.getElem?_cons_zero, List.nil_append, List.cons_append]
      refine wpQuiet_nil ?_
      refine fl_call (args := #[hv R, .int .i64 1, .int .i64 0, hv A, .slice (some ⟨g6, 0, none⟩) 1 1]) (by rfl) rfl (by kernel_rfl) (by simp only [List.map_toArray, List.map_cons, List.map_nil]; rfl) (fun w' hC => H1.out _ _ (s6.later (Kl.out hC))) ?_
      simp only [Act.put, List.setIfInBounds_toArray, List.set_cons_succ, List.set_cons_zero]
      refine plan_stop ?_
      simp only [pickOps, opAt, List.getElem?_cons_succ, List.getElem?_cons_zero, List.nil_append, List.cons_append]
      repeat (first | go_big_quiet_skip | (go_big_quiet_want; first | (refine plan_load_hash _ rfl rfl (by assumption) ?_; simp only [Act.put, List.setIfInBounds_toArray, List.set_cons_succ, List.set_cons_zero]; go_big_quiet_on) | (go_big_quiet_op; go_big_quiet_on)))
      refine wpQuiet_nil ?_
      intro w' _ k
      replace b := later b k
      clear z k
      go_wp2_with fail
      go_ret
      exact ⟨rfl, b⟩
  · skip
    refine wpl_hashes rfl 1 _ rfl [A] rfl (by simp only [List.map_toArray, List.map_cons, List.map_nil]; rfl) (by intro h hh; simp at hh; subst hh; exact HA.out) (by decide) (by decide) ?_
    intro w8 s8 b8 q8
    have e8 := later k b8
    replace z := z.later e8
    replace b := later b e8
    refine goQ_since (lasts_below (Nat.le_refl _)) e8 ?_
    clear e8 b8 q8 k
    generalize w'.heap.size = g8 at *
    simp only [Act.put, List.setIfInBounds_toArray, List.set_cons_succ, List.set_cons_zero]
    refine plan_one ?_
    simp only [pickOps, opAt, List.getElem?_cons_succ, List.getElem?_cons_zero, List.nil_append, List.cons_append]
    repeat (first | go_big_quiet_skip | (go_big_quiet_want; first | (refine plan_load_hash _ rfl rfl (by assumption) ?_; simp only [Act.put, List.setIfInBounds_toArray, List.set_cons_succ, List.set_cons_zero]; go_big_quiet_on) | (go_big_quiet_op; go_big_quiet_on)))
    refine wpQuiet_nil ?_
    intro w' _ k
    refine wpl_hashes rfl 1 _ rfl [A] rfl (by simp only [List.map_toArray, List.map_cons, List.map_nil]; rfl) (by intro h hh; simp at hh; subst hh; exact HA.out) (by decide) (by decide) ?_
    intro w9 s9 b9 q9
    have e9 := later k b9
    replace z := z.later e9
    replace b := later b e9
    replace s8 := s8.later e9
    refine goQ_since (lasts_below (Nat.le_refl _)) e9 ?_
    clear e9 b9 q9 k
    generalize w'.heap.size = g9 at *
    simp only [Act.put, List.setIfInBounds_toArray, List.set_cons_succ, List.set_cons_zero]
    refine plan_fl ?_
    simp only [pickOps, opAt, List.getElem?_cons_succ, List.getElem?_cons_zero, List.nil_append, List.cons_append]
    refine wpQuiet_nil ?_
    refine fl_call (args := #[.slice (some ⟨g9, 0, none⟩) 1 1]) (by rfl) rfl (by kernel_rfl) (by simp only [List.map_toArray, List.map_cons, List.map_nil]; rfl) (fun w' hC => HT.out _ _ (s9.later (Kl.out hC))) ?_
    simp only [Act.put, List.setIfInBounds_toArray, List.set_cons_succ, List.set_cons_zero]
    refine plan_fl ?_
    simp only [pickOps, opAt, List.getElem?_cons_succ, List.getElem?_cons_zero, List.nil_append, List.cons_append]
    refine wpQuiet_nil ?_
    refine fl_call (args := #[.slice (some ⟨g8, 0, none⟩) 1 1]) (by rfl) rfl (by kernel_rfl) (by simp only [List.map_toArray, List.map_cons, List.map_nil]; rfl) (fun w' hC => HF.out _ _ (s8.later (Kl.out hC))) ?_
    simp only [Act.put, List.setIfInBounds_toArray, List.set_cons_succ, List.set_cons_zero]
    clear s9 s8
    refine plan_one ?_
    simp only [pickOps, opAt, List.getElem?_cons_succ, List.getElem?_cons_zero, List.nil_append, List.cons_append]
    repeat (first | go_big_quiet_skip | (go_big_quiet_want; first | (refine plan_load_hash _ rfl rfl (by assumption) ?_; simp only [Act.put, List.setIfInBounds_toArray, List.set_cons_succ, List.set_cons_zero]; go_big_quiet_on) | ((refine quiet_eq _ _ rfl rfl rfl HR.out HR.out ?_; simp only [decide_true]); simp only [Act.put, List.setIfInBounds_toArray, List.set_cons_succ, List.set_cons_zero]; go_big_quiet_on) | (go_big_quiet_op; go_big_quiet_on)))
    refine wpQuiet_nil ?_
    intro w' _ k
    refine wpl_hashes rfl 1 _ rfl [A] rfl (by simp only [List.map_toArray, List.map_cons, List.map_nil]; rfl) (by intro h hh; simp at hh; subst hh; exact HA.out) (by decide) (by decide) ?_
    intro w10 s10 b10 q10
    have e10 := later k b10
    replace z := z.later e10
    replace b := later b e10
    refine goQ_since (lasts_below (Nat.le_refl _)) e10 ?_
    clear e10 b10 q10 k
    generalize w'.heap.size = g10 at *
    simp only [Act.put, List.setIfInBounds_toArray, List.set_cons_succ, List.set_cons_zero]
    refine plan_fl ?_
    simp only [pickOps, opAt, List.getElem?_cons_succ, List.getElem?_cons_zero, List.nil_append, List.cons_append]
    refine wpQuiet_nil ?_
    refine fl_call (args := #[.slice (some ⟨g10, 0, none⟩) 1 1]) (by rfl) rfl (by kernel_rfl) (by simp only [List.map_toArray, List.map_cons, List.map_nil]; rfl) (fun w' hC => HT.out _ _ (s10.later (Kl.out hC))) ?_
    simp only [Act.put, List.setIfInBounds_toArray, List.set_cons_succ, List.set_cons_zero]
    refine plan_fl ?_
    simp only [pickOps, opAt, List.getElem?_cons_succ, List.getElem?_cons_zero, List.nil_append, List.cons_append]
    refine wpQuiet_nil ?_
    refine fl_call (args := #[hv R, .int .i64 1, .int .i64 0, hv A, .slice none 0 0]) (by rfl) rfl (by kernel_rfl) (by simp only [List.map_toArray, List.map_cons, List.map_nil]; rfl) (fun w' hC => H0.out _) ?_
    simp only [Act.put, List.setIfInBounds_toArray, List.set_cons_succ, List.set_cons_zero]
    clear s10
    refine plan_two ?_
    simp only [pickOps, opAt, List.getElem?_cons_succ, List.getElem?_cons_zero, List.nil_append, List.cons_append]
    repeat (first | go_big_quiet_skip | (go_big_quiet_want; first | (refine plan_load_hash _ rfl rfl (by assumption) ?_; simp only [Act.put, List.setIfInBounds_toArray, List.set_cons_succ, List.set_cons_zero]; go_big_quiet_on) | (go_big_quiet_op; go_big_quiet_on)))
    refine wpQuiet_nil ?_
    intro w' _ k
    refine ⟨?_, ?_⟩
    · skip
      refine wpl_hashes rfl 1 _ rfl [A] rfl (by simp only [List.map_toArray, List.map_cons, List.map_nil]; rfl) (by intro h hh; simp at hh; subst hh; exact HA.out) (by decide) (by decide) ?_
      intro w11 s11 b11 q11
      have e11 := later k b11
      replace z := z.later e11
      replace b := later b e11
      refine goQ_since (lasts_below (Nat.le_refl _)) e11 ?_
      clear e11 b11 q11 k
      generalize w'.heap.size = g11 at *
      simp only [Act.put, List.setIfInBounds_toArray, List.set_cons_succ, List.set_cons_zero]
      refine plan_fl ?_
      simp only [pickOps, opAt, List.getElem?_cons_succ, List.getElem?_cons_zero, List.nil_append, List.cons_append]
      refine wpQuiet_nil ?_
      refine fl_call (args := #[.slice (some ⟨g11, 0, none⟩) 1 1]) (by rfl) rfl (by kernel_rfl) (by simp only [List.map_toArray, List.map_cons, List.map_nil]; rfl) (fun w' hC => HT.out _ _ (s11.later (Kl.out hC))) ?_
      simp only [Act.put, List.setIfInBounds_toArray, List.set_cons_succ, List.set_cons_zero]
      refine plan_one ?_
      simp only [pickOps, opAt, List.getElem?_cons_succ, List.getElem?_cons_zero, List.nil_append, List.cons_append]
      repeat (first | go_big_quiet_skip | (go_big_quiet_want; first | (refine plan_load_hash _ rfl rfl (by assumption) ?_; simp only [Act.put, List.setIfInBounds_toArray, List.set_cons_succ, List.set_cons_zero]; go_big_quiet_on) | (go_big_quiet_op; go_big_quiet_on)))
      refine wpQuiet_nil ?_
      intro w' _ k
      refine wpl_hashes rfl 1 _ rfl [A] rfl (by simp only [List.map_toArray, List.map_cons, List.map_nil]; rfl) (by intro h hh; simp at hh; subst hh; exact HA.out) (by decide) (by decide) ?_
      intro w12 s12 b12 q12
      have e12 := later k b12
      replace z := z.later e12
      replace b := later b e12
      refine goQ_since (lasts_below (Nat.le_refl _)) e12 ?_
      clear e12 b12 q12 k
      generalize w'.heap.size = g12 at *
      simp only [Act.put, List.setIfInBounds_toArray, List.set_cons_succ, List.set_cons_zero]
      refine plan_fl ?_
      simp only [pickOps, opAt, List.getElem?_cons_succ, List.getElem?_cons_zero, List.nil_append, List.cons_append]
      refine wpQuiet_nil ?_
      refine fl_call (args := #[hv R, .int .i64 1, .int .i64 0, hv A, .slice (some ⟨g12, 0, none⟩) 1 1]) (by rfl) rfl (by kernel_rfl) (by simp only [List.map_toArray, List.map_cons, List.map_nil]; rfl) (fun w' hC => H1.out _ _ (s12.later (Kl.out hC))) ?_
      simp only [Act.put, List.setIfInBounds_toArray, List.set_cons_succ, List.set_cons_zero]
      refine plan_stop ?_
      simp only [pickOps, opAt, List.getElem?_cons_succ, List.getElem?_cons_zero, List.nil_append, List.cons_append]
      repeat (first | go_big_quiet_skip | (go_big_quiet_want; first | (refine plan_load_hash _ rfl rfl (by assumption) ?_; simp only [Act.put, List.setIfInBounds_toArray, List.set_cons_succ, List.set_cons_zero]; go_big_quiet_on) | (go_big_quiet_op; go_big_quiet_on)))
      refine wpQuiet_nil ?_
      intro w' _ k
      replace b := later b k
      clear z k
      go_wp2_with fail
      go_ret
      exact ⟨rfl, b⟩
    · skip
      refine wpl_hashes rfl 1 _ rfl [A] rfl (by simp only [List.map_toArray, List.map_cons, List.map_nil]; rfl) (by intro h hh; simp at hh; subst hh; exact HA.out) (by decide) (by decide) ?_
      intro w13 s13 b13 q13
      have e13 := later k b13
      replace z := z.later e13
      replace b := later b e13
      refine goQ_since (lasts_below (Nat.le_refl _)) e13 ?_
      clear e13 b13 q13 k
      generalize w'.heap.size = g13 at *
      simp only [Act.put, List.setIfInBounds_toArray, List.set_cons_succ, List.set_cons_zero]
      refine plan_one ?_
      simp only [pickOps, opAt, List.getElem?_cons_succ, List.getElem?_cons_zero, List.nil_append, List.cons_append]
      repeat (first | go_big_quiet_skip | (go_big_quiet_want; first | (refine plan_load_hash _ rfl rfl (by assumption) ?_; simp only [Act.put, List.setIfInBounds_toArray, List.set_cons_succ, List.set_cons_zero]; go_big_quiet_on) | (go_big_quiet_op; go_big_quiet_on)))
      refine wpQuiet_nil ?_
      intro w' _ k
      refine wpl_hashes rfl 1 _ rfl [A] rfl (by simp only [List.map_toArray, List.map_cons, List.map_nil]; rfl) (by intro h hh; simp at hh; subst hh; exact HA.out) (by decide) (by decide) ?_
      intro w14 s14 b14 q14
      have e14 := later k b14
      replace z := z.later e14
      replace b := later b e14
      replace s13 := s13.later e14
      refine goQ_since (lasts_below (Nat.le_refl _)) e14 ?_
      clear e14 b14 q14 k
      generalize w'.heap.size = g14 at *
      simp only [Act.put, List.setIfInBounds_toArray, List.set_cons_succ, List.set_cons_zero]
      refine plan_fl ?_
      simp only [pickOps, opAt, List.getElem?_cons_succ, List.getElem?_cons_zero, List.nil_append, List.cons_append]
      refine wpQuiet_nil ?_
      refine fl_call (args := #[.slice (some ⟨g14, 0, none⟩) 1 1]) (by rfl) rfl (by kernel_rfl) (by simp only [List.map_toArray, List.map_cons, List.map_nil]; rfl) (fun w' hC => HT.out _ _ (s14.later (Kl.out hC))) ?_
      simp only [Act.put, List.setIfInBounds_toArray, List.set_cons_succ, List.set_cons_zero]
      refine plan_fl ?_
      simp only [pickOps, opAt, List.getElem?_cons_succ, List.getElem?_cons_zero, List.nil_append, List.cons_append]
      refine wpQuiet_nil ?_
      refine fl_call (args := #[hv R, .int .i64 1, .int .i64 0, hv A, .slice (some ⟨g13, 0, none⟩) 1 1]) (by rfl) rfl (by kernel_rfl) (by simp only [List.map_toArray, List.map_cons, List.map_nil]; rfl) (fun w' hC => H1.out _ _ (s13.later (Kl.out hC))) ?_
      simp only [Act.put, List.setIfInBounds_toArray, List.set_cons_succ, List.set_cons_zero]
      refine plan_stop ?_
      simp only [pickOps, opAt, List.getElem?_cons_succ, List.getElem?_cons_zero, List.nil_append, List.cons_append]
      repeat (first | go_big_quiet_skip | (go_big_quiet_want; first | (refine plan_load_hash _ rfl rfl (by assumption) ?_; simp only [Act.put, List.setIfInBounds_toArray, List.set_cons_succ, List.set_cons_zero]; go_big_quiet_on) | (go_big_quiet_op; go_big_quiet_on)))
      refine wpQuiet_nil ?_
      intro w' _ k
      replace b := later b k
      clear z k
      go_wp2_with fail
      go_ret
      exact ⟨rfl, b⟩
end Go.Proofs.Ytikphhhkikdhaaa
