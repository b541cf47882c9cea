/- Laws of trees: TreeChecks. -/
import Derived.Test.YtikphhhkikdhaaaTreeWorks
import Derived.Test.YtikphhhkikdhaaaRefCheck
namespace Go.Proofs.Ytikphhhkikdhaaa
open Go.RowKit Go.Lib
set_option linter.unusedVariables false
set_option linter.unusedSimpArgs false

set_option maxRecDepth 100000 in
set_option maxHeartbeats 800000 in
theorem treeChecks_row (w : World) (root : H32) (hr : root.length = 32) (n : Int) (hn0 : (Lit.int .i64 n).wf = true) (i : Int) (hi : (Lit.int .i64 i).wf = true) (h : H32) (hh : h.length = 32) (v : Value) (p : List H32) (hv0 : Hs w v p) (hn : p.length ≤ 9223372036854775807) :
    Calls Try.prog 10 #[hv root, .int .i64 n, .int .i64 i, hv h, v] w fun e w' => e = .returned (.bool true) ∧ Below w.heap.size w w' := by
  obtain ⟨a, cap, rfl, hc1, hc2, hc0⟩ := hv0.shape
  have hW := HashAt.alloc (HashAt.new w root hr) (.cells (bvs h).toArray 23)
  have hH := HashAt.new2 w (.cells (bvs root).toArray 23) h hh
  have b := below2 w (.cells (bvs root).toArray 23) (.cells (bvs h).toArray 23)
  have hv1 := hv0.later b
  by_cases hp : p.length ≤ 300
  · have HT : Hid (∀ w, Hs w (.slice a p.length cap) p → Calls Try.prog 30 #[hv root, .int .i64 n, .int .i64 i, hv h, .slice a p.length cap] w fun e w' => e = .returned (.bool (checkL root n i h p)) ∧ Below w.heap.size w w') := fun w h' => treeCheck_any root h n i _ p w hr hh h' (by omega)
    have HF : Hid (∀ w, Hs w (.slice a p.length cap) p → Calls Try.prog 31 #[hv root, .int .i64 n, .int .i64 i, hv h, .slice a p.length cap] w fun e w' => e = .returned (.bool (checkL root n i h p)) ∧ Below w.heap.size w w') := fun w h' => refCheck_any root h n i _ p w hr hh h' (by omega)
    clear hn0 hi hv0
    generalize p.length = m at *
    generalize checkL root n i h p = c at *
    unfold hv
    go_enter Try.func10, Try.ntmps10
    go_wp2_with fail
    generalize (w.alloc (.cells (bvs root).toArray 23)).alloc (.cells (bvs h).toArray 23) = W at *
    refine region_since (by kernel_rfl) (by kernel_rfl) ?_
    repeat (first | go_big_quiet_skip | (go_big_quiet_want; first | (refine quiet_load_hash _ rfl rfl (by assumption) ?_; simp only [Act.put, List.setIfInBounds_toArray, List.set_cons_succ, List.set_cons_zero]; go_big_quiet_on) | (go_big_quiet_op; go_big_quiet_on)))
    go_big_quiet_want; go_big_quiet_op
    refine ⟨_, fun s => since_of (HT.out _ (hv1.later s.ok)), ?_⟩
    go_big_quiet_on
    repeat (first | go_big_quiet_skip | (go_big_quiet_want; first | (refine quiet_load_hash _ rfl rfl (by assumption) ?_; simp only [Act.put, List.setIfInBounds_toArray, List.set_cons_succ, List.set_cons_zero]; go_big_quiet_on) | (go_big_quiet_op; go_big_quiet_on)))
    go_big_quiet_want; go_big_quiet_op
    refine ⟨_, fun s => since_of (HF.out _ (hv1.later s.ok)), ?_⟩
    go_big_quiet_on
    have hcc : (c == c) = true := beq_self_eq_true c
    repeat (first | go_big_quiet_skip | (go_big_quiet_want; first | (refine quiet_load_hash _ rfl rfl (by assumption) ?_; simp only [Act.put, List.setIfInBounds_toArray, List.set_cons_succ, List.set_cons_zero]; go_big_quiet_on) | (go_big_quiet_op; go_big_quiet_on)))
    go_big_quiet_want; go_big_quiet_op
    refine ⟨_, fun _ => since_of (works04 _), ?_⟩
    go_big_quiet_on
    repeat (first | go_big_quiet_skip | (go_big_quiet_want; first | (refine quiet_load_hash _ rfl rfl (by assumption) ?_; simp only [Act.put, List.setIfInBounds_toArray, List.set_cons_succ, List.set_cons_zero]; go_big_quiet_on) | (go_big_quiet_op; go_big_quiet_on)))
    refine wpQuiet_nil ?_
    intro w5 hq1
    replace b := later b hq1
    clear hq1
    go_wp2_with fail
    go_ret
    exact ⟨rfl, b⟩
  · clear hn0 hi
    generalize p.length = m at *
    unfold hv
    go_enter Try.func10, Try.ntmps10
    go_wp2_with fail
    generalize (w.alloc (.cells (bvs root).toArray 23)).alloc (.cells (bvs h).toArray 23) = W at *
    refine (works04 _).mono ?_
    rintro _ wc2 ⟨rfl, hc2⟩
    replace b := later b hc2
    clear hc2
    go_wp2_with fail
    go_ret
    exact ⟨rfl, b⟩
end Go.Proofs.Ytikphhhkikdhaaa
