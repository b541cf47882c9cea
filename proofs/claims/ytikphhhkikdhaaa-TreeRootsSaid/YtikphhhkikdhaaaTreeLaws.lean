/- Laws of trees: TreeRoots. -/
import Derived.Test.YtikphhhkikdhaaaTreeWorks
namespace Go.Proofs.Ytikphhhkikdhaaa
open Go.RowKit Go.Lib
set_option linter.unusedVariables false
set_option linter.unusedSimpArgs false

set_option maxRecDepth 100000 in
set_option maxHeartbeats 800000 in
theorem treeRoots_row (w : World) (v : Value) (l : List H32) (hv0 : Hs w v l) (hn : l.length ≤ 9223372036854775807) :
    Calls Try.prog 9 #[v] w fun e w' => e = .returned (.bool true) ∧ Below w.heap.size w w' := by
  obtain ⟨a, cap, rfl, hc1, hc2, hc0⟩ := hv0.shape
  have b := Below.refl w.heap.size w
  go_enter Try.func9, Try.ntmps9
  by_cases h : l.length ≤ 300
  · obtain ⟨R, hR⟩ : ∃ R, R = treeL l := ⟨_, rfl⟩
    have HR : Hid (R.length = 32) := by rw [hR]; exact rootL_length _ _
    have HT : Hid (∀ w, Hs w (.slice a l.length cap) l → Calls Try.prog 28 #[.slice a l.length cap] w fun e w' => e = .returned (hv R) ∧ Below w.heap.size w w') := fun w h => by rw [hR]; exact treeRoot_any _ l w h (by omega)
    have HF : Hid (∀ w, Hs w (.slice a l.length cap) l → Calls Try.prog 29 #[.slice a l.length cap] w fun e w' => e = .returned (hv R) ∧ Below w.heap.size w w') := fun w h => by rw [hR]; exact refRoot_any _ l w h (by omega)
    clear hR
    generalize l.length = n at *
    go_wp2_with fail
    refine (HT.out _ hv0).mono ?_
    rintro _ wc1 ⟨rfl, hc1⟩
    replace hv0 := hv0.later hc1
    replace b := later b hc1
    clear hc1
    go_wp2_with fail
    refine (HF.out _ hv0).mono ?_
    rintro _ wc2 ⟨rfl, hc2⟩
    replace hv0 := hv0.later hc2
    replace b := later b hc2
    clear hc2
    go_wp2_with (refine wpl_eq_hash rfl _ _ rfl rfl rfl HR.out HR.out ?_; simp only [decide_true])
    refine (works04 _).mono ?_
    rintro _ wc3 ⟨rfl, hc3⟩
    replace b := later b hc3
    clear hc3
    go_wp2_with fail
    go_ret
    exact ⟨rfl, b⟩
  · generalize l.length = n at *
    go_wp2_with fail
    refine (works04 _).mono ?_
    rintro _ wc4 ⟨rfl, hc4⟩
    replace b := later b hc4
    clear hc4
    go_wp2_with fail
    go_ret
    exact ⟨rfl, b⟩
end Go.Proofs.Ytikphhhkikdhaaa
