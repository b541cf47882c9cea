/- LotKnown: the document's examples. It has no argument; no condition. -/
import Derived.Test.YtfgmhmhankikmaaLeast
namespace Go.Proofs.Ytfgmhmhankikmaa
open Go.RowKit Go.Lib

theorem lotKnown_law (w : World) :
    Calls Try.prog 5 #[] w fun e w' => e = .returned (.bool true) ∧ Below w.heap.size w w' := by
  go_enter Try.func5, Try.ntmps5
  go_wp2_with fail
  refine (Wins_no _ _ _ _ _ _ (by unfold Word; decide) (by unfold Word; decide) (by unfold May; decide)).mono ?_
  rintro e w1 ⟨rfl, hb1⟩
  go_wp2_with fail
  refine (Wins_no _ _ _ _ _ _ (by unfold Word; decide) (by unfold Word; decide) (by unfold May; decide)).mono ?_
  rintro e w2 ⟨rfl, hb2⟩
  go_wp2_with fail
  refine (Wins_no _ _ _ _ _ _ (by unfold Word; decide) (by unfold Word; decide) (by unfold May; decide)).mono ?_
  rintro e w3 ⟨rfl, hb3⟩
  go_wp2_with fail
  refine (Least_is (r := 1431655766) _ (by unfold Word; decide) (by unfold Word; decide) (by unfold Word; decide) (by unfold Word; decide) (by unfold May; decide) (by unfold leastL; decide)).mono ?_
  rintro e w4 ⟨rfl, hb4⟩
  go_wp2_with fail
  refine (Least_is (r := 1073741824) _ (by unfold Word; decide) (by unfold Word; decide) (by unfold Word; decide) (by unfold Word; decide) (by unfold May; decide) (by unfold leastL; decide)).mono ?_
  rintro e w5 ⟨rfl, hb5⟩
  go_wp2_with fail
  refine (works7 _).mono ?_
  rintro e w6 ⟨rfl, hb6⟩
  go_wp2_with fail
  refine (wins_is (r := true) _ (by decide) (by decide) (by unfold Word; decide) (by unfold Word; decide) (by unfold Word; decide) (by unfold Word; decide) (by unfold May; decide) (by decide)).mono ?_
  rintro e w7 ⟨rfl, hb7⟩
  go_wp2_with fail
  refine (not_is (r := true) _ (by decide) (by decide) (by unfold Word; decide) (by unfold Word; decide) (by unfold Word; decide) (by unfold Word; decide) (by unfold May; decide) (by decide)).mono ?_
  rintro e w8 ⟨rfl, hb8⟩
  go_wp2_with fail
  refine (wins_is (r := true) _ (by decide) (by decide) (by unfold Word; decide) (by unfold Word; decide) (by unfold Word; decide) (by unfold Word; decide) (by unfold May; decide) (by decide)).mono ?_
  rintro e w9 ⟨rfl, hb9⟩
  go_wp2_with fail
  refine (not_is (r := true) _ (by decide) (by decide) (by unfold Word; decide) (by unfold Word; decide) (by unfold Word; decide) (by unfold Word; decide) (by unfold May; decide) (by decide)).mono ?_
  rintro e w10 ⟨rfl, hb10⟩
  go_wp2_with fail
  go_ret
  exact ⟨rfl, later hb1 (later hb2 (later hb3 (later hb4 (later hb5 (later hb6 (later hb7 (later hb8 (later hb9 (hb10)))))))))⟩
end Go.Proofs.Ytfgmhmhankikmaa
