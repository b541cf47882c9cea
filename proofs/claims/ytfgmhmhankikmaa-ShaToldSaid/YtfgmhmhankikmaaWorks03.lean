/- mintagelaw03.works answers true. -/
import Derived.Test.YtfgmhmhankikmaaOf
import Derived.Test.YtfgmhmhankikmaaRead
import Derived.Test.YtfgmhmhankikmaaHashEq
namespace Go.Proofs.Ytfgmhmhankikmaa
open Go.RowKit Go.Lib

theorem hex_abc : hexL (sha [97, 98, 99]) = [98, 97, 55, 56, 49, 54, 98, 102, 56, 102, 48, 49, 99, 102, 101, 97, 52, 49, 52, 49, 52, 48, 100, 101, 53, 100, 97, 101, 50, 50, 50, 51, 98, 48, 48, 51, 54, 49, 97, 51, 57, 54, 49, 55, 55, 97, 57, 99, 98, 52, 49, 48, 102, 102, 54, 49, 102, 50, 48, 48, 49, 53, 97, 100] := by
  rw [sha_abc]; decide +kernel

set_option maxRecDepth 100000 in
set_option maxHeartbeats 3200000 in
theorem works03 (w : World) : Calls Try.prog 26 #[] w fun e w' => e = .returned (.bool true) ∧ Below w.heap.size w w' := by
  go_enter Try.func26, Try.ntmps26
  go_wp2_with fail
  refine (sum_any _ _ (by show 3 ≤ _; omega)).mono ?_
  rintro _ w1 ⟨rfl, hb1⟩
  go_wp2_with fail
  refine (hex_any _ _ (sha_length _)).mono ?_
  rintro _ w2 ⟨rfl, hb2⟩
  rw [show hexL (sha ((⟨#[97, 98, 99]⟩ : ByteArray).data.toList)) = _ from hex_abc]
  go_wp2_with fail
  go_ret
  exact ⟨rfl, later hb1 hb2⟩
end Go.Proofs.Ytfgmhmhankikmaa
