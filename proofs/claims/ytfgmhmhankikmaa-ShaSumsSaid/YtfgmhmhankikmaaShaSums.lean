/- The law ShaSums: any text's sum. -/
import Derived.Test.YtfgmhmhankikmaaRefSum
import Derived.Test.YtfgmhmhankikmaaWorks03
namespace Go.Proofs.Ytfgmhmhankikmaa
open Go.RowKit Go.Lib

set_option maxRecDepth 100000 in
set_option maxHeartbeats 3200000 in
theorem shaSums_row (s : ByteArray) (_ : s.size ≤ 9223372036854775807) (w : World) :
    Calls Try.prog 9 #[.string s] w fun e w' => e = .returned (.bool true) ∧ Below w.heap.size w w' := by
  by_cases h : 16384 < s.size
  · have hd : (16384 : Int) < (s.size : Int) := by omega
    go_enter Try.func9, Try.ntmps9
    go_wp2_with fail
    refine (works03 _).mono ?_
    rintro _ w1 ⟨rfl, hb1⟩
    go_wp2_with fail
    go_ret
    exact ⟨rfl, hb1⟩
  · have hd : ¬ (16384 : Int) < (s.size : Int) := by omega
    have HL := hide (sha_length s.data.toList)
    go_enter Try.func9, Try.ntmps9
    go_wp2_with fail
    refine (sum_any s _ (by omega)).mono ?_
    rintro _ w1 ⟨rfl, hb1⟩
    go_wp2_with fail
    refine (refSum_any s _ (by omega)).mono ?_
    rintro _ w2 ⟨rfl, hb2⟩
    generalize sha s.data.toList = x at *
    go_wp2_with (refine wpl_eq_hash rfl _ _ rfl rfl rfl HL.out HL.out ?_)
    go_ret
    exact ⟨by simp, later hb1 hb2⟩
end Go.Proofs.Ytfgmhmhankikmaa
