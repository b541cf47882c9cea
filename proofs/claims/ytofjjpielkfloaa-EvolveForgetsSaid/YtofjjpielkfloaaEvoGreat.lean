/- Keys that are more than is gone through. -/
import Derived.Test.YtofjjpielkfloaaEvo3
namespace Go.Proofs.Ytofjjpielkfloaa
open Go.RowKit Go.Lib
set_option linter.unusedVariables false
set_option linter.unusedSimpArgs false

def greatE (k : Evo) : Bool := decide (40 < (k.right.length : Int)) || decide (40 < (k.side.length : Int))
set_option maxRecDepth 100000 in
set_option maxHeartbeats 1600000 in
theorem great06_any (k : Evo) (v : Value) (w : World) (hk : EvoIs w v k) :
    Calls Try.prog 25 #[v] w fun e w' => e = .returned (.bool (greatE k)) ∧ Below w.heap.size w w' := by
  obtain ⟨kd, kp, leaf, right, side⟩ := k
  obtain ⟨rv, sv, rfl, F3, F4, hl⟩ := hk
  unfold greatE
  simp only at F3 F4 hl ⊢
  obtain ⟨ar, cr, rfl, _⟩ := F3.shape
  obtain ⟨as', cs', rfl, _⟩ := F4.shape
  have HL := hide hl
  have b := Below.refl w.heap.size w
  generalize right.length = n at *
  generalize side.length = q at *
  clear hl F3 F4
  unfold evV
  have mF1 := True.intro
  by_cases h1 : (40 : Int) < n
  · go_enter Try.func25, Try.ntmps25
    go_wp2_with (first | (with_reducible show wpList _ _ _ (⟨_, Op.load _ _, _, _, _, _⟩ :: _) _ _; first | (refine wpl_load_hash rfl _ rfl rfl (by assumption) ?_) | (refine wpl_load_one rfl 3 _ rfl rfl (EvoAt.cd (by assumption)) (by kernel_rfl) ?_) | (refine wpl_load_one rfl 3 _ rfl rfl (EvoAt.cp (by assumption)) (by kernel_rfl) ?_) | (refine wpl_load_one rfl 24 _ rfl rfl (EvoAt.cr (by assumption)) (by kernel_rfl) ?_) | (refine wpl_load_one rfl 24 _ rfl rfl (EvoAt.cs (by assumption)) (by kernel_rfl) ?_) | (refine wpl_load_leaf rfl _ rfl rfl (by assumption) ?_) | (refine wpl_load_evo rfl _ rfl rfl (by assumption) ?_)) | (with_reducible show wpList _ _ _ (⟨_, Op.box _ _, _, _, _, _⟩ :: _) _ _; clear mF1; refine wpl_box_evo rfl _ rfl rfl HL.out rfl rfl ?_; intro _ g1 hg1 F1 hb; (try have := F1.lt); (try have := F2.lt); (try have := F3.lt); (try have := F4.lt); (try have := F5.lt); (try have := F6.lt); (try have := F7.lt); (try have := F8.lt); (try have := F9.lt); (try have := z.lt); (try have := G1.lt); (try have := G2.lt); (try have := G3.lt); (try have := b.size); (try replace F1 := F1.later hb); (try replace F2 := F2.later hb); (try replace F3 := F3.later hb); (try replace F4 := F4.later hb); (try replace F5 := F5.later hb); (try replace F6 := F6.later hb); (try replace F7 := F7.later hb); (try replace F8 := F8.later hb); (try replace F9 := F9.later hb); (try replace G1 := G1.later hb); (try replace G2 := G2.later hb); (try replace G3 := G3.later hb); (try replace z := z.later hb); (try replace b := later b hb); (try replace bB := mixed hB bB hb); clear hb))
    go_ret
    exact ⟨by simp [h1], b⟩
  · by_cases h2 : (40 : Int) < q
    all_goals
      go_enter Try.func25, Try.ntmps25
      go_wp2_with (first | (with_reducible show wpList _ _ _ (⟨_, Op.load _ _, _, _, _, _⟩ :: _) _ _; first | (refine wpl_load_hash rfl _ rfl rfl (by assumption) ?_) | (refine wpl_load_one rfl 3 _ rfl rfl (EvoAt.cd (by assumption)) (by kernel_rfl) ?_) | (refine wpl_load_one rfl 3 _ rfl rfl (EvoAt.cp (by assumption)) (by kernel_rfl) ?_) | (refine wpl_load_one rfl 24 _ rfl rfl (EvoAt.cr (by assumption)) (by kernel_rfl) ?_) | (refine wpl_load_one rfl 24 _ rfl rfl (EvoAt.cs (by assumption)) (by kernel_rfl) ?_) | (refine wpl_load_leaf rfl _ rfl rfl (by assumption) ?_) | (refine wpl_load_evo rfl _ rfl rfl (by assumption) ?_)) | (with_reducible show wpList _ _ _ (⟨_, Op.box _ _, _, _, _, _⟩ :: _) _ _; clear mF1; refine wpl_box_evo rfl _ rfl rfl HL.out rfl rfl ?_; intro _ g1 hg1 F1 hb; (try have := F1.lt); (try have := F2.lt); (try have := F3.lt); (try have := F4.lt); (try have := F5.lt); (try have := F6.lt); (try have := F7.lt); (try have := F8.lt); (try have := F9.lt); (try have := z.lt); (try have := G1.lt); (try have := G2.lt); (try have := G3.lt); (try have := b.size); (try replace F1 := F1.later hb); (try replace F2 := F2.later hb); (try replace F3 := F3.later hb); (try replace F4 := F4.later hb); (try replace F5 := F5.later hb); (try replace F6 := F6.later hb); (try replace F7 := F7.later hb); (try replace F8 := F8.later hb); (try replace F9 := F9.later hb); (try replace G1 := G1.later hb); (try replace G2 := G2.later hb); (try replace G3 := G3.later hb); (try replace z := z.later hb); (try replace b := later b hb); (try replace bB := mixed hB bB hb); clear hb))
      go_ret
      exact ⟨by simp [h1, h2], b⟩
end Go.Proofs.Ytofjjpielkfloaa
