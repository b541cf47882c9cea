/- Laws of layer 14: what is gone through. -/
import Derived.Test.YtofjjpielkfloaaQHdWorks
namespace Go.Proofs.Ytofjjpielkfloaa
open Go.RowKit Go.Lib
set_option linter.unusedVariables false
set_option linter.unusedSimpArgs false

theorem wf_u64 {x : Int} (h : (Lit.int .u64 x).wf = true) : 0 ≤ x ∧ x < 18446744073709551616 := by
  have : 0 ≤ x ∧ x ≤ 18446744073709551615 := by simpa [Lit.wf, IntKind.min, IntKind.max, IntKind.signed, IntKind.bits] using h
  omega
def greatH (d : Hd) : Bool := decide (8192 < d.sig.size) || decide (8192 < d.right.sig.size)
set_option maxRecDepth 100000 in
set_option maxHeartbeats 1600000 in
theorem great14_any (d : Hd) (hd : d.Ok) (w : World) :
    Calls Try.prog 45 #[hdV d] w fun e w' => e = .returned (.bool (greatH d)) ∧ Below w.heap.size w w' := by
  obtain ⟨R, hR⟩ : ∃ R, R = greatH d := ⟨_, rfl⟩
  rw [← hR]
  have HR := hide hR
  have HD := hide hd
  have b := Below.refl w.heap.size w
  clear hR hd
  unfold greatH at HR
  have mF1 := True.intro
  by_cases h1 : (8192 : Int) < (d.sig.size : Int)
  · have h3 : R = true := by rw [HR.out]; simp; omega
    subst h3
    clear HR
    go_enter Try.func45, Try.ntmps45
    go_wp2_with (first | (with_reducible show wpList _ _ _ (⟨_, Op.load _ _, _, _, _, _⟩ :: _) _ _; first | ((with_reducible show wpList _ _ _ (⟨_, Op.load 9 _, _, _, _, _⟩ :: _) _ _); first | (refine wpl_load_one rfl 9 _ rfl rfl (HdAt.c134 (by assumption)) (by kernel_rfl) ?_) | (refine wpl_load_one rfl 9 _ rfl rfl (HdAt.c135 (by assumption)) (by kernel_rfl) ?_) | (refine wpl_load_one rfl 9 _ rfl rfl (RtAt.c34 (by assumption)) (by kernel_rfl) ?_) | (refine wpl_load_one rfl 9 _ rfl rfl (One.cell (by assumption)) (by kernel_rfl) ?_)) | ((with_reducible show wpList _ _ _ (⟨_, Op.load 46 _, _, _, _, _⟩ :: _) _ _); first | (refine wpl_load_one rfl 46 _ rfl rfl (HdAt.c133 (by assumption)) (by kernel_rfl) ?_) | (refine wpl_load_one rfl 46 _ rfl rfl (HdAt.c132 (by assumption)) (by kernel_rfl) ?_) | (refine wpl_load_one rfl 46 _ rfl rfl (RtAt.c32 (by assumption)) (by kernel_rfl) ?_) | (refine wpl_load_one rfl 46 _ rfl rfl (RtAt.c33 (by assumption)) (by kernel_rfl) ?_)) | ((with_reducible show wpList _ _ _ (⟨_, Op.load 23 _, _, _, _, _⟩ :: _) _ _); first | (refine wpl_load_hash rfl _ rfl rfl (by assumption) ?_) | (refine wpl_load_elem rfl _ rfl rfl (HdAt.ch (by assumption)) (HdAt.ok (by assumption)).right.hot ?_) | (refine wpl_load_elem rfl _ rfl rfl (RtAt.c0 (by assumption)) (RtAt.ok (by assumption)).hot ?_)) | (refine wpl_load_hd rfl _ rfl rfl (by assumption) ?_) | (refine wpl_load_rt rfl _ rfl rfl (by assumption) ?_) | (refine wpl_load_hdrt rfl _ rfl rfl (by assumption) ?_)) | (with_reducible show wpList _ _ _ (⟨_, Op.box _ _, _, _, _, _⟩ :: _) _ _; clear mF1; refine wpl_box_hd rfl _ rfl rfl HD.out ?_; intro _ g1 hg1 F1 hb; (try have := F1.lt); (try have := F2.lt); (try have := F3.lt); (try have := F4.lt); (try have := F5.lt); (try have := F6.lt); (try have := F7.lt); (try have := F8.lt); (try have := F9.lt); (try have := z.lt); (try have := G1.lt); (try have := G2.lt); (try have := G3.lt); (try have := b.size); (try replace F1 := F1.later hb); (try replace F2 := F2.later hb); (try replace F3 := F3.later hb); (try replace F4 := F4.later hb); (try replace F5 := F5.later hb); (try replace F6 := F6.later hb); (try replace F7 := F7.later hb); (try replace F8 := F8.later hb); (try replace F9 := F9.later hb); (try replace G1 := G1.later hb); (try replace G2 := G2.later hb); (try replace G3 := G3.later hb); (try replace z := z.later hb); (try replace b := later b hb); (try replace bB := mixed hB bB hb); clear hb))
    all_goals
      go_ret
      exact ⟨rfl, b⟩
  · by_cases h2 : (8192 : Int) < (d.right.sig.size : Int)
    · have h3 : R = true := by rw [HR.out]; simp; omega
      subst h3
      clear HR
      go_enter Try.func45, Try.ntmps45
      go_wp2_with (first | (with_reducible show wpList _ _ _ (⟨_, Op.load _ _, _, _, _, _⟩ :: _) _ _; first | ((with_reducible show wpList _ _ _ (⟨_, Op.load 9 _, _, _, _, _⟩ :: _) _ _); first | (refine wpl_load_one rfl 9 _ rfl rfl (HdAt.c134 (by assumption)) (by kernel_rfl) ?_) | (refine wpl_load_one rfl 9 _ rfl rfl (HdAt.c135 (by assumption)) (by kernel_rfl) ?_) | (refine wpl_load_one rfl 9 _ rfl rfl (RtAt.c34 (by assumption)) (by kernel_rfl) ?_) | (refine wpl_load_one rfl 9 _ rfl rfl (One.cell (by assumption)) (by kernel_rfl) ?_)) | ((with_reducible show wpList _ _ _ (⟨_, Op.load 46 _, _, _, _, _⟩ :: _) _ _); first | (refine wpl_load_one rfl 46 _ rfl rfl (HdAt.c133 (by assumption)) (by kernel_rfl) ?_) | (refine wpl_load_one rfl 46 _ rfl rfl (HdAt.c132 (by assumption)) (by kernel_rfl) ?_) | (refine wpl_load_one rfl 46 _ rfl rfl (RtAt.c32 (by assumption)) (by kernel_rfl) ?_) | (refine wpl_load_one rfl 46 _ rfl rfl (RtAt.c33 (by assumption)) (by kernel_rfl) ?_)) | ((with_reducible show wpList _ _ _ (⟨_, Op.load 23 _, _, _, _, _⟩ :: _) _ _); first | (refine wpl_load_hash rfl _ rfl rfl (by assumption) ?_) | (refine wpl_load_elem rfl _ rfl rfl (HdAt.ch (by assumption)) (HdAt.ok (by assumption)).right.hot ?_) | (refine wpl_load_elem rfl _ rfl rfl (RtAt.c0 (by assumption)) (RtAt.ok (by assumption)).hot ?_)) | (refine wpl_load_hd rfl _ rfl rfl (by assumption) ?_) | (refine wpl_load_rt rfl _ rfl rfl (by assumption) ?_) | (refine wpl_load_hdrt rfl _ rfl rfl (by assumption) ?_)) | (with_reducible show wpList _ _ _ (⟨_, Op.box _ _, _, _, _, _⟩ :: _) _ _; clear mF1; refine wpl_box_hd rfl _ rfl rfl HD.out ?_; intro _ g1 hg1 F1 hb; (try have := F1.lt); (try have := F2.lt); (try have := F3.lt); (try have := F4.lt); (try have := F5.lt); (try have := F6.lt); (try have := F7.lt); (try have := F8.lt); (try have := F9.lt); (try have := z.lt); (try have := G1.lt); (try have := G2.lt); (try have := G3.lt); (try have := b.size); (try replace F1 := F1.later hb); (try replace F2 := F2.later hb); (try replace F3 := F3.later hb); (try replace F4 := F4.later hb); (try replace F5 := F5.later hb); (try replace F6 := F6.later hb); (try replace F7 := F7.later hb); (try replace F8 := F8.later hb); (try replace F9 := F9.later hb); (try replace G1 := G1.later hb); (try replace G2 := G2.later hb); (try replace G3 := G3.later hb); (try replace z := z.later hb); (try replace b := later b hb); (try replace bB := mixed hB bB hb); clear hb))
      all_goals
        go_ret
        exact ⟨by simp, b⟩
    · have h3 : R = false := by rw [HR.out]; simp; omega
      subst h3
      clear HR
      go_enter Try.func45, Try.ntmps45
      go_wp2_with (first | (with_reducible show wpList _ _ _ (⟨_, Op.load _ _, _, _, _, _⟩ :: _) _ _; first | ((with_reducible show wpList _ _ _ (⟨_, Op.load 9 _, _, _, _, _⟩ :: _) _ _); first | (refine wpl_load_one rfl 9 _ rfl rfl (HdAt.c134 (by assumption)) (by kernel_rfl) ?_) | (refine wpl_load_one rfl 9 _ rfl rfl (HdAt.c135 (by assumption)) (by kernel_rfl) ?_) | (refine wpl_load_one rfl 9 _ rfl rfl (RtAt.c34 (by assumption)) (by kernel_rfl) ?_) | (refine wpl_load_one rfl 9 _ rfl rfl (One.cell (by assumption)) (by kernel_rfl) ?_)) | ((with_reducible show wpList _ _ _ (⟨_, Op.load 46 _, _, _, _, _⟩ :: _) _ _); first | (refine wpl_load_one rfl 46 _ rfl rfl (HdAt.c133 (by assumption)) (by kernel_rfl) ?_) | (refine wpl_load_one rfl 46 _ rfl rfl (HdAt.c132 (by assumption)) (by kernel_rfl) ?_) | (refine wpl_load_one rfl 46 _ rfl rfl (RtAt.c32 (by assumption)) (by kernel_rfl) ?_) | (refine wpl_load_one rfl 46 _ rfl rfl (RtAt.c33 (by assumption)) (by kernel_rfl) ?_)) | ((with_reducible show wpList _ _ _ (⟨_, Op.load 23 _, _, _, _, _⟩ :: _) _ _); first | (refine wpl_load_hash rfl _ rfl rfl (by assumption) ?_) | (refine wpl_load_elem rfl _ rfl rfl (HdAt.ch (by assumption)) (HdAt.ok (by assumption)).right.hot ?_) | (refine wpl_load_elem rfl _ rfl rfl (RtAt.c0 (by assumption)) (RtAt.ok (by assumption)).hot ?_)) | (refine wpl_load_hd rfl _ rfl rfl (by assumption) ?_) | (refine wpl_load_rt rfl _ rfl rfl (by assumption) ?_) | (refine wpl_load_hdrt rfl _ rfl rfl (by assumption) ?_)) | (with_reducible show wpList _ _ _ (⟨_, Op.box _ _, _, _, _, _⟩ :: _) _ _; clear mF1; refine wpl_box_hd rfl _ rfl rfl HD.out ?_; intro _ g1 hg1 F1 hb; (try have := F1.lt); (try have := F2.lt); (try have := F3.lt); (try have := F4.lt); (try have := F5.lt); (try have := F6.lt); (try have := F7.lt); (try have := F8.lt); (try have := F9.lt); (try have := z.lt); (try have := G1.lt); (try have := G2.lt); (try have := G3.lt); (try have := b.size); (try replace F1 := F1.later hb); (try replace F2 := F2.later hb); (try replace F3 := F3.later hb); (try replace F4 := F4.later hb); (try replace F5 := F5.later hb); (try replace F6 := F6.later hb); (try replace F7 := F7.later hb); (try replace F8 := F8.later hb); (try replace F9 := F9.later hb); (try replace G1 := G1.later hb); (try replace G2 := G2.later hb); (try replace G3 := G3.later hb); (try replace z := z.later hb); (try replace b := later b hb); (try replace bB := mixed hB bB hb); clear hb))
      all_goals
        go_ret
        exact ⟨by simp, b⟩
end Go.Proofs.Ytofjjpielkfloaa
