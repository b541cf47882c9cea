/- The reference of layer 14: May, Signed, Text, Put, Id. -/
import Derived.Test.YtofjjpielkfloaaQHd4
namespace Go.Proofs.Ytofjjpielkfloaa
open Go.RowKit Go.Lib
set_option linter.unusedVariables false
set_option linter.unusedSimpArgs false

set_option maxRecDepth 100000 in
set_option maxHeartbeats 800000 in
theorem refMay14_any (d : Hd) (hd : d.Ok) (w : World) :
    Calls Try.prog 50 #[hdV d] w fun e w' => e = .returned (.bool (mayH d)) ∧ Below w.heap.size w w' := by
  obtain ⟨R, hR⟩ : ∃ R, R = mayH d := ⟨_, rfl⟩
  rw [← hR]
  have HR := hide hR
  have b := Below.refl w.heap.size w
  have HD := hide hd
  unfold mayH at HR
  clear hR hd
  have mF1 := True.intro
  by_cases h1 : d.right.sig.size = 1024
  · have c1 : ((d.right.sig.size : Int) == 1024) = true := by simp [h1]
    by_cases h2 : d.sig.size = 1120
    · have c2 : ((d.sig.size : Int) == 1120) = true := by simp [h2]
      have h3 : R = true := by rw [HR.out, h1, h2]; rfl
      subst h3
      clear HR h1 h2
      go_enter Try.func50, Try.ntmps50
      go_wp2_with (first | (with_reducible show wpList _ _ _ (⟨_, Op.load _ _, _, _, _, _⟩ :: _) _ _; first | ((with_reducible show wpList _ _ _ (⟨_, Op.load 9 _, _, _, _, _⟩ :: _) _ _); first | (refine wpl_load_one rfl 9 _ rfl rfl (HdAt.c134 (by assumption)) (by kernel_rfl) ?_) | (refine wpl_load_one rfl 9 _ rfl rfl (HdAt.c135 (by assumption)) (by kernel_rfl) ?_) | (refine wpl_load_one rfl 9 _ rfl rfl (RtAt.c34 (by assumption)) (by kernel_rfl) ?_) | (refine wpl_load_one rfl 9 _ rfl rfl (One.cell (by assumption)) (by kernel_rfl) ?_)) | ((with_reducible show wpList _ _ _ (⟨_, Op.load 46 _, _, _, _, _⟩ :: _) _ _); first | (refine wpl_load_one rfl 46 _ rfl rfl (HdAt.c133 (by assumption)) (by kernel_rfl) ?_) | (refine wpl_load_one rfl 46 _ rfl rfl (HdAt.c132 (by assumption)) (by kernel_rfl) ?_) | (refine wpl_load_one rfl 46 _ rfl rfl (RtAt.c32 (by assumption)) (by kernel_rfl) ?_) | (refine wpl_load_one rfl 46 _ rfl rfl (RtAt.c33 (by assumption)) (by kernel_rfl) ?_)) | ((with_reducible show wpList _ _ _ (⟨_, Op.load 23 _, _, _, _, _⟩ :: _) _ _); first | (refine wpl_load_hash rfl _ rfl rfl (by assumption) ?_) | (refine wpl_load_elem rfl _ rfl rfl (HdAt.ch (by assumption)) (HdAt.ok (by assumption)).right.hot ?_) | (refine wpl_load_elem rfl _ rfl rfl (RtAt.c0 (by assumption)) (RtAt.ok (by assumption)).hot ?_)) | (refine wpl_load_hd rfl _ rfl rfl (by assumption) ?_) | (refine wpl_load_rt rfl _ rfl rfl (by assumption) ?_) | (refine wpl_load_hdrt rfl _ rfl rfl (by assumption) ?_)) | (with_reducible show wpList _ _ _ (⟨_, Op.box _ _, _, _, _, _⟩ :: _) _ _; clear mF1; refine wpl_box_hd rfl _ rfl rfl HD.out ?_; intro _ g1 hg1 F1 hb; (try have := F1.lt); (try have := F2.lt); (try have := F3.lt); (try have := F4.lt); (try have := F5.lt); (try have := F6.lt); (try have := F7.lt); (try have := F8.lt); (try have := F9.lt); (try have := z.lt); (try have := G1.lt); (try have := G2.lt); (try have := G3.lt); (try have := b.size); (try replace F1 := F1.later hb); (try replace F2 := F2.later hb); (try replace F3 := F3.later hb); (try replace F4 := F4.later hb); (try replace F5 := F5.later hb); (try replace F6 := F6.later hb); (try replace F7 := F7.later hb); (try replace F8 := F8.later hb); (try replace F9 := F9.later hb); (try replace G1 := G1.later hb); (try replace G2 := G2.later hb); (try replace G3 := G3.later hb); (try replace z := z.later hb); (try replace b := later b hb); (try replace bB := mixed hB bB hb); clear hb))
      go_ret
      exact ⟨rfl, b⟩
    · have c2 : ((d.sig.size : Int) == 1120) = false := by simp; omega
      have h3 : R = false := by rw [HR.out, decide_eq_false h2, Bool.and_false]
      subst h3
      clear HR h1 h2
      go_enter Try.func50, Try.ntmps50
      go_wp2_with (first | (with_reducible show wpList _ _ _ (⟨_, Op.load _ _, _, _, _, _⟩ :: _) _ _; first | ((with_reducible show wpList _ _ _ (⟨_, Op.load 9 _, _, _, _, _⟩ :: _) _ _); first | (refine wpl_load_one rfl 9 _ rfl rfl (HdAt.c134 (by assumption)) (by kernel_rfl) ?_) | (refine wpl_load_one rfl 9 _ rfl rfl (HdAt.c135 (by assumption)) (by kernel_rfl) ?_) | (refine wpl_load_one rfl 9 _ rfl rfl (RtAt.c34 (by assumption)) (by kernel_rfl) ?_) | (refine wpl_load_one rfl 9 _ rfl rfl (One.cell (by assumption)) (by kernel_rfl) ?_)) | ((with_reducible show wpList _ _ _ (⟨_, Op.load 46 _, _, _, _, _⟩ :: _) _ _); first | (refine wpl_load_one rfl 46 _ rfl rfl (HdAt.c133 (by assumption)) (by kernel_rfl) ?_) | (refine wpl_load_one rfl 46 _ rfl rfl (HdAt.c132 (by assumption)) (by kernel_rfl) ?_) | (refine wpl_load_one rfl 46 _ rfl rfl (RtAt.c32 (by assumption)) (by kernel_rfl) ?_) | (refine wpl_load_one rfl 46 _ rfl rfl (RtAt.c33 (by assumption)) (by kernel_rfl) ?_)) | ((with_reducible show wpList _ _ _ (⟨_, Op.load 23 _, _, _, _, _⟩ :: _) _ _); first | (refine wpl_load_hash rfl _ rfl rfl (by assumption) ?_) | (refine wpl_load_elem rfl _ rfl rfl (HdAt.ch (by assumption)) (HdAt.ok (by assumption)).right.hot ?_) | (refine wpl_load_elem rfl _ rfl rfl (RtAt.c0 (by assumption)) (RtAt.ok (by assumption)).hot ?_)) | (refine wpl_load_hd rfl _ rfl rfl (by assumption) ?_) | (refine wpl_load_rt rfl _ rfl rfl (by assumption) ?_) | (refine wpl_load_hdrt rfl _ rfl rfl (by assumption) ?_)) | (with_reducible show wpList _ _ _ (⟨_, Op.box _ _, _, _, _, _⟩ :: _) _ _; clear mF1; refine wpl_box_hd rfl _ rfl rfl HD.out ?_; intro _ g1 hg1 F1 hb; (try have := F1.lt); (try have := F2.lt); (try have := F3.lt); (try have := F4.lt); (try have := F5.lt); (try have := F6.lt); (try have := F7.lt); (try have := F8.lt); (try have := F9.lt); (try have := z.lt); (try have := G1.lt); (try have := G2.lt); (try have := G3.lt); (try have := b.size); (try replace F1 := F1.later hb); (try replace F2 := F2.later hb); (try replace F3 := F3.later hb); (try replace F4 := F4.later hb); (try replace F5 := F5.later hb); (try replace F6 := F6.later hb); (try replace F7 := F7.later hb); (try replace F8 := F8.later hb); (try replace F9 := F9.later hb); (try replace G1 := G1.later hb); (try replace G2 := G2.later hb); (try replace G3 := G3.later hb); (try replace z := z.later hb); (try replace b := later b hb); (try replace bB := mixed hB bB hb); clear hb))
      go_ret
      exact ⟨rfl, b⟩
  · have c1 : ((d.right.sig.size : Int) == 1024) = false := by simp; omega
    have h3 : R = false := by rw [HR.out, decide_eq_false h1, Bool.false_and]
    subst h3
    clear HR h1
    go_enter Try.func50, Try.ntmps50
    go_wp2_with (first | (with_reducible show wpList _ _ _ (⟨_, Op.load _ _, _, _, _, _⟩ :: _) _ _; first | ((with_reducible show wpList _ _ _ (⟨_, Op.load 9 _, _, _, _, _⟩ :: _) _ _); first | (refine wpl_load_one rfl 9 _ rfl rfl (HdAt.c134 (by assumption)) (by kernel_rfl) ?_) | (refine wpl_load_one rfl 9 _ rfl rfl (HdAt.c135 (by assumption)) (by kernel_rfl) ?_) | (refine wpl_load_one rfl 9 _ rfl rfl (RtAt.c34 (by assumption)) (by kernel_rfl) ?_) | (refine wpl_load_one rfl 9 _ rfl rfl (One.cell (by assumption)) (by kernel_rfl) ?_)) | ((with_reducible show wpList _ _ _ (⟨_, Op.load 46 _, _, _, _, _⟩ :: _) _ _); first | (refine wpl_load_one rfl 46 _ rfl rfl (HdAt.c133 (by assumption)) (by kernel_rfl) ?_) | (refine wpl_load_one rfl 46 _ rfl rfl (HdAt.c132 (by assumption)) (by kernel_rfl) ?_) | (refine wpl_load_one rfl 46 _ rfl rfl (RtAt.c32 (by assumption)) (by kernel_rfl) ?_) | (refine wpl_load_one rfl 46 _ rfl rfl (RtAt.c33 (by assumption)) (by kernel_rfl) ?_)) | ((with_reducible show wpList _ _ _ (⟨_, Op.load 23 _, _, _, _, _⟩ :: _) _ _); first | (refine wpl_load_hash rfl _ rfl rfl (by assumption) ?_) | (refine wpl_load_elem rfl _ rfl rfl (HdAt.ch (by assumption)) (HdAt.ok (by assumption)).right.hot ?_) | (refine wpl_load_elem rfl _ rfl rfl (RtAt.c0 (by assumption)) (RtAt.ok (by assumption)).hot ?_)) | (refine wpl_load_hd rfl _ rfl rfl (by assumption) ?_) | (refine wpl_load_rt rfl _ rfl rfl (by assumption) ?_) | (refine wpl_load_hdrt rfl _ rfl rfl (by assumption) ?_)) | (with_reducible show wpList _ _ _ (⟨_, Op.box _ _, _, _, _, _⟩ :: _) _ _; clear mF1; refine wpl_box_hd rfl _ rfl rfl HD.out ?_; intro _ g1 hg1 F1 hb; (try have := F1.lt); (try have := F2.lt); (try have := F3.lt); (try have := F4.lt); (try have := F5.lt); (try have := F6.lt); (try have := F7.lt); (try have := F8.lt); (try have := F9.lt); (try have := z.lt); (try have := G1.lt); (try have := G2.lt); (try have := G3.lt); (try have := b.size); (try replace F1 := F1.later hb); (try replace F2 := F2.later hb); (try replace F3 := F3.later hb); (try replace F4 := F4.later hb); (try replace F5 := F5.later hb); (try replace F6 := F6.later hb); (try replace F7 := F7.later hb); (try replace F8 := F8.later hb); (try replace F9 := F9.later hb); (try replace G1 := G1.later hb); (try replace G2 := G2.later hb); (try replace G3 := G3.later hb); (try replace z := z.later hb); (try replace b := later b hb); (try replace bB := mixed hB bB hb); clear hb))
    go_ret
    exact ⟨rfl, b⟩
set_option maxRecDepth 100000 in
set_option maxHeartbeats 3200000 in
theorem refSigned_any (d : Hd) (hd : d.Ok) (hz : d.right.sig.size ≤ 8192) (w : World) :
    Calls Try.prog 93 #[hdV d] w fun e w' => e = .returned (.string ⟨(signedL d).toArray⟩) ∧ Below w.heap.size w w' := by
  have H1 := hide (fun w => refEight_any d.slot w hd.slot)
  have H2 := hide (fun w => refEight_any d.number w hd.number)
  have H3 := hide (fun w => refBytes_any d.prev w hd.prev)
  have H4 := hide (fun w => refBytes_any d.pool w hd.pool)
  have H5 := hide (fun w => refBytes_any d.body w hd.body)
  have H6 := hide (fun w => refEight_any d.size w hd.size)
  have H7 := hide (fun w => refEight_any d.many w hd.many)
  have H8 := hide (fun w => refBytes_any d.right.hot w hd.right.hot)
  have H9 := hide (fun w => refEight_any d.right.counter w hd.right.counter)
  have H0 := hide (fun w => refEight_any d.right.start w hd.right.start)
  have e8 : ∀ n, (⟨(eightL n).toArray⟩ : ByteArray).size = 8 := fun n => by show (eightL n).toArray.size = 8; rw [List.size_toArray, eightL_length]
  have e32 : ∀ l : List UInt8, l.length = 32 → (⟨l.toArray⟩ : ByteArray).size = 32 := fun l h => by show l.toArray.size = 32; rw [List.size_toArray, h]
  have z1 := e8 d.slot
  have z2 := e8 d.number
  have z3 := e32 _ hd.prev
  have z4 := e32 _ hd.pool
  have z5 := e32 _ hd.body
  have z6 := e8 d.size
  have z7 := e8 d.many
  have z8 := e32 _ hd.right.hot
  have z9 := e8 d.right.counter
  have z0 := e8 d.right.start
  have HE : Hid ((⟨(signedL d).toArray⟩ : ByteArray) = (((((⟨(eightL d.slot).toArray⟩ ++ ⟨(eightL d.number).toArray⟩) ++ ((⟨d.prev.toArray⟩ ++ ⟨d.pool.toArray⟩) ++ ⟨d.body.toArray⟩)) ++ ⟨(eightL d.size).toArray⟩) ++ ⟨(eightL d.many).toArray⟩) ++ (((⟨d.right.hot.toArray⟩ ++ ⟨(eightL d.right.counter).toArray⟩) ++ ⟨(eightL d.right.start).toArray⟩) ++ d.right.sig) : ByteArray)) := by
    apply ByteArray.ext; unfold signedL; simp
  rw [HE.out]
  have HD := hide hd
  have b := Below.refl w.heap.size w
  clear hd HE e8 e32
  generalize (⟨(eightL d.slot).toArray⟩ : ByteArray) = s1 at *
  generalize (⟨(eightL d.number).toArray⟩ : ByteArray) = s2 at *
  generalize (⟨d.prev.toArray⟩ : ByteArray) = s3 at *
  generalize (⟨d.pool.toArray⟩ : ByteArray) = s4 at *
  generalize (⟨d.body.toArray⟩ : ByteArray) = s5 at *
  generalize (⟨(eightL d.size).toArray⟩ : ByteArray) = s6 at *
  generalize (⟨(eightL d.many).toArray⟩ : ByteArray) = s7 at *
  generalize (⟨d.right.hot.toArray⟩ : ByteArray) = s8 at *
  generalize (⟨(eightL d.right.counter).toArray⟩ : ByteArray) = s9 at *
  generalize (⟨(eightL d.right.start).toArray⟩ : ByteArray) = s0 at *
  have y1 : ¬ 9223372036854775807 < s1.size + s2.size := by omega
  have y2 : ¬ 9223372036854775807 < s3.size + s4.size := by omega
  have y3 : ¬ 9223372036854775807 < (s3 ++ s4).size + s5.size := by simp only [ByteArray.size_append]; omega
  have y4 : ¬ 9223372036854775807 < s8.size + s9.size := by omega
  have y5 : ¬ 9223372036854775807 < (s8 ++ s9).size + s0.size := by simp only [ByteArray.size_append]; omega
  have y6 : ¬ 9223372036854775807 < (s8 ++ s9 ++ s0).size + d.right.sig.size := by simp only [ByteArray.size_append]; omega
  have y7 : ¬ 9223372036854775807 < (s1 ++ s2).size + (s3 ++ s4 ++ s5).size := by simp only [ByteArray.size_append]; omega
  have y8 : ¬ 9223372036854775807 < (s1 ++ s2 ++ (s3 ++ s4 ++ s5)).size + s6.size := by simp only [ByteArray.size_append]; omega
  have y9 : ¬ 9223372036854775807 < (s1 ++ s2 ++ (s3 ++ s4 ++ s5) ++ s6).size + s7.size := by simp only [ByteArray.size_append]; omega
  have y0 : ¬ 9223372036854775807 < (s1 ++ s2 ++ (s3 ++ s4 ++ s5) ++ s6 ++ s7).size + (s8 ++ s9 ++ s0 ++ d.right.sig).size := by simp only [ByteArray.size_append]; omega
  clear z1 z2 z3 z4 z5 z6 z7 z8 z9 z0 hz
  have mF1 := True.intro
  go_enter Try.func93, Try.ntmps93
  go_wp2_with (first | (with_reducible show wpList _ _ _ (⟨_, Op.box _ _, _, _, _, _⟩ :: _) _ _; clear mF1; refine wpl_box_hd rfl _ rfl rfl HD.out ?_; intro _ g1 hg1 F1 hb; (try have := F1.lt); (try have := F2.lt); (try have := F3.lt); (try have := F4.lt); (try have := F5.lt); (try have := F6.lt); (try have := F7.lt); (try have := F8.lt); (try have := F9.lt); (try have := z.lt); (try have := G1.lt); (try have := G2.lt); (try have := G3.lt); (try have := b.size); (try replace F1 := F1.later hb); (try replace F2 := F2.later hb); (try replace F3 := F3.later hb); (try replace F4 := F4.later hb); (try replace F5 := F5.later hb); (try replace F6 := F6.later hb); (try replace F7 := F7.later hb); (try replace F8 := F8.later hb); (try replace F9 := F9.later hb); (try replace G1 := G1.later hb); (try replace G2 := G2.later hb); (try replace G3 := G3.later hb); (try replace z := z.later hb); (try replace b := later b hb); (try replace bB := mixed hB bB hb); clear hb) | (with_reducible show Code.wp _ (Code.region _ _ true) _ _ _; (try simp only [Act.put, List.setIfInBounds_toArray, List.set_cons_succ, List.set_cons_zero]); refine region_since (by kernel_rfl) (by kernel_rfl) ?_; (repeat (first | go_big_quiet_skip | (go_big_quiet_want; first | ((with_reducible show Oper.quiet _ ⟨_, Op.load _ _, _, _, _, _⟩ _ _ _); first | ((with_reducible show Oper.quiet _ ⟨_, Op.load 9 _, _, _, _, _⟩ _ _ _); (first | (refine since_load_one 9 _ rfl rfl (HdAt.c134 (by assumption)) (by kernel_rfl) ?_) | (refine since_load_one 9 _ rfl rfl (HdAt.c135 (by assumption)) (by kernel_rfl) ?_) | (refine since_load_one 9 _ rfl rfl (RtAt.c34 (by assumption)) (by kernel_rfl) ?_) | (refine since_load_one 9 _ rfl rfl (One.cell (by assumption)) (by kernel_rfl) ?_)); simp only [Act.put, List.setIfInBounds_toArray, List.set_cons_succ, List.set_cons_zero]; go_big_quiet_on) | ((with_reducible show Oper.quiet _ ⟨_, Op.load 46 _, _, _, _, _⟩ _ _ _); (first | (refine since_load_one 46 _ rfl rfl (HdAt.c0 (by assumption)) (by kernel_rfl) ?_) | (refine since_load_one 46 _ rfl rfl (HdAt.c1 (by assumption)) (by kernel_rfl) ?_) | (refine since_load_one 46 _ rfl rfl (HdAt.c98 (by assumption)) (by kernel_rfl) ?_) | (refine since_load_one 46 _ rfl rfl (HdAt.c99 (by assumption)) (by kernel_rfl) ?_) | (refine since_load_one 46 _ rfl rfl (HdAt.c132 (by assumption)) (by kernel_rfl) ?_) | (refine since_load_one 46 _ rfl rfl (HdAt.c133 (by assumption)) (by kernel_rfl) ?_) | (refine since_load_one 46 _ rfl rfl (RtAt.c32 (by assumption)) (by kernel_rfl) ?_) | (refine since_load_one 46 _ rfl rfl (RtAt.c33 (by assumption)) (by kernel_rfl) ?_)); simp only [Act.put, List.setIfInBounds_toArray, List.set_cons_succ, List.set_cons_zero]; go_big_quiet_on) | ((with_reducible show Oper.quiet _ ⟨_, Op.load 23 _, _, _, _, _⟩ _ _ _); first | (refine quiet_load_hash _ rfl rfl (by assumption) ?_; simp only [Act.put, List.setIfInBounds_toArray, List.set_cons_succ, List.set_cons_zero]; go_big_quiet_on) | ((first | (refine since_load_elem _ rfl rfl (HdAt.c2 (by assumption)) (HdAt.ok (by assumption)).prev ?_) | (refine since_load_elem _ rfl rfl (HdAt.c34 (by assumption)) (HdAt.ok (by assumption)).pool ?_) | (refine since_load_elem _ rfl rfl (HdAt.c66 (by assumption)) (HdAt.ok (by assumption)).body ?_) | (refine since_load_elem _ rfl rfl (HdAt.ch (by assumption)) (HdAt.ok (by assumption)).right.hot ?_) | (refine since_load_elem _ rfl rfl (RtAt.c0 (by assumption)) (RtAt.ok (by assumption)).hot ?_)); simp only [Act.put, List.setIfInBounds_toArray, List.set_cons_succ, List.set_cons_zero]; go_big_quiet_on)) | (refine since_load_hd _ rfl rfl (by assumption) ?_; simp only [Act.put, List.setIfInBounds_toArray, List.set_cons_succ, List.set_cons_zero]; go_big_quiet_on) | (refine since_load_rt _ rfl rfl (by assumption) ?_; simp only [Act.put, List.setIfInBounds_toArray, List.set_cons_succ, List.set_cons_zero]; go_big_quiet_on) | (refine since_load_hdrt _ rfl rfl (by assumption) ?_; simp only [Act.put, List.setIfInBounds_toArray, List.set_cons_succ, List.set_cons_zero]; go_big_quiet_on)) | (go_big_quiet_op; first | go_big_quiet_on | (first | (refine ⟨_, fun _ => since_of (H1.out _), ?_⟩; go_big_quiet_on) | (refine ⟨_, fun _ => since_of (H2.out _), ?_⟩; go_big_quiet_on) | (refine ⟨_, fun _ => since_of (H3.out _), ?_⟩; go_big_quiet_on) | (refine ⟨_, fun _ => since_of (H4.out _), ?_⟩; go_big_quiet_on) | (refine ⟨_, fun _ => since_of (H5.out _), ?_⟩; go_big_quiet_on) | (refine ⟨_, fun _ => since_of (H6.out _), ?_⟩; go_big_quiet_on) | (refine ⟨_, fun _ => since_of (H7.out _), ?_⟩; go_big_quiet_on) | (refine ⟨_, fun _ => since_of (H8.out _), ?_⟩; go_big_quiet_on) | (refine ⟨_, fun _ => since_of (H9.out _), ?_⟩; go_big_quiet_on) | (refine ⟨_, fun _ => since_of (H0.out _), ?_⟩; go_big_quiet_on)))))); refine wpQuiet_nil ?_; intro _ hq; (try replace F1 := F1.later hq); (try replace F2 := F2.later hq); (try replace F3 := F3.later hq); (try replace F4 := F4.later hq); (try replace F5 := F5.later hq); (try replace F6 := F6.later hq); (try replace F7 := F7.later hq); (try replace F8 := F8.later hq); (try replace F9 := F9.later hq); (try replace G1 := G1.later hq); (try replace G2 := G2.later hq); (try replace G3 := G3.later hq); (try replace z := z.later hq); (try replace b := later b hq); (try replace bB := mixed hB bB hq); clear hq))
  go_ret
  exact ⟨rfl, b⟩
set_option maxRecDepth 100000 in
set_option maxHeartbeats 1600000 in
theorem refText14_any (d : Hd) (hd : d.Ok) (hz : d.right.sig.size ≤ 8192) (w : World) :
    Calls Try.prog 91 #[hdV d] w fun e w' => e = .returned (hv (textL d)) ∧ Below w.heap.size w w' := by
  obtain ⟨R, hR⟩ : ∃ R, R = textL d := ⟨_, rfl⟩
  have HO : Hid (∀ w, Calls Try.prog 59 #[.string ⟨#[115, 105, 103, 110]⟩, .string ⟨(signedL d).toArray⟩] w fun e w' => e = .returned (hv R) ∧ Below w.heap.size w w') := fun w => by
    rw [hR]; exact refOne_any tagSign _ w (by decide) (by rw [signedL_length hd]; omega)
  have HS := hide (fun w => refSigned_any d hd hz w)
  have HL : Hid (R.length = 32) := by rw [hR]; exact textL_length _
  rw [← hR]
  have HD := hide hd
  have b := Below.refl w.heap.size w
  clear hR hd hz
  generalize (⟨(signedL d).toArray⟩ : ByteArray) = xb at *
  have mF1 := True.intro
  have mF2 := True.intro
  go_enter Try.func91, Try.ntmps91
  go_wp2_with (first | (with_reducible show wpList _ _ _ (⟨_, Op.load _ _, _, _, _, _⟩ :: _) _ _; first | ((with_reducible show wpList _ _ _ (⟨_, Op.load 9 _, _, _, _, _⟩ :: _) _ _); first | (refine wpl_load_one rfl 9 _ rfl rfl (HdAt.c134 (by assumption)) (by kernel_rfl) ?_) | (refine wpl_load_one rfl 9 _ rfl rfl (HdAt.c135 (by assumption)) (by kernel_rfl) ?_) | (refine wpl_load_one rfl 9 _ rfl rfl (RtAt.c34 (by assumption)) (by kernel_rfl) ?_) | (refine wpl_load_one rfl 9 _ rfl rfl (One.cell (by assumption)) (by kernel_rfl) ?_)) | ((with_reducible show wpList _ _ _ (⟨_, Op.load 46 _, _, _, _, _⟩ :: _) _ _); first | (refine wpl_load_one rfl 46 _ rfl rfl (HdAt.c133 (by assumption)) (by kernel_rfl) ?_) | (refine wpl_load_one rfl 46 _ rfl rfl (HdAt.c132 (by assumption)) (by kernel_rfl) ?_) | (refine wpl_load_one rfl 46 _ rfl rfl (RtAt.c32 (by assumption)) (by kernel_rfl) ?_) | (refine wpl_load_one rfl 46 _ rfl rfl (RtAt.c33 (by assumption)) (by kernel_rfl) ?_)) | ((with_reducible show wpList _ _ _ (⟨_, Op.load 23 _, _, _, _, _⟩ :: _) _ _); first | (refine wpl_load_hash rfl _ rfl rfl (by assumption) ?_) | (refine wpl_load_elem rfl _ rfl rfl (HdAt.ch (by assumption)) (HdAt.ok (by assumption)).right.hot ?_) | (refine wpl_load_elem rfl _ rfl rfl (RtAt.c0 (by assumption)) (RtAt.ok (by assumption)).hot ?_)) | (refine wpl_load_hd rfl _ rfl rfl (by assumption) ?_) | (refine wpl_load_rt rfl _ rfl rfl (by assumption) ?_) | (refine wpl_load_hdrt rfl _ rfl rfl (by assumption) ?_)) | (with_reducible show wpList _ _ _ (⟨_, Op.box _ _, _, _, _, _⟩ :: _) _ _; clear mF1; refine wpl_box_hd rfl _ rfl rfl HD.out ?_; intro _ g1 hg1 F1 hb; (try have := F1.lt); (try have := F2.lt); (try have := F3.lt); (try have := F4.lt); (try have := F5.lt); (try have := F6.lt); (try have := F7.lt); (try have := F8.lt); (try have := F9.lt); (try have := z.lt); (try have := G1.lt); (try have := G2.lt); (try have := G3.lt); (try have := b.size); (try replace F1 := F1.later hb); (try replace F2 := F2.later hb); (try replace F3 := F3.later hb); (try replace F4 := F4.later hb); (try replace F5 := F5.later hb); (try replace F6 := F6.later hb); (try replace F7 := F7.later hb); (try replace F8 := F8.later hb); (try replace F9 := F9.later hb); (try replace G1 := G1.later hb); (try replace G2 := G2.later hb); (try replace G3 := G3.later hb); (try replace z := z.later hb); (try replace b := later b hb); (try replace bB := mixed hB bB hb); clear hb) | (with_reducible show wpList _ _ _ (⟨_, Op.alloc _, _, _, _, _⟩ :: _) _ _; clear mF2; refine wpl_mk_hash rfl rfl ?_; intro _ g2 hg2 F2 hb; (try have := F1.lt); (try have := F2.lt); (try have := F3.lt); (try have := F4.lt); (try have := F5.lt); (try have := F6.lt); (try have := F7.lt); (try have := F8.lt); (try have := F9.lt); (try have := z.lt); (try have := G1.lt); (try have := G2.lt); (try have := G3.lt); (try have := b.size); (try replace F1 := F1.later hb); (try replace F2 := F2.later hb); (try replace F3 := F3.later hb); (try replace F4 := F4.later hb); (try replace F5 := F5.later hb); (try replace F6 := F6.later hb); (try replace F7 := F7.later hb); (try replace F8 := F8.later hb); (try replace F9 := F9.later hb); (try replace G1 := G1.later hb); (try replace G2 := G2.later hb); (try replace G3 := G3.later hb); (try replace z := z.later hb); (try replace b := later b hb); (try replace bB := mixed hB bB hb); clear hb) | (go_at_call 93; refine (HS.out _).mono ?_; rintro _ _ ⟨rfl, hc⟩; (try replace F1 := F1.later hc); (try replace F2 := F2.later hc); (try replace F3 := F3.later hc); (try replace F4 := F4.later hc); (try replace F5 := F5.later hc); (try replace F6 := F6.later hc); (try replace F7 := F7.later hc); (try replace F8 := F8.later hc); (try replace F9 := F9.later hc); (try replace G1 := G1.later hc); (try replace G2 := G2.later hc); (try replace G3 := G3.later hc); (try replace z := z.later hc); (try replace b := later b hc); (try replace bB := mixed hB bB hc); clear hc) | (go_at_call 59; refine (HO.out _).mono ?_; rintro _ _ ⟨rfl, hc⟩; (try replace F1 := F1.later hc); (try replace F2 := F2.later hc); (try replace F3 := F3.later hc); (try replace F4 := F4.later hc); (try replace F5 := F5.later hc); (try replace F6 := F6.later hc); (try replace F7 := F7.later hc); (try replace F8 := F8.later hc); (try replace F9 := F9.later hc); (try replace G1 := G1.later hc); (try replace G2 := G2.later hc); (try replace G3 := G3.later hc); (try replace z := z.later hc); (try replace b := later b hc); (try replace bB := mixed hB bB hc); clear hc) | (with_reducible show wpList _ _ _ (⟨_, Op.store _ _ _, _, _, _, _⟩ :: _) _ _; refine wpl_set_hash rfl _ _ rfl rfl rfl HL.out F2 ?_; intro _ t1 ht; (try replace F1 := F1.tt ht); (try replace F2 := F2.tt ht); (try replace F3 := F3.tt ht); (try replace F4 := F4.tt ht); (try replace F5 := F5.tt ht); (try replace F6 := F6.tt ht); (try replace F7 := F7.tt ht); (try replace F8 := F8.tt ht); (try replace F9 := F9.tt ht); (try replace G1 := G1.tt ht); (try replace G2 := G2.tt ht); (try replace G3 := G3.tt ht); (try replace z := z.tt ht); (try replace b := below_touch b ht (by omega) (by omega)); (try replace bB := below_touch bB ht (by omega) hB); replace F2 := t1; clear ht) | (with_reducible show bodyPost _ _ _ _ _ _; exact bodyPost_ret (ret_hash rfl _ _ rfl (by assumption)) rfl ⟨rfl, by assumption⟩))
end Go.Proofs.Ytofjjpielkfloaa
