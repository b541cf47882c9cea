/- The reference of layer 14: May, Signed, Text, Put, Id. -/
import Derived.Test.YtbbfnpfkbbpjgaaGreatQCHd7
namespace Go.Proofs.YtbbfnpfkbbpjgaaGreat
open Go.RowKit Go.Lib
set_option linter.unusedVariables false
set_option linter.unusedSimpArgs false
set_option maxRecDepth 100000
set_option maxHeartbeats 4000000
theorem j1k (d : Hd) (hd : d.Ok) (w : World) :
  Calls Tryz.prog 79 #[hdV d] w fun e w' => e = .returned (.bool (mayH d)) ∧ Below w.heap.size w w' := by
 obtain ⟨R, hR⟩ : ∃ R, R = mayH d := ⟨_, rfl⟩
 rw [← hR]
 have HR := hide hR
 have b := Below.refl w.heap.size w
 have HD := hide hd
 unfold mayH at HR
 clear hR hd
 have mF1 := True.intro
 by_cases h1 : d.right.sig.size = 1024
 ·have c1 : ((d.right.sig.size : Int) == 1024) = true := by simp [h1]
  by_cases h2 : d.sig.size = 1120
  ·have c2 : ((d.sig.size : Int) == 1120) = true := by simp [h2]
   have h3 : R = true := by rw [HR.out, h1, h2]; rfl
   subst h3
   clear HR h1 h2
   go_enter Tryz.func79, Tryz.ntmps79
   go_wp2_with (first | (with_reducible refine w0g ?_; first | ((with_reducible refine w1g ?_); first | (refine q0a rfl 9 _ rfl rfl (HdAt.c134 (by assumption)) (by kernel_rfl) ?_) | (refine q0a rfl 9 _ rfl rfl (HdAt.c135 (by assumption)) (by kernel_rfl) ?_))) | (with_reducible refine w2g ?_; clear mF1; refine q2r rfl _ rfl rfl HD.out ?_; intro _ g1 hg1 F1 hb; (try have := F1.lt); (try have := b.size); (try replace b := later b hb); clear hb))
   go_ret
   exact ⟨rfl, b⟩
  ·have c2 : ((d.sig.size : Int) == 1120) = false := by simp; omega
   have h3 : R = false := by rw [HR.out, decide_eq_false h2, Bool.and_false]
   subst h3
   clear HR h1 h2
   go_enter Tryz.func79, Tryz.ntmps79
   go_wp2_with (first | (with_reducible refine w0g ?_; first | ((with_reducible refine w1g ?_); first | (refine q0a rfl 9 _ rfl rfl (HdAt.c134 (by assumption)) (by kernel_rfl) ?_) | (refine q0a rfl 9 _ rfl rfl (HdAt.c135 (by assumption)) (by kernel_rfl) ?_))) | (with_reducible refine w2g ?_; clear mF1; refine q2r rfl _ rfl rfl HD.out ?_; intro _ g1 hg1 F1 hb; (try have := F1.lt); (try have := b.size); (try replace b := later b hb); clear hb))
   go_ret
   exact ⟨rfl, b⟩
 ·have c1 : ((d.right.sig.size : Int) == 1024) = false := by simp; omega
  have h3 : R = false := by rw [HR.out, decide_eq_false h1, Bool.false_and]
  subst h3
  clear HR h1
  go_enter Tryz.func79, Tryz.ntmps79
  go_wp2_with (first | (with_reducible refine w0g ?_; first | ((with_reducible refine w1g ?_); first | (refine q0a rfl 9 _ rfl rfl (HdAt.c134 (by assumption)) (by kernel_rfl) ?_))) | (with_reducible refine w2g ?_; clear mF1; refine q2r rfl _ rfl rfl HD.out ?_; intro _ g1 hg1 F1 hb; (try have := F1.lt); (try have := b.size); (try replace b := later b hb); clear hb))
  go_ret
  exact ⟨rfl, b⟩
theorem j0c (d : Hd) (hd : d.Ok) (hz : d.right.sig.size ≤ 8192) (w : World) :
  Calls Tryz.prog 151 #[hdV d] w fun e w' => e = .returned (.string ⟨(signedL d).toArray⟩) ∧ Below w.heap.size w w' := by
 have H1 := hide (fun w => q3f d.slot w hd.slot)
 have H2 := hide (fun w => q3f d.number w hd.number)
 have H3 := hide (fun w => q1q d.prev w hd.prev)
 have H4 := hide (fun w => q1q d.pool w hd.pool)
 have H5 := hide (fun w => q1q d.body w hd.body)
 have H6 := hide (fun w => q3f d.size w hd.size)
 have H7 := hide (fun w => q3f d.many w hd.many)
 have H8 := hide (fun w => q1q d.right.hot w hd.right.hot)
 have H9 := hide (fun w => q3f d.right.counter w hd.right.counter)
 have H0 := hide (fun w => q3f d.right.start w hd.right.start)
 have e8 : ∀ n, (⟨(eightL n).toArray⟩ : ByteArray).size = 8 := fun n => by show (eightL n).toArray.size = 8; rw [List.size_toArray, q0p]
 have e32 : ∀ l : List UInt8, l.length = 32 → (⟨l.toArray⟩ : ByteArray).size = 32 := fun l h => by show l.toArray.size = 32; rw [List.size_toArray, h]
 have z1 := e8 d.slot
 have z2 := e8 d.number
 have z3 := e32 _ hd.prev
 have z4 := e32 _ hd.pool
 have z5 := e32 _ hd.body
 have z6 := e8 d.size
 have z7 := e8 d.many
 have z8 := e32 _ hd.right.hot
 have z9 := e8 d.right.counter
 have z0 := e8 d.right.start
 have HE : Hid ((⟨(signedL d).toArray⟩ : ByteArray) = (((((⟨(eightL d.slot).toArray⟩ ++ ⟨(eightL d.number).toArray⟩) ++ ((⟨d.prev.toArray⟩ ++ ⟨d.pool.toArray⟩) ++ ⟨d.body.toArray⟩)) ++ ⟨(eightL d.size).toArray⟩) ++ ⟨(eightL d.many).toArray⟩) ++ (((⟨d.right.hot.toArray⟩ ++ ⟨(eightL d.right.counter).toArray⟩) ++ ⟨(eightL d.right.start).toArray⟩) ++ d.right.sig) : ByteArray)) := by
  apply ByteArray.ext; unfold signedL; simp
 rw [HE.out]
 have HD := hide hd
 have b := Below.refl w.heap.size w
 clear hd HE e8 e32
 generalize (⟨(eightL d.slot).toArray⟩ : ByteArray) = s1 at *
 generalize (⟨(eightL d.number).toArray⟩ : ByteArray) = s2 at *
 generalize (⟨d.prev.toArray⟩ : ByteArray) = s3 at *
 generalize (⟨d.pool.toArray⟩ : ByteArray) = s4 at *
 generalize (⟨d.body.toArray⟩ : ByteArray) = s5 at *
 generalize (⟨(eightL d.size).toArray⟩ : ByteArray) = s6 at *
 generalize (⟨(eightL d.many).toArray⟩ : ByteArray) = s7 at *
 generalize (⟨d.right.hot.toArray⟩ : ByteArray) = s8 at *
 generalize (⟨(eightL d.right.counter).toArray⟩ : ByteArray) = s9 at *
 generalize (⟨(eightL d.right.start).toArray⟩ : ByteArray) = s0 at *
 have y1 : ¬ 9223372036854775807 < s1.size + s2.size := by omega
 have y2 : ¬ 9223372036854775807 < s3.size + s4.size := by omega
 have y3 : ¬ 9223372036854775807 < (s3 ++ s4).size + s5.size := by simp only [ByteArray.size_append]; omega
 have y4 : ¬ 9223372036854775807 < s8.size + s9.size := by omega
 have y5 : ¬ 9223372036854775807 < (s8 ++ s9).size + s0.size := by simp only [ByteArray.size_append]; omega
 have y6 : ¬ 9223372036854775807 < (s8 ++ s9 ++ s0).size + d.right.sig.size := by simp only [ByteArray.size_append]; omega
 have y7 : ¬ 9223372036854775807 < (s1 ++ s2).size + (s3 ++ s4 ++ s5).size := by simp only [ByteArray.size_append]; omega
 have y8 : ¬ 9223372036854775807 < (s1 ++ s2 ++ (s3 ++ s4 ++ s5)).size + s6.size := by simp only [ByteArray.size_append]; omega
 have y9 : ¬ 9223372036854775807 < (s1 ++ s2 ++ (s3 ++ s4 ++ s5) ++ s6).size + s7.size := by simp only [ByteArray.size_append]; omega
 have y0 : ¬ 9223372036854775807 < (s1 ++ s2 ++ (s3 ++ s4 ++ s5) ++ s6 ++ s7).size + (s8 ++ s9 ++ s0 ++ d.right.sig).size := by simp only [ByteArray.size_append]; omega
 clear z1 z2 z3 z4 z5 z6 z7 z8 z9 z0 hz
 have mF1 := True.intro
 go_enter Tryz.func151, Tryz.ntmps151
 go_wp2_with (first | (with_reducible refine w2g ?_; clear mF1; refine q2r rfl _ rfl rfl HD.out ?_; intro _ g1 hg1 F1 hb; (try have := F1.lt); (try have := b.size); (try replace b := later b hb); clear hb) | (with_reducible show Code.wp _ (Code.region _ _ true) _ _ _; refine q0e (by kernel_rfl) (by kernel_rfl) ?_; (repeat ((go_big_quiet_want; first | ((with_reducible refine w22g ?_); first | ((with_reducible refine w25g ?_); ((refine q0c 9 _ rfl rfl (HdAt.c134 (by assumption)) (by kernel_rfl) ?_)); simp only [pS]; go_big_quiet_on) | ((with_reducible refine w23g ?_); (first | (refine q0c 24 _ rfl rfl (HdAt.c0 (by assumption)) (by kernel_rfl) ?_) | (refine q0c 24 _ rfl rfl (HdAt.c1 (by assumption)) (by kernel_rfl) ?_) | (refine q0c 24 _ rfl rfl (HdAt.c98 (by assumption)) (by kernel_rfl) ?_) | (refine q0c 24 _ rfl rfl (HdAt.c99 (by assumption)) (by kernel_rfl) ?_) | (refine q0c 24 _ rfl rfl (HdAt.c132 (by assumption)) (by kernel_rfl) ?_) | (refine q0c 24 _ rfl rfl (HdAt.c133 (by assumption)) (by kernel_rfl) ?_)); simp only [pS]; go_big_quiet_on) | ((with_reducible refine w24g ?_); first | ((first | (refine q0l _ rfl rfl (HdAt.c2 (by assumption)) (HdAt.ok (by assumption)).prev ?_) | (refine q0l _ rfl rfl (HdAt.c34 (by assumption)) (HdAt.ok (by assumption)).pool ?_) | (refine q0l _ rfl rfl (HdAt.c66 (by assumption)) (HdAt.ok (by assumption)).body ?_) | (refine q0l _ rfl rfl (HdAt.ch (by assumption)) (HdAt.ok (by assumption)).right.hot ?_)); simp only [pS]; go_big_quiet_on))) | (go_big_quiet_op; first | go_big_quiet_on | (first | (refine ⟨_, fun _ => q0f (H1.out _), ?_⟩; go_big_quiet_on) | (refine ⟨_, fun _ => q0f (H2.out _), ?_⟩; go_big_quiet_on) | (refine ⟨_, fun _ => q0f (H3.out _), ?_⟩; go_big_quiet_on) | (refine ⟨_, fun _ => q0f (H4.out _), ?_⟩; go_big_quiet_on) | (refine ⟨_, fun _ => q0f (H5.out _), ?_⟩; go_big_quiet_on) | (refine ⟨_, fun _ => q0f (H6.out _), ?_⟩; go_big_quiet_on) | (refine ⟨_, fun _ => q0f (H7.out _), ?_⟩; go_big_quiet_on) | (refine ⟨_, fun _ => q0f (H8.out _), ?_⟩; go_big_quiet_on) | (refine ⟨_, fun _ => q0f (H9.out _), ?_⟩; go_big_quiet_on) | (refine ⟨_, fun _ => q0f (H0.out _), ?_⟩; go_big_quiet_on)))))); refine wpQuiet_nil ?_; intro _ hq; (try replace F1 := F1.later hq); (try replace b := later b hq); clear hq))
 go_ret
 exact ⟨rfl, b⟩
theorem j7z (d : Hd) (hd : d.Ok) (w : World) :
  Calls Tryz.prog 81 #[hdV d] w fun e w' => e = .returned (.tuple #[.string ⟨(putHR d).1.toArray⟩, .int .i64 (putHR d).2]) ∧ Below w.heap.size w w' := by
 have HM := hide (fun w => j1k d hd w)
 have HD := hide hd
 have b := Below.refl w.heap.size w
 unfold putHR
 by_cases hm : mayH d = true
 ·obtain ⟨z1, z2⟩ := j3q hm
  have HS := hide (fun w => j0c d hd (by omega) w)
  have e : (⟨(putH d).toArray⟩ : ByteArray) = (⟨(signedL d).toArray⟩ : ByteArray) ++ d.sig := by
   apply ByteArray.ext; unfold putH; simp
  have c1 : ¬ 9223372036854775807 < (⟨(signedL d).toArray⟩ : ByteArray).size + d.sig.size := by
   show ¬ _ < (signedL d).length + _
   rw [q4n hd]; omega
  rw [hm] at HM
  rw [if_pos hm, e]
  clear hm hd z1 z2 e
  generalize (⟨(signedL d).toArray⟩ : ByteArray) = xb at *
  have mF1 := True.intro
  go_enter Tryz.func81, Tryz.ntmps81
  go_wp2_with (first | (with_reducible refine w0g ?_; first | (refine q3z rfl _ rfl rfl (by assumption) ?_)) | (with_reducible refine w2g ?_; clear mF1; refine q2r rfl _ rfl rfl HD.out ?_; intro _ g1 hg1 F1 hb; (try have := F1.lt); (try have := b.size); (try replace b := later b hb); clear hb) | (go_at_call 79; refine (HM.out _).mono ?_; rintro _ _ ⟨rfl, hc⟩; (try replace F1 := F1.later hc); (try replace b := later b hc); clear hc) | (with_reducible show Code.wp _ (Code.region _ _ true) _ _ _; refine q0e (by kernel_rfl) (by kernel_rfl) ?_; (repeat ((go_big_quiet_want; first | ((with_reducible refine w22g ?_); first | ((with_reducible refine w25g ?_); ((refine q0c 9 _ rfl rfl (HdAt.c135 (by assumption)) (by kernel_rfl) ?_)); simp only [pS]; go_big_quiet_on) | (refine q7n _ rfl rfl (by assumption) ?_; simp only [pS]; go_big_quiet_on)) | (go_big_quiet_op; first | go_big_quiet_on | (refine ⟨_, fun _ => q0f (HS.out _), ?_⟩; go_big_quiet_on))))); refine wpQuiet_nil ?_; intro _ hq; (try replace F1 := F1.later hq); (try replace b := later b hq); clear hq))
  go_ret2
  exact ⟨rfl, b⟩
 ·have hm' : mayH d = false := by simpa using hm
  rw [hm'] at HM
  rw [if_neg hm]
  clear hm hm' hd
  have mF1 := True.intro
  go_enter Tryz.func81, Tryz.ntmps81
  go_wp2_with (first | (with_reducible refine w0g ?_; first | (refine q3z rfl _ rfl rfl (by assumption) ?_)) | (with_reducible refine w2g ?_; clear mF1; refine q2r rfl _ rfl rfl HD.out ?_; intro _ g1 hg1 F1 hb; (try have := F1.lt); (try have := b.size); (try replace b := later b hb); clear hb) | (go_at_call 79; refine (HM.out _).mono ?_; rintro _ _ ⟨rfl, hc⟩; (try replace F1 := F1.later hc); (try replace b := later b hc); clear hc))
  go_ret2
  exact ⟨rfl, b⟩
theorem x0e (d : Hd) (hd : d.Ok) (hm : mayH d = true) (w : World) :
  Calls Tryz.prog 80 #[hdV d] w fun e w' => e = .returned (hv (idH d).1) ∧ Below w.heap.size w w' := by
 have hid : (idH d).1 = ofX tagHead [putH d] := by unfold idH; rw [if_pos hm]
 rw [hid]
 obtain ⟨z1, z2⟩ := j3q hm
 obtain ⟨R, hR⟩ : ∃ R, R = ofX tagHead [putH d] := ⟨_, rfl⟩
 have HL : Hid (R.length = 32) := by rw [hR]; exact q1h _ _
 have e : (⟨(putH d).toArray⟩ : ByteArray) = (⟨(signedL d).toArray⟩ : ByteArray) ++ d.sig := by
  apply ByteArray.ext; unfold putH; simp
 have HO : Hid (∀ w, Calls Tryz.prog 57 #[.string ⟨#[104, 101, 97, 100]⟩, .string ((⟨(signedL d).toArray⟩ : ByteArray) ++ d.sig)] w fun e w' => e = .returned (hv R) ∧ Below w.heap.size w w') := fun w => by
  rw [hR, ← e]; exact j0w tagHead _ w (by decide) (by rw [q4r hd hm]; decide)
 have HS := hide (fun w => j0c d hd (by omega) w)
 have c1 : ¬ 9223372036854775807 < (⟨(signedL d).toArray⟩ : ByteArray).size + d.sig.size := by
  show ¬ _ < (signedL d).length + _
  rw [q4n hd]; omega
 rw [← hR]
 have HD := hide hd
 have b := Below.refl w.heap.size w
 clear hR hd hm hid z1 z2 e
 generalize (⟨(signedL d).toArray⟩ : ByteArray) = xb at *
 have mF1 := True.intro
 have mF2 := True.intro
 go_enter Tryz.func80, Tryz.ntmps80
 go_wp2_with (first | (with_reducible refine w2g ?_; clear mF1; refine q2r rfl _ rfl rfl HD.out ?_; intro _ g1 hg1 F1 hb; (try have := F1.lt); (try have := F2.lt); (try have := b.size); (try replace b := later b hb); clear hb) | (with_reducible refine w3g ?_; clear mF2; refine q0j rfl rfl ?_; intro _ g2 hg2 F2 hb; (try have := F1.lt); (try have := F2.lt); (try have := b.size); (try replace F1 := F1.later hb); (try replace b := later b hb); clear hb) | (with_reducible show Code.wp _ (Code.region _ _ true) _ _ _; (try simp only [pS]); refine q0n 6 (by kernel_rfl) (by kernel_rfl) ?_; simp only [List.take_succ_cons, List.take_zero]; (repeat ((go_big_quiet_want; first | ((with_reducible refine w22g ?_); first | ((with_reducible refine w25g ?_); ((refine q0c 9 _ rfl rfl (HdAt.c135 (by assumption)) (by kernel_rfl) ?_)); simp only [pS]; go_big_quiet_on) | (refine q7n _ rfl rfl (by assumption) ?_; simp only [pS]; go_big_quiet_on)) | (go_big_quiet_op; first | go_big_quiet_on | (first | (refine ⟨_, fun _ => q0f (HS.out _), ?_⟩; go_big_quiet_on) | (refine ⟨_, fun _ => q0f (HO.out _), ?_⟩; go_big_quiet_on)))))); refine wpQuiet_nil ?_; intro _ hq; (try replace F1 := F1.later hq); (try replace F2 := F2.later hq); (try replace b := later b hq); clear hq; simp only [List.drop_succ_cons, List.drop_zero]) | (with_reducible refine w4g ?_; refine q0g rfl _ _ rfl rfl rfl HL.out F2 ?_; intro _ t1 ht; (try replace F1 := F1.tt ht); (try replace b := q0b b ht (by omega) (by omega)); replace F2 := t1; clear ht) | (with_reducible show bodyPost _ _ _ _ _ _; exact bodyPost_ret (q2q rfl _ _ rfl (by assumption)) rfl ⟨rfl, by assumption⟩))
end Go.Proofs.YtbbfnpfkbbpjgaaGreat
