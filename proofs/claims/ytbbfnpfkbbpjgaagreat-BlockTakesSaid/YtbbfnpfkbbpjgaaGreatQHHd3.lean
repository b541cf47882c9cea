/- Package head: joined, signed, text, Put, Id. -/
import Derived.Test.YtbbfnpfkbbpjgaaGreatQHHdAt
import Derived.Test.YtbbfnpfkbbpjgaaGreatQHMOnce
namespace Go.Proofs.YtbbfnpfkbbpjgaaGreat
open Go.RowKit Go.Lib
set_option linter.unusedVariables false
set_option linter.unusedSimpArgs false
set_option maxRecDepth 100000
set_option maxHeartbeats 4000000
theorem z2j (w : World) (l : List ByteArray) : Sts (w.alloc (.cells (l.map Value.string).toArray 9)) w.heap.size 0 l := by
 refine ⟨by simp, fun i hi => ?_⟩
 have := Arr.cell (Arr.new w (l.map Value.string) 9) (i := i) (by simpa using hi)
 rw [Nat.zero_add, this]
 simp [List.getD_eq_getElem?_getD, List.getElem?_eq_getElem hi]
theorem x2k (l : List ByteArray) (w : World) (h2 : 2 ≤ l.length) (h3 : l.length ≤ 1000) (hs : sumS l ≤ 1099511627776) :
  Calls Tryz.prog 176 #[.slice (some ⟨w.heap.size, 0, none⟩) l.length l.length] (w.alloc (.cells (l.map Value.string).toArray 9)) fun e w' => e = .returned (.string ⟨(catS l).toArray⟩) ∧ Below w.heap.size w w' := by
 have HJ := hide (x9w l w.heap.size 0 l.length _ (z2j w l) h2 h3 (Nat.le_refl _) hs)
 have b := below1 w (.cells (l.map Value.string).toArray 9)
 clear h2 h3 hs
 generalize l.length = n at *
 generalize w.alloc (.cells (l.map Value.string).toArray 9) = W at *
 go_enter Tryz.func176, Tryz.ntmps176
 go_wp2_with (go_at_call 190; refine HJ.out.mono ?_; rintro _ w2 ⟨rfl, hc⟩; have b2 := later b hc; clear hc)
 go_ret
 exact ⟨rfl, b2⟩
/-- What is signed of a head. -/
def signedL (d : Hd) : List UInt8 := eightL d.slot ++ (eightL d.number ++ (d.prev ++ (d.pool ++ (d.body ++ (eightL d.size ++ (eightL d.many ++ (d.right.hot ++ (eightL d.right.counter ++ (eightL d.right.start ++ d.right.sig.data.toList)))))))))
theorem q6r {d : Hd} (h : d.Ok) : (signedL d).length = 176 + d.right.sig.size := by
 unfold signedL
 have e : d.right.sig.data.toList.length = d.right.sig.size := by simp
 simp only [List.length_append, q0o, h.prev, h.pool, h.body, h.right.hot, e]
 omega
def parts11 (d : Hd) : List ByteArray := [⟨(eightL d.slot).toArray⟩, ⟨(eightL d.number).toArray⟩, ⟨d.prev.toArray⟩, ⟨d.pool.toArray⟩, ⟨d.body.toArray⟩, ⟨(eightL d.size).toArray⟩, ⟨(eightL d.many).toArray⟩, ⟨d.right.hot.toArray⟩, ⟨(eightL d.right.counter).toArray⟩, ⟨(eightL d.right.start).toArray⟩, d.right.sig]
theorem j2w (d : Hd) : catS (parts11 d) = signedL d := by
 unfold catS parts11 signedL
 simp
theorem x2n (d : Hd) (hd : d.Ok) (hz : d.right.sig.size ≤ 8192) (w : World) :
  Calls Tryz.prog 149 #[hdV d] w fun e w' => e = .returned (.string ⟨(signedL d).toArray⟩) ∧ Below w.heap.size w w' := by
 have hsum : sumS (parts11 d) ≤ 1099511627776 := by
  rw [← j3j, j2w, q6r hd]; omega
 have HJ : Hid (∀ w, Calls Tryz.prog 176 #[.slice (some ⟨w.heap.size, 0, none⟩) 11 11] (w.alloc (.cells #[.string ⟨(eightL d.slot).toArray⟩, .string ⟨(eightL d.number).toArray⟩, .string ⟨d.prev.toArray⟩, .string ⟨d.pool.toArray⟩, .string ⟨d.body.toArray⟩, .string ⟨(eightL d.size).toArray⟩, .string ⟨(eightL d.many).toArray⟩, .string ⟨d.right.hot.toArray⟩, .string ⟨(eightL d.right.counter).toArray⟩, .string ⟨(eightL d.right.start).toArray⟩, .string d.right.sig] 9)) fun e w' => e = .returned (.string ⟨(signedL d).toArray⟩) ∧ Below w.heap.size w w') := fun w => by
  have := x2k (parts11 d) w (show 2 ≤ 11 by decide) (show 11 ≤ 1000 by decide) hsum
  rw [j2w] at this
  exact this
 have H1 := hide (fun w => q4i d.slot w hd.slot)
 have H2 := hide (fun w => q4i d.number w hd.number)
 have H3 := hide (fun w => q3t d.prev w hd.prev)
 have H4 := hide (fun w => q3t d.pool w hd.pool)
 have H5 := hide (fun w => q3t d.body w hd.body)
 have H6 := hide (fun w => q4i d.size w hd.size)
 have H7 := hide (fun w => q4i d.many w hd.many)
 have H8 := hide (fun w => q3t d.right.hot w hd.right.hot)
 have H9 := hide (fun w => q4i d.right.counter w hd.right.counter)
 have H0 := hide (fun w => q4i d.right.start w hd.right.start)
 have HD := hide hd
 have b := Below.refl w.heap.size w
 clear hd hz hsum
 generalize (⟨(signedL d).toArray⟩ : ByteArray) = R at *
 generalize (⟨(eightL d.slot).toArray⟩ : ByteArray) = s1 at *
 generalize (⟨(eightL d.number).toArray⟩ : ByteArray) = s2 at *
 generalize (⟨d.prev.toArray⟩ : ByteArray) = s3 at *
 generalize (⟨d.pool.toArray⟩ : ByteArray) = s4 at *
 generalize (⟨d.body.toArray⟩ : ByteArray) = s5 at *
 generalize (⟨(eightL d.size).toArray⟩ : ByteArray) = s6 at *
 generalize (⟨(eightL d.many).toArray⟩ : ByteArray) = s7 at *
 generalize (⟨d.right.hot.toArray⟩ : ByteArray) = s8 at *
 generalize (⟨(eightL d.right.counter).toArray⟩ : ByteArray) = s9 at *
 generalize (⟨(eightL d.right.start).toArray⟩ : ByteArray) = s0 at *
 have mF1 := True.intro
 go_enter Tryz.func149, Tryz.ntmps149
 go_wp2_with (first | (with_reducible refine w2g ?_; clear mF1; refine q4x rfl _ rfl rfl HD.out ?_; intro _ g1 hg1 F1 hb; (try have := F1.lt); (try have := b.size); (try replace b := later b hb); clear hb) | (with_reducible show Code.wp _ (Code.region _ _ true) _ _ _; fail))
 refine q0n 36 (by kernel_rfl) (by kernel_rfl) ?_
 simp only [List.take_succ_cons, List.take_zero]
 repeat ((go_big_quiet_want; first | ((with_reducible refine w28g ?_); first | ((with_reducible refine w29g ?_); ((refine q0d 24 _ rfl rfl (HdAt.c0 (by assumption)) (by kernel_rfl) ?_)); simp only [pS]; go_big_quiet_on)) | (go_big_quiet_op; go_big_quiet_on)))
 go_big_quiet_want; go_big_quiet_op
 refine ⟨_, fun _ => q0f (H1.out _), ?_⟩
 go_big_quiet_on
 repeat ((go_big_quiet_want; first | ((with_reducible refine w28g ?_); first | ((with_reducible refine w29g ?_); ((refine q0d 24 _ rfl rfl (HdAt.c1 (by assumption)) (by kernel_rfl) ?_)); simp only [pS]; go_big_quiet_on)) | (go_big_quiet_op; go_big_quiet_on)))
 go_big_quiet_want; go_big_quiet_op
 refine ⟨_, fun _ => q0f (H2.out _), ?_⟩
 go_big_quiet_on
 repeat ((go_big_quiet_want; first | ((with_reducible refine w28g ?_); first | ((with_reducible refine w30g ?_); first | (((refine q0m _ rfl rfl (HdAt.c2 (by assumption)) (HdAt.ok (by assumption)).prev ?_)); simp only [pS]; go_big_quiet_on))) | (go_big_quiet_op; go_big_quiet_on)))
 go_big_quiet_want; go_big_quiet_op
 refine ⟨_, fun _ => q0f (H3.out _), ?_⟩
 go_big_quiet_on
 repeat ((go_big_quiet_want; first | ((with_reducible refine w28g ?_); first | ((with_reducible refine w30g ?_); first | (((refine q0m _ rfl rfl (HdAt.c34 (by assumption)) (HdAt.ok (by assumption)).pool ?_)); simp only [pS]; go_big_quiet_on))) | (go_big_quiet_op; go_big_quiet_on)))
 go_big_quiet_want; go_big_quiet_op
 refine ⟨_, fun _ => q0f (H4.out _), ?_⟩
 go_big_quiet_on
 repeat ((go_big_quiet_want; first | ((with_reducible refine w28g ?_); first | ((with_reducible refine w30g ?_); first | (((refine q0m _ rfl rfl (HdAt.c66 (by assumption)) (HdAt.ok (by assumption)).body ?_)); simp only [pS]; go_big_quiet_on))) | (go_big_quiet_op; go_big_quiet_on)))
 go_big_quiet_want; go_big_quiet_op
 refine ⟨_, fun _ => q0f (H5.out _), ?_⟩
 go_big_quiet_on
 repeat ((go_big_quiet_want; first | ((with_reducible refine w28g ?_); first | ((with_reducible refine w29g ?_); ((refine q0d 24 _ rfl rfl (HdAt.c98 (by assumption)) (by kernel_rfl) ?_)); simp only [pS]; go_big_quiet_on)) | (go_big_quiet_op; go_big_quiet_on)))
 go_big_quiet_want; go_big_quiet_op
 refine ⟨_, fun _ => q0f (H6.out _), ?_⟩
 go_big_quiet_on
 repeat ((go_big_quiet_want; first | ((with_reducible refine w28g ?_); first | ((with_reducible refine w29g ?_); ((refine q0d 24 _ rfl rfl (HdAt.c99 (by assumption)) (by kernel_rfl) ?_)); simp only [pS]; go_big_quiet_on)) | (go_big_quiet_op; go_big_quiet_on)))
 go_big_quiet_want; go_big_quiet_op
 refine ⟨_, fun _ => q0f (H7.out _), ?_⟩
 go_big_quiet_on
 repeat ((go_big_quiet_want; first | ((with_reducible refine w28g ?_); first | ((with_reducible refine w30g ?_); first | (((refine q0m _ rfl rfl (HdAt.ch (by assumption)) (HdAt.ok (by assumption)).right.hot ?_)); simp only [pS]; go_big_quiet_on))) | (go_big_quiet_op; go_big_quiet_on)))
 go_big_quiet_want; go_big_quiet_op
 refine ⟨_, fun _ => q0f (H8.out _), ?_⟩
 go_big_quiet_on
 repeat ((go_big_quiet_want; first | ((with_reducible refine w28g ?_); first | ((with_reducible refine w29g ?_); ((refine q0d 24 _ rfl rfl (HdAt.c132 (by assumption)) (by kernel_rfl) ?_)); simp only [pS]; go_big_quiet_on)) | (go_big_quiet_op; go_big_quiet_on)))
 go_big_quiet_want; go_big_quiet_op
 refine ⟨_, fun _ => q0f (H9.out _), ?_⟩
 go_big_quiet_on
 repeat ((go_big_quiet_want; first | ((with_reducible refine w28g ?_); first | ((with_reducible refine w29g ?_); ((refine q0d 24 _ rfl rfl (HdAt.c133 (by assumption)) (by kernel_rfl) ?_)); simp only [pS]; go_big_quiet_on)) | (go_big_quiet_op; go_big_quiet_on)))
 go_big_quiet_want; go_big_quiet_op
 refine ⟨_, fun _ => q0f (H0.out _), ?_⟩
 go_big_quiet_on
 repeat ((go_big_quiet_want; first | ((with_reducible refine w28g ?_); first | ((with_reducible show Oper.quiet _ ⟨_, Op.load 9 _, _, _, _, _⟩ _ _ _); ((refine q0d 9 _ rfl rfl (HdAt.c134 (by assumption)) (by kernel_rfl) ?_)); simp only [pS]; go_big_quiet_on)) | (go_big_quiet_op; go_big_quiet_on)))
 refine wpQuiet_nil ?_
 intro _ hq
 (try replace F1 := F1.later hq); (try replace b := later b hq)
 clear hq
 simp only [List.drop_succ_cons, List.drop_zero]
 go_wp2_with ((go_at_call 176; refine (HJ.out _).mono ?_; rintro _ _ ⟨rfl, hc⟩; (try replace F1 := F1.later hc); (try replace b := later b hc); clear hc))
 go_ret
 exact ⟨rfl, b⟩
/-- A head's bytes. -/
def putH (d : Hd) : List UInt8 := signedL d ++ d.sig.data.toList
def putHR (d : Hd) : List UInt8 × Int := if mayH d then (putH d, 0) else ([], 2)
theorem x0r {d : Hd} (h : mayH d = true) : d.right.sig.size = 1024 ∧ d.sig.size = 1120 := by
 unfold mayH at h
 simpa using h
theorem x5l (d : Hd) (hd : d.Ok) (w : World) :
  Calls Tryz.prog 74 #[hdV d] w fun e w' => e = .returned (.tuple #[.string ⟨(putHR d).1.toArray⟩, .int .i64 (putHR d).2]) ∧ Below w.heap.size w w' := by
 have HM := hide (fun w => j8k d hd w)
 have HD := hide hd
 have b := Below.refl w.heap.size w
 unfold putHR
 by_cases hm : mayH d = true
 ·obtain ⟨z1, z2⟩ := x0r hm
  have HS := hide (fun w => x2n d hd (by omega) w)
  have e : (⟨(putH d).toArray⟩ : ByteArray) = (⟨(signedL d).toArray⟩ : ByteArray) ++ d.sig := by
   apply ByteArray.ext; unfold putH; simp
  have c1 : ¬ 9223372036854775807 < (⟨(signedL d).toArray⟩ : ByteArray).size + d.sig.size := by
   show ¬ _ < (signedL d).length + _
   rw [q6r hd]; omega
  rw [hm] at HM
  rw [if_pos hm, e]
  clear hm hd z1 z2 e
  generalize (⟨(signedL d).toArray⟩ : ByteArray) = xb at *
  have mF1 := True.intro
  go_enter Tryz.func74, Tryz.ntmps74
  go_wp2_with (first | (with_reducible refine w0g ?_; first | (refine q4a rfl _ rfl rfl (by assumption) ?_)) | (with_reducible refine w2g ?_; clear mF1; refine q4x rfl _ rfl rfl HD.out ?_; intro _ g1 hg1 F1 hb; (try have := F1.lt); (try have := b.size); (try replace b := later b hb); clear hb) | (go_at_call 85; refine (HM.out _).mono ?_; rintro _ _ ⟨rfl, hc⟩; (try replace F1 := F1.later hc); (try replace b := later b hc); clear hc) | (with_reducible show Code.wp _ (Code.region _ _ true) _ _ _; refine q0e (by kernel_rfl) (by kernel_rfl) ?_; (repeat ((go_big_quiet_want; first | ((with_reducible refine w28g ?_); first | ((with_reducible show Oper.quiet _ ⟨_, Op.load 9 _, _, _, _, _⟩ _ _ _); ((refine q0d 9 _ rfl rfl (HdAt.c135 (by assumption)) (by kernel_rfl) ?_)); simp only [pS]; go_big_quiet_on) | (refine j6y _ rfl rfl (by assumption) ?_; simp only [pS]; go_big_quiet_on)) | (go_big_quiet_op; first | go_big_quiet_on | (refine ⟨_, fun _ => q0f (HS.out _), ?_⟩; go_big_quiet_on))))); refine wpQuiet_nil ?_; intro _ hq; (try replace F1 := F1.later hq); (try replace b := later b hq); clear hq))
  go_ret2
  exact ⟨rfl, b⟩
 ·have hm' : mayH d = false := by simpa using hm
  rw [hm'] at HM
  rw [if_neg hm]
  clear hm hm' hd
  have mF1 := True.intro
  go_enter Tryz.func74, Tryz.ntmps74
  go_wp2_with (first | (with_reducible refine w0g ?_; first | (refine q4a rfl _ rfl rfl (by assumption) ?_)) | (with_reducible refine w2g ?_; clear mF1; refine q4x rfl _ rfl rfl HD.out ?_; intro _ g1 hg1 F1 hb; (try have := F1.lt); (try have := b.size); (try replace b := later b hb); clear hb) | (go_at_call 85; refine (HM.out _).mono ?_; rintro _ _ ⟨rfl, hc⟩; (try replace F1 := F1.later hc); (try replace b := later b hc); clear hc))
  go_ret2
  exact ⟨rfl, b⟩
theorem q1d {n : Nat} {l : List UInt8} (h : l.length = n + 1) : ∃ x t, l = x :: t ∧ t.length = n := by
 cases l with
 | nil => cases h
 | cons x t => exact ⟨x, t, rfl, by simpa using h⟩
theorem q5n {l : List UInt8} (h : l.length = 32) : ∃ x0 x1 x2 x3 x4 x5 x6 x7 x8 x9 x10 x11 x12 x13 x14 x15 x16 x17 x18 x19 x20 x21 x22 x23 x24 x25 x26 x27 x28 x29 x30 x31 : UInt8, l = [x0, x1, x2, x3, x4, x5, x6, x7, x8, x9, x10, x11, x12, x13, x14, x15, x16, x17, x18, x19, x20, x21, x22, x23, x24, x25, x26, x27, x28, x29, x30, x31] := by
 obtain ⟨x0, t0, rfl, h0⟩ := q1d h
 obtain ⟨x1, t1, rfl, h1⟩ := q1d h0
 obtain ⟨x2, t2, rfl, h2⟩ := q1d h1
 obtain ⟨x3, t3, rfl, h3⟩ := q1d h2
 obtain ⟨x4, t4, rfl, h4⟩ := q1d h3
 obtain ⟨x5, t5, rfl, h5⟩ := q1d h4
 obtain ⟨x6, t6, rfl, h6⟩ := q1d h5
 obtain ⟨x7, t7, rfl, h7⟩ := q1d h6
 obtain ⟨x8, t8, rfl, h8⟩ := q1d h7
 obtain ⟨x9, t9, rfl, h9⟩ := q1d h8
 obtain ⟨x10, t10, rfl, h10⟩ := q1d h9
 obtain ⟨x11, t11, rfl, h11⟩ := q1d h10
 obtain ⟨x12, t12, rfl, h12⟩ := q1d h11
 obtain ⟨x13, t13, rfl, h13⟩ := q1d h12
 obtain ⟨x14, t14, rfl, h14⟩ := q1d h13
 obtain ⟨x15, t15, rfl, h15⟩ := q1d h14
 obtain ⟨x16, t16, rfl, h16⟩ := q1d h15
 obtain ⟨x17, t17, rfl, h17⟩ := q1d h16
 obtain ⟨x18, t18, rfl, h18⟩ := q1d h17
 obtain ⟨x19, t19, rfl, h19⟩ := q1d h18
 obtain ⟨x20, t20, rfl, h20⟩ := q1d h19
 obtain ⟨x21, t21, rfl, h21⟩ := q1d h20
 obtain ⟨x22, t22, rfl, h22⟩ := q1d h21
 obtain ⟨x23, t23, rfl, h23⟩ := q1d h22
 obtain ⟨x24, t24, rfl, h24⟩ := q1d h23
 obtain ⟨x25, t25, rfl, h25⟩ := q1d h24
 obtain ⟨x26, t26, rfl, h26⟩ := q1d h25
 obtain ⟨x27, t27, rfl, h27⟩ := q1d h26
 obtain ⟨x28, t28, rfl, h28⟩ := q1d h27
 obtain ⟨x29, t29, rfl, h29⟩ := q1d h28
 obtain ⟨x30, t30, rfl, h30⟩ := q1d h29
 obtain ⟨x31, t31, rfl, h31⟩ := q1d h30
 obtain rfl := List.eq_nil_of_length_eq_zero h31
 exact ⟨x0, x1, x2, x3, x4, x5, x6, x7, x8, x9, x10, x11, x12, x13, x14, x15, x16, x17, x18, x19, x20, x21, x22, x23, x24, x25, x26, x27, x28, x29, x30, x31, rfl⟩
/-- The reader at block g has the bytes r ahead of it. -/
def Rd (w : World) (g : Nat) (r : List UInt8) : Prop := One w g 176 (.string ⟨r.toArray⟩)
theorem x0y (r : List UInt8) (n : Nat) : (⟨r.toArray⟩ : ByteArray).extract 0 n = ⟨(r.take n).toArray⟩ := by
 apply ByteArray.ext
 apply Array.toList_inj.1
 simp
theorem x1b (r : List UInt8) (n : Nat) : (⟨r.toArray⟩ : ByteArray).extract n (⟨r.toArray⟩ : ByteArray).size = ⟨(r.drop n).toArray⟩ := by
 apply ByteArray.ext
 apply Array.toList_inj.1
 simp [ByteArray.size, List.take_of_length_le]
theorem rdSize : (Tryz.prog.info? 176).map (·.size) = some 1 := by kernel_rfl
theorem j0z (g : Nat) (r : List UInt8) (n : Nat) (w : World) (h : Rd w g r) (hn : n ≤ r.length) (hm : r.length ≤ 1099511627776) :
  Calls Tryz.prog 140 #[.pointer (some ⟨g, 0, none⟩), .int .i64 n] w fun e w' => e = .returned (.string ⟨(r.take n).toArray⟩) ∧ Rd w' g (r.drop n) ∧ Touch (fun b => b = g) w w' := by
 have e1 := x0y r n
 have e2 := x1b r n
 have E1 := hide e1
 have E2 := hide e2
 have hs : (⟨r.toArray⟩ : ByteArray).size = r.length := rfl
 rw [← hs] at hn hm
 rw [← e1]
 unfold Rd at h ⊢
 rw [← e2]
 clear e1 e2 E1 E2 hs
 generalize (⟨r.toArray⟩ : ByteArray) = s at *
 have F1 : Arr w g 176 [.string s] := h
 clear h
 have c0 : w.cell? ⟨g, 0, none⟩ = some (.string s) := Arr.cell F1 (i := 0) (by simp)
 have t0 := Arr.thaw F1 0
 go_enter Tryz.func140, Tryz.ntmps140
 go_wp2_with fail
 go_ret
 exact ⟨rfl, One.set F1 _, q3s w ⟨g, 0, none⟩ _⟩
theorem Rd.later {w w' : World} {g : Nat} {r : List UInt8} (h : Rd w g r) (hb : Below w.heap.size w w') : Rd w' g r := One.later h hb
theorem Rd.touch {S : Nat → Prop} {w w' : World} {g : Nat} {r : List UInt8} (h : Rd w g r) (ht : Touch S w w') (hS : ¬ S g) : Rd w' g r := One.touch h ht hS
theorem Rd.lt {w : World} {g : Nat} {r : List UInt8} (h : Rd w g r) : g < w.heap.size := One.lt h
theorem j7l (g : Nat) (r : List UInt8) (w : World) (h : Rd w g r) (hn : 8 ≤ r.length) (hm : r.length ≤ 1099511627776) :
  Calls Tryz.prog 138 #[.pointer (some ⟨g, 0, none⟩)] w fun e w' => e = .returned (.int .u64 (numL (r.take 8))) ∧ Rd w' g (r.drop 8) ∧ Touch (fun b => b = g) w w' := by
 have HT : Hid (Calls Tryz.prog 140 #[.pointer (some ⟨g, 0, none⟩), .int .i64 8] w fun e w' => e = .returned (.string ⟨(r.take 8).toArray⟩) ∧ Rd w' g (r.drop 8) ∧ Touch (fun b => b = g) w w') := j0z g r 8 w h hn hm
 have HE : Hid (∀ w, Calls Tryz.prog 174 #[.string ⟨(r.take 8).toArray⟩] w fun e w' => e = .returned (.tuple #[.int .u64 (numL (r.take 8)), .int .i64 0]) ∧ Below w.heap.size w w') := fun w => by
  have hz : (⟨(r.take 8).toArray⟩ : ByteArray).size = 8 := by show (r.take 8).toArray.size = 8; rw [List.size_toArray, List.length_take]; omega
  have := j6r ⟨(r.take 8).toArray⟩ w (by omega) (by omega)
  rwa [show (⟨(r.take 8).toArray⟩ : ByteArray).data.toList.take 8 = r.take 8 from by show (r.take 8).take 8 = _; rw [List.take_take, Nat.min_self]] at this
 clear h hn hm
 generalize numL (r.take 8) = N at *
 generalize (⟨(r.take 8).toArray⟩ : ByteArray) = s at *
 go_enter Tryz.func138, Tryz.ntmps138
 go_wp2_with (first | (go_at_call 140; refine HT.out.mono ?_; rintro _ w1 ⟨rfl, F1, ht⟩) | (go_at_call 174; refine (HE.out _).mono ?_; rintro _ w2 ⟨rfl, hc⟩; replace F1 := F1.later hc; replace ht := ht.behind hc))
 go_ret
 exact ⟨rfl, F1, ht⟩
theorem x3e (g : Nat) (r : List UInt8) (w : World) (h : Rd w g r) (hn : 32 ≤ r.length) (hm : r.length ≤ 1099511627776) :
  Calls Tryz.prog 139 #[.pointer (some ⟨g, 0, none⟩)] w fun e w' => e = .returned (hv (r.take 32)) ∧ Rd w' g (r.drop 32) ∧ Touch (fun b => b = g) w w' := by
 have HT : Hid (∀ w, Rd w g r → Calls Tryz.prog 140 #[.pointer (some ⟨g, 0, none⟩), .int .i64 32] w fun e w' => e = .returned (.string ⟨(r.take 32).toArray⟩) ∧ Rd w' g (r.drop 32) ∧ Touch (fun b => b = g) w w') := fun w h => j0z g r 32 w h hn hm
 have F5 := h
 have hgw := h.lt
 have ht := Touch.refl (fun b => b = g) w
 have hl : (r.take 32).length = 32 := by rw [List.length_take]; omega
 have HL := hide hl
 have HZ : Hid (32 ≤ (⟨(r.take 32).toArray⟩ : ByteArray).size) := by unfold Hid; show 32 ≤ (r.take 32).toArray.size; rw [List.size_toArray]; omega
 have HD : Hid ((⟨(r.take 32).toArray⟩ : ByteArray).data.toList.take 32 = r.take 32) := by unfold Hid; show (r.take 32).take 32 = _; rw [List.take_take, Nat.min_self]
 clear h hn hm hl
 generalize (⟨(r.take 32).toArray⟩ : ByteArray) = s at *
 go_enter Tryz.func139, Tryz.ntmps139
 go_wp2_with (first | (with_reducible refine w3g ?_; refine q0r rfl rfl ?_; first | (have F2x := F2; intro _ g3 h3 F3 hb; have l2 := F2.lt; have l5 := F5.lt; replace F2 := F2.later hb; replace F5 := F5.later hb; replace ht := ht.behind hb; clear hb F2x) | (intro _ g2 h2 F2 hb; have l5 := F5.lt; replace F5 := F5.later hb; replace ht := ht.behind hb; clear hb)) | (with_reducible show Code.wp _ (Code.region _ _ true) _ _ _; (try simp only [pS]); fail))
 (try simp only [pS])
 have w2s := ht.size
 have g23 : g2 < g3 := by omega
 have gg2 : g < g2 := by omega
 have wg3 : w.heap.size ≤ g3 := by omega
 have wg2 : w.heap.size ≤ g2 := h2
 refine q1m (fun x => Touch (fun b => b = g) _ x) (.one [0, 1] 2 (.bar [] 3 (.stop []))) (by kernel_rfl) (by kernel_rfl) (by kernel_rfl) (by decide) (fun _ _ h hb => h.behind hb) (Touch.refl _ _) ?_
 intro wpl0 hb0 _ k0
 replace F2 := F2.later hb0
 replace F3 := F3.later hb0
 replace F5 := F5.later hb0
 replace ht := ht.behind hb0
 refine q0w ?_
 simp only [pickOps, opAt, List.getElem?_cons_succ, List.getElem?_cons_zero, List.nil_append, List.cons_append]
 repeat ((go_big_quiet_want; go_big_quiet_op; first | go_big_quiet_on | (refine ⟨_, fun _ => rfl, ?_⟩; go_big_quiet_on)))
 refine wpQuiet_nil ?_
 intro wq hb k
 replace F2 := F2.later hb
 replace F3 := F3.later hb
 replace F5 := F5.later hb
 replace ht := ht.behind hb
 have l3 := F3.lt
 have l2' := F2.lt
 clear hb
 go_wp2_with (go_at_call 140; refine (HT.out _ F5).mono ?_; rintro _ w1 ⟨rfl, h1, ht1⟩; clear F5; have F5 := h1; clear h1; replace k := k.add ht1 (fun x h => h); replace ht := ht.add ht1 (fun x h => h); replace F3 := F3.touch ht1 (by show ¬ _ = _; omega); replace F2 := F2.touch ht1 (by show ¬ _ = _; omega); clear ht1)
 refine q6y (fun _ _ h hb => h.behind hb) k ?_
 clear k
 refine q2u ?_
 simp only [pickOps, opAt, List.getElem?_cons_succ, List.getElem?_cons_zero, List.nil_append, List.cons_append]
 repeat (fail)
 refine wpQuiet_nil ?_
 intro wr hb k
 clear k
 replace F2 := F2.later hb
 replace F3 := F3.later hb
 replace F5 := F5.later hb
 replace ht := ht.behind hb
 clear hb
 refine q9q rfl _ _ rfl rfl rfl HZ.out F3 ?_
 rw [HD.out]
 intro ws t1 ht2
 clear F3
 have F3 := t1
 replace F2 := F2.touch ht2 (by show ¬ _ = _; omega)
 replace F5 := F5.touch ht2 (by show ¬ _ = _; omega)
 replace ht := ht.trans ht2 (fun x hx => .inr (by have : x = g3 := hx; omega))
 clear ht2 t1
 refine q1v ?_
 (try simp only [pS])
 refine q2l ?_
 simp only [pickOps, opAt, List.getElem?_cons_succ, List.getElem?_cons_zero, List.nil_append, List.cons_append]
 repeat (fail)
 refine wpQuiet_nil ?_
 intro wt hb k
 clear k
 replace F2 := F2.later hb
 replace F3 := F3.later hb
 replace F5 := F5.later hb
 replace ht := ht.behind hb
 clear hb
 go_wp2_with (first | (with_reducible refine w0g ?_; refine q1a rfl _ rfl rfl (by assumption) ?_) | (with_reducible refine w4g ?_; refine q0k rfl _ _ rfl rfl rfl HL.out F2 ?_; intro _ t1 ht2; replace F5 := F5.touch ht2 (by show ¬ _ = _; omega); replace ht := ht.trans ht2 (fun x hx => .inr (by have : x = g2 := hx; omega)); clear F2; have F2 := t1; clear t1 ht2))
 exact bodyPost_ret (q2v rfl _ _ rfl F2) rfl ⟨rfl, F5, ht⟩
end Go.Proofs.YtbbfnpfkbbpjgaaGreat
