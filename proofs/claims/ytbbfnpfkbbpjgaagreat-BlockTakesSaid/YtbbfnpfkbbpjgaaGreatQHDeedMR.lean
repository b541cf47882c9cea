/- The reference of layer 13: May. Printed by gen_refmay.py. -/
import Derived.Test.YtbbfnpfkbbpjgaaGreatQHDeedR
import Derived.Test.YtbbfnpfkbbpjgaaGreatQHDeed5
import Derived.Test.YtbbfnpfkbbpjgaaGreatQHDeed4r
import Derived.Test.YtbbfnpfkbbpjgaaGreatQHAllL
namespace Go.Proofs.YtbbfnpfkbbpjgaaGreat
open Go.RowKit Go.Lib
set_option linter.unusedVariables false
set_option linter.unusedSimpArgs false
set_option maxRecDepth 100000
set_option maxHeartbeats 4000000
def sizesD (d : Deed) : Bool := decide (0 < d.ins.length) && (decide (d.ins.length ≤ 8) && (decide (d.outs.length ≤ 8) && (decide (d.fee < 9223372036854775808) && (decide (d.frm ≤ d.til) && (decide (d.certs.length ≤ 4) && (decide (d.pays.length ≤ 4) && decide (d.wits.length ≤ 8)))))))
theorem j5x (d : Deed) : mayD d = (sizesD d && (riseAll spotL (fun x => decide (x.index < 8)) d.ins && ((d.outs.all fun x => amountB x.amount) && (d.certs.all certB && (riseAll PayT.key (fun x => amountB x.amount) d.pays && riseAll WitT.key (fun x => decide (x.sig.size = 1024)) d.wits))))) := by
 unfold mayD mayI mayO mayC mayP mayW sizesD riseAll
 simp only [Bool.and_assoc, Bool.and_comm, Bool.and_left_comm]
theorem x5w (v : Value) (d : Deed) (w : World) (hd : DeedIs w v d) (hs : sizesD d = false) :
    Calls Tryz.prog 13 #[v] w fun x w' => x = .returned (.bool (mayD d)) ∧ Below w.heap.size w w' := by
  rw [j5x, hs, Bool.false_and]
  obtain ⟨v1, v2, v3, v4, v5, rfl, h1, h2, h3, h4, h5, ok⟩ := hd
  obtain ⟨a1, c1, rfl, -⟩ := h1.shape
  have o1 := h1.one'
  obtain ⟨a2, c2, rfl, -⟩ := h2.shape
  have o2 := h2.one'
  obtain ⟨a3, c3, rfl, -⟩ := h3.shape
  have o3 := h3.one'
  obtain ⟨a4, c4, rfl, -⟩ := h4.shape
  have o4 := h4.one'
  obtain ⟨a5, c5, rfl, -⟩ := h5.shape
  have o5 := h5.one'
  have b := Below.refl w.heap.size w
  clear h1 h2 h3 h4 h5 ok
  have hn2 : decide ((d.ins.length : Int) < 1) = false → decide ((8 : Int) < (d.ins.length : Int)) = false → decide ((8 : Int) < (d.outs.length : Int)) = false → decide ((9223372036854775807 : Int) < (d.fee : Int)) = false → decide ((d.til : Int) < (d.frm : Int)) = false → decide ((4 : Int) < (d.certs.length : Int)) = false → decide ((4 : Int) < (d.pays.length : Int)) = false → decide ((8 : Int) < (d.wits.length : Int)) = false → False := by
    intro q1 q2 q3 q4 q5 q6 q7 q8
    simp only [decide_eq_false_iff_not] at q1 q2 q3 q4 q5 q6 q7 q8
    have : sizesD d = true := by
      simp only [sizesD, Bool.and_eq_true, decide_eq_true_eq]
      omega
    rw [this] at hs
    cases hs
  have HN := hide hn2
  clear hs hn2
  have E1 : Hid (∀ _ : Unit, decide ((d.ins.length : Int) < 1) = decide ((d.ins.length : Int) < 1)) := fun _ => rfl
  have E2 : Hid (∀ _ : Unit, decide ((8 : Int) < (d.ins.length : Int)) = decide ((8 : Int) < (d.ins.length : Int))) := fun _ => rfl
  have E3 : Hid (∀ _ : Unit, decide ((8 : Int) < (d.outs.length : Int)) = decide ((8 : Int) < (d.outs.length : Int))) := fun _ => rfl
  have E4 : Hid (∀ _ : Unit, decide ((9223372036854775807 : Int) < (d.fee : Int)) = decide ((9223372036854775807 : Int) < (d.fee : Int))) := fun _ => rfl
  have E5 : Hid (∀ _ : Unit, decide ((d.til : Int) < (d.frm : Int)) = decide ((d.til : Int) < (d.frm : Int))) := fun _ => rfl
  have E6 : Hid (∀ _ : Unit, decide ((4 : Int) < (d.certs.length : Int)) = decide ((4 : Int) < (d.certs.length : Int))) := fun _ => rfl
  have E7 : Hid (∀ _ : Unit, decide ((4 : Int) < (d.pays.length : Int)) = decide ((4 : Int) < (d.pays.length : Int))) := fun _ => rfl
  have E8 : Hid (∀ _ : Unit, decide ((8 : Int) < (d.wits.length : Int)) = decide ((8 : Int) < (d.wits.length : Int))) := fun _ => rfl
  obtain ⟨A1, hA1⟩ : ∃ A, decide ((d.ins.length : Int) < 1) = A := ⟨_, rfl⟩
  rw [hA1] at HN
  replace E1 : Hid (∀ _ : Unit, decide ((d.ins.length : Int) < 1) = A1) := fun _ => hA1
  clear hA1
  obtain ⟨A2, hA2⟩ : ∃ A, decide ((8 : Int) < (d.ins.length : Int)) = A := ⟨_, rfl⟩
  rw [hA2] at HN
  replace E2 : Hid (∀ _ : Unit, decide ((8 : Int) < (d.ins.length : Int)) = A2) := fun _ => hA2
  clear hA2
  obtain ⟨A3, hA3⟩ : ∃ A, decide ((8 : Int) < (d.outs.length : Int)) = A := ⟨_, rfl⟩
  rw [hA3] at HN
  replace E3 : Hid (∀ _ : Unit, decide ((8 : Int) < (d.outs.length : Int)) = A3) := fun _ => hA3
  clear hA3
  obtain ⟨A4, hA4⟩ : ∃ A, decide ((9223372036854775807 : Int) < (d.fee : Int)) = A := ⟨_, rfl⟩
  rw [hA4] at HN
  replace E4 : Hid (∀ _ : Unit, decide ((9223372036854775807 : Int) < (d.fee : Int)) = A4) := fun _ => hA4
  clear hA4
  obtain ⟨A5, hA5⟩ : ∃ A, decide ((d.til : Int) < (d.frm : Int)) = A := ⟨_, rfl⟩
  rw [hA5] at HN
  replace E5 : Hid (∀ _ : Unit, decide ((d.til : Int) < (d.frm : Int)) = A5) := fun _ => hA5
  clear hA5
  obtain ⟨A6, hA6⟩ : ∃ A, decide ((4 : Int) < (d.certs.length : Int)) = A := ⟨_, rfl⟩
  rw [hA6] at HN
  replace E6 : Hid (∀ _ : Unit, decide ((4 : Int) < (d.certs.length : Int)) = A6) := fun _ => hA6
  clear hA6
  obtain ⟨A7, hA7⟩ : ∃ A, decide ((4 : Int) < (d.pays.length : Int)) = A := ⟨_, rfl⟩
  rw [hA7] at HN
  replace E7 : Hid (∀ _ : Unit, decide ((4 : Int) < (d.pays.length : Int)) = A7) := fun _ => hA7
  clear hA7
  obtain ⟨A8, hA8⟩ : ∃ A, decide ((8 : Int) < (d.wits.length : Int)) = A := ⟨_, rfl⟩
  rw [hA8] at HN
  replace E8 : Hid (∀ _ : Unit, decide ((8 : Int) < (d.wits.length : Int)) = A8) := fun _ => hA8
  clear hA8
  generalize d.ins.length = n1 at *
  generalize d.outs.length = n2 at *
  generalize d.certs.length = n3 at *
  generalize d.pays.length = n4 at *
  generalize d.wits.length = n5 at *
  generalize d.fee = f at *
  generalize d.frm = s at *
  generalize d.til = t at *
  have mF1 := True.intro
  go_enter Tryz.func13, Tryz.ntmps13
  go_wp2_with (first | (with_reducible refine w2g ?_; clear mF1; refine q0x rfl _ rfl rfl o1 o2 o3 o4 o5 ?_; intro _ g2 hg2 F1 hb; (try replace b := later b hb); clear hb) | (with_reducible refine w0g ?_; first | ((with_reducible refine w6g ?_); first | refine q0a rfl 24 _ rfl rfl (DAt.c2 F1) (by kernel_rfl) ?_ | refine q0a rfl 24 _ rfl rfl (DAt.c3 F1) (by kernel_rfl) ?_ | refine q0a rfl 24 _ rfl rfl (DAt.c4 F1) (by kernel_rfl) ?_) | refine q0a rfl 22 _ rfl rfl (DAt.c0 F1) (by kernel_rfl) ?_ | refine q0a rfl 23 _ rfl rfl (DAt.c1 F1) (by kernel_rfl) ?_ | refine q0a rfl 25 _ rfl rfl (DAt.c5 F1) (by kernel_rfl) ?_ | refine q0a rfl 26 _ rfl rfl (DAt.c6 F1) (by kernel_rfl) ?_ | refine q0a rfl 27 _ rfl rfl (DAt.c7 F1) (by kernel_rfl) ?_) | (with_reducible refine w8g ?_; first | refine j4a rfl _ _ rfl rfl rfl (E1.out ()) ?_ | refine q4v rfl _ _ rfl rfl rfl (E2.out ()) ?_ | refine q4v rfl _ _ rfl rfl rfl (E3.out ()) ?_ | refine q4v rfl _ _ rfl rfl rfl (E4.out ()) ?_ | refine q4v rfl _ _ rfl rfl rfl (E5.out ()) ?_ | refine q4v rfl _ _ rfl rfl rfl (E6.out ()) ?_ | refine q4v rfl _ _ rfl rfl rfl (E7.out ()) ?_ | refine q4v rfl _ _ rfl rfl rfl (E8.out ()) ?_))
  all_goals first
    | (exact (HN.out (by first | exact Bool.eq_false_iff.2 (by assumption)) (by first | exact Bool.eq_false_iff.2 (by assumption)) (by first | exact Bool.eq_false_iff.2 (by assumption)) (by first | exact Bool.eq_false_iff.2 (by assumption)) (by first | exact Bool.eq_false_iff.2 (by assumption)) (by first | exact Bool.eq_false_iff.2 (by assumption)) (by first | exact Bool.eq_false_iff.2 (by assumption)) (by first | assumption)).elim)
    | (go_ret
       exact ⟨rfl, b⟩)
theorem x3o (v : Value) (d : Deed) (w : World) (hd : DeedIs w v d) (hs : sizesD d = true) :
  Calls Tryz.prog 13 #[v] w fun x w' => x = .returned (.bool (mayD d)) ∧ Below w.heap.size w w' := by
 rw [j5x, hs, Bool.true_and]
 simp only [sizesD, Bool.and_eq_true, decide_eq_true_eq] at hs
 obtain ⟨q1, q2, q3, q4, q5, q6, q7, q8⟩ := hs
 obtain ⟨v1, v2, v3, v4, v5, rfl, h1, h2, h3, h4, h5, ok⟩ := hd
 obtain ⟨a1, c1, rfl, -⟩ := h1.shape
 have o1 := h1.one'
 have HL1 := hide ok.ins
 obtain ⟨a2, c2, rfl, -⟩ := h2.shape
 have o2 := h2.one'
 have HL2 := hide ok.outs
 obtain ⟨a3, c3, rfl, -⟩ := h3.shape
 have o3 := h3.one'
 have HL3 := hide ok.certs
 obtain ⟨a4, c4, rfl, -⟩ := h4.shape
 have o4 := h4.one'
 have HL4 := hide ok.pays
 obtain ⟨a5, c5, rfl, -⟩ := h5.shape
 have o5 := h5.one'
 have HL5 := hide ok.wits
 clear ok
 have b := Below.refl w.heap.size w
 obtain ⟨l1, hl1⟩ : ∃ l, l = d.ins := ⟨_, rfl⟩
 rw [← hl1] at h1 HL1 o1 q1 q2 ⊢
 clear hl1
 obtain ⟨n1, hn1⟩ : ∃ n, n = l1.length := ⟨_, rfl⟩
 have HN1 := hide hn1
 rw [← hn1] at h1 o1 q1 q2 ⊢
 clear hn1
 obtain ⟨l2, hl2⟩ : ∃ l, l = d.outs := ⟨_, rfl⟩
 rw [← hl2] at h2 HL2 o2 q3 ⊢
 clear hl2
 obtain ⟨n2, hn2⟩ : ∃ n, n = l2.length := ⟨_, rfl⟩
 have HN2 := hide hn2
 rw [← hn2] at h2 o2 q3 ⊢
 clear hn2
 obtain ⟨l3, hl3⟩ : ∃ l, l = d.certs := ⟨_, rfl⟩
 rw [← hl3] at h3 HL3 o3 q6 ⊢
 clear hl3
 obtain ⟨n3, hn3⟩ : ∃ n, n = l3.length := ⟨_, rfl⟩
 have HN3 := hide hn3
 rw [← hn3] at h3 o3 q6 ⊢
 clear hn3
 obtain ⟨l4, hl4⟩ : ∃ l, l = d.pays := ⟨_, rfl⟩
 rw [← hl4] at h4 HL4 o4 q7 ⊢
 clear hl4
 obtain ⟨n4, hn4⟩ : ∃ n, n = l4.length := ⟨_, rfl⟩
 have HN4 := hide hn4
 rw [← hn4] at h4 o4 q7 ⊢
 clear hn4
 obtain ⟨l5, hl5⟩ : ∃ l, l = d.wits := ⟨_, rfl⟩
 rw [← hl5] at h5 HL5 o5 q8 ⊢
 clear hl5
 obtain ⟨n5, hn5⟩ : ∃ n, n = l5.length := ⟨_, rfl⟩
 have HN5 := hide hn5
 rw [← hn5] at h5 o5 q8 ⊢
 clear hn5
 generalize d.fee = f at *
 generalize d.frm = s at *
 generalize d.til = t at *
 clear d
 have y1 : Hid (∀ _ : Unit, decide ((n1 : Int) < 1) = false) := fun _ => decide_eq_false (by omega)
 have y2 : Hid (∀ _ : Unit, decide ((8 : Int) < (n1 : Int)) = false) := fun _ => decide_eq_false (by omega)
 have y3 : Hid (∀ _ : Unit, decide ((8 : Int) < (n2 : Int)) = false) := fun _ => decide_eq_false (by omega)
 have y4 : Hid (∀ _ : Unit, decide ((9223372036854775807 : Int) < (f : Int)) = false) := fun _ => decide_eq_false (by omega)
 have y5 : Hid (∀ _ : Unit, decide ((t : Int) < (s : Int)) = false) := fun _ => decide_eq_false (by omega)
 have y6 : Hid (∀ _ : Unit, decide ((4 : Int) < (n3 : Int)) = false) := fun _ => decide_eq_false (by omega)
 have y7 : Hid (∀ _ : Unit, decide ((4 : Int) < (n4 : Int)) = false) := fun _ => decide_eq_false (by omega)
 have y8 : Hid (∀ _ : Unit, decide ((8 : Int) < (n5 : Int)) = false) := fun _ => decide_eq_false (by omega)
 have N1 : n1 ≤ 8 := by omega
 have N2 : n2 ≤ 8 := by omega
 have N3 : n3 ≤ 8 := by omega
 have N4 : n4 ≤ 8 := by omega
 have N5 : n5 ≤ 8 := by omega
 clear q1 q2 q3 q4 q5 q6 q7 q8
 have mF1 := True.intro
 go_enter Tryz.func13, Tryz.ntmps13
 go_wp2_with (first | (with_reducible refine w2g ?_; clear mF1; refine q0x rfl _ rfl rfl o1 o2 o3 o4 o5 ?_; intro _ g2 hg2 F1 hb; (try replace b := later b hb); clear hb) | (with_reducible refine w0g ?_; first | ((with_reducible refine w6g ?_); first | refine q0a rfl 24 _ rfl rfl (DAt.c2 F1) (by kernel_rfl) ?_ | refine q0a rfl 24 _ rfl rfl (DAt.c3 F1) (by kernel_rfl) ?_ | refine q0a rfl 24 _ rfl rfl (DAt.c4 F1) (by kernel_rfl) ?_) | refine q0a rfl 22 _ rfl rfl (DAt.c0 F1) (by kernel_rfl) ?_ | refine q0a rfl 23 _ rfl rfl (DAt.c1 F1) (by kernel_rfl) ?_ | refine q0a rfl 25 _ rfl rfl (DAt.c5 F1) (by kernel_rfl) ?_ | refine q0a rfl 26 _ rfl rfl (DAt.c6 F1) (by kernel_rfl) ?_ | refine q0a rfl 27 _ rfl rfl (DAt.c7 F1) (by kernel_rfl) ?_) | (with_reducible refine w8g ?_; first | refine j4a rfl _ _ rfl rfl rfl (y1.out ()) ?_ | refine q4v rfl _ _ rfl rfl rfl (y2.out ()) ?_ | refine q4v rfl _ _ rfl rfl rfl (y3.out ()) ?_ | refine q4v rfl _ _ rfl rfl rfl (y4.out ()) ?_ | refine q4v rfl _ _ rfl rfl rfl (y5.out ()) ?_ | refine q4v rfl _ _ rfl rfl rfl (y6.out ()) ?_ | refine q4v rfl _ _ rfl rfl rfl (y7.out ()) ?_ | refine q4v rfl _ _ rfl rfl rfl (y8.out ()) ?_))
 clear o1 o2 o3 o4 o5 hg2 y1 y2 y3 y4 y5 y6 y7 y8
 go_loopw [3] (fun i wr => ∃ k : Nat, i = .int .i64 k ∧ k ≤ n1 ∧ Hid (riseAll spotL (fun x => decide (x.index < 8)) (l1.take k) = true) ∧ DAt wr g2 (.slice a1 n1 c1) (.slice a2 n2 c2) (.slice a3 n3 c3) (.slice a4 n4 c4) (.slice a5 n5 c5) f s t ∧ Below w.heap.size w wr) (fun i _ => n1 - (RowKit.intOf i).toNat)
 case atStart => exact ⟨0, rfl, by omega, hide (by simp [riseAll, risesB]), F1, b⟩
 case round =>
  clear b F1
  obtain ⟨k, rfl, hk, HA, F1, b⟩ := hrel
  by_cases hlt : k < n1
  ·obtain ⟨x, hx, okx⟩ := q1i HL1.out (k := k) (by rw [← HN1.out]; exact hlt)
   obtain ⟨bb, kk, cc, q1', _, hcs⟩ := (h1.later b).block (by rw [← HN1.out]; omega)
   simp only [Value.slice.injEq] at q1'
   obtain ⟨rfl, -, rfl⟩ := q1'
   have d1 := hcs k x hx
   have OX := hide okx
   have E1 : wr.cell? ⟨bb, kk + k * 33 + 32, none⟩ = some (.int .u64 x.index) := (inR1 d1 okx).one
   cases hg : decide (x.index < 8)
   case false =>
    have HA2 : Hid (riseAll spotL (fun x => decide (x.index < 8)) (l1) = false) := hide (z2i (f := spotL) (g := fun x => decide (x.index < 8)) hx hg)
    have cg : decide ((8 : Int) ≤ (x.index : Int)) = true := decide_eq_true (by have := of_decide_eq_false hg; omega)
    clear hcs hx okx HA hg
    go_wp2_with (first | (with_reducible refine w0g ?_; first | refine q0a rfl 22 _ rfl rfl (DAt.c0 F1) (by kernel_rfl) ?_) | (with_reducible show Code.wp _ (Code.region _ _ true) _ _ _; fail))
    refine q0e (by kernel_rfl) (by kernel_rfl) ?_
    repeat (first | go_big_quiet_skip | (go_big_quiet_want; first | ((with_reducible refine w28g ?_); first | (refine q0d 22 _ rfl rfl (DAt.c0 F1) (by kernel_rfl) ?_; simp only [pS]; go_big_quiet_on) | (refine q0d 24 _ rfl rfl (E1) (by kernel_rfl) ?_; simp only [pS]; go_big_quiet_on)) | (go_big_quiet_op; first | go_big_quiet_on)))
    refine wpQuiet_nil ?_
    intro _ hq
    (try replace F1 := F1.later hq); (try replace b := later b hq)
    clear hq
    go_wp2_with fail
    go_ret
    exact ⟨by rw [HA2.out]; simp, b⟩
   case true =>
    have cg : decide ((8 : Int) ≤ (x.index : Int)) = false := decide_eq_false (by have := of_decide_eq_true hg; omega)
    have HFX := hide (fun w => j2l x w okx)
    by_cases h0 : 0 < k
    ·obtain ⟨j, hj⟩ : ∃ j, j = k - 1 := ⟨_, rfl⟩
     obtain ⟨y, hy, oky⟩ := q1i HL1.out (k := j) (by rw [← HN1.out]; omega)
     have d2 := hcs j y hy
     have OY := hide oky
     have HFY := hide (fun w => j2l y w oky)
     have HR := hide (x0m (g := fun x => decide (x.index < 8)) HA.out h0 (by rw [← hj]; exact hy) hx hg)
     have HS := hide (fun h => j9p (f := spotL) (g := fun x => decide (x.index < 8)) (l := l1) (k := k + 1) h)
     have z1 := decide_eq_true (show (0 : Int) < (k : Int) by omega)
     have z2 : (k : Int) - 1 = (j : Int) := by omega
     have hkn : j < n1 := by omega
     obtain ⟨sx, hsx⟩ : ∃ z : ByteArray, z = ⟨(spotL x).toArray⟩ := ⟨_, rfl⟩
     obtain ⟨sy, hsy⟩ : ∃ z : ByteArray, z = ⟨(spotL y).toArray⟩ := ⟨_, rfl⟩
     have hl1 : spotL x = sx.toList := by rw [hsx, ByteArray.toList_eq]
     have hl2 : spotL y = sy.toList := by rw [hsy, ByteArray.toList_eq]
     rw [hl1, hl2] at HR
     rw [← hsx] at HFX
     rw [← hsy] at HFY
     clear hcs hx okx HA hg hy oky hl1 hl2 hsx hsy hj
     cases hB : Op.bytesLess sy.toList sx.toList
     case true =>
      have HA2 : Hid (riseAll spotL (fun x => decide (x.index < 8)) (l1.take (k + 1)) = true) := by rw [HR.out]; exact hide hB
      clear HR HS
      go_wp2_with (first | (with_reducible refine w0g ?_; first | refine q0a rfl 22 _ rfl rfl (DAt.c0 F1) (by kernel_rfl) ?_) | (with_reducible show Code.wp _ (Code.region _ _ true) _ _ _; fail))
      refine q0e (by kernel_rfl) (by kernel_rfl) ?_
      repeat ((go_big_quiet_want; first | ((with_reducible refine w28g ?_); first | (refine q0d 22 _ rfl rfl (DAt.c0 F1) (by kernel_rfl) ?_; simp only [pS]; go_big_quiet_on) | (refine q0d 24 _ rfl rfl (E1) (by kernel_rfl) ?_; simp only [pS]; go_big_quiet_on) | (refine q1p _ rfl rfl d1 OX.out ?_; simp only [pS]; go_big_quiet_on) | (refine q1p _ rfl rfl d2 OY.out ?_; simp only [pS]; go_big_quiet_on)) | (go_big_quiet_op; first | go_big_quiet_on | (refine ⟨_, fun _ => q0f (HFY.out _), ?_⟩; clear HFY; go_big_quiet_on) | (refine ⟨_, fun _ => q0f (HFX.out _), ?_⟩; go_big_quiet_on))))
      refine wpQuiet_nil ?_
      intro _ hq
      (try replace F1 := F1.later hq); (try replace b := later b hq)
      clear hq
      go_wp2_with fail
      go_roundw
      case rel => exact ⟨k + 1, by simp, by omega, HA2, F1, b⟩
      case measure => simp [RowKit.intOf]; omega
     case false =>
      have HA2 : Hid (riseAll spotL (fun x => decide (x.index < 8)) (l1) = false) := HS.out (by rw [HR.out]; exact hB)
      clear HR HS
      go_wp2_with (first | (with_reducible refine w0g ?_; first | refine q0a rfl 22 _ rfl rfl (DAt.c0 F1) (by kernel_rfl) ?_) | (with_reducible show Code.wp _ (Code.region _ _ true) _ _ _; fail))
      refine q0e (by kernel_rfl) (by kernel_rfl) ?_
      repeat ((go_big_quiet_want; first | ((with_reducible refine w28g ?_); first | (refine q0d 22 _ rfl rfl (DAt.c0 F1) (by kernel_rfl) ?_; simp only [pS]; go_big_quiet_on) | (refine q0d 24 _ rfl rfl (E1) (by kernel_rfl) ?_; simp only [pS]; go_big_quiet_on) | (refine q1p _ rfl rfl d1 OX.out ?_; simp only [pS]; go_big_quiet_on) | (refine q1p _ rfl rfl d2 OY.out ?_; simp only [pS]; go_big_quiet_on)) | (go_big_quiet_op; first | go_big_quiet_on | (refine ⟨_, fun _ => q0f (HFY.out _), ?_⟩; clear HFY; go_big_quiet_on) | (refine ⟨_, fun _ => q0f (HFX.out _), ?_⟩; go_big_quiet_on))))
      refine wpQuiet_nil ?_
      intro _ hq
      (try replace F1 := F1.later hq); (try replace b := later b hq)
      clear hq
      go_wp2_with fail
      go_ret
      exact ⟨by rw [HA2.out]; simp, b⟩
    ·obtain rfl : k = 0 := by omega
     have HA2 : Hid (riseAll spotL (fun x => decide (x.index < 8)) (l1.take (0 + 1)) = true) := by rw [j6k hx]; exact hide hg
     clear hcs hx okx HA hg h0 HFX
     go_wp2_with (first | (with_reducible refine w0g ?_; first | refine q0a rfl 22 _ rfl rfl (DAt.c0 F1) (by kernel_rfl) ?_) | (with_reducible show Code.wp _ (Code.region _ _ true) _ _ _; fail))
     refine q0e (by kernel_rfl) (by kernel_rfl) ?_
     repeat (first | go_big_quiet_skip | (go_big_quiet_want; first | ((with_reducible refine w28g ?_); first | (refine q0d 22 _ rfl rfl (DAt.c0 F1) (by kernel_rfl) ?_; simp only [pS]; go_big_quiet_on) | (refine q0d 24 _ rfl rfl (E1) (by kernel_rfl) ?_; simp only [pS]; go_big_quiet_on)) | (go_big_quiet_op; first | go_big_quiet_on)))
     refine wpQuiet_nil ?_
     intro _ hq
     (try replace F1 := F1.later hq); (try replace b := later b hq)
     clear hq
     go_wp2_with fail
     go_roundw
     case rel => exact ⟨1, by simp, by omega, HA2, F1, b⟩
     case measure => simp [RowKit.intOf]; omega
  ·obtain rfl : n1 = k := by omega
   have hA := HA.out
   rw [List.take_of_length_le (by rw [← HN1.out]; exact Nat.le_refl _)] at hA
   have R1 := hide hA
   clear HA hA hlt hk
   go_wp2_with (with_reducible refine w0g ?_; first | refine q0a rfl 22 _ rfl rfl (DAt.c0 F1) (by kernel_rfl) ?_)
   go_loopw [4] (fun i wr => ∃ k : Nat, i = .int .i64 k ∧ k ≤ n2 ∧ Hid (((l2.take k).all fun x => amountB x.amount) = true) ∧ DAt wr g2 (.slice a1 n1 c1) (.slice a2 n2 c2) (.slice a3 n3 c3) (.slice a4 n4 c4) (.slice a5 n5 c5) f s t ∧ Below w.heap.size w wr) (fun i _ => n2 - (RowKit.intOf i).toNat)
   case atStart => exact ⟨0, rfl, by omega, hide (by simp [riseAll, risesB]), F1, b⟩
   case round =>
    clear b F1
    obtain ⟨k, rfl, hk, HA, F1, b⟩ := hrel
    by_cases hlt : k < n2
    ·obtain ⟨x, hx, okx⟩ := q1i HL2.out (k := k) (by rw [← HN2.out]; exact hlt)
     obtain ⟨bb, kk, cc, q1', _, hcs⟩ := (h2.later b).block (by rw [← HN2.out]; omega)
     simp only [Value.slice.injEq] at q1'
     obtain ⟨rfl, -, rfl⟩ := q1'
     have d1 := hcs k x hx
     have OX := hide okx
     have d2 := (outR2 d1 okx).one
     have HC := hide (fun w => q9n x.amount w okx.2.2)
     have HX := hide (j6c HA.out hx)
     have HX2 := hide (fun h => al_no (g := fun x => amountB x.amount) hx h)
     clear hcs hx okx
     cases hg : amountB x.amount
     case true =>
      have HA2 : Hid (((l2.take (k + 1)).all fun x => amountB x.amount) = true) := by rw [HX.out]; exact hide hg
      rw [hg] at HC
      clear HX HX2 HA hg
      go_wp2_with (first | (with_reducible refine w0g ?_; first | refine q0a rfl 23 _ rfl rfl (DAt.c1 F1) (by kernel_rfl) ?_) | (with_reducible refine w0g ?_; refine q0a rfl 24 _ rfl rfl d2 (by kernel_rfl) ?_) | (go_at_call 51; refine (HC.out _).mono ?_; rintro _ _ ⟨rfl, hc⟩; (try replace F1 := F1.later hc); (try replace b := later b hc); clear hc))
      go_roundw
      case rel => exact ⟨k + 1, by simp, by omega, HA2, F1, b⟩
      case measure => simp [RowKit.intOf]; omega
     case false =>
      have HA2 : Hid (((l2).all fun x => amountB x.amount) = false) := HX2.out hg
      rw [hg] at HC
      clear HX HX2 HA hg
      go_wp2_with (first | (with_reducible refine w0g ?_; first | refine q0a rfl 23 _ rfl rfl (DAt.c1 F1) (by kernel_rfl) ?_) | (with_reducible refine w0g ?_; refine q0a rfl 24 _ rfl rfl d2 (by kernel_rfl) ?_) | (go_at_call 51; refine (HC.out _).mono ?_; rintro _ _ ⟨rfl, hc⟩; (try replace F1 := F1.later hc); (try replace b := later b hc); clear hc))
      go_ret
      exact ⟨by rw [R1.out, Bool.true_and, HA2.out]; simp, b⟩
    ·obtain rfl : n2 = k := by omega
     have hA := HA.out
     rw [List.take_of_length_le (by rw [← HN2.out]; exact Nat.le_refl _)] at hA
     have R2 := hide hA
     clear HA hA hlt hk
     go_wp2_with (with_reducible refine w0g ?_; first | refine q0a rfl 23 _ rfl rfl (DAt.c1 F1) (by kernel_rfl) ?_)
     go_loopw [5] (fun i wr => ∃ k : Nat, i = .int .i64 k ∧ k ≤ n3 ∧ Hid ((l3.take k).all certB = true) ∧ DAt wr g2 (.slice a1 n1 c1) (.slice a2 n2 c2) (.slice a3 n3 c3) (.slice a4 n4 c4) (.slice a5 n5 c5) f s t ∧ Below w.heap.size w wr) (fun i _ => n3 - (RowKit.intOf i).toNat)
     case atStart => exact ⟨0, rfl, by omega, hide (by simp [riseAll, risesB]), F1, b⟩
     case round =>
      clear b F1
      obtain ⟨k, rfl, hk, HA, F1, b⟩ := hrel
      by_cases hlt : k < n3
      ·obtain ⟨x, hx, okx⟩ := q1i HL3.out (k := k) (by rw [← HN3.out]; exact hlt)
       obtain ⟨bb, kk, cc, q1', _, hcs⟩ := (h3.later b).block (by rw [← HN3.out]; omega)
       simp only [Value.slice.injEq] at q1'
       obtain ⟨rfl, -, rfl⟩ := q1'
       have d1 := hcs k x hx
       have OX := hide okx
       have HC := hide (fun w => x0u x w okx)
       have HX := hide (j6c HA.out hx)
       have HX2 := hide (fun h => al_no (g := fun x => certB x) hx h)
       clear hcs hx okx
       cases hg : certB x
       case true =>
        have HA2 : Hid ((l3.take (k + 1)).all certB = true) := by rw [HX.out]; exact hide hg
        rw [hg] at HC
        clear HX HX2 HA hg
        go_wp2_with (first | (with_reducible refine w0g ?_; first | refine q0a rfl 25 _ rfl rfl (DAt.c5 F1) (by kernel_rfl) ?_) | (with_reducible refine w0g ?_; refine q1k rfl _ rfl rfl d1 OX.out ?_) | (go_at_call 52; refine (HC.out _).mono ?_; rintro _ _ ⟨rfl, hc⟩; (try replace F1 := F1.later hc); (try replace b := later b hc); clear hc))
        go_roundw
        case rel => exact ⟨k + 1, by simp, by omega, HA2, F1, b⟩
        case measure => simp [RowKit.intOf]; omega
       case false =>
        have HA2 : Hid ((l3).all certB = false) := HX2.out hg
        rw [hg] at HC
        clear HX HX2 HA hg
        go_wp2_with (first | (with_reducible refine w0g ?_; first | refine q0a rfl 25 _ rfl rfl (DAt.c5 F1) (by kernel_rfl) ?_) | (with_reducible refine w0g ?_; refine q1k rfl _ rfl rfl d1 OX.out ?_) | (go_at_call 52; refine (HC.out _).mono ?_; rintro _ _ ⟨rfl, hc⟩; (try replace F1 := F1.later hc); (try replace b := later b hc); clear hc))
        go_ret
        exact ⟨by rw [R1.out, Bool.true_and, R2.out, Bool.true_and, HA2.out]; simp, b⟩
      ·obtain rfl : n3 = k := by omega
       have hA := HA.out
       rw [List.take_of_length_le (by rw [← HN3.out]; exact Nat.le_refl _)] at hA
       have R3 := hide hA
       clear HA hA hlt hk
       go_wp2_with (with_reducible refine w0g ?_; first | refine q0a rfl 25 _ rfl rfl (DAt.c5 F1) (by kernel_rfl) ?_)
       go_loopw [6] (fun i wr => ∃ k : Nat, i = .int .i64 k ∧ k ≤ n4 ∧ Hid (riseAll PayT.key (fun x => amountB x.amount) (l4.take k) = true) ∧ DAt wr g2 (.slice a1 n1 c1) (.slice a2 n2 c2) (.slice a3 n3 c3) (.slice a4 n4 c4) (.slice a5 n5 c5) f s t ∧ Below w.heap.size w wr) (fun i _ => n4 - (RowKit.intOf i).toNat)
       case atStart => exact ⟨0, rfl, by omega, hide (by simp [riseAll, risesB]), F1, b⟩
       case round =>
        clear b F1
        obtain ⟨k, rfl, hk, HA, F1, b⟩ := hrel
        by_cases hlt : k < n4
        ·obtain ⟨x, hx, okx⟩ := q1i HL4.out (k := k) (by rw [← HN4.out]; exact hlt)
         obtain ⟨bb, kk, cc, q1', _, hcs⟩ := (h4.later b).block (by rw [← HN4.out]; omega)
         simp only [Value.slice.injEq] at q1'
         obtain ⟨rfl, -, rfl⟩ := q1'
         have d1 := hcs k x hx
         have OX := hide okx
         have E1 : wr.cell? ⟨bb, kk + k * 33 + 32, none⟩ = some (.int .u64 x.amount) := (payR1 d1 okx).one
         have HC := hide (fun w => q9n x.amount w okx.2)
         have K1 := Cells.left (payR0 d1)
         have HK1 : Hid (x.key.length = 32) := okx.1
         cases hg : amountB x.amount
         case false =>
          have HA2 : Hid (riseAll PayT.key (fun x => amountB x.amount) (l4) = false) := hide (z2i (f := PayT.key) (g := fun x => amountB x.amount) hx hg)
          rw [hg] at HC
          clear hcs hx okx HA hg
          go_wp2_with (first | (with_reducible refine w0g ?_; first | refine q0a rfl 26 _ rfl rfl (DAt.c6 F1) (by kernel_rfl) ?_) | (with_reducible show Code.wp _ (Code.region _ _ true) _ _ _; fail))
          refine q0e (by kernel_rfl) (by kernel_rfl) ?_
          repeat (first | go_big_quiet_skip | (go_big_quiet_want; first | ((with_reducible refine w28g ?_); first | (refine q0d 26 _ rfl rfl (DAt.c6 F1) (by kernel_rfl) ?_; simp only [pS]; go_big_quiet_on) | (refine q0d 24 _ rfl rfl (E1) (by kernel_rfl) ?_; simp only [pS]; go_big_quiet_on)) | (go_big_quiet_op; first | go_big_quiet_on | (refine ⟨_, fun _ => q0f (HC.out _), ?_⟩; go_big_quiet_on))))
          refine wpQuiet_nil ?_
          intro _ hq
          (try replace F1 := F1.later hq); (try replace b := later b hq)
          clear hq
          go_wp2_with fail
          go_ret
          exact ⟨by rw [R1.out, Bool.true_and, R2.out, Bool.true_and, R3.out, Bool.true_and, HA2.out]; simp, b⟩
         case true =>
          rw [hg] at HC
          have HFX := hide (fun w => q2w x.key w okx.1)
          by_cases h0 : 0 < k
          ·obtain ⟨j, hj⟩ : ∃ j, j = k - 1 := ⟨_, rfl⟩
           obtain ⟨y, hy, oky⟩ := q1i HL4.out (k := j) (by rw [← HN4.out]; omega)
           have d2 := hcs j y hy
           have K2 := Cells.left (payR0 d2)
           have HK2 : Hid (y.key.length = 32) := oky.1
           have OY := hide oky
           have HFY := hide (fun w => q2w y.key w oky.1)
           have HR := hide (x0m (g := fun x => amountB x.amount) HA.out h0 (by rw [← hj]; exact hy) hx hg)
           have HS := hide (fun h => j9p (f := PayT.key) (g := fun x => amountB x.amount) (l := l4) (k := k + 1) h)
           have z1 := decide_eq_true (show (0 : Int) < (k : Int) by omega)
           have z2 : (k : Int) - 1 = (j : Int) := by omega
           have hkn : j < n4 := by omega
           obtain ⟨sx, hsx⟩ : ∃ z : ByteArray, z = ⟨(PayT.key x).toArray⟩ := ⟨_, rfl⟩
           obtain ⟨sy, hsy⟩ : ∃ z : ByteArray, z = ⟨(PayT.key y).toArray⟩ := ⟨_, rfl⟩
           have hl1 : PayT.key x = sx.toList := by rw [hsx, ByteArray.toList_eq]
           have hl2 : PayT.key y = sy.toList := by rw [hsy, ByteArray.toList_eq]
           rw [hl1, hl2] at HR
           rw [← hsx] at HFX
           rw [← hsy] at HFY
           clear hcs hx okx HA hg hy oky hl1 hl2 hsx hsy hj
           cases hB : Op.bytesLess sy.toList sx.toList
           case true =>
            have HA2 : Hid (riseAll PayT.key (fun x => amountB x.amount) (l4.take (k + 1)) = true) := by rw [HR.out]; exact hide hB
            clear HR HS
            go_wp2_with (first | (with_reducible refine w0g ?_; first | refine q0a rfl 26 _ rfl rfl (DAt.c6 F1) (by kernel_rfl) ?_) | (with_reducible show Code.wp _ (Code.region _ _ true) _ _ _; fail))
            refine q0e (by kernel_rfl) (by kernel_rfl) ?_
            repeat ((go_big_quiet_want; first | ((with_reducible refine w28g ?_); first | (refine q0d 26 _ rfl rfl (DAt.c6 F1) (by kernel_rfl) ?_; simp only [pS]; go_big_quiet_on) | (refine q0d 24 _ rfl rfl (E1) (by kernel_rfl) ?_; simp only [pS]; go_big_quiet_on) | (refine q0m _ rfl rfl (K1) (HK1.out) ?_; simp only [pS]; go_big_quiet_on) | (refine q0m _ rfl rfl (K2) (HK2.out) ?_; simp only [pS]; go_big_quiet_on)) | (go_big_quiet_op; first | go_big_quiet_on | (refine ⟨_, fun _ => q0f (HC.out _), ?_⟩; go_big_quiet_on) | (refine ⟨_, fun _ => q0f (HFY.out _), ?_⟩; clear HFY; go_big_quiet_on) | (refine ⟨_, fun _ => q0f (HFX.out _), ?_⟩; go_big_quiet_on))))
            refine wpQuiet_nil ?_
            intro _ hq
            (try replace F1 := F1.later hq); (try replace b := later b hq)
            clear hq
            go_wp2_with fail
            go_roundw
            case rel => exact ⟨k + 1, by simp, by omega, HA2, F1, b⟩
            case measure => simp [RowKit.intOf]; omega
           case false =>
            have HA2 : Hid (riseAll PayT.key (fun x => amountB x.amount) (l4) = false) := HS.out (by rw [HR.out]; exact hB)
            clear HR HS
            go_wp2_with (first | (with_reducible refine w0g ?_; first | refine q0a rfl 26 _ rfl rfl (DAt.c6 F1) (by kernel_rfl) ?_) | (with_reducible show Code.wp _ (Code.region _ _ true) _ _ _; fail))
            refine q0e (by kernel_rfl) (by kernel_rfl) ?_
            repeat ((go_big_quiet_want; first | ((with_reducible refine w28g ?_); first | (refine q0d 26 _ rfl rfl (DAt.c6 F1) (by kernel_rfl) ?_; simp only [pS]; go_big_quiet_on) | (refine q0d 24 _ rfl rfl (E1) (by kernel_rfl) ?_; simp only [pS]; go_big_quiet_on) | (refine q0m _ rfl rfl (K1) (HK1.out) ?_; simp only [pS]; go_big_quiet_on) | (refine q0m _ rfl rfl (K2) (HK2.out) ?_; simp only [pS]; go_big_quiet_on)) | (go_big_quiet_op; first | go_big_quiet_on | (refine ⟨_, fun _ => q0f (HC.out _), ?_⟩; go_big_quiet_on) | (refine ⟨_, fun _ => q0f (HFY.out _), ?_⟩; clear HFY; go_big_quiet_on) | (refine ⟨_, fun _ => q0f (HFX.out _), ?_⟩; go_big_quiet_on))))
            refine wpQuiet_nil ?_
            intro _ hq
            (try replace F1 := F1.later hq); (try replace b := later b hq)
            clear hq
            go_wp2_with fail
            go_ret
            exact ⟨by rw [R1.out, Bool.true_and, R2.out, Bool.true_and, R3.out, Bool.true_and, HA2.out]; simp, b⟩
          ·obtain rfl : k = 0 := by omega
           have HA2 : Hid (riseAll PayT.key (fun x => amountB x.amount) (l4.take (0 + 1)) = true) := by rw [j6k hx]; exact hide hg
           clear hcs hx okx HA hg h0 HFX
           go_wp2_with (first | (with_reducible refine w0g ?_; first | refine q0a rfl 26 _ rfl rfl (DAt.c6 F1) (by kernel_rfl) ?_) | (with_reducible show Code.wp _ (Code.region _ _ true) _ _ _; fail))
           refine q0e (by kernel_rfl) (by kernel_rfl) ?_
           repeat (first | go_big_quiet_skip | (go_big_quiet_want; first | ((with_reducible refine w28g ?_); first | (refine q0d 26 _ rfl rfl (DAt.c6 F1) (by kernel_rfl) ?_; simp only [pS]; go_big_quiet_on) | (refine q0d 24 _ rfl rfl (E1) (by kernel_rfl) ?_; simp only [pS]; go_big_quiet_on)) | (go_big_quiet_op; first | go_big_quiet_on | (refine ⟨_, fun _ => q0f (HC.out _), ?_⟩; go_big_quiet_on))))
           refine wpQuiet_nil ?_
           intro _ hq
           (try replace F1 := F1.later hq); (try replace b := later b hq)
           clear hq
           go_wp2_with fail
           go_roundw
           case rel => exact ⟨1, by simp, by omega, HA2, F1, b⟩
           case measure => simp [RowKit.intOf]; omega
        ·obtain rfl : n4 = k := by omega
         have hA := HA.out
         rw [List.take_of_length_le (by rw [← HN4.out]; exact Nat.le_refl _)] at hA
         have R4 := hide hA
         clear HA hA hlt hk
         go_wp2_with (with_reducible refine w0g ?_; first | refine q0a rfl 26 _ rfl rfl (DAt.c6 F1) (by kernel_rfl) ?_)
         go_loopw [7] (fun i wr => ∃ k : Nat, i = .int .i64 k ∧ k ≤ n5 ∧ Hid (riseAll WitT.key (fun x => decide (x.sig.size = 1024)) (l5.take k) = true) ∧ DAt wr g2 (.slice a1 n1 c1) (.slice a2 n2 c2) (.slice a3 n3 c3) (.slice a4 n4 c4) (.slice a5 n5 c5) f s t ∧ Below w.heap.size w wr) (fun i _ => n5 - (RowKit.intOf i).toNat)
         case atStart => exact ⟨0, rfl, by omega, hide (by simp [riseAll, risesB]), F1, b⟩
         case round =>
          clear b F1
          obtain ⟨k, rfl, hk, HA, F1, b⟩ := hrel
          by_cases hlt : k < n5
          ·obtain ⟨x, hx, okx⟩ := q1i HL5.out (k := k) (by rw [← HN5.out]; exact hlt)
           obtain ⟨bb, kk, cc, q1', _, hcs⟩ := (h5.later b).block (by rw [← HN5.out]; omega)
           simp only [Value.slice.injEq] at q1'
           obtain ⟨rfl, -, rfl⟩ := q1'
           have d1 := hcs k x hx
           have OX := hide okx
           have E1 : wr.cell? ⟨bb, kk + k * 33 + 32, none⟩ = some (.string x.sig) := (witR1 d1 okx).one
           have K1 := Cells.left (witR0 d1)
           have HK1 : Hid (x.key.length = 32) := okx
           cases hg : decide (x.sig.size = 1024)
           case false =>
            have HA2 : Hid (riseAll WitT.key (fun x => decide (x.sig.size = 1024)) (l5) = false) := hide (z2i (f := WitT.key) (g := fun x => decide (x.sig.size = 1024)) hx hg)
            have cg : ((x.sig.size : Int) != 1024) = true := by have := of_decide_eq_false hg; rw [bne_iff_ne]; omega
            clear hcs hx okx HA hg
            go_wp2_with (first | (with_reducible refine w0g ?_; first | refine q0a rfl 27 _ rfl rfl (DAt.c7 F1) (by kernel_rfl) ?_) | (with_reducible show Code.wp _ (Code.region _ _ true) _ _ _; fail))
            refine q0e (by kernel_rfl) (by kernel_rfl) ?_
            repeat (first | go_big_quiet_skip | (go_big_quiet_want; first | ((with_reducible refine w28g ?_); first | (refine q0d 27 _ rfl rfl (DAt.c7 F1) (by kernel_rfl) ?_; simp only [pS]; go_big_quiet_on) | (refine q0d 9 _ rfl rfl (E1) (by kernel_rfl) ?_; simp only [pS]; go_big_quiet_on)) | (go_big_quiet_op; first | go_big_quiet_on)))
            refine wpQuiet_nil ?_
            intro _ hq
            (try replace F1 := F1.later hq); (try replace b := later b hq)
            clear hq
            go_wp2_with fail
            go_ret
            exact ⟨by rw [R1.out, Bool.true_and, R2.out, Bool.true_and, R3.out, Bool.true_and, R4.out, Bool.true_and, HA2.out]; simp, b⟩
           case true =>
            have cg : ((x.sig.size : Int) != 1024) = false := by have := of_decide_eq_true hg; rw [this]; rfl
            have HFX := hide (fun w => q2w x.key w okx)
            by_cases h0 : 0 < k
            ·obtain ⟨j, hj⟩ : ∃ j, j = k - 1 := ⟨_, rfl⟩
             obtain ⟨y, hy, oky⟩ := q1i HL5.out (k := j) (by rw [← HN5.out]; omega)
             have d2 := hcs j y hy
             have K2 := Cells.left (witR0 d2)
             have HK2 : Hid (y.key.length = 32) := oky
             have OY := hide oky
             have HFY := hide (fun w => q2w y.key w oky)
             have HR := hide (x0m (g := fun x => decide (x.sig.size = 1024)) HA.out h0 (by rw [← hj]; exact hy) hx hg)
             have HS := hide (fun h => j9p (f := WitT.key) (g := fun x => decide (x.sig.size = 1024)) (l := l5) (k := k + 1) h)
             have z1 := decide_eq_true (show (0 : Int) < (k : Int) by omega)
             have z2 : (k : Int) - 1 = (j : Int) := by omega
             have hkn : j < n5 := by omega
             obtain ⟨sx, hsx⟩ : ∃ z : ByteArray, z = ⟨(WitT.key x).toArray⟩ := ⟨_, rfl⟩
             obtain ⟨sy, hsy⟩ : ∃ z : ByteArray, z = ⟨(WitT.key y).toArray⟩ := ⟨_, rfl⟩
             have hl1 : WitT.key x = sx.toList := by rw [hsx, ByteArray.toList_eq]
             have hl2 : WitT.key y = sy.toList := by rw [hsy, ByteArray.toList_eq]
             rw [hl1, hl2] at HR
             rw [← hsx] at HFX
             rw [← hsy] at HFY
             clear hcs hx okx HA hg hy oky hl1 hl2 hsx hsy hj
             cases hB : Op.bytesLess sy.toList sx.toList
             case true =>
              have HA2 : Hid (riseAll WitT.key (fun x => decide (x.sig.size = 1024)) (l5.take (k + 1)) = true) := by rw [HR.out]; exact hide hB
              clear HR HS
              go_wp2_with (first | (with_reducible refine w0g ?_; first | refine q0a rfl 27 _ rfl rfl (DAt.c7 F1) (by kernel_rfl) ?_) | (with_reducible show Code.wp _ (Code.region _ _ true) _ _ _; fail))
              refine q0e (by kernel_rfl) (by kernel_rfl) ?_
              repeat ((go_big_quiet_want; first | ((with_reducible refine w28g ?_); first | (refine q0d 27 _ rfl rfl (DAt.c7 F1) (by kernel_rfl) ?_; simp only [pS]; go_big_quiet_on) | (refine q0d 9 _ rfl rfl (E1) (by kernel_rfl) ?_; simp only [pS]; go_big_quiet_on) | (refine q0m _ rfl rfl (K1) (HK1.out) ?_; simp only [pS]; go_big_quiet_on) | (refine q0m _ rfl rfl (K2) (HK2.out) ?_; simp only [pS]; go_big_quiet_on)) | (go_big_quiet_op; first | go_big_quiet_on | (refine ⟨_, fun _ => q0f (HFY.out _), ?_⟩; clear HFY; go_big_quiet_on) | (refine ⟨_, fun _ => q0f (HFX.out _), ?_⟩; go_big_quiet_on))))
              refine wpQuiet_nil ?_
              intro _ hq
              (try replace F1 := F1.later hq); (try replace b := later b hq)
              clear hq
              go_wp2_with fail
              go_roundw
              case rel => exact ⟨k + 1, by simp, by omega, HA2, F1, b⟩
              case measure => simp [RowKit.intOf]; omega
             case false =>
              have HA2 : Hid (riseAll WitT.key (fun x => decide (x.sig.size = 1024)) (l5) = false) := HS.out (by rw [HR.out]; exact hB)
              clear HR HS
              go_wp2_with (first | (with_reducible refine w0g ?_; first | refine q0a rfl 27 _ rfl rfl (DAt.c7 F1) (by kernel_rfl) ?_) | (with_reducible show Code.wp _ (Code.region _ _ true) _ _ _; fail))
              refine q0e (by kernel_rfl) (by kernel_rfl) ?_
              repeat ((go_big_quiet_want; first | ((with_reducible refine w28g ?_); first | (refine q0d 27 _ rfl rfl (DAt.c7 F1) (by kernel_rfl) ?_; simp only [pS]; go_big_quiet_on) | (refine q0d 9 _ rfl rfl (E1) (by kernel_rfl) ?_; simp only [pS]; go_big_quiet_on) | (refine q0m _ rfl rfl (K1) (HK1.out) ?_; simp only [pS]; go_big_quiet_on) | (refine q0m _ rfl rfl (K2) (HK2.out) ?_; simp only [pS]; go_big_quiet_on)) | (go_big_quiet_op; first | go_big_quiet_on | (refine ⟨_, fun _ => q0f (HFY.out _), ?_⟩; clear HFY; go_big_quiet_on) | (refine ⟨_, fun _ => q0f (HFX.out _), ?_⟩; go_big_quiet_on))))
              refine wpQuiet_nil ?_
              intro _ hq
              (try replace F1 := F1.later hq); (try replace b := later b hq)
              clear hq
              go_wp2_with fail
              go_ret
              exact ⟨by rw [R1.out, Bool.true_and, R2.out, Bool.true_and, R3.out, Bool.true_and, R4.out, Bool.true_and, HA2.out]; simp, b⟩
            ·obtain rfl : k = 0 := by omega
             have HA2 : Hid (riseAll WitT.key (fun x => decide (x.sig.size = 1024)) (l5.take (0 + 1)) = true) := by rw [j6k hx]; exact hide hg
             clear hcs hx okx HA hg h0 HFX
             go_wp2_with (first | (with_reducible refine w0g ?_; first | refine q0a rfl 27 _ rfl rfl (DAt.c7 F1) (by kernel_rfl) ?_) | (with_reducible show Code.wp _ (Code.region _ _ true) _ _ _; fail))
             refine q0e (by kernel_rfl) (by kernel_rfl) ?_
             repeat (first | go_big_quiet_skip | (go_big_quiet_want; first | ((with_reducible refine w28g ?_); first | (refine q0d 27 _ rfl rfl (DAt.c7 F1) (by kernel_rfl) ?_; simp only [pS]; go_big_quiet_on) | (refine q0d 9 _ rfl rfl (E1) (by kernel_rfl) ?_; simp only [pS]; go_big_quiet_on)) | (go_big_quiet_op; first | go_big_quiet_on)))
             refine wpQuiet_nil ?_
             intro _ hq
             (try replace F1 := F1.later hq); (try replace b := later b hq)
             clear hq
             go_wp2_with fail
             go_roundw
             case rel => exact ⟨1, by simp, by omega, HA2, F1, b⟩
             case measure => simp [RowKit.intOf]; omega
          ·obtain rfl : n5 = k := by omega
           have hA := HA.out
           rw [List.take_of_length_le (by rw [← HN5.out]; exact Nat.le_refl _)] at hA
           have R5 := hide hA
           clear HA hA hlt hk
           go_wp2_with (with_reducible refine w0g ?_; first | refine q0a rfl 27 _ rfl rfl (DAt.c7 F1) (by kernel_rfl) ?_)
           go_ret
           exact ⟨by rw [R1.out, R2.out, R3.out, R4.out, R5.out]; rfl, b⟩
theorem j5b (v : Value) (d : Deed) (w : World) (hd : DeedIs w v d) :
  Calls Tryz.prog 13 #[v] w fun x w' => x = .returned (.bool (mayD d)) ∧ Below w.heap.size w w' := by
 cases hs : sizesD d
 ·exact x5w v d w hd hs
 ·exact x3o v d w hd hs
end Go.Proofs.YtbbfnpfkbbpjgaaGreat
