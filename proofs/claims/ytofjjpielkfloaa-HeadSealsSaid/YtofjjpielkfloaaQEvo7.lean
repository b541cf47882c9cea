/- Package evolve: Check. -/
import Derived.Test.YtofjjpielkfloaaQEvo6
namespace Go.Proofs.Ytofjjpielkfloaa
open Go.RowKit Go.Lib
set_option linter.unusedVariables false
set_option linter.unusedSimpArgs false

/-- Whether a signature is checked. -/
def checkE (pub : List UInt8) (d n : Int) (m : List UInt8) (sig : ByteArray) : Bool :=
  perB d n && decide ((sig.size : Int) = 1024 + 32 * d) && decide (upE d.toNat n.toNat 0 (sideOf sig) d.toNat (tellsL m (sig.extract 0 1024)) = pub)
def ChkK (g2 g3 : Nat) (m : List UInt8) (sig : ByteArray) (x : World) : Prop := HashAt x g2 m ∧ One x g3 9 (.string sig)
theorem chkK_lasts (g2 g3 : Nat) (m : List UInt8) (sig : ByteArray) : Lasts (ChkK g2 g3 m sig) := fun _ _ h hb => ⟨h.1.later hb, h.2.later hb⟩
set_option maxRecDepth 100000 in
set_option maxHeartbeats 3200000 in
theorem evoCheck_any (pub m : List UInt8) (d n : Int) (sig : ByteArray) (w : World) (hp : pub.length = 32) (hm : m.length = 32) (hz : sig.size ≤ 1099511627776) :
    Calls Try.prog 32 #[hv pub, .int .i64 d, .int .i64 n, hv m, .string sig] w fun e w' => e = .returned (.bool (checkE pub d n m sig)) ∧ Below w.heap.size w w' := by
  have HP := hide hp
  have HM := hide hm
  have HPR := hide (fun w => period_any d n w)
  have b := Below.refl w.heap.size w
  obtain ⟨R, hR⟩ : ∃ R, R = checkE pub d n m sig := ⟨_, rfl⟩
  rw [← hR]
  have HRD : Hid (checkE pub d n m sig = R) := hR.symm
  clear hR hp hm
  unfold hv
  have mF1 := True.intro
  have mF2 := True.intro
  have mF3 := True.intro
  have mF4 := True.intro
  by_cases h1 : perB d n = true
  · obtain ⟨d1, d2, d3, d4, d5⟩ := perB_small h1
    rw [h1] at HPR
    by_cases h2 : (sig.size : Int) = 1024 + 32 * d
    · obtain ⟨d', rfl⟩ := Int.eq_ofNat_of_zero_le d1
      obtain ⟨n', rfl⟩ := Int.eq_ofNat_of_zero_le d3
      have hsz : (sig.extract 0 1024).size = 1024 := by simp; omega
      have HT := hide (fun w => tells_any m (sig.extract 0 1024) HM.out hsz w)
      have HTL := hide (tellsL_length m (sig.extract 0 1024))
      have HUP : Hid (∀ (g : Nat) (w : World), One w g 9 (.string sig) → Calls Try.prog 57 #[hv (tellsL m (sig.extract 0 1024)), .int .i64 d', .int .i64 n', .int .i64 0, .func (.func 73) #[] #[.pointer (some ⟨g, 0, none⟩)]] w fun e w' => e = .returned (hv (upE d' n' 0 (sideOf sig) d' (tellsL m (sig.extract 0 1024)))) ∧ Below w.heap.size w w') := fun g w h => by
        have := up_check (tellsL m (sig.extract 0 1024)) d' n' 0 (sideOf sig) (.pointer (some ⟨g, 0, none⟩)) w (tellsL_length _ _) (by omega) (by omega) (by omega) (fun i _ hi => sideOf_length sig i (by omega)) (fun i w' _ hi hb => chkSide_any g i sig w' (h.later hb) (by omega) hz)
        exact this
      have HUL := hide (upE_length d' n' 0 (sideOf sig) d' (tellsL m (sig.extract 0 1024)) (tellsL_length _ _))
      have HRE : Hid (decide (upE d' n' 0 (sideOf sig) d' (tellsL m (sig.extract 0 1024)) = pub) = R) := by
        have h := HRD.out
        unfold checkE at h
        rw [h1, decide_eq_true h2, Bool.true_and, Bool.true_and, Int.toNat_natCast, Int.toNat_natCast] at h
        exact h
      generalize upE d' n' 0 (sideOf sig) d' (tellsL m (sig.extract 0 1024)) = U at *
      generalize tellsL m (sig.extract 0 1024) = T at *
      clear h1 hsz HRD d4
      have e3 : ((sig.size : Int) == 1024 + 32 * (d' : Int)) = true := beq_iff_eq.2 h2
      have hge : 1024 ≤ sig.size := by omega
      clear h2
      go_enter Try.func32, Try.ntmps32
      go_wp2_with (first | (with_reducible show wpList _ _ _ (⟨_, Op.box _ _, _, _, _, _⟩ :: _) _ _; clear mF1; refine wpl_box_hash rfl _ rfl rfl HP.out ?_; intro _ g1 hg1 F1 hb; (try have := F1.lt); (try have := F2.lt); (try have := F3.lt); (try have := F4.lt); (try have := F5.lt); (try have := F6.lt); (try have := F7.lt); (try have := F8.lt); (try have := F9.lt); (try have := z.lt); (try have := G1.lt); (try have := G2.lt); (try have := G3.lt); (try have := b.size); (try replace F1 := F1.later hb); (try replace F2 := F2.later hb); (try replace F3 := F3.later hb); (try replace F4 := F4.later hb); (try replace F5 := F5.later hb); (try replace F6 := F6.later hb); (try replace F7 := F7.later hb); (try replace F8 := F8.later hb); (try replace F9 := F9.later hb); (try replace G1 := G1.later hb); (try replace G2 := G2.later hb); (try replace G3 := G3.later hb); (try replace z := z.later hb); (try replace b := later b hb); (try replace bB := mixed hB bB hb); clear hb) | (with_reducible show wpList _ _ _ (⟨_, Op.box _ _, _, _, _, _⟩ :: _) _ _; clear mF2; refine wpl_box_hash rfl _ rfl rfl HM.out ?_; intro _ g2 hg2 F2 hb; (try have := F1.lt); (try have := F2.lt); (try have := F3.lt); (try have := F4.lt); (try have := F5.lt); (try have := F6.lt); (try have := F7.lt); (try have := F8.lt); (try have := F9.lt); (try have := z.lt); (try have := G1.lt); (try have := G2.lt); (try have := G3.lt); (try have := b.size); (try replace F1 := F1.later hb); (try replace F2 := F2.later hb); (try replace F3 := F3.later hb); (try replace F4 := F4.later hb); (try replace F5 := F5.later hb); (try replace F6 := F6.later hb); (try replace F7 := F7.later hb); (try replace F8 := F8.later hb); (try replace F9 := F9.later hb); (try replace G1 := G1.later hb); (try replace G2 := G2.later hb); (try replace G3 := G3.later hb); (try replace z := z.later hb); (try replace b := later b hb); (try replace bB := mixed hB bB hb); clear hb) | (with_reducible show wpList _ _ _ (⟨_, Op.box _ _, _, _, _, _⟩ :: _) _ _; clear mF3; refine wpl_box_one rfl 9 _ rfl (v := .string sig) rfl rfl ?_; intro _ g3 hg3 F3 hb; (try have := F1.lt); (try have := F2.lt); (try have := F3.lt); (try have := F4.lt); (try have := F5.lt); (try have := F6.lt); (try have := F7.lt); (try have := F8.lt); (try have := F9.lt); (try have := z.lt); (try have := G1.lt); (try have := G2.lt); (try have := G3.lt); (try have := b.size); (try replace F1 := F1.later hb); (try replace F2 := F2.later hb); (try replace F3 := F3.later hb); (try replace F4 := F4.later hb); (try replace F5 := F5.later hb); (try replace F6 := F6.later hb); (try replace F7 := F7.later hb); (try replace F8 := F8.later hb); (try replace F9 := F9.later hb); (try replace G1 := G1.later hb); (try replace G2 := G2.later hb); (try replace G3 := G3.later hb); (try replace z := z.later hb); (try replace b := later b hb); (try replace bB := mixed hB bB hb); clear hb) | (with_reducible show wpList _ _ _ (⟨_, Op.load _ _, _, _, _, _⟩ :: _) _ _; first | (refine wpl_load_hash rfl _ rfl rfl (by assumption) ?_) | (refine wpl_load_one rfl 9 _ rfl rfl (One.cell (by assumption)) (by kernel_rfl) ?_)) | (go_at_call 67; refine (HPR.out _).mono ?_; rintro _ _ ⟨rfl, hc⟩; (try replace F1 := F1.later hc); (try replace F2 := F2.later hc); (try replace F3 := F3.later hc); (try replace F4 := F4.later hc); (try replace F5 := F5.later hc); (try replace F6 := F6.later hc); (try replace F7 := F7.later hc); (try replace F8 := F8.later hc); (try replace F9 := F9.later hc); (try replace G1 := G1.later hc); (try replace G2 := G2.later hc); (try replace G3 := G3.later hc); (try replace z := z.later hc); (try replace b := later b hc); (try replace bB := mixed hB bB hc); clear hc) | (with_reducible show Code.wp _ (Code.region _ _ true) _ _ _; (try simp only [Act.put, List.setIfInBounds_toArray, List.set_cons_succ, List.set_cons_zero]); fail))
      have n23 : g2 < g3 := by have := F2.lt; omega
      refine region_plan (ChkK g2 g3 m sig) (.fl [0, 1, 2] 3 (.one [4, 5, 6] 7 (.one [] 8 (.stop [9])))) (by kernel_rfl) (by kernel_rfl) (by kernel_rfl) (by decide) (chkK_lasts _ _ _ _) ⟨F2, F3⟩ ?_
      intro wp0 hp0 _ hk0
      have ne0 : Nonempty (Kept (ChkK g2 g3 m sig)) := ⟨⟨wp0, hk0⟩⟩
      (try replace F1 := F1.later hp0); (try replace F2 := F2.later hp0); (try replace F3 := F3.later hp0); (try replace F4 := F4.later hp0); (try replace F5 := F5.later hp0); (try replace F6 := F6.later hp0); (try replace F7 := F7.later hp0); (try replace F8 := F8.later hp0); (try replace F9 := F9.later hp0); (try replace G1 := G1.later hp0); (try replace G2 := G2.later hp0); (try replace G3 := G3.later hp0); (try replace z := z.later hp0); (try replace b := later b hp0); (try replace bB := mixed hB bB hp0)
      clear hp0 hk0
      refine plan_fl ?_
      simp only [pickOps, opAt, List.getElem?_cons_succ, List.getElem?_cons_zero, List.nil_append, List.cons_append]
      (repeat (first | go_big_quiet_skip | (go_big_quiet_want; first | (first | (refine quiet_load_cells _ _ rfl rfl (fun w hw => Cells.arr (Kl.out hw).1.2) _ Try.underlying23 rfl (by rw [bvs_length, HM.out]; exact hashInfo) ?_; simp only [Act.put, List.setIfInBounds_toArray, List.set_cons_succ, List.set_cons_zero]; go_big_quiet_on) | (refine quiet_load_one 9 _ rfl rfl (fun w hw => ((Kl.out hw).2).cell) (by kernel_rfl) ?_; simp only [Act.put, List.setIfInBounds_toArray, List.set_cons_succ, List.set_cons_zero]; go_big_quiet_on)) | (go_big_quiet_op; first | go_big_quiet_on | fail))))
      refine wpQuiet_nil ?_
      refine fl_call (by rfl) rfl (by kernel_rfl) (by simp only [List.map_toArray, List.map_cons, List.map_nil]; rfl) (fun w' hC => HT.out w') ?_
      simp only [Act.put, List.setIfInBounds_toArray, List.set_cons_succ, List.set_cons_zero]
      refine plan_one ?_
      simp only [pickOps, opAt, List.getElem?_cons_succ, List.getElem?_cons_zero, List.nil_append, List.cons_append]
      (repeat (first | go_big_quiet_skip | (go_big_quiet_want; first | fail | (go_big_quiet_op; first | go_big_quiet_on | fail))))
      refine wpQuiet_nil ?_
      intro wp1 hp1 _
      (try replace F1 := F1.later hp1); (try replace F2 := F2.later hp1); (try replace F3 := F3.later hp1); (try replace F4 := F4.later hp1); (try replace F5 := F5.later hp1); (try replace F6 := F6.later hp1); (try replace F7 := F7.later hp1); (try replace F8 := F8.later hp1); (try replace F9 := F9.later hp1); (try replace G1 := G1.later hp1); (try replace G2 := G2.later hp1); (try replace G3 := G3.later hp1); (try replace z := z.later hp1); (try replace b := later b hp1); (try replace bB := mixed hB bB hp1)
      clear hp1
      have l3 := F3.lt
      refine wpl_mk_hash rfl rfl ?_
      intro wp2 g4 hg4 F4 hb
      have q4 := b.size
      (try replace F1 := F1.later hb); (try replace F2 := F2.later hb); (try replace F3 := F3.later hb); (try replace F4 := F4.later hb); (try replace F5 := F5.later hb); (try replace F6 := F6.later hb); (try replace F7 := F7.later hb); (try replace F8 := F8.later hb); (try replace F9 := F9.later hb); (try replace G1 := G1.later hb); (try replace G2 := G2.later hb); (try replace G3 := G3.later hb); (try replace z := z.later hb); (try replace b := later b hb); (try replace bB := mixed hB bB hb)
      clear hb
      refine goQ_same (chkK_lasts _ _ _ _) ⟨F2, F3⟩ ?_
      (try simp only [Act.put, List.setIfInBounds_toArray, List.set_cons_succ, List.set_cons_zero])
      refine plan_one ?_
      simp only [pickOps, opAt, List.getElem?_cons_succ, List.getElem?_cons_zero, List.nil_append, List.cons_append]
      refine wpQuiet_nil ?_
      intro wp3 hp3 _
      (try replace F1 := F1.later hp3); (try replace F2 := F2.later hp3); (try replace F3 := F3.later hp3); (try replace F4 := F4.later hp3); (try replace F5 := F5.later hp3); (try replace F6 := F6.later hp3); (try replace F7 := F7.later hp3); (try replace F8 := F8.later hp3); (try replace F9 := F9.later hp3); (try replace G1 := G1.later hp3); (try replace G2 := G2.later hp3); (try replace G3 := G3.later hp3); (try replace z := z.later hp3); (try replace b := later b hp3); (try replace bB := mixed hB bB hp3)
      clear hp3
      refine wpl_set_hash rfl _ _ rfl rfl rfl HTL.out F4 ?_
      intro wp4 t1 ht
      (try replace F1 := F1.tt ht); (try replace F2 := F2.tt ht); (try replace F3 := F3.tt ht); (try replace F4 := F4.tt ht); (try replace F5 := F5.tt ht); (try replace F6 := F6.tt ht); (try replace F7 := F7.tt ht); (try replace F8 := F8.tt ht); (try replace F9 := F9.tt ht); (try replace G1 := G1.tt ht); (try replace G2 := G2.tt ht); (try replace G3 := G3.tt ht); (try replace z := z.tt ht); (try replace b := below_touch b ht (by omega) (by omega)); (try replace bB := below_touch bB ht (by omega) hB)
      replace F4 := t1
      clear ht t1
      refine goQ_same (chkK_lasts _ _ _ _) ⟨F2, F3⟩ ?_
      (try simp only [Act.put, List.setIfInBounds_toArray, List.set_cons_succ, List.set_cons_zero])
      refine plan_stop ?_
      simp only [pickOps, opAt, List.getElem?_cons_succ, List.getElem?_cons_zero, List.nil_append, List.cons_append]
      (repeat (first | go_big_quiet_skip | (go_big_quiet_want; first | fail | (go_big_quiet_op; first | go_big_quiet_on | fail))))
      refine wpQuiet_nil ?_
      intro wp5 hp5 _
      (try replace F1 := F1.later hp5); (try replace F2 := F2.later hp5); (try replace F3 := F3.later hp5); (try replace F4 := F4.later hp5); (try replace F5 := F5.later hp5); (try replace F6 := F6.later hp5); (try replace F7 := F7.later hp5); (try replace F8 := F8.later hp5); (try replace F9 := F9.later hp5); (try replace G1 := G1.later hp5); (try replace G2 := G2.later hp5); (try replace G3 := G3.later hp5); (try replace z := z.later hp5); (try replace b := later b hp5); (try replace bB := mixed hB bB hp5)
      clear hp5 ne0
      go_wp2_with (first | (with_reducible show wpList _ _ _ (⟨_, Op.load _ _, _, _, _, _⟩ :: _) _ _; first | (refine wpl_load_hash rfl _ rfl rfl (by assumption) ?_) | (refine wpl_load_one rfl 9 _ rfl rfl (One.cell (by assumption)) (by kernel_rfl) ?_)) | (with_reducible show Code.wp _ (Code.region _ _ true) _ _ _; (try simp only [Act.put, List.setIfInBounds_toArray, List.set_cons_succ, List.set_cons_zero]); refine region_since (by kernel_rfl) (by kernel_rfl) ?_; (repeat (first | go_big_quiet_skip | (go_big_quiet_want; first | (refine quiet_load_hash _ rfl rfl (by assumption) ?_; simp only [Act.put, List.setIfInBounds_toArray, List.set_cons_succ, List.set_cons_zero]; go_big_quiet_on) | (refine quiet_eq _ _ rfl rfl rfl HUL.out HP.out ?_; simp only [Act.put, List.setIfInBounds_toArray, List.set_cons_succ, List.set_cons_zero]; go_big_quiet_on) | (go_big_quiet_op; first | go_big_quiet_on | (refine ⟨_, fun s => since_of (HUP.out g3 _ (F3.later s.ok)), ?_⟩; go_big_quiet_on))))); refine wpQuiet_nil ?_; intro _ hq; (try replace F1 := F1.later hq); (try replace F2 := F2.later hq); (try replace F3 := F3.later hq); (try replace F4 := F4.later hq); (try replace F5 := F5.later hq); (try replace F6 := F6.later hq); (try replace F7 := F7.later hq); (try replace F8 := F8.later hq); (try replace F9 := F9.later hq); (try replace G1 := G1.later hq); (try replace G2 := G2.later hq); (try replace G3 := G3.later hq); (try replace z := z.later hq); (try replace b := later b hq); (try replace bB := mixed hB bB hq); clear hq))
      go_ret
      exact ⟨by rw [← HRE.out]; rfl, b⟩
    · have hR : R = false := by rw [← HRD.out]; unfold checkE; rw [h1, decide_eq_false h2]; rfl
      subst hR
      have e3 : ((sig.size : Int) == 1024 + 32 * d) = false := beq_eq_false_iff_ne.2 h2
      clear h1 h2 HRD
      go_enter Try.func32, Try.ntmps32
      go_wp2_with (first | (with_reducible show wpList _ _ _ (⟨_, Op.box _ _, _, _, _, _⟩ :: _) _ _; clear mF1; refine wpl_box_hash rfl _ rfl rfl HP.out ?_; intro _ g1 hg1 F1 hb; (try have := F1.lt); (try have := F2.lt); (try have := F3.lt); (try have := F4.lt); (try have := F5.lt); (try have := F6.lt); (try have := F7.lt); (try have := F8.lt); (try have := F9.lt); (try have := z.lt); (try have := G1.lt); (try have := G2.lt); (try have := G3.lt); (try have := b.size); (try replace F1 := F1.later hb); (try replace F2 := F2.later hb); (try replace F3 := F3.later hb); (try replace F4 := F4.later hb); (try replace F5 := F5.later hb); (try replace F6 := F6.later hb); (try replace F7 := F7.later hb); (try replace F8 := F8.later hb); (try replace F9 := F9.later hb); (try replace G1 := G1.later hb); (try replace G2 := G2.later hb); (try replace G3 := G3.later hb); (try replace z := z.later hb); (try replace b := later b hb); (try replace bB := mixed hB bB hb); clear hb) | (with_reducible show wpList _ _ _ (⟨_, Op.box _ _, _, _, _, _⟩ :: _) _ _; clear mF2; refine wpl_box_hash rfl _ rfl rfl HM.out ?_; intro _ g2 hg2 F2 hb; (try have := F1.lt); (try have := F2.lt); (try have := F3.lt); (try have := F4.lt); (try have := F5.lt); (try have := F6.lt); (try have := F7.lt); (try have := F8.lt); (try have := F9.lt); (try have := z.lt); (try have := G1.lt); (try have := G2.lt); (try have := G3.lt); (try have := b.size); (try replace F1 := F1.later hb); (try replace F2 := F2.later hb); (try replace F3 := F3.later hb); (try replace F4 := F4.later hb); (try replace F5 := F5.later hb); (try replace F6 := F6.later hb); (try replace F7 := F7.later hb); (try replace F8 := F8.later hb); (try replace F9 := F9.later hb); (try replace G1 := G1.later hb); (try replace G2 := G2.later hb); (try replace G3 := G3.later hb); (try replace z := z.later hb); (try replace b := later b hb); (try replace bB := mixed hB bB hb); clear hb) | (with_reducible show wpList _ _ _ (⟨_, Op.box _ _, _, _, _, _⟩ :: _) _ _; clear mF3; refine wpl_box_one rfl 9 _ rfl (v := .string sig) rfl rfl ?_; intro _ g3 hg3 F3 hb; (try have := F1.lt); (try have := F2.lt); (try have := F3.lt); (try have := F4.lt); (try have := F5.lt); (try have := F6.lt); (try have := F7.lt); (try have := F8.lt); (try have := F9.lt); (try have := z.lt); (try have := G1.lt); (try have := G2.lt); (try have := G3.lt); (try have := b.size); (try replace F1 := F1.later hb); (try replace F2 := F2.later hb); (try replace F3 := F3.later hb); (try replace F4 := F4.later hb); (try replace F5 := F5.later hb); (try replace F6 := F6.later hb); (try replace F7 := F7.later hb); (try replace F8 := F8.later hb); (try replace F9 := F9.later hb); (try replace G1 := G1.later hb); (try replace G2 := G2.later hb); (try replace G3 := G3.later hb); (try replace z := z.later hb); (try replace b := later b hb); (try replace bB := mixed hB bB hb); clear hb) | (with_reducible show wpList _ _ _ (⟨_, Op.load _ _, _, _, _, _⟩ :: _) _ _; first | (refine wpl_load_hash rfl _ rfl rfl (by assumption) ?_) | (refine wpl_load_one rfl 9 _ rfl rfl (One.cell (by assumption)) (by kernel_rfl) ?_)) | (go_at_call 67; refine (HPR.out _).mono ?_; rintro _ _ ⟨rfl, hc⟩; (try replace F1 := F1.later hc); (try replace F2 := F2.later hc); (try replace F3 := F3.later hc); (try replace F4 := F4.later hc); (try replace F5 := F5.later hc); (try replace F6 := F6.later hc); (try replace F7 := F7.later hc); (try replace F8 := F8.later hc); (try replace F9 := F9.later hc); (try replace G1 := G1.later hc); (try replace G2 := G2.later hc); (try replace G3 := G3.later hc); (try replace z := z.later hc); (try replace b := later b hc); (try replace bB := mixed hB bB hc); clear hc))
      go_ret
      exact ⟨rfl, b⟩
  · have h1' : perB d n = false := by simpa using h1
    have hR : R = false := by rw [← HRD.out]; unfold checkE; rw [h1']; rfl
    subst hR
    rw [h1'] at HPR
    clear h1 h1' HRD
    go_enter Try.func32, Try.ntmps32
    go_wp2_with (first | (with_reducible show wpList _ _ _ (⟨_, Op.box _ _, _, _, _, _⟩ :: _) _ _; clear mF1; refine wpl_box_hash rfl _ rfl rfl HP.out ?_; intro _ g1 hg1 F1 hb; (try have := F1.lt); (try have := F2.lt); (try have := F3.lt); (try have := F4.lt); (try have := F5.lt); (try have := F6.lt); (try have := F7.lt); (try have := F8.lt); (try have := F9.lt); (try have := z.lt); (try have := G1.lt); (try have := G2.lt); (try have := G3.lt); (try have := b.size); (try replace F1 := F1.later hb); (try replace F2 := F2.later hb); (try replace F3 := F3.later hb); (try replace F4 := F4.later hb); (try replace F5 := F5.later hb); (try replace F6 := F6.later hb); (try replace F7 := F7.later hb); (try replace F8 := F8.later hb); (try replace F9 := F9.later hb); (try replace G1 := G1.later hb); (try replace G2 := G2.later hb); (try replace G3 := G3.later hb); (try replace z := z.later hb); (try replace b := later b hb); (try replace bB := mixed hB bB hb); clear hb) | (with_reducible show wpList _ _ _ (⟨_, Op.box _ _, _, _, _, _⟩ :: _) _ _; clear mF2; refine wpl_box_hash rfl _ rfl rfl HM.out ?_; intro _ g2 hg2 F2 hb; (try have := F1.lt); (try have := F2.lt); (try have := F3.lt); (try have := F4.lt); (try have := F5.lt); (try have := F6.lt); (try have := F7.lt); (try have := F8.lt); (try have := F9.lt); (try have := z.lt); (try have := G1.lt); (try have := G2.lt); (try have := G3.lt); (try have := b.size); (try replace F1 := F1.later hb); (try replace F2 := F2.later hb); (try replace F3 := F3.later hb); (try replace F4 := F4.later hb); (try replace F5 := F5.later hb); (try replace F6 := F6.later hb); (try replace F7 := F7.later hb); (try replace F8 := F8.later hb); (try replace F9 := F9.later hb); (try replace G1 := G1.later hb); (try replace G2 := G2.later hb); (try replace G3 := G3.later hb); (try replace z := z.later hb); (try replace b := later b hb); (try replace bB := mixed hB bB hb); clear hb) | (with_reducible show wpList _ _ _ (⟨_, Op.box _ _, _, _, _, _⟩ :: _) _ _; clear mF3; refine wpl_box_one rfl 9 _ rfl (v := .string sig) rfl rfl ?_; intro _ g3 hg3 F3 hb; (try have := F1.lt); (try have := F2.lt); (try have := F3.lt); (try have := F4.lt); (try have := F5.lt); (try have := F6.lt); (try have := F7.lt); (try have := F8.lt); (try have := F9.lt); (try have := z.lt); (try have := G1.lt); (try have := G2.lt); (try have := G3.lt); (try have := b.size); (try replace F1 := F1.later hb); (try replace F2 := F2.later hb); (try replace F3 := F3.later hb); (try replace F4 := F4.later hb); (try replace F5 := F5.later hb); (try replace F6 := F6.later hb); (try replace F7 := F7.later hb); (try replace F8 := F8.later hb); (try replace F9 := F9.later hb); (try replace G1 := G1.later hb); (try replace G2 := G2.later hb); (try replace G3 := G3.later hb); (try replace z := z.later hb); (try replace b := later b hb); (try replace bB := mixed hB bB hb); clear hb) | (with_reducible show wpList _ _ _ (⟨_, Op.load _ _, _, _, _, _⟩ :: _) _ _; first | (refine wpl_load_hash rfl _ rfl rfl (by assumption) ?_) | (refine wpl_load_one rfl 9 _ rfl rfl (One.cell (by assumption)) (by kernel_rfl) ?_)) | (go_at_call 67; refine (HPR.out _).mono ?_; rintro _ _ ⟨rfl, hc⟩; (try replace F1 := F1.later hc); (try replace F2 := F2.later hc); (try replace F3 := F3.later hc); (try replace F4 := F4.later hc); (try replace F5 := F5.later hc); (try replace F6 := F6.later hc); (try replace F7 := F7.later hc); (try replace F8 := F8.later hc); (try replace F9 := F9.later hc); (try replace G1 := G1.later hc); (try replace G2 := G2.later hc); (try replace G3 := G3.later hc); (try replace z := z.later hc); (try replace b := later b hc); (try replace bB := mixed hB bB hc); clear hc))
    go_ret
    exact ⟨rfl, b⟩
end Go.Proofs.Ytofjjpielkfloaa
