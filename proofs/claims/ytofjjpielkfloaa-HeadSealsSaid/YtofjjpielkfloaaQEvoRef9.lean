/- The reference of layer 6: Check, of a period that may be. -/
import Derived.Test.YtofjjpielkfloaaQEvoRef8
namespace Go.Proofs.Ytofjjpielkfloaa
open Go.RowKit Go.Lib
set_option linter.unusedVariables false
set_option linter.unusedSimpArgs false

set_option maxRecDepth 100000 in
set_option maxHeartbeats 3200000 in
theorem refCheck06_yes (pub m : List UInt8) (d' n' : Nat) (sig : ByteArray) (w : World) (hp : pub.length = 32) (hm : m.length = 32) (hper : perB d' n' = true) (h5 : (sig.size : Int) = 1024 + 32 * (d' : Int)) :
    Calls Try.prog 33 #[hv pub, .int .i64 d', .int .i64 n', hv m, .string sig] w fun e w' => e = .returned (.bool (checkE pub d' n' m sig)) ∧ Below w.heap.size w w' := by
  have HP := hide hp
  have HM := hide hm
  have b := Below.refl w.heap.size w
  obtain ⟨R, hR⟩ : ∃ R, R = checkE pub d' n' m sig := ⟨_, rfl⟩
  rw [← hR]
  have HRD : Hid (checkE pub d' n' m sig = R) := hR.symm
  clear hR hp hm
  obtain ⟨_, h2, _, hlt, hn16⟩ := perB_small hper
  have hd4 : d' ≤ 4 := by omega
  have hn16' : n' < 16 := by omega
  have ew : wrap64 (2 ^ d') = 2 ^ d' := by
    rcases (by omega : d' = 0 ∨ d' = 1 ∨ d' = 2 ∨ d' = 3 ∨ d' = 4) with h | h | h | h | h <;> rw [h] <;> decide +kernel
  rw [Int.toNat_natCast] at hlt
  have h4' : (n' : Int) < wrap64 (2 ^ d') := by rw [ew]; exact hlt
  have hb4 : decide (wrap64 (2 ^ d') ≤ (n' : Int)) = false := decide_eq_false (by omega)
  have hsz : (sig.extract 0 1024).size = 1024 := by simp; omega
  have HT := hide (fun w => refTells_any m (sig.extract 0 1024) HM.out hsz w)
  have HTL := hide (tellsL_length m (sig.extract 0 1024))
  have HDG := hide (fun w => digits_any d' n' hd4 hn16' w)
  have HOV : Hid (∀ a c sv (w : World), Sl w (.slice a d' c) 1 (lowB n' d') → Hs w sv (sideL sig d') → Calls Try.prog 69 #[hv (tellsL m (sig.extract 0 1024)), .slice a d' c, sv, .int .i64 0] w fun e w' => e = .returned (hv (upE d' n' 0 (sideOf sig) d' (tellsL m (sig.extract 0 1024)))) ∧ Below w.heap.size w w') := fun a c sv w h1 h2 => by
    have := over_any (tellsL m (sig.extract 0 1024)) d' n' 0 a c sv (sideL sig d') w (tellsL_length _ _) (by omega) (by omega) (sideL_length _ _) h1 h2
    rw [upE_congr d' n' 0 _ (sideOf sig) (d' - 0) _ (fun i hi => sideL_get sig d' i (by omega))] at this
    exact this
  have HUL := hide (upE_length d' n' 0 (sideOf sig) d' (tellsL m (sig.extract 0 1024)) (tellsL_length _ _))
  have HRE : Hid (decide (upE d' n' 0 (sideOf sig) d' (tellsL m (sig.extract 0 1024)) = pub) = R) := by
    have h := HRD.out
    unfold checkE at h
    rw [hper, decide_eq_true h5, Bool.true_and, Bool.true_and, Int.toNat_natCast, Int.toNat_natCast] at h
    exact h
  generalize upE d' n' 0 (sideOf sig) d' (tellsL m (sig.extract 0 1024)) = U at *
  generalize tellsL m (sig.extract 0 1024) = T at *
  clear hper hsz HRD ew hlt hn16 h2
  have e5 : ((sig.size : Int) != 1024 + 32 * (d' : Int)) = false := by simpa using h5
  have hge : 1024 ≤ sig.size := by omega
  have hsd : sig.size = 1024 + 32 * d' := by omega
  have HSD := hide hsd
  clear h5 hsd
  unfold hv
  have mF1 := True.intro
  have mF2 := True.intro
  have mF3 := True.intro
  have mF4 := True.intro
  go_enter Try.func33, Try.ntmps33
  go_wp2_with (first | (with_reducible show wpList _ _ _ (⟨_, Op.box _ _, _, _, _, _⟩ :: _) _ _; clear mF1; refine wpl_box_hash rfl _ rfl rfl HP.out ?_; intro _ g5 hg5 F1 hb; (try have := F1.lt); (try have := F2.lt); (try have := F3.lt); (try have := F4.lt); (try have := F5.lt); (try have := F6.lt); (try have := F7.lt); (try have := F8.lt); (try have := F9.lt); (try have := z.lt); (try have := G1.lt); (try have := G2.lt); (try have := G3.lt); (try have := b.size); (try replace F1 := F1.later hb); (try replace F2 := F2.later hb); (try replace F3 := F3.later hb); (try replace F4 := F4.later hb); (try replace F5 := F5.later hb); (try replace F6 := F6.later hb); (try replace F7 := F7.later hb); (try replace F8 := F8.later hb); (try replace F9 := F9.later hb); (try replace G1 := G1.later hb); (try replace G2 := G2.later hb); (try replace G3 := G3.later hb); (try replace z := z.later hb); (try replace b := later b hb); (try replace bB := mixed hB bB hb); clear hb) | (with_reducible show wpList _ _ _ (⟨_, Op.box _ _, _, _, _, _⟩ :: _) _ _; clear mF2; refine wpl_box_hash rfl _ rfl rfl HM.out ?_; intro _ g8 hg8 F2 hb; (try have := F1.lt); (try have := F2.lt); (try have := F3.lt); (try have := F4.lt); (try have := F5.lt); (try have := F6.lt); (try have := F7.lt); (try have := F8.lt); (try have := F9.lt); (try have := z.lt); (try have := G1.lt); (try have := G2.lt); (try have := G3.lt); (try have := b.size); (try replace F1 := F1.later hb); (try replace F2 := F2.later hb); (try replace F3 := F3.later hb); (try replace F4 := F4.later hb); (try replace F5 := F5.later hb); (try replace F6 := F6.later hb); (try replace F7 := F7.later hb); (try replace F8 := F8.later hb); (try replace F9 := F9.later hb); (try replace G1 := G1.later hb); (try replace G2 := G2.later hb); (try replace G3 := G3.later hb); (try replace z := z.later hb); (try replace b := later b hb); (try replace bB := mixed hB bB hb); clear hb) | (with_reducible show Code.wp _ (Code.region _ _ true) _ _ _; (try simp only [Act.put, List.setIfInBounds_toArray, List.set_cons_succ, List.set_cons_zero]); fail))
  (try simp only [Act.put, List.setIfInBounds_toArray, List.set_cons_succ, List.set_cons_zero])
  clear e5 h4' hb4
  refine region_plan (fun x => Below (World.heap _).size _ x) (.fl [0, 1, 2] 3 (.one [4, 5, 6] 7 (.one [] 8 (.stop [9])))) (by kernel_rfl) (by kernel_rfl) (by kernel_rfl) (by decide) (lasts_below (Nat.le_refl _)) (Below.refl _ _) ?_
  intro wpl0 _ _ _
  refine plan_fl ?_
  simp only [pickOps, opAt, List.getElem?_cons_succ, List.getElem?_cons_zero, List.nil_append, List.cons_append]
  (repeat (first | go_big_quiet_skip | (go_big_quiet_want; first | (refine plan_load_hash _ rfl rfl (by assumption) ?_; simp only [Act.put, List.setIfInBounds_toArray, List.set_cons_succ, List.set_cons_zero]; go_big_quiet_on) | (refine plan_load_one 3 _ rfl rfl (EvoAt.cd (by assumption)) (by kernel_rfl) ?_; simp only [Act.put, List.setIfInBounds_toArray, List.set_cons_succ, List.set_cons_zero]; go_big_quiet_on) | (refine plan_load_one 3 _ rfl rfl (EvoAt.cp (by assumption)) (by kernel_rfl) ?_; simp only [Act.put, List.setIfInBounds_toArray, List.set_cons_succ, List.set_cons_zero]; go_big_quiet_on) | (refine plan_load_one 24 _ rfl rfl (EvoAt.cr (by assumption)) (by kernel_rfl) ?_; simp only [Act.put, List.setIfInBounds_toArray, List.set_cons_succ, List.set_cons_zero]; go_big_quiet_on) | (refine plan_load_one 24 _ rfl rfl (EvoAt.cs (by assumption)) (by kernel_rfl) ?_; simp only [Act.put, List.setIfInBounds_toArray, List.set_cons_succ, List.set_cons_zero]; go_big_quiet_on) | (refine plan_load_leaf _ rfl rfl (by assumption) ?_; simp only [Act.put, List.setIfInBounds_toArray, List.set_cons_succ, List.set_cons_zero]; go_big_quiet_on) | (go_big_quiet_op; go_big_quiet_on))))
  refine wpQuiet_nil ?_
  refine fl_call (by rfl) rfl (by kernel_rfl) (by simp only [List.map_toArray, List.map_cons, List.map_nil]; rfl) (fun w' hC => HT.out w') ?_
  simp only [Act.put, List.setIfInBounds_toArray, List.set_cons_succ, List.set_cons_zero]
  refine plan_one ?_
  simp only [pickOps, opAt, List.getElem?_cons_succ, List.getElem?_cons_zero, List.nil_append, List.cons_append]
  (repeat (first | go_big_quiet_skip | (go_big_quiet_want; first | (refine plan_load_hash _ rfl rfl (by assumption) ?_; simp only [Act.put, List.setIfInBounds_toArray, List.set_cons_succ, List.set_cons_zero]; go_big_quiet_on) | (refine plan_load_one 3 _ rfl rfl (EvoAt.cd (by assumption)) (by kernel_rfl) ?_; simp only [Act.put, List.setIfInBounds_toArray, List.set_cons_succ, List.set_cons_zero]; go_big_quiet_on) | (refine plan_load_one 3 _ rfl rfl (EvoAt.cp (by assumption)) (by kernel_rfl) ?_; simp only [Act.put, List.setIfInBounds_toArray, List.set_cons_succ, List.set_cons_zero]; go_big_quiet_on) | (refine plan_load_one 24 _ rfl rfl (EvoAt.cr (by assumption)) (by kernel_rfl) ?_; simp only [Act.put, List.setIfInBounds_toArray, List.set_cons_succ, List.set_cons_zero]; go_big_quiet_on) | (refine plan_load_one 24 _ rfl rfl (EvoAt.cs (by assumption)) (by kernel_rfl) ?_; simp only [Act.put, List.setIfInBounds_toArray, List.set_cons_succ, List.set_cons_zero]; go_big_quiet_on) | (refine plan_load_leaf _ rfl rfl (by assumption) ?_; simp only [Act.put, List.setIfInBounds_toArray, List.set_cons_succ, List.set_cons_zero]; go_big_quiet_on) | (go_big_quiet_op; go_big_quiet_on))))
  refine wpQuiet_nil ?_
  intro _ _ k
  have := Below.size k
  refine wpl_mk_hash rfl rfl ?_
  intro _ g11 hg11 F3 hb
  replace k := later k hb
  clear hb
  (try replace F1 := F1.later k); (try replace F2 := F2.later k); (try replace F3 := F3.later k); (try replace F4 := F4.later k); (try replace F5 := F5.later k); (try replace F6 := F6.later k); (try replace F7 := F7.later k); (try replace F8 := F8.later k); (try replace F9 := F9.later k); (try replace G1 := G1.later k); (try replace G2 := G2.later k); (try replace G3 := G3.later k); (try replace z := z.later k); (try replace b := later b k); (try replace bB := mixed hB bB k)
  refine goQ_same (lasts_below (Nat.le_refl _)) k ?_
  clear k
  (try simp only [Act.put, List.setIfInBounds_toArray, List.set_cons_succ, List.set_cons_zero])
  refine plan_one ?_
  simp only [pickOps, opAt, List.getElem?_cons_succ, List.getElem?_cons_zero, List.nil_append, List.cons_append]
  (repeat (first | go_big_quiet_skip | (go_big_quiet_want; first | (refine plan_load_hash _ rfl rfl (by assumption) ?_; simp only [Act.put, List.setIfInBounds_toArray, List.set_cons_succ, List.set_cons_zero]; go_big_quiet_on) | (refine plan_load_one 3 _ rfl rfl (EvoAt.cd (by assumption)) (by kernel_rfl) ?_; simp only [Act.put, List.setIfInBounds_toArray, List.set_cons_succ, List.set_cons_zero]; go_big_quiet_on) | (refine plan_load_one 3 _ rfl rfl (EvoAt.cp (by assumption)) (by kernel_rfl) ?_; simp only [Act.put, List.setIfInBounds_toArray, List.set_cons_succ, List.set_cons_zero]; go_big_quiet_on) | (refine plan_load_one 24 _ rfl rfl (EvoAt.cr (by assumption)) (by kernel_rfl) ?_; simp only [Act.put, List.setIfInBounds_toArray, List.set_cons_succ, List.set_cons_zero]; go_big_quiet_on) | (refine plan_load_one 24 _ rfl rfl (EvoAt.cs (by assumption)) (by kernel_rfl) ?_; simp only [Act.put, List.setIfInBounds_toArray, List.set_cons_succ, List.set_cons_zero]; go_big_quiet_on) | (refine plan_load_leaf _ rfl rfl (by assumption) ?_; simp only [Act.put, List.setIfInBounds_toArray, List.set_cons_succ, List.set_cons_zero]; go_big_quiet_on) | (go_big_quiet_op; go_big_quiet_on))))
  refine wpQuiet_nil ?_
  intro _ hp k
  have hk0 := Below.size k
  (try replace F1 := F1.later hp); (try replace F2 := F2.later hp); (try replace F3 := F3.later hp); (try replace F4 := F4.later hp); (try replace F5 := F5.later hp); (try replace F6 := F6.later hp); (try replace F7 := F7.later hp); (try replace F8 := F8.later hp); (try replace F9 := F9.later hp); (try replace G1 := G1.later hp); (try replace G2 := G2.later hp); (try replace G3 := G3.later hp); (try replace z := z.later hp); (try replace b := later b hp); (try replace bB := mixed hB bB hp)
  clear hp
  have hk1 := F3.lt
  refine wpl_set_hash rfl _ _ rfl rfl rfl HTL.out F3 ?_
  intro w8 t1 ht
  have k2 := k.trans (ht.below hk0 (fun x hx => by subst hx; omega))
  (try replace F1 := F1.tt ht); (try replace F2 := F2.tt ht); (try replace F3 := F3.tt ht); (try replace F4 := F4.tt ht); (try replace F5 := F5.tt ht); (try replace F6 := F6.tt ht); (try replace F7 := F7.tt ht); (try replace F8 := F8.tt ht); (try replace F9 := F9.tt ht); (try replace G1 := G1.tt ht); (try replace G2 := G2.tt ht); (try replace G3 := G3.tt ht); (try replace z := z.tt ht); (try replace b := below_touch b ht (by omega) (by omega)); (try replace bB := below_touch bB ht (by omega) hB)
  replace F3 := t1
  clear ht t1 k
  refine goQ_since (lasts_below (Nat.le_refl _)) k2 ?_
  clear k2
  (try simp only [Act.put, List.setIfInBounds_toArray, List.set_cons_succ, List.set_cons_zero])
  refine plan_stop ?_
  simp only [pickOps, opAt, List.getElem?_cons_succ, List.getElem?_cons_zero, List.nil_append, List.cons_append]
  (repeat (first | go_big_quiet_skip | (go_big_quiet_want; first | (refine plan_load_hash _ rfl rfl (by assumption) ?_; simp only [Act.put, List.setIfInBounds_toArray, List.set_cons_succ, List.set_cons_zero]; go_big_quiet_on) | (refine plan_load_one 3 _ rfl rfl (EvoAt.cd (by assumption)) (by kernel_rfl) ?_; simp only [Act.put, List.setIfInBounds_toArray, List.set_cons_succ, List.set_cons_zero]; go_big_quiet_on) | (refine plan_load_one 3 _ rfl rfl (EvoAt.cp (by assumption)) (by kernel_rfl) ?_; simp only [Act.put, List.setIfInBounds_toArray, List.set_cons_succ, List.set_cons_zero]; go_big_quiet_on) | (refine plan_load_one 24 _ rfl rfl (EvoAt.cr (by assumption)) (by kernel_rfl) ?_; simp only [Act.put, List.setIfInBounds_toArray, List.set_cons_succ, List.set_cons_zero]; go_big_quiet_on) | (refine plan_load_one 24 _ rfl rfl (EvoAt.cs (by assumption)) (by kernel_rfl) ?_; simp only [Act.put, List.setIfInBounds_toArray, List.set_cons_succ, List.set_cons_zero]; go_big_quiet_on) | (refine plan_load_leaf _ rfl rfl (by assumption) ?_; simp only [Act.put, List.setIfInBounds_toArray, List.set_cons_succ, List.set_cons_zero]; go_big_quiet_on) | (go_big_quiet_op; go_big_quiet_on))))
  refine wpQuiet_nil ?_
  intro w9 _ k
  (try replace F1 := F1.later k); (try replace F2 := F2.later k); (try replace F3 := F3.later k); (try replace F4 := F4.later k); (try replace F5 := F5.later k); (try replace F6 := F6.later k); (try replace F7 := F7.later k); (try replace F8 := F8.later k); (try replace F9 := F9.later k); (try replace G1 := G1.later k); (try replace G2 := G2.later k); (try replace G3 := G3.later k); (try replace z := z.later k); (try replace b := later b k); (try replace bB := mixed hB bB k)
  clear k
  obtain ⟨B0, hB0, k5, k8, k11, kw⟩ : ∃ B, B ≤ w9.heap.size ∧ g5 < B ∧ g8 < B ∧ g11 < B ∧ w.heap.size ≤ B := ⟨_, Nat.le_refl _, F1.lt, F2.lt, F3.lt, b.size⟩
  have G1 : Geq w9 B0 := hB0
  have F5 := own_nil w9 B0
  clear hB0 hk0 hk1 hg11 hg8 hg5 HT HM
  go_wp2_with fail
  go_loopw [13, 14] (fun s i wr => ∃ (j : Nat) (a : Option Addr) (c : Nat), s = .slice a j c ∧ i = .int .i64 j ∧ j ≤ d' ∧ OwnU wr B0 (.slice a j c) (sideL sig j) [] ∧ HashAt wr g5 pub ∧ HashAt wr g11 T ∧ Geq wr B0 ∧ Below w.heap.size w wr) (fun _ i _ => d' - (RowKit.intOf i).toNat)
  case atStart => exact ⟨0, _, _, rfl, rfl, by omega, F5, F1, F3, G1, b⟩
  case round =>
    clear F1 F2 F3 F5 G1 b
    obtain ⟨j, a, c, rfl, rfl, hj, F5, F1, F3, G1, b⟩ := hrel
    by_cases hlt : j < d'
    · have hs : 1024 + 32 * j + 32 ≤ sig.size := by rw [HSD.out]; omega
      have q5 := OwnU.lt F5
      go_wp2_with (first | (with_reducible show wpList _ _ _ (⟨_, Op.build _ _, _, _, _, _⟩ :: _) _ _; refine wpl_zero_hash rfl rfl ?_) | (with_reducible show wpList _ _ _ (⟨_, Op.alloc _, _, _, _, _⟩ :: _) _ _; clear mF4; refine wpl_mk_hash rfl rfl ?_; intro _ g15 hg15 F4 hb; (try have := F1.lt); (try have := F2.lt); (try have := F3.lt); (try have := F4.lt); (try have := F5.lt); (try have := F6.lt); (try have := F7.lt); (try have := F8.lt); (try have := F9.lt); (try have := z.lt); (try have := G1.lt); (try have := G2.lt); (try have := G3.lt); (try have := b.size); (try replace F1 := F1.later hb); (try replace F2 := F2.later hb); (try replace F3 := F3.later hb); (try replace F4 := F4.later hb); (try replace F5 := F5.later hb); (try replace F6 := F6.later hb); (try replace F7 := F7.later hb); (try replace F8 := F8.later hb); (try replace F9 := F9.later hb); (try replace G1 := G1.later hb); (try replace G2 := G2.later hb); (try replace G3 := G3.later hb); (try replace z := z.later hb); (try replace b := later b hb); (try replace bB := mixed hB bB hb); clear hb) | (with_reducible show wpList _ _ _ (⟨_, Op.store _ _ _, _, _, _, _⟩ :: _) _ _; generalize hstop : wpList _ _ _ _ _ _ = Gstop))
      rw [← hstop]; clear hstop
      replace F5 := OwnU.more F5 (g := g15) q5 (by omega)
      have n5 : g5 ≠ g15 := by omega
      have n11 : g11 ≠ g15 := by omega
      clear q5
      go_wp2_with (first | (with_reducible show wpList _ _ _ (⟨_, Op.store _ _ _, _, _, _, _⟩ :: _) _ _; refine wpl_set_hash rfl _ _ rfl rfl rfl rfl F4 ?_; intro _ t1 ht; (try replace F1 := F1.tt ht); (try replace F2 := F2.tt ht); (try replace F3 := F3.tt ht); (try replace F4 := F4.tt ht); (try replace F5 := F5.tt ht); (try replace F6 := F6.tt ht); (try replace F7 := F7.tt ht); (try replace F8 := F8.tt ht); (try replace F9 := F9.tt ht); (try replace G1 := G1.tt ht); (try replace G2 := G2.tt ht); (try replace G3 := G3.tt ht); (try replace z := z.tt ht); (try replace b := below_touch b ht (by omega) (by omega)); (try replace bB := below_touch bB ht (by omega) hB); replace F4 := t1; clear ht))
      go_loopw [16] (fun i wr => ∃ n : Nat, i = .int .i64 n ∧ n ≤ 32 ∧ HashAt wr g15 (partS sig j n) ∧ OwnU wr B0 (.slice a j c) (sideL sig j) [g15] ∧ HashAt wr g5 pub ∧ HashAt wr g11 T ∧ Geq wr B0 ∧ Below w.heap.size w wr) (fun i _ => 32 - (RowKit.intOf i).toNat)
      case atStart => exact ⟨0, rfl, by omega, by rw [partS_zero]; exact F4, F5, F1, F3, G1, b⟩
      case round =>
        clear F1 F3 F4 F5 G1 b
        obtain ⟨n, rfl, hn, F4, F5, F1, F3, G1, b⟩ := hrel
        by_cases hl2 : n < 32
        · go_wp2_with (first | (with_reducible show wpList _ _ _ (⟨_, Op.store _ _ _, _, _, _, _⟩ :: _) _ _; generalize hstop : wpList _ _ _ _ _ _ = Gstop))
          rw [← hstop]; clear hstop
          have hix : 1024 + 32 * j + n < sig.size := by omega
          have hc0 : sig[(1024 + 32 * (j : Int) + (n : Int)).toNat]'(by omega) = sig[1024 + 32 * j + n] := by congr 1
          refine wpl_set_one rfl 5 _ _ rfl (g := g15) (k := n) rfl (v := .int .u8 ((sig[1024 + 32 * j + n]).toNat : Int)) (congrArg (fun x : UInt8 => Value.int .u8 (x.toNat : Int)) hc0) F4.2 (by rw [bvs_length, F4.1]; exact hl2) (by kernel_rfl) rfl rfl ?_
          intro w2 q1 ht
          rw [bvs_set, partS_succ sig j n hl2 hs hix] at q1
          have q2 : HashAt w2 g15 (partS sig j (n + 1)) := ⟨partS_length sig j (n + 1) (sideOf_length sig j hs) (by omega), q1⟩
          (try replace F1 := F1.tt ht); (try replace F2 := F2.tt ht); (try replace F3 := F3.tt ht); (try replace F4 := F4.tt ht); (try replace F5 := F5.tt ht); (try replace F6 := F6.tt ht); (try replace F7 := F7.tt ht); (try replace F8 := F8.tt ht); (try replace F9 := F9.tt ht); (try replace G1 := G1.tt ht); (try replace G2 := G2.tt ht); (try replace G3 := G3.tt ht); (try replace z := z.tt ht); (try replace b := below_touch b ht (by omega) (by omega)); (try replace bB := below_touch bB ht (by omega) hB)
          replace F4 := q2
          clear q1 q2 ht hc0
          go_wp2_with fail
          go_roundw
          case rel => exact ⟨n + 1, by simp, by omega, F4, F5, F1, F3, G1, b⟩
          case measure => simp [RowKit.intOf]; omega
        · obtain rfl : n = 32 := by omega
          rw [partS_full sig j (sideOf_length sig j hs)] at F4
          replace F5 := OwnU.less F5 (Y := []) (by simp)
          have HSU := hide (sideL_succ sig j)
          have SL := hide (sideOf_length sig j hs)
          generalize sideOf sig j = x at *
          have LS := hide (sideL_length sig j)
          generalize sideL sig j = L at *
          clear n5 n11 hs hn hl2
          go_wp2_with (first | (with_reducible show wpList _ _ _ (⟨_, Op.load _ _, _, _, _, _⟩ :: _) _ _; refine wpl_load_hash rfl _ rfl rfl (by assumption) ?_) | (with_reducible show wpList _ _ _ (⟨_, Op.buildSlice _ _ _, _, _, _, _⟩ :: _) _ _; refine wpl_hash1 rfl _ rfl rfl SL.out ?_; intro _ gs _ hs2 hb; (try have := F1.lt); (try have := F2.lt); (try have := F3.lt); (try have := F4.lt); (try have := F5.lt); (try have := F6.lt); (try have := F7.lt); (try have := F8.lt); (try have := F9.lt); (try have := z.lt); (try have := G1.lt); (try have := G2.lt); (try have := G3.lt); (try replace F1 := F1.later hb); (try replace F2 := F2.later hb); (try replace F3 := F3.later hb); (try replace F4 := F4.later hb); (try replace F5 := F5.later hb); (try replace F6 := F6.later hb); (try replace F7 := F7.later hb); (try replace F8 := F8.later hb); (try replace F9 := F9.later hb); (try replace G1 := G1.later hb); (try replace G2 := G2.later hb); (try replace G3 := G3.later hb); (try replace z := z.later hb); (try replace b := later b hb); (try replace bB := mixed hB bB hb); clear hb) | (with_reducible show wpList _ _ _ (⟨_, Op.call _, _, _, _, _⟩ :: _) _ _; generalize hstop : wpList _ _ _ _ _ _ = Gstop))
          rw [← hstop]; clear hstop
          refine wpl_app rfl _ _ rfl rfl F5 rfl hs2 j LS.out (by omega) G1.lt ?_
          intro a2 c2 w2 O5 hbB ht hob
          clear F5 ht hob hs2 F4
          (try replace F1 := F1.below hbB (by omega)); (try replace F2 := F2.below hbB (by omega)); (try replace F3 := F3.below hbB (by omega)); (try replace F4 := F4.below hbB (by omega)); (try replace F5 := F5.below hbB (by omega)); (try replace F6 := F6.below hbB (by omega)); (try replace F7 := F7.below hbB (by omega)); (try replace F8 := F8.below hbB (by omega)); (try replace F9 := F9.below hbB (by omega)); (try replace G1 := G1.below hbB (by omega)); (try replace G2 := G2.below hbB (by omega)); (try replace G3 := G3.below hbB (by omega)); (try replace z := z.below hbB (by omega)); (try replace b := below_more b hbB (by omega)); (try replace bB := below_more bB hbB (by omega))
          have F5 := O5
          clear O5 hbB
          go_wp2_with fail
          go_roundw
          case rel => exact ⟨j + 1, a2, c2, by simp, by simp, by omega, by rw [HSU.out]; exact F5, F1, F3, G1, b⟩
          case measure => simp [RowKit.intOf]; omega
    · obtain rfl : j = d' := by omega
      have F6 := OwnU.hs F5
      clear F5
      go_wp2_with (first | (with_reducible show Code.wp _ (Code.region _ _ true) _ _ _; (try simp only [Act.put, List.setIfInBounds_toArray, List.set_cons_succ, List.set_cons_zero]); fail))
      (try simp only [Act.put, List.setIfInBounds_toArray, List.set_cons_succ, List.set_cons_zero])
      refine region_plan (fun x => Below (World.heap _).size _ x) (.one [0, 1, 2, 4, 6] 3 (.fl [] 5 (.stop [7, 8]))) (by kernel_rfl) (by kernel_rfl) (by kernel_rfl) (by decide) (lasts_below (Nat.le_refl _)) (Below.refl _ _) ?_
      intro wpl0 _ _ _
      refine plan_one ?_
      simp only [pickOps, opAt, List.getElem?_cons_succ, List.getElem?_cons_zero, List.nil_append, List.cons_append]
      (repeat (first | go_big_quiet_skip | (go_big_quiet_want; first | (refine plan_load_hash _ rfl rfl (by assumption) ?_; simp only [Act.put, List.setIfInBounds_toArray, List.set_cons_succ, List.set_cons_zero]; go_big_quiet_on) | (refine plan_load_one 3 _ rfl rfl (EvoAt.cd (by assumption)) (by kernel_rfl) ?_; simp only [Act.put, List.setIfInBounds_toArray, List.set_cons_succ, List.set_cons_zero]; go_big_quiet_on) | (refine plan_load_one 3 _ rfl rfl (EvoAt.cp (by assumption)) (by kernel_rfl) ?_; simp only [Act.put, List.setIfInBounds_toArray, List.set_cons_succ, List.set_cons_zero]; go_big_quiet_on) | (refine plan_load_one 24 _ rfl rfl (EvoAt.cr (by assumption)) (by kernel_rfl) ?_; simp only [Act.put, List.setIfInBounds_toArray, List.set_cons_succ, List.set_cons_zero]; go_big_quiet_on) | (refine plan_load_one 24 _ rfl rfl (EvoAt.cs (by assumption)) (by kernel_rfl) ?_; simp only [Act.put, List.setIfInBounds_toArray, List.set_cons_succ, List.set_cons_zero]; go_big_quiet_on) | (refine plan_load_leaf _ rfl rfl (by assumption) ?_; simp only [Act.put, List.setIfInBounds_toArray, List.set_cons_succ, List.set_cons_zero]; go_big_quiet_on) | (go_big_quiet_op; go_big_quiet_on))))
      refine wpQuiet_nil ?_
      intro _ _ k
      (try replace F1 := F1.later k); (try replace F2 := F2.later k); (try replace F3 := F3.later k); (try replace F4 := F4.later k); (try replace F5 := F5.later k); (try replace F6 := F6.later k); (try replace F7 := F7.later k); (try replace F8 := F8.later k); (try replace F9 := F9.later k); (try replace G1 := G1.later k); (try replace G2 := G2.later k); (try replace G3 := G3.later k); (try replace z := z.later k); (try replace b := later b k); (try replace bB := mixed hB bB k)
      go_wp2_with (go_at_call 65; refine (HDG.out _).mono ?_; rintro _ _ ⟨a, c, rfl, F5, hc⟩; replace k := later k hc; (try replace F1 := F1.later hc); (try replace F2 := F2.later hc); (try replace F3 := F3.later hc); (try replace F4 := F4.later hc); (try replace F5 := F5.later hc); (try replace F6 := F6.later hc); (try replace F7 := F7.later hc); (try replace F8 := F8.later hc); (try replace F9 := F9.later hc); (try replace G1 := G1.later hc); (try replace G2 := G2.later hc); (try replace G3 := G3.later hc); (try replace z := z.later hc); (try replace b := later b hc); (try replace bB := mixed hB bB hc); clear hc)
      have F7 := F5.sl
      clear F5
      refine goQ_since (lasts_below (Nat.le_refl _)) k ?_
      clear k
      (try simp only [Act.put, List.setIfInBounds_toArray, List.set_cons_succ, List.set_cons_zero])
      refine plan_fl ?_
      simp only [pickOps, opAt, List.getElem?_cons_succ, List.getElem?_cons_zero, List.nil_append, List.cons_append]
      (repeat (first | go_big_quiet_skip | (go_big_quiet_want; first | (refine plan_load_hash _ rfl rfl (by assumption) ?_; simp only [Act.put, List.setIfInBounds_toArray, List.set_cons_succ, List.set_cons_zero]; go_big_quiet_on) | (refine plan_load_one 3 _ rfl rfl (EvoAt.cd (by assumption)) (by kernel_rfl) ?_; simp only [Act.put, List.setIfInBounds_toArray, List.set_cons_succ, List.set_cons_zero]; go_big_quiet_on) | (refine plan_load_one 3 _ rfl rfl (EvoAt.cp (by assumption)) (by kernel_rfl) ?_; simp only [Act.put, List.setIfInBounds_toArray, List.set_cons_succ, List.set_cons_zero]; go_big_quiet_on) | (refine plan_load_one 24 _ rfl rfl (EvoAt.cr (by assumption)) (by kernel_rfl) ?_; simp only [Act.put, List.setIfInBounds_toArray, List.set_cons_succ, List.set_cons_zero]; go_big_quiet_on) | (refine plan_load_one 24 _ rfl rfl (EvoAt.cs (by assumption)) (by kernel_rfl) ?_; simp only [Act.put, List.setIfInBounds_toArray, List.set_cons_succ, List.set_cons_zero]; go_big_quiet_on) | (refine plan_load_leaf _ rfl rfl (by assumption) ?_; simp only [Act.put, List.setIfInBounds_toArray, List.set_cons_succ, List.set_cons_zero]; go_big_quiet_on) | (go_big_quiet_op; go_big_quiet_on))))
      refine wpQuiet_nil ?_
      refine fl_call (by rfl) rfl (by kernel_rfl) (by simp only [List.map_toArray, List.map_cons, List.map_nil]; rfl) (fun w' hC => HOV.out _ _ _ w' (Sl.later F7 (Kl.out hC)) (F6.later (Kl.out hC))) ?_
      simp only [Act.put, List.setIfInBounds_toArray, List.set_cons_succ, List.set_cons_zero]
      refine plan_stop ?_
      simp only [pickOps, opAt, List.getElem?_cons_succ, List.getElem?_cons_zero, List.nil_append, List.cons_append]
      repeat (first | go_big_quiet_skip | (go_big_quiet_want; first | (refine plan_load_hash _ rfl rfl (by assumption) ?_; simp only [Act.put, List.setIfInBounds_toArray, List.set_cons_succ, List.set_cons_zero]; go_big_quiet_on) | (refine quiet_eq _ _ rfl rfl rfl HUL.out HP.out ?_; simp only [Act.put, List.setIfInBounds_toArray, List.set_cons_succ, List.set_cons_zero]; go_big_quiet_on) | (go_big_quiet_op; go_big_quiet_on)))
      refine wpQuiet_nil ?_
      intro _ _ k
      (try replace F1 := F1.later k); (try replace F2 := F2.later k); (try replace F3 := F3.later k); (try replace F4 := F4.later k); (try replace F5 := F5.later k); (try replace F6 := F6.later k); (try replace F7 := F7.later k); (try replace F8 := F8.later k); (try replace F9 := F9.later k); (try replace G1 := G1.later k); (try replace G2 := G2.later k); (try replace G3 := G3.later k); (try replace z := z.later k); (try replace b := later b k); (try replace bB := mixed hB bB k)
      clear k
      go_wp2_with fail
      go_ret
      exact ⟨by rw [← HRE.out]; rfl, b⟩
theorem refCheck06_any (pub m : List UInt8) (d n : Int) (sig : ByteArray) (w : World) (hp : pub.length = 32) (hm : m.length = 32) :
    Calls Try.prog 33 #[hv pub, .int .i64 d, .int .i64 n, hv m, .string sig] w fun e w' => e = .returned (.bool (checkE pub d n m sig)) ∧ Below w.heap.size w w' := by
  by_cases h : perB d n = true ∧ (sig.size : Int) = 1024 + 32 * d
  · obtain ⟨h1, h2⟩ := h
    obtain ⟨a1, _, a3, _, _⟩ := perB_small h1
    obtain ⟨d', rfl⟩ := Int.eq_ofNat_of_zero_le a1
    obtain ⟨n', rfl⟩ := Int.eq_ofNat_of_zero_le a3
    exact refCheck06_yes pub m d' n' sig w hp hm h1 h2
  · exact refCheck06_no pub m d n sig w hp hm h
end Go.Proofs.Ytofjjpielkfloaa
