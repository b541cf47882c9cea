/- block.May, Id, Fits. -/
import Derived.Test.YtbbfnpfkbbpjgaaGreatQBBlk3
import Derived.Test.YtbbfnpfkbbpjgaaGreatQBHdLaw
namespace Go.Proofs.YtbbfnpfkbbpjgaaGreat
open Go.RowKit Go.Lib
set_option linter.unusedVariables false
set_option linter.unusedSimpArgs false
set_option maxRecDepth 100000
set_option maxHeartbeats 4000000
theorem j5c (v : Value) (x : Blk) (w : World) (h : BlkIs w v x) (hn : x.deeds.length ≤ 1000) (hf : ∀ d ∈ x.deeds, d.Fit) :
    Calls Tryz.prog 36 #[v] w fun e w' => e = .returned (.int .i64 (if mayB x = true then 0 else 2)) ∧ Below w.heap.size w w' := by
  have hz := x3r x.deeds
  have hl := j1z x.deeds
  obtain ⟨u, rfl, hD, hok⟩ := h
  have HBD := hide (fun (w' : World) (hb : Below w.heap.size w w') => j1j u x.deeds w' (hD.later hb) hn hf)
  have o1 : u.oneCell' = true := by obtain ⟨a, c, rfl⟩ := hD.shape; rfl
  have HM := hide (fun w => j6i x.head hok w)
  have HOK := hide hok
  have HL := hide hl
  have b := Below.refl w.heap.size w
  unfold mayB
  generalize (bodB x.deeds).1.1 = R at *
  generalize (bodB x.deeds).1.2 = s at *
  generalize (bodB x.deeds).2.1 = m at *
  generalize (bodB x.deeds).2.2 = c at *
  clear hD hok hl hn hf
  generalize fewB x.deeds = B at *
  generalize x.head = d at *
  clear x
  by_cases hm : mayH d = true
  · rw [if_pos hm] at HM
    rw [hm, Bool.true_and]
    cases B
    case true =>
      obtain rfl : c = 0 := hz.2 rfl
      clear hm hz
      have mF1 := True.intro
      have mF2 := True.intro
      go_enter Tryz.func36, Tryz.ntmps36
      go_wp2_with (first | (with_reducible refine w4g ?_; clear mF1; refine q3b rfl _ rfl rfl HOK.out o1 ?_; intro _ g1 hg1 F1 hb; (try replace F1 := F1.later hb); (try replace F2 := F2.later hb); (try replace b := later b hb); clear hb) | (with_reducible refine w13g ?_; refine q4n rfl _ rfl rfl F1 ?_) | (with_reducible refine w0g ?_; refine q0a rfl 42 _ rfl rfl (KAt.ds F1) (by kernel_rfl) ?_) | (go_at_call 85; refine (HM.out _).mono ?_; rintro _ _ ⟨rfl, hc⟩; (try replace F1 := F1.later hc); (try replace F2 := F2.later hc); (try replace b := later b hc); clear hc) | (go_at_call 25; refine (HBD.out _ b).mono ?_; rintro _ _ ⟨rfl, hc⟩; (try replace F1 := F1.later hc); (try replace F2 := F2.later hc); (try replace b := later b hc); clear hc) | (with_reducible refine w5g ?_; clear mF2; refine q0v rfl rfl ?_; intro _ g2 hg2 F2 hb; (try have := F1.lt); (try have := F2.lt); (try have := b.size); (try replace F1 := F1.later hb); (try replace F2 := F2.later hb); (try replace b := later b hb); clear hb) | (with_reducible refine w6g ?_; refine q0l rfl _ _ rfl rfl rfl HL.out F2 ?_; intro _ t1 ht; (try replace F1 := F1.tt ht); (try replace F2 := F2.tt ht); (try replace b := q0c b ht (by omega) (by omega)); replace F2 := t1; clear ht))
      go_ret
      exact ⟨rfl, b⟩
    case false =>
      have hc : c ≠ 0 := fun h => by have := hz.1 h; cases this
      have hcb : (c != 0) = true := bne_iff_ne.2 hc
      clear hm hz hc
      have mF1 := True.intro
      have mF2 := True.intro
      go_enter Tryz.func36, Tryz.ntmps36
      go_wp2_with (first | (with_reducible refine w4g ?_; clear mF1; refine q3b rfl _ rfl rfl HOK.out o1 ?_; intro _ g1 hg1 F1 hb; (try replace F1 := F1.later hb); (try replace F2 := F2.later hb); (try replace b := later b hb); clear hb) | (with_reducible refine w13g ?_; refine q4n rfl _ rfl rfl F1 ?_) | (with_reducible refine w0g ?_; refine q0a rfl 42 _ rfl rfl (KAt.ds F1) (by kernel_rfl) ?_) | (go_at_call 85; refine (HM.out _).mono ?_; rintro _ _ ⟨rfl, hc⟩; (try replace F1 := F1.later hc); (try replace F2 := F2.later hc); (try replace b := later b hc); clear hc) | (go_at_call 25; refine (HBD.out _ b).mono ?_; rintro _ _ ⟨rfl, hc⟩; (try replace F1 := F1.later hc); (try replace F2 := F2.later hc); (try replace b := later b hc); clear hc) | (with_reducible refine w5g ?_; clear mF2; refine q0v rfl rfl ?_; intro _ g2 hg2 F2 hb; (try have := F1.lt); (try have := F2.lt); (try have := b.size); (try replace F1 := F1.later hb); (try replace F2 := F2.later hb); (try replace b := later b hb); clear hb) | (with_reducible refine w6g ?_; refine q0l rfl _ _ rfl rfl rfl HL.out F2 ?_; intro _ t1 ht; (try replace F1 := F1.tt ht); (try replace F2 := F2.tt ht); (try replace b := q0c b ht (by omega) (by omega)); replace F2 := t1; clear ht))
      go_ret
      exact ⟨rfl, b⟩
  · rw [if_neg hm] at HM
    have hm' : mayH d = false := by simpa using hm
    rw [hm', Bool.false_and]
    clear hm hm' hz
    have mF1 := True.intro
    have mF2 := True.intro
    go_enter Tryz.func36, Tryz.ntmps36
    go_wp2_with (first | (with_reducible refine w4g ?_; clear mF1; refine q3b rfl _ rfl rfl HOK.out o1 ?_; intro _ g1 hg1 F1 hb; (try replace F1 := F1.later hb); (try replace F2 := F2.later hb); (try replace b := later b hb); clear hb) | (with_reducible refine w13g ?_; refine q4n rfl _ rfl rfl F1 ?_) | (with_reducible refine w0g ?_; refine q0a rfl 42 _ rfl rfl (KAt.ds F1) (by kernel_rfl) ?_) | (go_at_call 85; refine (HM.out _).mono ?_; rintro _ _ ⟨rfl, hc⟩; (try replace F1 := F1.later hc); (try replace F2 := F2.later hc); (try replace b := later b hc); clear hc) | (go_at_call 25; refine (HBD.out _ b).mono ?_; rintro _ _ ⟨rfl, hc⟩; (try replace F1 := F1.later hc); (try replace F2 := F2.later hc); (try replace b := later b hc); clear hc) | (with_reducible refine w5g ?_; clear mF2; refine q0v rfl rfl ?_; intro _ g2 hg2 F2 hb; (try have := F1.lt); (try have := F2.lt); (try have := b.size); (try replace F1 := F1.later hb); (try replace F2 := F2.later hb); (try replace b := later b hb); clear hb) | (with_reducible refine w6g ?_; refine q0l rfl _ _ rfl rfl rfl HL.out F2 ?_; intro _ t1 ht; (try replace F1 := F1.tt ht); (try replace F2 := F2.tt ht); (try replace b := q0c b ht (by omega) (by omega)); replace F2 := t1; clear ht))
    go_ret
    exact ⟨rfl, b⟩
theorem x7u {x : Blk} (h : mayB x = true) : mayH x.head = true := by
  unfold mayB at h
  rw [Bool.and_eq_true] at h
  exact h.1
theorem j9m {x : Blk} (h : mayB x = true) : fewB x.deeds = true := by
  unfold mayB at h
  rw [Bool.and_eq_true] at h
  exact h.2
theorem x5v (v : Value) (x : Blk) (w : World) (h : BlkIs w v x) (hn : x.deeds.length ≤ 1000) (hf : ∀ d ∈ x.deeds, d.Fit) :
    Calls Tryz.prog 37 #[v] w fun e w' => e = .returned (.bool (fitB x)) ∧ Below w.heap.size w w' := by
  have HM := hide (fun (w' : World) (hb : Below w.heap.size w w') => j5c v x w' (h.later hb) hn hf)
  obtain ⟨u, rfl, hD, hok⟩ := h
  have HBD := hide (fun (w' : World) (hb : Below w.heap.size w w') => j1j u x.deeds w' (hD.later hb) hn hf)
  have o1 : u.oneCell' = true := by obtain ⟨a, c, rfl⟩ := hD.shape; rfl
  have HOK := hide hok
  have HLB := hide hok.body
  have b := Below.refl w.heap.size w
  unfold fitB
  clear hD hok hn hf
  by_cases hm : mayB x = true
  · have e := x8r (j9m hm)
    rw [e] at HBD
    have HL : Hid ((treeL (fulsB x.deeds)).length = 32) := q4l _ _
    rw [if_pos hm] at HM
    rw [hm, Bool.true_and]
    clear hm e
    generalize treeL (fulsB x.deeds) = R at *
    generalize sizB x.deeds = s at *
    generalize x.deeds.length = m at *
    generalize x.head = d at *
    obtain ⟨B1, hB1⟩ : ∃ B1, decide (d.body = R) = B1 := ⟨_, rfl⟩
    have E1 := hide hB1
    rw [hB1]
    clear hB1
    have q2 : ((d.size : Int) == (s : Int)) = decide (d.size = s) := q3m _ _
    have q3 : ((d.many : Int) == (m : Int)) = decide (d.many = m) := q3m _ _
    generalize decide (d.size = s) = B2 at *
    generalize decide (d.many = m) = B3 at *
    cases B1 <;> cases B2 <;> cases B3 <;> (
      have mF1 := True.intro
      have mF2 := True.intro
      go_enter Tryz.func37, Tryz.ntmps37
      go_wp2_with (first | (with_reducible refine w4g ?_; clear mF1; refine q3b rfl _ rfl rfl HOK.out o1 ?_; intro _ g1 hg1 F1 hb; (try replace F1 := F1.later hb); (try replace F2 := F2.later hb); (try replace b := later b hb); clear hb) | (with_reducible refine w5g ?_; clear mF2; refine q0v rfl rfl ?_; intro _ g2 hg2 F2 hb; (try have := F1.lt); (try have := F2.lt); (try have := b.size); (try replace F1 := F1.later hb); (try replace F2 := F2.later hb); (try replace b := later b hb); clear hb) | (with_reducible refine w15g ?_; refine q2g rfl _ rfl rfl F1 ?_) | (with_reducible refine w0g ?_; refine q0a rfl 42 _ rfl rfl (KAt.ds F1) (by kernel_rfl) ?_) | (with_reducible refine w3g ?_; first | refine q0j rfl _ rfl rfl (KAt.body F1) HLB.out ?_ | refine q0t rfl _ rfl rfl F2 ?_) | (with_reducible refine w2g ?_; first | refine q0a rfl 24 _ rfl rfl (KAt.size F1) (by kernel_rfl) ?_ | refine q0a rfl 24 _ rfl rfl (KAt.many F1) (by kernel_rfl) ?_) | (go_at_call 36; refine (HM.out _ b).mono ?_; rintro _ _ ⟨rfl, hc⟩; (try replace F1 := F1.later hc); (try replace F2 := F2.later hc); (try replace b := later b hc); clear hc) | (go_at_call 25; refine (HBD.out _ b).mono ?_; rintro _ _ ⟨rfl, hc⟩; (try replace F1 := F1.later hc); (try replace F2 := F2.later hc); (try replace b := later b hc); clear hc) | (with_reducible refine w6g ?_; refine q0l rfl _ _ rfl rfl rfl HL.out F2 ?_; intro _ t1 ht; (try replace F1 := F1.tt ht); (try replace F2 := F2.tt ht); (try replace b := q0c b ht (by omega) (by omega)); replace F2 := t1; clear ht) | (with_reducible show wpList _ _ _ (⟨_, Op.binOp BinOp.eql 34 _ _ _, _, _, _, _⟩ :: _) _ _; refine j1q rfl _ _ rfl rfl rfl HLB.out HL.out ?_; rw [E1.out]))
      go_ret
      exact ⟨by simp, b⟩)
  · have hm' : mayB x = false := by simpa using hm
    rw [if_neg hm] at HM
    rw [hm', Bool.false_and]
    clear hm hm' HBD
    generalize x.head = d at *
    have mF1 := True.intro
    have mF2 := True.intro
    go_enter Tryz.func37, Tryz.ntmps37
    go_wp2_with (first | (with_reducible refine w4g ?_; clear mF1; refine q3b rfl _ rfl rfl HOK.out o1 ?_; intro _ g1 hg1 F1 hb; (try replace F1 := F1.later hb); (try replace F2 := F2.later hb); (try replace b := later b hb); clear hb) | (with_reducible refine w15g ?_; refine q2g rfl _ rfl rfl F1 ?_) | (go_at_call 36; refine (HM.out _ b).mono ?_; rintro _ _ ⟨rfl, hc⟩; (try replace F1 := F1.later hc); (try replace F2 := F2.later hc); (try replace b := later b hc); clear hc))
    go_ret
    exact ⟨rfl, b⟩
end Go.Proofs.YtbbfnpfkbbpjgaaGreat
