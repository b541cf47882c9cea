/- The reference of layer 15: Body, May, Id, Fits. -/
import Derived.Test.YtbbfnpfkbbpjgaaGreatQCBkR1
import Derived.Test.YtbbfnpfkbbpjgaaGreatQCHdRef1
import Derived.Test.YtbbfnpfkbbpjgaaGreatQCHd7
import Derived.Test.YtbbfnpfkbbpjgaaGreatQCHdEq
namespace Go.Proofs.YtbbfnpfkbbpjgaaGreat
open Go.RowKit Go.Lib
set_option linter.unusedVariables false
set_option linter.unusedSimpArgs false
set_option maxRecDepth 100000
set_option maxHeartbeats 4000000
theorem j7s (v : Value) (l : List Deed) (w : World) (h : DsIs w v l) (hn : l.length ≤ 1000) :
  Calls Tryz.prog 26 #[v] w fun e w' => e = .returned (.tuple #[hv (bodB l).1.1, .int .u64 (bodB l).1.2, .int .u64 (bodB l).2.1, .int .i64 (bodB l).2.2]) ∧ Below w.heap.size w w' := by
 have HSZ := hide (fun (hm : l.all mayD = true) (w' : World) (hb : Below w.heap.size w w') => x5i v l w' (h.later hb) hn hm)
 have HFU := hide (fun (hm : l.all mayD = true) (w' : World) (hb : Below w.heap.size w w') => x1o v l w' (h.later hb) hn hm)
 have HRO := hide (fun (fv : Value) (w' : World) (S : Hs w' fv (fulsB l)) => j8z fv (fulsB l) w' S (by unfold fulsB; rw [List.length_map]; omega))
 have hok := h.ok
 have HSM := hide (fun hm => q9y l hok hm)
 have HMT := hide (fun k d (h : (l.take k).all mayD = true) (hd : l[k]? = some d) (hm : mayD d = true) => x0q h hd hm)
 obtain ⟨a1, c1, rfl⟩ := h.shape
 have HL : Hid ((treeL (fulsB l)).length = 32) := q3p _ _
 have HZ : Hid (zero32.length = 32) := rfl
 have HBD := hide (fun (hm : l.all mayD = true) => show bodB l = if l.length ≤ 16 ∧ sizB l ≤ 32768 then ((treeL (fulsB l), sizB l), (l.length, 0)) else ((zero32, 0), (0, 3)) by unfold bodB; rw [if_pos hm])
 have HBN := hide (fun (hm : l.all mayD = false) => show bodB l = ((zero32, 0), (0, 2)) by unfold bodB; rw [if_neg (by simp [hm])])
 generalize treeL (fulsB l) = R at *
 obtain ⟨n, hn'⟩ : ∃ n, n = l.length := ⟨_, rfl⟩
 have HN := hide hn'
 rw [← hn'] at h hn HSZ HFU HBD HSM ⊢
 clear hn' hok
 generalize bodB l = T at *
 generalize sizB l = z at *
 have b := Below.refl w.heap.size w
 have mF1 := True.intro
 go_enter Tryz.func26, Tryz.ntmps26
 go_wp2_with (with_reducible refine w3g ?_; clear mF1; refine q0j rfl rfl ?_; intro _ g1 hg1 F1 hb; (try have := F1.lt); (try have := F4.lt); (try have := z.lt); (try have := b.size); (try replace b := later b hb); clear hb)
 go_loopw [6] (fun i wr => ∃ k : Nat, i = .int .i64 k ∧ k ≤ n ∧ Hid ((l.take k).all mayD = true) ∧ HashAt wr g1 zero32 ∧ Below w.heap.size w wr) (fun i _ => n - (RowKit.intOf i).toNat)
 case atStart => exact ⟨0, rfl, by omega, hide (by simp), F1, b⟩
 clear b F1
 obtain ⟨k, rfl, hk, HM, F1, b⟩ := hrel
 by_cases hlt : k < n
 case pos =>
  obtain ⟨d, hd⟩ : ∃ d, l[k]? = some d := ⟨_, List.getElem?_eq_getElem (by rw [← HN.out]; exact hlt)⟩
  obtain ⟨bb, k0, c', he, _, hcs⟩ := (h.later b).block (by rw [← HN.out]; omega)
  rw [← HN.out] at he
  simp only [Value.slice.injEq] at he
  obtain ⟨rfl, -, rfl⟩ := he
  obtain ⟨v1, v2, v3, v4, v5, d1, hD, o1, o2, o3, o4, o5⟩ := hcs k d hd
  have HRM := hide (fun (w' : World) (hb : Below wr.heap.size wr w') => x3e _ d w' (hD.later hb))
  have k2 := Below.refl wr.heap.size wr
  have HNO := hide (fun hm => HBN.out (x4d hd hm))
  have HYE := hide (fun hm => HMT.out k d HM.out hd hm)
  clear hcs hd hD HMT HBD HBN HSM HSZ HFU HRO h
  generalize hmd : mayD d = MD at *
  generalize d.fee = f at *
  generalize d.frm = s at *
  generalize d.til = t at *
  clear hmd
  cases MD
  case false =>
   have hT := HNO.out rfl
   subst hT
   clear HNO HYE
   go_wp2_with (first | (with_reducible refine w11g ?_; refine q3b rfl _ rfl rfl d1 ?_) | (go_at_call 13; refine (HRM.out _ k2).mono ?_; rintro _ _ ⟨rfl, hc⟩; (try replace F1 := F1.later hc); (try replace b := later b hc); clear hc) | (with_reducible refine w5g ?_; refine q1j rfl rfl ?_) | (with_reducible refine w4g ?_; refine q0g rfl _ _ rfl rfl rfl HZ.out F1 ?_; intro _ t1 ht; (try replace b := q0b b ht (by omega) (by omega)); replace F1 := t1; clear ht))
   exact bodyPost_ret (q3e rfl _ _ _ _ _ rfl rfl rfl rfl F1) rfl ⟨rfl, b⟩
  case true =>
   have HYE2 := hide (HYE.out rfl)
   clear HNO HYE
   go_wp2_with (first | (with_reducible refine w11g ?_; refine q3b rfl _ rfl rfl d1 ?_) | (go_at_call 13; refine (HRM.out _ k2).mono ?_; rintro _ _ ⟨rfl, hc⟩; (try replace F1 := F1.later hc); (try replace b := later b hc); clear hc))
   go_roundw
   case rel => exact ⟨k + 1, by simp, by omega, HYE2.out, F1, b⟩
   case measure => simp [RowKit.intOf]; omega
 obtain rfl : n = k := by omega
 have hm := HM.out
 rw [List.take_of_length_le (by rw [← HN.out]; exact Nat.le_refl _)] at hm
 have hsm := HSM.out hm
 have hbod := HBD.out hm
 have HSZ2 := hide (HSZ.out hm)
 have HFU2 := hide (HFU.out hm)
 have kz : IntKind.u64.wrap (z : Int) = (z : Int) := by rw [IntKind.wrap_u64]; omega
 have kn : IntKind.u64.wrap (n : Int) = (n : Int) := by rw [IntKind.wrap_u64]; omega
 clear hm HM HSM HBD HBN HSZ HFU HMT hlt hk h hsm
 by_cases h1 : n ≤ 16
 ·have c1 : decide ((16 : Int) < (n : Int)) = false := decide_eq_false (by omega)
  by_cases h2 : z ≤ 32768
  ·have c2 : decide ((32768 : Int) < (z : Int)) = false := decide_eq_false (by omega)
   rw [if_pos ⟨h1, h2⟩] at hbod
   subst hbod
   go_wp2_with (first | (with_reducible refine w4g ?_; refine q0g rfl _ _ rfl rfl rfl HL.out F1 ?_; intro _ t1 ht; (try replace b := q0b b ht (by omega) (by omega)); replace F1 := t1; clear ht) | (go_at_call 64; refine (HSZ2.out _ b).mono ?_; rintro _ _ ⟨rfl, hc⟩; (try replace F1 := F1.later hc); (try replace F4 := F4.later hc); (try replace b := later b hc); clear hc) | (go_at_call 43; refine (HFU2.out _ b).mono ?_; rintro _ _ ⟨⟨fv, rfl, F4⟩, hc⟩; (try replace F1 := F1.later hc); (try replace b := later b hc); clear hc) | (go_at_call 65; refine (HRO.out _ _ F4).mono ?_; rintro _ _ ⟨rfl, hc⟩; (try replace F1 := F1.later hc); (try replace F4 := F4.later hc); (try replace b := later b hc); clear hc))
   exact bodyPost_ret (q3e rfl _ _ _ _ _ rfl rfl rfl rfl F1) rfl ⟨rfl, b⟩
  ·have c2 : decide ((32768 : Int) < (z : Int)) = true := decide_eq_true (by omega)
   rw [if_neg (fun h => h2 h.2)] at hbod
   subst hbod
   go_wp2_with (first | (with_reducible refine w5g ?_; refine q1j rfl rfl ?_) | (with_reducible refine w4g ?_; refine q0g rfl _ _ rfl rfl rfl HZ.out F1 ?_; intro _ t1 ht; (try replace b := q0b b ht (by omega) (by omega)); replace F1 := t1; clear ht) | (go_at_call 64; refine (HSZ2.out _ b).mono ?_; rintro _ _ ⟨rfl, hc⟩; (try replace F1 := F1.later hc); (try replace b := later b hc); clear hc))
   exact bodyPost_ret (q3e rfl _ _ _ _ _ rfl rfl rfl rfl F1) rfl ⟨rfl, b⟩
 ·have c1 : decide ((16 : Int) < (n : Int)) = true := decide_eq_true (by omega)
  rw [if_neg (fun h => h1 h.1)] at hbod
  subst hbod
  go_wp2_with (first | (with_reducible refine w5g ?_; refine q1j rfl rfl ?_) | (with_reducible refine w4g ?_; refine q0g rfl _ _ rfl rfl rfl HZ.out F1 ?_; intro _ t1 ht; (try replace b := q0b b ht (by omega) (by omega)); replace F1 := t1; clear ht))
  exact bodyPost_ret (q3e rfl _ _ _ _ _ rfl rfl rfl rfl F1) rfl ⟨rfl, b⟩
theorem j5s (v : Value) (x : Blk) (w : World) (h : BlkIs w v x) (hn : x.deeds.length ≤ 1000) :
  Calls Tryz.prog 32 #[v] w fun e w' => e = .returned (.bool (mayB x)) ∧ Below w.heap.size w w' := by
 have hz := j2c x.deeds
 have hl := q8y x.deeds
 obtain ⟨u, rfl, hD, hok⟩ := h
 have HBD := hide (fun (w' : World) (hb : Below w.heap.size w w') => j7s u x.deeds w' (hD.later hb) hn)
 have o1 : u.oneCell' = true := by obtain ⟨a, c, rfl⟩ := hD.shape; rfl
 have HM := hide (fun w => j1k x.head hok w)
 have HOK := hide hok
 have HL := hide hl
 have b := Below.refl w.heap.size w
 unfold mayB
 generalize (bodB x.deeds).1.1 = R at *
 generalize (bodB x.deeds).1.2 = s at *
 generalize (bodB x.deeds).2.1 = m at *
 generalize (bodB x.deeds).2.2 = c at *
 clear hD hok hl hn
 generalize fewB x.deeds = B at *
 generalize mayH x.head = MH at *
 generalize x.head = d at *
 clear x
 cases B
 case true =>
  obtain rfl : c = 0 := hz.2 rfl
  clear hz
  cases MH <;> (
   have mF1 := True.intro
   have mF2 := True.intro
   go_enter Tryz.func32, Tryz.ntmps32
   go_wp2_with (first | (with_reducible refine w2g ?_; clear mF1; refine q0k rfl _ rfl rfl HOK.out o1 ?_; intro _ g1 hg1 F1 hb; (try replace b := later b hb); clear hb) | (with_reducible refine w9g ?_; refine q1l rfl _ rfl rfl F1 ?_) | (with_reducible refine w0g ?_; refine q0a rfl 42 _ rfl rfl (KAt.ds F1) (by kernel_rfl) ?_) | (go_at_call 79; refine (HM.out _).mono ?_; rintro _ _ ⟨rfl, hc⟩; (try replace F1 := F1.later hc); (try replace F2 := F2.later hc); (try replace b := later b hc); clear hc) | (go_at_call 26; refine (HBD.out _ b).mono ?_; rintro _ _ ⟨rfl, hc⟩; (try replace F1 := F1.later hc); (try replace b := later b hc); clear hc) | (with_reducible refine w3g ?_; clear mF2; refine q0j rfl rfl ?_; intro _ g2 hg2 F2 hb; (try have := F1.lt); (try have := F2.lt); (try have := b.size); (try replace F1 := F1.later hb); (try replace b := later b hb); clear hb) | (with_reducible refine w4g ?_; refine q0g rfl _ _ rfl rfl rfl HL.out F2 ?_; intro _ t1 ht; (try replace F1 := F1.tt ht); (try replace b := q0b b ht (by omega) (by omega)); replace F2 := t1; clear ht))
   go_ret
   exact ⟨by simp, b⟩)
 case false =>
  have hc : c ≠ 0 := fun h => by have := hz.1 h; cases this
  have hcb : (c == 0) = false := beq_eq_false_iff_ne.2 hc
  clear hz hc
  cases MH <;> (
   have mF1 := True.intro
   have mF2 := True.intro
   go_enter Tryz.func32, Tryz.ntmps32
   go_wp2_with (first | (with_reducible refine w2g ?_; clear mF1; refine q0k rfl _ rfl rfl HOK.out o1 ?_; intro _ g1 hg1 F1 hb; (try replace b := later b hb); clear hb) | (with_reducible refine w9g ?_; refine q1l rfl _ rfl rfl F1 ?_) | (with_reducible refine w0g ?_; refine q0a rfl 42 _ rfl rfl (KAt.ds F1) (by kernel_rfl) ?_) | (go_at_call 79; refine (HM.out _).mono ?_; rintro _ _ ⟨rfl, hc⟩; (try replace F1 := F1.later hc); (try replace F2 := F2.later hc); (try replace b := later b hc); clear hc) | (go_at_call 26; refine (HBD.out _ b).mono ?_; rintro _ _ ⟨rfl, hc⟩; (try replace F1 := F1.later hc); (try replace b := later b hc); clear hc) | (with_reducible refine w3g ?_; clear mF2; refine q0j rfl rfl ?_; intro _ g2 hg2 F2 hb; (try have := F1.lt); (try have := F2.lt); (try have := b.size); (try replace F1 := F1.later hb); (try replace b := later b hb); clear hb) | (with_reducible refine w4g ?_; refine q0g rfl _ _ rfl rfl rfl HL.out F2 ?_; intro _ t1 ht; (try replace F1 := F1.tt ht); (try replace b := q0b b ht (by omega) (by omega)); replace F2 := t1; clear ht))
   go_ret
   exact ⟨by simp, b⟩)
theorem z1d (v : Value) (x : Blk) (w : World) (h : BlkIs w v x) (hm : mayB x = true) :
  Calls Tryz.prog 33 #[v] w fun e w' => e = .returned (hv (bidB x)) ∧ Below w.heap.size w w' := by
 obtain ⟨u, rfl, hD, hok⟩ := h
 have o1 : u.oneCell' = true := by obtain ⟨a, c, rfl⟩ := hD.shape; rfl
 have e : (idH x.head).1 = bidB x := by unfold idH bidB; rw [if_pos (q9t hm), if_pos hm]
 have HI := hide (fun w => x0e x.head hok (q9t hm) w)
 rw [e] at HI
 have HOK := hide hok
 have HL := hide (q9h x)
 have b := Below.refl w.heap.size w
 clear hD hok hm e
 generalize bidB x = R at *
 generalize x.head = d at *
 have mF1 := True.intro
 have mF2 := True.intro
 go_enter Tryz.func33, Tryz.ntmps33
 go_wp2_with (first | (with_reducible refine w2g ?_; clear mF1; refine q0k rfl _ rfl rfl HOK.out o1 ?_; intro _ g1 hg1 F1 hb; (try replace b := later b hb); clear hb) | (with_reducible refine w3g ?_; clear mF2; refine q0j rfl rfl ?_; intro _ g2 hg2 F2 hb; (try have := F1.lt); (try have := F2.lt); (try have := b.size); (try replace F1 := F1.later hb); (try replace b := later b hb); clear hb) | (with_reducible refine w9g ?_; refine q1l rfl _ rfl rfl F1 ?_) | (go_at_call 80; refine (HI.out _).mono ?_; rintro _ _ ⟨rfl, hc⟩; (try replace F1 := F1.later hc); (try replace F2 := F2.later hc); (try replace b := later b hc); clear hc) | (with_reducible refine w4g ?_; refine q0g rfl _ _ rfl rfl rfl HL.out F2 ?_; intro _ t1 ht; (try replace F1 := F1.tt ht); (try replace b := q0b b ht (by omega) (by omega)); replace F2 := t1; clear ht))
 exact bodyPost_ret (q2q rfl _ _ rfl F2) rfl ⟨rfl, b⟩
theorem x7l (v : Value) (x : Blk) (w : World) (h : BlkIs w v x) (hn : x.deeds.length ≤ 1000) :
  Calls Tryz.prog 38 #[v] w fun e w' => e = .returned (.bool (fitB x)) ∧ Below w.heap.size w w' := by
 have HM := hide (fun (w' : World) (hb : Below w.heap.size w w') => j5s v x w' (h.later hb) hn)
 obtain ⟨u, rfl, hD, hok⟩ := h
 have HBD := hide (fun (w' : World) (hb : Below w.heap.size w w') => j7s u x.deeds w' (hD.later hb) hn)
 have o1 : u.oneCell' = true := by obtain ⟨a, c, rfl⟩ := hD.shape; rfl
 have HOK := hide hok
 have HLB := hide hok.body
 have b := Below.refl w.heap.size w
 unfold fitB
 by_cases hf : fewB x.deeds = true
 ·have e := x0m hf
  rw [e] at HBD
  have HL : Hid ((treeL (fulsB x.deeds)).length = 32) := q3p _ _
  clear hf e hD hok hn
  generalize mayB x = MB at *
  generalize treeL (fulsB x.deeds) = R at *
  generalize sizB x.deeds = s at *
  generalize x.deeds.length = m at *
  generalize x.head = d at *
  obtain ⟨B1, hB1⟩ : ∃ B1, decide (d.body = R) = B1 := ⟨_, rfl⟩
  have E1 := hide hB1
  rw [hB1]
  clear hB1
  have q2 : ((d.size : Int) == (s : Int)) = decide (d.size = s) := q3a _ _
  have q3 : ((d.many : Int) == (m : Int)) = decide (d.many = m) := q3a _ _
  generalize decide (d.size = s) = B2 at *
  generalize decide (d.many = m) = B3 at *
  cases MB <;> cases B1 <;> cases B2 <;> cases B3 <;> (
   have mF1 := True.intro
   have mF2 := True.intro
   go_enter Tryz.func38, Tryz.ntmps38
   go_wp2_with (first | (with_reducible refine w2g ?_; clear mF1; refine q0k rfl _ rfl rfl HOK.out o1 ?_; intro _ g1 hg1 F1 hb; (try replace b := later b hb); clear hb) | (with_reducible refine w3g ?_; clear mF2; refine q0j rfl rfl ?_; intro _ g2 hg2 F2 hb; (try have := F1.lt); (try have := F2.lt); (try have := b.size); (try replace F1 := F1.later hb); (try replace b := later b hb); clear hb) | (with_reducible refine w15g ?_; refine q0m rfl _ rfl rfl F1 ?_) | (with_reducible refine w0g ?_; refine q0a rfl 42 _ rfl rfl (KAt.ds F1) (by kernel_rfl) ?_) | (with_reducible show wpList _ _ _ (⟨_, Op.load 34 _, _, _, _, _⟩ :: _) _ _; first | refine q0i rfl _ rfl rfl (KAt.body F1) HLB.out ?_ | refine q0w rfl _ rfl rfl F2 ?_) | (with_reducible refine w6g ?_; first | refine q0a rfl 24 _ rfl rfl (KAt.size F1) (by kernel_rfl) ?_ | refine q0a rfl 24 _ rfl rfl (KAt.many F1) (by kernel_rfl) ?_) | (go_at_call 32; refine (HM.out _ b).mono ?_; rintro _ _ ⟨rfl, hc⟩; (try replace F1 := F1.later hc); (try replace F2 := F2.later hc); (try replace b := later b hc); clear hc) | (go_at_call 26; refine (HBD.out _ b).mono ?_; rintro _ _ ⟨rfl, hc⟩; (try replace F1 := F1.later hc); (try replace b := later b hc); clear hc) | (with_reducible refine w4g ?_; refine q0g rfl _ _ rfl rfl rfl HL.out F2 ?_; intro _ t1 ht; (try replace F1 := F1.tt ht); (try replace b := q0b b ht (by omega) (by omega)); replace F2 := t1; clear ht) | (with_reducible show wpList _ _ _ (⟨_, Op.binOp BinOp.eql 34 _ _ _, _, _, _, _⟩ :: _) _ _; refine j2y rfl _ _ rfl rfl rfl HLB.out HL.out ?_; rw [E1.out]))
   go_ret
   exact ⟨by simp, b⟩)
 ·have hz := j2c x.deeds
  have hl := q8y x.deeds
  have hmb : mayB x = false := by unfold mayB; simp [hf]
  rw [hmb, Bool.false_and]
  have hc : (bodB x.deeds).2.2 ≠ 0 := fun h => hf (hz.1 h)
  have hcb : ((bodB x.deeds).2.2 == 0) = false := beq_eq_false_iff_ne.2 hc
  have HL := hide hl
  clear hf hz hl hmb hc hD hok hn HM
  generalize (bodB x.deeds).1.1 = R at *
  generalize (bodB x.deeds).1.2 = s at *
  generalize (bodB x.deeds).2.1 = m at *
  generalize (bodB x.deeds).2.2 = c at *
  generalize x.head = d at *
  have mF1 := True.intro
  have mF2 := True.intro
  go_enter Tryz.func38, Tryz.ntmps38
  go_wp2_with (first | (with_reducible refine w2g ?_; clear mF1; refine q0k rfl _ rfl rfl HOK.out o1 ?_; intro _ g1 hg1 F1 hb; (try replace b := later b hb); clear hb) | (with_reducible refine w3g ?_; clear mF2; refine q0j rfl rfl ?_; intro _ g2 hg2 F2 hb; (try have := F1.lt); (try have := F2.lt); (try have := b.size); (try replace F1 := F1.later hb); (try replace b := later b hb); clear hb) | (with_reducible refine w0g ?_; refine q0a rfl 42 _ rfl rfl (KAt.ds F1) (by kernel_rfl) ?_) | (go_at_call 26; refine (HBD.out _ b).mono ?_; rintro _ _ ⟨rfl, hc⟩; (try replace F1 := F1.later hc); (try replace b := later b hc); clear hc) | (with_reducible refine w4g ?_; refine q0g rfl _ _ rfl rfl rfl HL.out F2 ?_; intro _ t1 ht; (try replace F1 := F1.tt ht); (try replace b := q0b b ht (by omega) (by omega)); replace F2 := t1; clear ht))
  go_ret
  exact ⟨by simp, b⟩
theorem j1t (b : Nat) (w : World) (h0 : w.cell? ⟨b, 0, none⟩ = some (.pointer none)) (hsh : w.shape? b = some (113, 2)) (hfz : w.frozen? ⟨b, 0, none⟩ = false) :
  Calls Tryz.prog 150 #[.pointer (some ⟨b, 0, none⟩)] w fun e w' => e = .returned (.tuple #[]) ∧ w' = w.setCell ⟨b, 0, none⟩ (.pointer (some ⟨b, 0, none⟩)) := by
 obtain ⟨j, hj, hjs⟩ := Option.map_eq_some_iff.1 sizeBuilder
 go_enter Tryz.func150, Tryz.ntmps150
 go_wp2
 rw [Lib.run_to_unsafe w ⟨b, 0, none⟩ Tryz.underlying111 Tryz.underlying202 hj (by rw [hjs]; decide) hsh (Nat.zero_lt_succ 1)]
 simp only [Result.andThen]
 rw [Oper.upon_value]
 go_wp2
 rw [run_callFunc_extern Tryz.func177 (by kernel_rfl) (by kernel_rfl) (by kernel_rfl) (e := Extern.AbiNoEscape.same) (by kernel_rfl)]
 rw [Lib.run_noEscape]
 simp only [Result.andThen]
 rw [Oper.upon_value]
 go_wp2
 rw [Lib.run_from_unsafe w ⟨b, 0, none⟩ Tryz.underlying202 Tryz.underlying111 hj hsh liesBuilder]
 simp only [Result.andThen]
 rw [Oper.upon_value]
 go_wp2
 go_end0
 exact ⟨rfl, rfl⟩
theorem copyCheckS (B b : Nat) (bs : List Value) (w : World) (h : Lib.IsBuilder 113 5 B b bs w) :
  Calls Tryz.prog 150 #[.pointer (some ⟨b, 0, none⟩)] w fun e w' => e = .returned (.tuple #[]) ∧ (Lib.BuilderAt 113 5 B b (.pointer (some ⟨b, 0, none⟩)) bs w' ∧ Below B w w' ∧ KeepT b w w') := by
 rcases h with h | h
 ·refine (j1t b w h.cell0 h.shape h.frozen0).mono ?_
  rintro e w' ⟨rfl, rfl⟩
  exact ⟨rfl, h.used _, (Below.refl B w).setCell (p := ⟨b, 0, none⟩) h.1 _, KeepT.set _⟩
 ·refine (q6y b w h.cell0).mono ?_
  rintro e w' ⟨rfl, rfl⟩
  exact ⟨rfl, h, Below.refl B _, KeepT.refl _ _⟩
theorem writeStringS (B b : Nat) (bs : List Value) (s : ByteArray) (w : World) (h : Lib.IsBuilder 113 5 B b bs w) (hlen : bs.length + s.size ≤ 140737488355328) (hBw : B ≤ w.heap.size) :
  Calls Tryz.prog 75 #[.pointer (some ⟨b, 0, none⟩), .string s] w fun e w' => e = .returned (.tuple #[.int .i64 s.size, .nilIface]) ∧ (Lib.BuilderAt 113 5 B b (.pointer (some ⟨b, 0, none⟩)) (bs ++ Lib.strCells s) w' ∧ Below B w w' ∧ KeepT b w w') := by
 obtain ⟨i0, hi, hz0, hz1, hz2⟩ := info_parts info8
 go_enter Tryz.func75, Tryz.ntmps75
 go_wp2_with (go_at_call 150; refine (copyCheckS B b bs _ h).mono ?_)
 rintro e w1 ⟨rfl, h1, hb1, hk1⟩
 obtain ⟨hB, v, hbk, hown, hne⟩ := h1
 have c0 : w1.cell? ⟨b, 0, none⟩ = some (.pointer (some ⟨b, 0, none⟩)) := by rw [Lib.cell_of_heap hbk]; rfl
 have c1 : w1.cell? ⟨b, 1, none⟩ = some v := by rw [Lib.cell_of_heap hbk]; rfl
 go_wp2_with (at_builtin; refine Lib.wpList_append_own_string _ rfl _ _ 93 9 rfl B 5 i0 Tryz.underlying93 Tryz.underlying9 hi hz0 hz1 hz2 _ _ _ rfl hown s rfl ?c3 ?c4 ?c5 ?_)
 case c3 => unfold maxLen; omega
 case c4 => omega
 case c5 => have := hb1.size; omega
 intro v' w2 hown' hgrow _
 have hlt : b < w1.heap.size := by
  rcases Nat.lt_or_ge b w1.heap.size with h' | h'
  ·exact h'
  ·simp [Array.getElem?_eq_none h'] at hbk
 have hb2 : w2.heap[b]? = some (.cells #[.pointer (some ⟨b, 0, none⟩), v] 113 (0, 0)) := by
  rw [hgrow.block b hlt (fun e => hne e.symm)]
  exact hbk
 have d0 : w2.cell? ⟨b, 0, none⟩ = some (.pointer (some ⟨b, 0, none⟩)) := by rw [Lib.cell_of_heap hb2]; rfl
 have d1 : w2.cell? ⟨b, 1, none⟩ = some v := by rw [Lib.cell_of_heap hb2]; rfl
 have f1 : w2.frozen? ⟨b, 1, none⟩ = false := Lib.frozen_of_heap hb2 1
 obtain ⟨ao, n', cap, rfl⟩ : ∃ ao n' cap, v' = .slice ao n' cap := by
  rcases hown'.2 with ⟨hv, _⟩ | ⟨g, cap, cur, hv, _⟩
  ·exact ⟨_, _, _, hv⟩
  ·exact ⟨_, _, _, hv⟩
 go_wp2
 go_ret2
 refine ⟨rfl, ?_, ?_, ?_⟩
 ·exact Lib.BuilderAt.put (T := 113) (e := 5) hB hb2 (bs' := bs ++ Lib.strCells s) (by simpa [Lib.strCells_length] using hown') (by decide)
 ·exact (hb1.grown hgrow (by have := hb1.size; omega) (fun k hk => (hown.lt k hk).1)).setCell (p := ⟨b, 1, none⟩) hB _
 ·exact ((hk1.trans (KeepT.grown hown hgrow)).trans (KeepT.set _))
/-- The writer at block g has the bytes s; all that is its own stands from g on. -/
def Wrs (w : World) (g : Nat) (s : List UInt8) : Prop := Lib.IsBuilder 113 5 g g (Lib.byteCells s) w
theorem x3a (g : Nat) (l : List UInt8) (w : World) (h : Wrs w g l) (hl : l ≠ []) :
  Calls Tryz.prog 78 #[.pointer (some ⟨g, 0, none⟩)] w fun e w' => e = .returned (.string ⟨l.toArray⟩) ∧ Below g w w' := by
 have h0 : l.length ≠ 0 := by simpa using hl
 obtain ⟨p, hB, v, hbk, hown, hne⟩ : ∃ p, Lib.BuilderAt 113 5 g g p (Lib.byteCells l) w := by
  rcases h with h | h
  ·exact ⟨_, h⟩
  ·exact ⟨_, h⟩
 rw [Lib.byteCells_length] at hown
 obtain ⟨q, cap, cur, rfl, hbg, hg, hnc, hcm, hcs, htake⟩ : ∃ q cap cur, v = .slice (some ⟨q, 0, none⟩) l.length cap ∧ g ≤ q ∧ w.heap[q]? = some (.cells cur 5 (0, 0)) ∧ l.length ≤ cap ∧ cap ≤ maxLen ∧ cur.size = cap * 1 ∧ cur.toList.take (l.length * 1) = Lib.byteCells l := by
  rcases hown.2 with ⟨_, hz⟩ | ⟨q, cap, cur, hv, r⟩
  ·exact absurd hz h0
  ·exact ⟨q, cap, cur, hv, r⟩
 have c1 : w.drew.cell? ⟨g, 1, none⟩ = some (.slice (some ⟨q, 0, none⟩) l.length cap) := by
  have : w.drew.heap[g]? = some (.cells #[p, .slice (some ⟨q, 0, none⟩) l.length cap] 113 (0, 0)) := hbk
  rw [Lib.cell_of_heap this]; rfl
 have hSD : (Builtin.unsafeSliceData_ #[93] 186 #[.slice (some ⟨q, 0, none⟩) l.length cap]).run Tryz.prog w.drew = .ok (.pointer (some ⟨q, 0, none⟩)) w.drew :=
  Lib.run_unsafeSliceData_row _ _ _ _ _ _ (by omega)
 have hUS : (Builtin.unsafeString_ #[186, 3] 9 #[.pointer (some ⟨q, 0, none⟩), .int .i64 l.length]).run Tryz.prog w.drew = .ok (.string ⟨l.toArray⟩) (w.drew.freeze ⟨q, 0, none⟩ l.length) := by
  refine Lib.run_unsafeString_row w.drew 186 3 9 5 Tryz.underlying186 byteAlone q cur.size (by have hg' : w.drew.heap[q]? = some (.cells cur 5 (0, 0)) := hg; simp [World.shape?, hg']) l hl (by omega) (by unfold maxLen at hcm; omega) ?_
  intro j x hx
  have := hown.cells (g := q) rfl j (.int .u8 x.toNat) (by simp [Lib.byteCells, hx])
  exact this
 have mixed : Tryz.prog.follows .mixedOrders = true := by kernel_rfl
 clear hown htake hcs hne
 go_enter Tryz.func78, Tryz.ntmps78
 go_wp2
 go_region_o
 all_goals (go_wp2; go_ret; exact ⟨rfl, Lib.below_freeze (Below.drew (Below.refl g w)) (p := ⟨q, 0, none⟩) hbg _⟩)
theorem Wrs.later {w w' : World} {g : Nat} {s : List UInt8} (h : Wrs w g s) (hb : Below w.heap.size w w') : Wrs w' g s := q4w h hb
theorem Wrs.lt {w : World} {g : Nat} {s : List UInt8} (h : Wrs w g s) : g < w.heap.size := by
 rcases h with ⟨_, v, h, _⟩ | ⟨_, v, h, _⟩ <;> exact (Array.getElem?_eq_some_iff.1 h).1
theorem j8o (g : Nat) (x : List UInt8) (s : ByteArray) (w : World) (h : Wrs w g x) (hl : x.length + s.size ≤ 140737488355328) :
  Calls Tryz.prog 75 #[.pointer (some ⟨g, 0, none⟩), .string s] w fun e w' => e = .returned (.tuple #[.int .i64 s.size, .nilIface]) ∧ Wrs w' g (x ++ s.data.toList) ∧ Below g w w' ∧ KeepT g w w' := by
 refine (writeStringS g g _ s w h (by rw [Lib.byteCells_length]; exact hl) (Nat.le_of_lt h.lt)).mono ?_
 rintro e w' ⟨he, hb, hB, hK⟩
 refine ⟨he, .inr ?_, hB, hK⟩
 have e : Lib.byteCells (x ++ s.data.toList) = Lib.byteCells x ++ Lib.strCells s := by simp [Lib.byteCells, Lib.strCells]
 rw [e]
 exact hb
theorem wrsZero : (Tryz.prog.info? 113).bind (·.zero) = some (.agg #[.pointer none, .slice none 0 0]) := by kernel_rfl
theorem x2o {ops : Array Oper} {rest : List Oper} {o : Oper} {a : Act} {w : World} {Q : Exit → Act → World → Prop} (hw : Region.wanted o (yielded ops a.tmps) = true) (ho : o.op = .alloc 113)
  (hk : ∀ w2 g, w.heap.size ≤ g → Wrs w2 g [] → Below w.heap.size w w2 → wpList Tryz.prog ops Q rest (a.put o.dst (.pointer (some ⟨g, 0, none⟩))) w2) : wpList Tryz.prog ops Q (o :: rest) a w :=
 q4z hw 113 ho wrsZero (cs := [.pointer none, .slice none 0 0]) rfl (fun w2 g hg h hb => hk w2 g hg (Or.inl ⟨Nat.le_refl _, .slice none 0 0, h, World.ownsRow_nil _ _ _ _, by simp [Value.ownBlock]⟩) hb)
theorem OwnR.keep {w w' : World} {B e sz g : Nat} {v : Value} {els : List (List Value)} (h : OwnR w B e sz v els []) (hk : KeepT g w w') (hne : e ≠ 5) (hg : g < B) : OwnR w' B e sz v els [] := by
 refine ⟨?_, h.2.1, by simp⟩
 obtain ⟨h1, h2⟩ := h.1
 refine ⟨h1, ?_⟩
 rcases h2 with h3 | ⟨q, cap, cur, e1, e2, e3, r⟩
 ·exact .inl h3
 ·exact .inr ⟨q, cap, cur, e1, e2, hk q cur.toList e (by omega) hne (by simpa [Arr] using e3), r⟩
end Go.Proofs.YtbbfnpfkbbpjgaaGreat
