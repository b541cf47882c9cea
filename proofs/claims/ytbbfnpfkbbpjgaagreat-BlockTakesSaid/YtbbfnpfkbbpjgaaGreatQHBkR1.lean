/- The reference of layer 15: Size, Fulls, Body. -/
import Derived.Test.YtbbfnpfkbbpjgaaGreatQHBlk3
import Derived.Test.YtbbfnpfkbbpjgaaGreatQHDeedP
import Derived.Test.YtbbfnpfkbbpjgaaGreatQHDeedMR
import Derived.Test.YtbbfnpfkbbpjgaaGreatQHRefTree
import Derived.Test.YtbbfnpfkbbpjgaaGreatQHHd7
namespace Go.Proofs.YtbbfnpfkbbpjgaaGreat
open Go.RowKit Go.Lib
set_option linter.unusedVariables false
set_option linter.unusedSimpArgs false
set_option maxRecDepth 100000
set_option maxHeartbeats 4000000
theorem z0k {l : List Deed} {k : Nat} {d : Deed} (h : l[k]? = some d) : sizB (l.take (k + 1)) = sizB (l.take k) + (fullL d).length := by
 obtain ⟨hk, rfl⟩ := List.getElem?_eq_some_iff.1 h
 unfold sizB
 rw [List.take_succ_eq_append_getElem hk, List.map_append, List.sum_append]
 simp
theorem x8c (l : List Deed) (k : Nat) : sizB (l.take k) ≤ sizB l := by
 unfold sizB
 conv => rhs; rw [← List.take_append_drop k l, List.map_append, List.sum_append]
 omega
theorem x7u {l : List Deed} (h : l.all mayD = true) {k : Nat} {d : Deed} (hd : l[k]? = some d) : mayD d = true := List.all_eq_true.1 h d (List.mem_of_getElem? hd)
theorem x7l (v : Value) (l : List Deed) (w : World) (h : DsIs w v l) (hn : l.length ≤ 1000) (hm : l.all mayD = true) :
  Calls Tryz.prog 64 #[v] w fun e w' => e = .returned (.int .i64 ((sizB l : Nat) : Int)) ∧ Below w.heap.size w w' := by
 have hok := h.ok
 have hsm := q9m l hok hm
 have HOKS := hide hok
 have HALL := hide hm
 have HNX := hide (fun k d (h : l[k]? = some d) => z0k h)
 have HPT := hide (x8c l)
 obtain ⟨a1, c1, rfl⟩ := h.shape
 have hz40 : sizB l ≤ 14400000 := by omega
 obtain ⟨n, hn'⟩ : ∃ n, n = l.length := ⟨_, rfl⟩
 have HN := hide hn'
 rw [← hn'] at h hn ⊢
 clear hn' hok hsm hm
 have b := Below.refl w.heap.size w
 go_enter Tryz.func64, Tryz.ntmps64
 go_wp2_with fail
 go_loopw [3, 4] (fun q i wr => ∃ k : Nat, i = .int .i64 k ∧ k ≤ n ∧ q = .int .i64 (((sizB (l.take k) : Nat)) : Int) ∧ Below w.heap.size w wr) (fun _ i _ => n - (RowKit.intOf i).toNat)
 case atStart => exact ⟨0, rfl, by omega, by simp [sizB], b⟩
 clear b
 obtain ⟨k, rfl, hk, rfl, b⟩ := hrel
 by_cases hlt : k < n
 case pos =>
  obtain ⟨d, hd⟩ : ∃ d, l[k]? = some d := ⟨_, List.getElem?_eq_getElem (by rw [← HN.out]; exact hlt)⟩
  obtain ⟨bb, k0, c', he, _, hcs⟩ := (h.later b).block (by rw [← HN.out]; omega)
  rw [← HN.out] at he
  simp only [Value.slice.injEq] at he
  obtain ⟨rfl, -, rfl⟩ := he
  obtain ⟨v1, v2, v3, v4, v5, d1, hD, o1, o2, o3, o4, o5⟩ := hcs k d hd
  have hfw := q7k (HOKS.out d (List.mem_of_getElem? hd)) (x7u HALL.out hd)
  have HRB := hide (fun (w' : World) (hb : Below wr.heap.size wr w') => j0l _ d w' (hD.later hb) hfw)
  have HX := hide (HNX.out k d hd)
  have hp := HPT.out (k + 1)
  have hp0 := HX.out
  rw [hp0] at hp
  have k2 := Below.refl wr.heap.size wr
  obtain ⟨sF, hsF⟩ : ∃ u : ByteArray, u = ⟨(fullL d).toArray⟩ := ⟨_, rfl⟩
  have hFZ : sF.size = (fullL d).length := by rw [hsF]; show (fullL d).toArray.size = _; rw [List.size_toArray]
  rw [← hsF] at HRB
  rw [← hFZ] at HX hp
  generalize sizB (l.take k) = S at *
  clear hcs hd hD hfw hp0 hsF hFZ
  have z1 : S + sF.size ≤ 14400000 := by omega
  generalize d.fee = f at *
  generalize d.frm = s at *
  generalize d.til = t at *
  go_wp2_with (first | (with_reducible refine w11g ?_; refine q3w rfl _ rfl rfl d1 ?_) | (go_at_call 15; refine (HRB.out _ k2).mono ?_; rintro _ _ ⟨rfl, hc⟩; (try replace b := later b hc); clear hc))
  go_roundw
  case rel => exact ⟨k + 1, by simp, by omega, by rw [HX.out]; simp, b⟩
  case measure => simp [RowKit.intOf]; omega
 obtain rfl : n = k := by omega
 have HT : Hid (l.take n = l) := List.take_of_length_le (by rw [← HN.out]; exact Nat.le_refl _)
 rw [HT.out]
 clear hlt hk
 go_wp2_with fail
 go_ret
 exact ⟨rfl, b⟩
theorem x2u (v : Value) (l : List Deed) (w : World) (h : DsIs w v l) (hn : l.length ≤ 1000) (hm : l.all mayD = true) :
  Calls Tryz.prog 43 #[v] w fun e w' => (∃ fv, e = .returned fv ∧ Hs w' fv (fulsB l)) ∧ Below w.heap.size w w' := by
 have hok := h.ok
 have HOKS := hide hok
 have HALL := hide hm
 obtain ⟨a1, c1, rfl⟩ := h.shape
 obtain ⟨n, hn'⟩ : ∃ n, n = l.length := ⟨_, rfl⟩
 have HN := hide hn'
 rw [← hn'] at h hn ⊢
 clear hn' hok hm
 have b := Below.refl w.heap.size w
 have qB := Nat.le_refl w.heap.size
 have U1 := OwnR.nil w w.heap.size 34 32
 go_enter Tryz.func43, Tryz.ntmps43
 go_wp2_with fail
 go_loopw [3, 4] (fun fv i wr => ∃ k : Nat, i = .int .i64 k ∧ k ≤ n ∧ OwnR wr w.heap.size 34 32 fv ((l.take k).map fuC) [] ∧ Below w.heap.size w wr ∧ w.heap.size ≤ wr.heap.size) (fun _ i _ => n - (RowKit.intOf i).toNat)
 case atStart => exact ⟨0, rfl, by omega, by simpa using U1, b, qB⟩
 clear b U1 qB
 obtain ⟨k, rfl, hk, U1, b, qB⟩ := hrel
 by_cases hlt : k < n
 case pos =>
  obtain ⟨d, hd⟩ : ∃ d, l[k]? = some d := ⟨_, List.getElem?_eq_getElem (by rw [← HN.out]; exact hlt)⟩
  obtain ⟨bb, k0, c', he, _, hcs⟩ := (h.later b).block (by rw [← HN.out]; omega)
  rw [← HN.out] at he
  simp only [Value.slice.injEq] at he
  obtain ⟨rfl, -, rfl⟩ := he
  obtain ⟨v1, v2, v3, v4, v5, d1, hD, o1, o2, o3, o4, o5⟩ := hcs k d hd
  have hfw := q7k (HOKS.out d (List.mem_of_getElem? hd)) (x7u HALL.out hd)
  have HRF : Hid (∀ (w' : World) (hb : Below wr.heap.size wr w'), Calls Tryz.prog 17 #[deedV v1 v2 v3 v4 v5 d.fee d.frm d.til] w' fun e w'' => e = .returned (hv (fulB d)) ∧ Below w'.heap.size w' w'') := fun w' hb => j9e _ d w' (hD.later hb) hfw
  have HUL : Hid (((l.take k).map fuC).length = k) := by rw [List.length_map, List.length_take]; exact Nat.min_eq_left (by rw [← HN.out]; omega)
  have HUX := hide (map_take fuC hd)
  have e2 : fuC d = bvs (fulB d) := rfl
  rw [e2] at HUX
  have HL : Hid ((fulB d).length = 32) := q9k d
  obtain ⟨aU, cU, rfl⟩ := U1.shape
  rw [HUL.out] at U1 ⊢
  have k2 := Below.refl wr.heap.size wr
  clear hcs hd hD hfw e2
  generalize fulB d = R at *
  generalize d.fee = f at *
  generalize d.frm = s at *
  generalize d.til = t at *
  go_wp2_with (first | (with_reducible refine w11g ?_; refine q3w rfl _ rfl rfl d1 ?_) | (go_at_call 17; refine (HRF.out _ k2).mono ?_; rintro _ _ ⟨rfl, hb⟩; replace U1 := U1.later hb; replace b := later b hb; replace qB := Nat.le_trans qB hb.size; clear hb) | ((with_reducible refine w7g ?_); refine q2q rfl hashElem (by decide) _ rfl (v := hv R) (el := bvs R) rfl (by simp [hv, Value.cells]) (by rw [q0c]; exact HL.out) (fun u hu => List.all_eq_true.1 (q1f R) u hu) ?_; intro _ g9 _ O9 hb; replace U1 := U1.later hb; replace b := later b hb; replace qB := Nat.le_trans qB hb.size; clear hb) | ((with_reducible refine w15g ?_); refine q0s rfl _ _ hashElem rfl rfl U1 rfl O9.sl (Els.one (by rw [q0c]; exact HL.out) (fun u hu => List.all_eq_true.1 (q1f R) u hu)) (k + 1) (by rw [HUL.out]; rfl) (by omega) (by omega) qB ?_; intro a8 c8 w8 U2 ht hbk; replace b := b.trans (ht.below (B := w.heap.size) b.size (fun y hy => U1.ge y hy)); replace qB := Nat.le_trans qB ht.size; clear hbk ht U1 O9))
  go_roundw
  case rel => exact ⟨k + 1, by simp, by omega, by rw [HUX.out]; exact U2, b, qB⟩
  case measure => simp [RowKit.intOf]; omega
 obtain rfl : n = k := by omega
 have HT : Hid (l.take n = l) := List.take_of_length_le (by rw [← HN.out]; exact Nat.le_refl _)
 rw [HT.out] at U1
 clear hlt hk
 go_wp2_with fail
 go_ret
 exact ⟨⟨_, rfl, z1a U1.sl⟩, b⟩
theorem j6p (v : Value) (x : Blk) (w : World) (h : BlkIs w v x) (hn : x.deeds.length ≤ 1000) (hf : ∀ d ∈ x.deeds, d.Fit) :
  Calls Tryz.prog 36 #[v] w fun e w' => e = .returned (.int .i64 (if mayB x = true then 0 else 2)) ∧ Below w.heap.size w w' := by
 have hz := j7h x.deeds
 have hl := j2r x.deeds
 obtain ⟨u, rfl, hD, hok⟩ := h
 have HBD := hide (fun (w' : World) (hb : Below w.heap.size w w') => j7v u x.deeds w' (hD.later hb) hn hf)
 have o1 : u.oneCell' = true := by obtain ⟨a, c, rfl⟩ := hD.shape; rfl
 have HM := hide (fun w => j8k x.head hok w)
 have HOK := hide hok
 have HL := hide hl
 have b := Below.refl w.heap.size w
 unfold mayB
 generalize (bodB x.deeds).1.1 = R at *
 generalize (bodB x.deeds).1.2 = s at *
 generalize (bodB x.deeds).2.1 = m at *
 generalize (bodB x.deeds).2.2 = c at *
 clear hD hok hl hn hf
 generalize fewB x.deeds = B at *
 generalize x.head = d at *
 clear x
 by_cases hm : mayH d = true
 ·rw [if_pos hm] at HM
  rw [hm, Bool.true_and]
  cases B
  case true =>
   obtain rfl : c = 0 := hz.2 rfl
   clear hm hz
   have mF1 := True.intro
   have mF2 := True.intro
   go_enter Tryz.func36, Tryz.ntmps36
   go_wp2_with (first | (with_reducible refine w2g ?_; clear mF1; refine q1h rfl _ rfl rfl HOK.out o1 ?_; intro _ g1 hg1 F1 hb; (try replace b := later b hb); clear hb) | (with_reducible refine w9g ?_; refine q1y rfl _ rfl rfl F1 ?_) | (with_reducible refine w0g ?_; refine q0a rfl 42 _ rfl rfl (KAt.ds F1) (by kernel_rfl) ?_) | (go_at_call 85; refine (HM.out _).mono ?_; rintro _ _ ⟨rfl, hc⟩; (try replace F1 := F1.later hc); (try replace b := later b hc); clear hc) | (go_at_call 25; refine (HBD.out _ b).mono ?_; rintro _ _ ⟨rfl, hc⟩; (try replace F1 := F1.later hc); (try replace b := later b hc); clear hc) | (with_reducible refine w3g ?_; clear mF2; refine q0r rfl rfl ?_; intro _ g2 hg2 F2 hb; (try have := F1.lt); (try have := F2.lt); (try have := b.size); (try replace F1 := F1.later hb); (try replace b := later b hb); clear hb) | (with_reducible refine w4g ?_; refine q0k rfl _ _ rfl rfl rfl HL.out F2 ?_; intro _ t1 ht; (try replace F1 := F1.tt ht); (try replace b := q0b b ht (by omega) (by omega)); replace F2 := t1; clear ht))
   go_ret
   exact ⟨rfl, b⟩
  case false =>
   have hc : c ≠ 0 := fun h => by have := hz.1 h; cases this
   have hcb : (c != 0) = true := bne_iff_ne.2 hc
   clear hm hz hc
   have mF1 := True.intro
   have mF2 := True.intro
   go_enter Tryz.func36, Tryz.ntmps36
   go_wp2_with (first | (with_reducible refine w2g ?_; clear mF1; refine q1h rfl _ rfl rfl HOK.out o1 ?_; intro _ g1 hg1 F1 hb; (try replace b := later b hb); clear hb) | (with_reducible refine w9g ?_; refine q1y rfl _ rfl rfl F1 ?_) | (with_reducible refine w0g ?_; refine q0a rfl 42 _ rfl rfl (KAt.ds F1) (by kernel_rfl) ?_) | (go_at_call 85; refine (HM.out _).mono ?_; rintro _ _ ⟨rfl, hc⟩; (try replace F1 := F1.later hc); (try replace b := later b hc); clear hc) | (go_at_call 25; refine (HBD.out _ b).mono ?_; rintro _ _ ⟨rfl, hc⟩; (try replace F1 := F1.later hc); (try replace b := later b hc); clear hc) | (with_reducible refine w3g ?_; clear mF2; refine q0r rfl rfl ?_; intro _ g2 hg2 F2 hb; (try have := F1.lt); (try have := F2.lt); (try have := b.size); (try replace F1 := F1.later hb); (try replace b := later b hb); clear hb) | (with_reducible refine w4g ?_; refine q0k rfl _ _ rfl rfl rfl HL.out F2 ?_; intro _ t1 ht; (try replace F1 := F1.tt ht); (try replace b := q0b b ht (by omega) (by omega)); replace F2 := t1; clear ht))
   go_ret
   exact ⟨rfl, b⟩
 ·rw [if_neg hm] at HM
  have hm' : mayH d = false := by simpa using hm
  rw [hm', Bool.false_and]
  clear hm hm' hz
  have mF1 := True.intro
  have mF2 := True.intro
  go_enter Tryz.func36, Tryz.ntmps36
  go_wp2_with (first | (with_reducible refine w2g ?_; clear mF1; refine q1h rfl _ rfl rfl HOK.out o1 ?_; intro _ g1 hg1 F1 hb; (try replace b := later b hb); clear hb) | (with_reducible refine w9g ?_; refine q1y rfl _ rfl rfl F1 ?_) | (go_at_call 85; refine (HM.out _).mono ?_; rintro _ _ ⟨rfl, hc⟩; (try replace F1 := F1.later hc); (try replace b := later b hc); clear hc))
  go_ret
  exact ⟨rfl, b⟩
theorem x8i {x : Blk} (h : mayB x = true) : mayH x.head = true := by
 unfold mayB at h
 rw [Bool.and_eq_true] at h
 exact h.1
theorem x1x {x : Blk} (h : mayB x = true) : fewB x.deeds = true := by
 unfold mayB at h
 rw [Bool.and_eq_true] at h
 exact h.2
theorem x7t (v : Value) (x : Blk) (w : World) (h : BlkIs w v x) (hn : x.deeds.length ≤ 1000) (hf : ∀ d ∈ x.deeds, d.Fit) :
  Calls Tryz.prog 37 #[v] w fun e w' => e = .returned (.bool (fitB x)) ∧ Below w.heap.size w w' := by
 have HM := hide (fun (w' : World) (hb : Below w.heap.size w w') => j6p v x w' (h.later hb) hn hf)
 obtain ⟨u, rfl, hD, hok⟩ := h
 have HBD := hide (fun (w' : World) (hb : Below w.heap.size w w') => j7v u x.deeds w' (hD.later hb) hn hf)
 have o1 : u.oneCell' = true := by obtain ⟨a, c, rfl⟩ := hD.shape; rfl
 have HOK := hide hok
 have HLB := hide hok.body
 have b := Below.refl w.heap.size w
 unfold fitB
 clear hD hok hn hf
 by_cases hm : mayB x = true
 ·have e := x8f (x1x hm)
  rw [e] at HBD
  have HL : Hid ((treeL (fulsB x.deeds)).length = 32) := q5a _ _
  rw [if_pos hm] at HM
  rw [hm, Bool.true_and]
  clear hm e
  generalize treeL (fulsB x.deeds) = R at *
  generalize sizB x.deeds = s at *
  generalize x.deeds.length = m at *
  generalize x.head = d at *
  obtain ⟨B1, hB1⟩ : ∃ B1, decide (d.body = R) = B1 := ⟨_, rfl⟩
  have E1 := hide hB1
  rw [hB1]
  clear hB1
  have q2 : ((d.size : Int) == (s : Int)) = decide (d.size = s) := q3n _ _
  have q3 : ((d.many : Int) == (m : Int)) = decide (d.many = m) := q3n _ _
  generalize decide (d.size = s) = B2 at *
  generalize decide (d.many = m) = B3 at *
  cases B1 <;> cases B2 <;> cases B3 <;> (
   have mF1 := True.intro
   have mF2 := True.intro
   go_enter Tryz.func37, Tryz.ntmps37
   go_wp2_with (first | (with_reducible refine w2g ?_; clear mF1; refine q1h rfl _ rfl rfl HOK.out o1 ?_; intro _ g1 hg1 F1 hb; (try replace b := later b hb); clear hb) | (with_reducible refine w3g ?_; clear mF2; refine q0r rfl rfl ?_; intro _ g2 hg2 F2 hb; (try have := F1.lt); (try have := F2.lt); (try have := b.size); (try replace F1 := F1.later hb); (try replace b := later b hb); clear hb) | (with_reducible refine w16g ?_; refine q0v rfl _ rfl rfl F1 ?_) | (with_reducible refine w0g ?_; refine q0a rfl 42 _ rfl rfl (KAt.ds F1) (by kernel_rfl) ?_) | (with_reducible show wpList _ _ _ (⟨_, Op.load 34 _, _, _, _, _⟩ :: _) _ _; first | refine q0h rfl _ rfl rfl (KAt.body F1) HLB.out ?_ | refine q1a rfl _ rfl rfl F2 ?_) | (with_reducible refine w6g ?_; first | refine q0a rfl 24 _ rfl rfl (KAt.size F1) (by kernel_rfl) ?_ | refine q0a rfl 24 _ rfl rfl (KAt.many F1) (by kernel_rfl) ?_) | (go_at_call 36; refine (HM.out _ b).mono ?_; rintro _ _ ⟨rfl, hc⟩; (try replace F1 := F1.later hc); (try replace b := later b hc); clear hc) | (go_at_call 25; refine (HBD.out _ b).mono ?_; rintro _ _ ⟨rfl, hc⟩; (try replace F1 := F1.later hc); (try replace b := later b hc); clear hc) | (with_reducible refine w4g ?_; refine q0k rfl _ _ rfl rfl rfl HL.out F2 ?_; intro _ t1 ht; (try replace F1 := F1.tt ht); (try replace b := q0b b ht (by omega) (by omega)); replace F2 := t1; clear ht) | (with_reducible show wpList _ _ _ (⟨_, Op.binOp BinOp.eql 34 _ _ _, _, _, _, _⟩ :: _) _ _; refine x0b rfl _ _ rfl rfl rfl HLB.out HL.out ?_; rw [E1.out]))
   go_ret
   exact ⟨by simp, b⟩)
 ·have hm' : mayB x = false := by simpa using hm
  rw [if_neg hm] at HM
  rw [hm', Bool.false_and]
  clear hm hm' HBD
  generalize x.head = d at *
  have mF1 := True.intro
  have mF2 := True.intro
  go_enter Tryz.func37, Tryz.ntmps37
  go_wp2_with (first | (with_reducible refine w2g ?_; clear mF1; refine q1h rfl _ rfl rfl HOK.out o1 ?_; intro _ g1 hg1 F1 hb; (try replace b := later b hb); clear hb) | (with_reducible refine w16g ?_; refine q0v rfl _ rfl rfl F1 ?_) | (go_at_call 36; refine (HM.out _ b).mono ?_; rintro _ _ ⟨rfl, hc⟩; (try replace F1 := F1.later hc); (try replace b := later b hc); clear hc))
  go_ret
  exact ⟨rfl, b⟩
theorem j7n (d : Hd) (hd : d.Ok) (w : World) :
  Calls Tryz.prog 79 #[hdV d] w fun e w' => e = .returned (.bool (mayH d)) ∧ Below w.heap.size w w' := by
 obtain ⟨R, hR⟩ : ∃ R, R = mayH d := ⟨_, rfl⟩
 rw [← hR]
 have HR := hide hR
 have b := Below.refl w.heap.size w
 have HD := hide hd
 unfold mayH at HR
 clear hR hd
 have mF1 := True.intro
 by_cases h1 : d.right.sig.size = 1024
 ·have c1 : ((d.right.sig.size : Int) == 1024) = true := by simp [h1]
  by_cases h2 : d.sig.size = 1120
  ·have c2 : ((d.sig.size : Int) == 1120) = true := by simp [h2]
   have h3 : R = true := by rw [HR.out, h1, h2]; rfl
   subst h3
   clear HR h1 h2
   go_enter Tryz.func79, Tryz.ntmps79
   go_wp2_with (first | (with_reducible refine w0g ?_; first | ((with_reducible refine w1g ?_); first | (refine q0a rfl 9 _ rfl rfl (HdAt.c134 (by assumption)) (by kernel_rfl) ?_) | (refine q0a rfl 9 _ rfl rfl (HdAt.c135 (by assumption)) (by kernel_rfl) ?_))) | (with_reducible refine w2g ?_; clear mF1; refine q4x rfl _ rfl rfl HD.out ?_; intro _ g1 hg1 F1 hb; (try have := F1.lt); (try have := b.size); (try replace b := later b hb); clear hb))
   go_ret
   exact ⟨rfl, b⟩
  ·have c2 : ((d.sig.size : Int) == 1120) = false := by simp; omega
   have h3 : R = false := by rw [HR.out, decide_eq_false h2, Bool.and_false]
   subst h3
   clear HR h1 h2
   go_enter Tryz.func79, Tryz.ntmps79
   go_wp2_with (first | (with_reducible refine w0g ?_; first | ((with_reducible refine w1g ?_); first | (refine q0a rfl 9 _ rfl rfl (HdAt.c134 (by assumption)) (by kernel_rfl) ?_) | (refine q0a rfl 9 _ rfl rfl (HdAt.c135 (by assumption)) (by kernel_rfl) ?_))) | (with_reducible refine w2g ?_; clear mF1; refine q4x rfl _ rfl rfl HD.out ?_; intro _ g1 hg1 F1 hb; (try have := F1.lt); (try have := b.size); (try replace b := later b hb); clear hb))
   go_ret
   exact ⟨rfl, b⟩
 ·have c1 : ((d.right.sig.size : Int) == 1024) = false := by simp; omega
  have h3 : R = false := by rw [HR.out, decide_eq_false h1, Bool.false_and]
  subst h3
  clear HR h1
  go_enter Tryz.func79, Tryz.ntmps79
  go_wp2_with (first | (with_reducible refine w0g ?_; first | ((with_reducible refine w1g ?_); first | (refine q0a rfl 9 _ rfl rfl (HdAt.c134 (by assumption)) (by kernel_rfl) ?_))) | (with_reducible refine w2g ?_; clear mF1; refine q4x rfl _ rfl rfl HD.out ?_; intro _ g1 hg1 F1 hb; (try have := F1.lt); (try have := b.size); (try replace b := later b hb); clear hb))
  go_ret
  exact ⟨rfl, b⟩
theorem x5x (v : Value) (l : List Deed) (w : World) (h : DsIs w v l) (hn : l.length ≤ 1000) :
  Calls Tryz.prog 26 #[v] w fun e w' => e = .returned (.tuple #[hv (bodB l).1.1, .int .u64 (bodB l).1.2, .int .u64 (bodB l).2.1, .int .i64 (bodB l).2.2]) ∧ Below w.heap.size w w' := by
 have HSZ := hide (fun (hm : l.all mayD = true) (w' : World) (hb : Below w.heap.size w w') => x7l v l w' (h.later hb) hn hm)
 have HFU := hide (fun (hm : l.all mayD = true) (w' : World) (hb : Below w.heap.size w w') => x2u v l w' (h.later hb) hn hm)
 have HRO := hide (fun (fv : Value) (w' : World) (S : Hs w' fv (fulsB l)) => x0g fv (fulsB l) w' S (by unfold fulsB; rw [List.length_map]; omega))
 have hok := h.ok
 have HSM := hide (fun hm => q9m l hok hm)
 have HMT := hide (fun k d (h : (l.take k).all mayD = true) (hd : l[k]? = some d) (hm : mayD d = true) => x1i h hd hm)
 obtain ⟨a1, c1, rfl⟩ := h.shape
 have HL : Hid ((treeL (fulsB l)).length = 32) := q5a _ _
 have HZ : Hid (zero32.length = 32) := rfl
 have HBD := hide (fun (hm : l.all mayD = true) => show bodB l = if l.length ≤ 16 ∧ sizB l ≤ 32768 then ((treeL (fulsB l), sizB l), (l.length, 0)) else ((zero32, 0), (0, 3)) by unfold bodB; rw [if_pos hm])
 have HBN := hide (fun (hm : l.all mayD = false) => show bodB l = ((zero32, 0), (0, 2)) by unfold bodB; rw [if_neg (by simp [hm])])
 generalize treeL (fulsB l) = R at *
 obtain ⟨n, hn'⟩ : ∃ n, n = l.length := ⟨_, rfl⟩
 have HN := hide hn'
 rw [← hn'] at h hn HSZ HFU HBD HSM ⊢
 clear hn' hok
 generalize bodB l = T at *
 generalize sizB l = z at *
 have b := Below.refl w.heap.size w
 have mF1 := True.intro
 go_enter Tryz.func26, Tryz.ntmps26
 go_wp2_with (with_reducible refine w3g ?_; clear mF1; refine q0r rfl rfl ?_; intro _ g1 hg1 F1 hb; (try have := F1.lt); (try have := F4.lt); (try have := z.lt); (try have := b.size); (try replace b := later b hb); clear hb)
 go_loopw [6] (fun i wr => ∃ k : Nat, i = .int .i64 k ∧ k ≤ n ∧ Hid ((l.take k).all mayD = true) ∧ HashAt wr g1 zero32 ∧ Below w.heap.size w wr) (fun i _ => n - (RowKit.intOf i).toNat)
 case atStart => exact ⟨0, rfl, by omega, hide (by simp), F1, b⟩
 clear b F1
 obtain ⟨k, rfl, hk, HM, F1, b⟩ := hrel
 by_cases hlt : k < n
 case pos =>
  obtain ⟨d, hd⟩ : ∃ d, l[k]? = some d := ⟨_, List.getElem?_eq_getElem (by rw [← HN.out]; exact hlt)⟩
  obtain ⟨bb, k0, c', he, _, hcs⟩ := (h.later b).block (by rw [← HN.out]; omega)
  rw [← HN.out] at he
  simp only [Value.slice.injEq] at he
  obtain ⟨rfl, -, rfl⟩ := he
  obtain ⟨v1, v2, v3, v4, v5, d1, hD, o1, o2, o3, o4, o5⟩ := hcs k d hd
  have HRM := hide (fun (w' : World) (hb : Below wr.heap.size wr w') => j5b _ d w' (hD.later hb))
  have k2 := Below.refl wr.heap.size wr
  have HNO := hide (fun hm => HBN.out (x4v hd hm))
  have HYE := hide (fun hm => HMT.out k d HM.out hd hm)
  clear hcs hd hD HMT HBD HBN HSM HSZ HFU HRO h
  generalize hmd : mayD d = MD at *
  generalize d.fee = f at *
  generalize d.frm = s at *
  generalize d.til = t at *
  clear hmd
  cases MD
  case false =>
   have hT := HNO.out rfl
   subst hT
   clear HNO HYE
   go_wp2_with (first | (with_reducible refine w11g ?_; refine q3w rfl _ rfl rfl d1 ?_) | (go_at_call 13; refine (HRM.out _ k2).mono ?_; rintro _ _ ⟨rfl, hc⟩; (try replace F1 := F1.later hc); (try replace b := later b hc); clear hc) | (with_reducible refine w5g ?_; refine q2n rfl rfl ?_) | (with_reducible refine w4g ?_; refine q0k rfl _ _ rfl rfl rfl HZ.out F1 ?_; intro _ t1 ht; (try replace b := q0b b ht (by omega) (by omega)); replace F1 := t1; clear ht))
   exact bodyPost_ret (q3d rfl _ _ _ _ _ rfl rfl rfl rfl F1) rfl ⟨rfl, b⟩
  case true =>
   have HYE2 := hide (HYE.out rfl)
   clear HNO HYE
   go_wp2_with (first | (with_reducible refine w11g ?_; refine q3w rfl _ rfl rfl d1 ?_) | (go_at_call 13; refine (HRM.out _ k2).mono ?_; rintro _ _ ⟨rfl, hc⟩; (try replace F1 := F1.later hc); (try replace b := later b hc); clear hc))
   go_roundw
   case rel => exact ⟨k + 1, by simp, by omega, HYE2.out, F1, b⟩
   case measure => simp [RowKit.intOf]; omega
 obtain rfl : n = k := by omega
 have hm := HM.out
 rw [List.take_of_length_le (by rw [← HN.out]; exact Nat.le_refl _)] at hm
 have hsm := HSM.out hm
 have hbod := HBD.out hm
 have HSZ2 := hide (HSZ.out hm)
 have HFU2 := hide (HFU.out hm)
 have kz : IntKind.u64.wrap (z : Int) = (z : Int) := by rw [IntKind.wrap_u64]; omega
 have kn : IntKind.u64.wrap (n : Int) = (n : Int) := by rw [IntKind.wrap_u64]; omega
 clear hm HM HSM HBD HBN HSZ HFU HMT hlt hk h hsm
 by_cases h1 : n ≤ 16
 ·have c1 : decide ((16 : Int) < (n : Int)) = false := decide_eq_false (by omega)
  by_cases h2 : z ≤ 32768
  ·have c2 : decide ((32768 : Int) < (z : Int)) = false := decide_eq_false (by omega)
   rw [if_pos ⟨h1, h2⟩] at hbod
   subst hbod
   go_wp2_with (first | (with_reducible refine w4g ?_; refine q0k rfl _ _ rfl rfl rfl HL.out F1 ?_; intro _ t1 ht; (try replace b := q0b b ht (by omega) (by omega)); replace F1 := t1; clear ht) | (go_at_call 64; refine (HSZ2.out _ b).mono ?_; rintro _ _ ⟨rfl, hc⟩; (try replace F1 := F1.later hc); (try replace F4 := F4.later hc); (try replace b := later b hc); clear hc) | (go_at_call 43; refine (HFU2.out _ b).mono ?_; rintro _ _ ⟨⟨fv, rfl, F4⟩, hc⟩; (try replace F1 := F1.later hc); (try replace b := later b hc); clear hc) | (go_at_call 65; refine (HRO.out _ _ F4).mono ?_; rintro _ _ ⟨rfl, hc⟩; (try replace F1 := F1.later hc); (try replace F4 := F4.later hc); (try replace b := later b hc); clear hc))
   exact bodyPost_ret (q3d rfl _ _ _ _ _ rfl rfl rfl rfl F1) rfl ⟨rfl, b⟩
  ·have c2 : decide ((32768 : Int) < (z : Int)) = true := decide_eq_true (by omega)
   rw [if_neg (fun h => h2 h.2)] at hbod
   subst hbod
   go_wp2_with (first | (with_reducible refine w5g ?_; refine q2n rfl rfl ?_) | (with_reducible refine w4g ?_; refine q0k rfl _ _ rfl rfl rfl HZ.out F1 ?_; intro _ t1 ht; (try replace b := q0b b ht (by omega) (by omega)); replace F1 := t1; clear ht) | (go_at_call 64; refine (HSZ2.out _ b).mono ?_; rintro _ _ ⟨rfl, hc⟩; (try replace F1 := F1.later hc); (try replace b := later b hc); clear hc))
   exact bodyPost_ret (q3d rfl _ _ _ _ _ rfl rfl rfl rfl F1) rfl ⟨rfl, b⟩
 ·have c1 : decide ((16 : Int) < (n : Int)) = true := decide_eq_true (by omega)
  rw [if_neg (fun h => h1 h.1)] at hbod
  subst hbod
  go_wp2_with (first | (with_reducible refine w5g ?_; refine q2n rfl rfl ?_) | (with_reducible refine w4g ?_; refine q0k rfl _ _ rfl rfl rfl HZ.out F1 ?_; intro _ t1 ht; (try replace b := q0b b ht (by omega) (by omega)); replace F1 := t1; clear ht))
  exact bodyPost_ret (q3d rfl _ _ _ _ _ rfl rfl rfl rfl F1) rfl ⟨rfl, b⟩
theorem x9f (v : Value) (x : Blk) (w : World) (h : BlkIs w v x) (hn : x.deeds.length ≤ 1000) :
  Calls Tryz.prog 32 #[v] w fun e w' => e = .returned (.bool (mayB x)) ∧ Below w.heap.size w w' := by
 have hz := j7h x.deeds
 have hl := j2r x.deeds
 obtain ⟨u, rfl, hD, hok⟩ := h
 have HBD := hide (fun (w' : World) (hb : Below w.heap.size w w') => x5x u x.deeds w' (hD.later hb) hn)
 have o1 : u.oneCell' = true := by obtain ⟨a, c, rfl⟩ := hD.shape; rfl
 have HM := hide (fun w => j7n x.head hok w)
 have HOK := hide hok
 have HL := hide hl
 have b := Below.refl w.heap.size w
 unfold mayB
 generalize (bodB x.deeds).1.1 = R at *
 generalize (bodB x.deeds).1.2 = s at *
 generalize (bodB x.deeds).2.1 = m at *
 generalize (bodB x.deeds).2.2 = c at *
 clear hD hok hl hn
 generalize fewB x.deeds = B at *
 generalize mayH x.head = MH at *
 generalize x.head = d at *
 clear x
 cases B
 case true =>
  obtain rfl : c = 0 := hz.2 rfl
  clear hz
  cases MH <;> (
   have mF1 := True.intro
   have mF2 := True.intro
   go_enter Tryz.func32, Tryz.ntmps32
   go_wp2_with (first | (with_reducible refine w2g ?_; clear mF1; refine q1h rfl _ rfl rfl HOK.out o1 ?_; intro _ g1 hg1 F1 hb; (try replace b := later b hb); clear hb) | (with_reducible refine w9g ?_; refine q1y rfl _ rfl rfl F1 ?_) | (with_reducible refine w0g ?_; refine q0a rfl 42 _ rfl rfl (KAt.ds F1) (by kernel_rfl) ?_) | (go_at_call 79; refine (HM.out _).mono ?_; rintro _ _ ⟨rfl, hc⟩; (try replace F1 := F1.later hc); (try replace F2 := F2.later hc); (try replace b := later b hc); clear hc) | (go_at_call 26; refine (HBD.out _ b).mono ?_; rintro _ _ ⟨rfl, hc⟩; (try replace F1 := F1.later hc); (try replace b := later b hc); clear hc) | (with_reducible refine w3g ?_; clear mF2; refine q0r rfl rfl ?_; intro _ g2 hg2 F2 hb; (try have := F1.lt); (try have := F2.lt); (try have := b.size); (try replace F1 := F1.later hb); (try replace b := later b hb); clear hb) | (with_reducible refine w4g ?_; refine q0k rfl _ _ rfl rfl rfl HL.out F2 ?_; intro _ t1 ht; (try replace F1 := F1.tt ht); (try replace b := q0b b ht (by omega) (by omega)); replace F2 := t1; clear ht))
   go_ret
   exact ⟨by simp, b⟩)
 case false =>
  have hc : c ≠ 0 := fun h => by have := hz.1 h; cases this
  have hcb : (c == 0) = false := beq_eq_false_iff_ne.2 hc
  clear hz hc
  cases MH <;> (
   have mF1 := True.intro
   have mF2 := True.intro
   go_enter Tryz.func32, Tryz.ntmps32
   go_wp2_with (first | (with_reducible refine w2g ?_; clear mF1; refine q1h rfl _ rfl rfl HOK.out o1 ?_; intro _ g1 hg1 F1 hb; (try replace b := later b hb); clear hb) | (with_reducible refine w9g ?_; refine q1y rfl _ rfl rfl F1 ?_) | (with_reducible refine w0g ?_; refine q0a rfl 42 _ rfl rfl (KAt.ds F1) (by kernel_rfl) ?_) | (go_at_call 79; refine (HM.out _).mono ?_; rintro _ _ ⟨rfl, hc⟩; (try replace F1 := F1.later hc); (try replace F2 := F2.later hc); (try replace b := later b hc); clear hc) | (go_at_call 26; refine (HBD.out _ b).mono ?_; rintro _ _ ⟨rfl, hc⟩; (try replace F1 := F1.later hc); (try replace b := later b hc); clear hc) | (with_reducible refine w3g ?_; clear mF2; refine q0r rfl rfl ?_; intro _ g2 hg2 F2 hb; (try have := F1.lt); (try have := F2.lt); (try have := b.size); (try replace F1 := F1.later hb); (try replace b := later b hb); clear hb) | (with_reducible refine w4g ?_; refine q0k rfl _ _ rfl rfl rfl HL.out F2 ?_; intro _ t1 ht; (try replace F1 := F1.tt ht); (try replace b := q0b b ht (by omega) (by omega)); replace F2 := t1; clear ht))
   go_ret
   exact ⟨by simp, b⟩)
end Go.Proofs.YtbbfnpfkbbpjgaaGreat
