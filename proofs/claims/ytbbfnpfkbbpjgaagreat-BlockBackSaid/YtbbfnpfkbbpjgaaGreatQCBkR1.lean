/- The reference of layer 15: Size, Fulls, Body. -/
import Derived.Test.YtbbfnpfkbbpjgaaGreatQCBlk3
import Derived.Test.YtbbfnpfkbbpjgaaGreatQCDeedP
import Derived.Test.YtbbfnpfkbbpjgaaGreatQCDeedMR
import Derived.Test.YtbbfnpfkbbpjgaaGreatQCRefTree
import Derived.Test.YtbbfnpfkbbpjgaaGreatQCHd7
namespace Go.Proofs.YtbbfnpfkbbpjgaaGreat
open Go.RowKit Go.Lib
set_option linter.unusedVariables false
set_option linter.unusedSimpArgs false
set_option maxRecDepth 100000
set_option maxHeartbeats 4000000
theorem z0e {l : List Deed} {k : Nat} {d : Deed} (h : l[k]? = some d) : sizB (l.take (k + 1)) = sizB (l.take k) + (fullL d).length := by
 obtain ⟨hk, rfl⟩ := List.getElem?_eq_some_iff.1 h
 unfold sizB
 rw [List.take_succ_eq_append_getElem hk, List.map_append, List.sum_append]
 simp
theorem x8t (l : List Deed) (k : Nat) : sizB (l.take k) ≤ sizB l := by
 unfold sizB
 conv => rhs; rw [← List.take_append_drop k l, List.map_append, List.sum_append]
 omega
theorem j9y {l : List Deed} (h : l.all mayD = true) {k : Nat} {d : Deed} (hd : l[k]? = some d) : mayD d = true := List.all_eq_true.1 h d (List.mem_of_getElem? hd)
theorem x5i (v : Value) (l : List Deed) (w : World) (h : DsIs w v l) (hn : l.length ≤ 1000) (hm : l.all mayD = true) :
  Calls Tryz.prog 64 #[v] w fun e w' => e = .returned (.int .i64 ((sizB l : Nat) : Int)) ∧ Below w.heap.size w w' := by
 have hok := h.ok
 have hsm := q9y l hok hm
 have HOKS := hide hok
 have HALL := hide hm
 have HNX := hide (fun k d (h : l[k]? = some d) => z0e h)
 have HPT := hide (x8t l)
 obtain ⟨a1, c1, rfl⟩ := h.shape
 have hz40 : sizB l ≤ 14400000 := by omega
 obtain ⟨n, hn'⟩ : ∃ n, n = l.length := ⟨_, rfl⟩
 have HN := hide hn'
 rw [← hn'] at h hn ⊢
 clear hn' hok hsm hm
 have b := Below.refl w.heap.size w
 go_enter Tryz.func64, Tryz.ntmps64
 go_wp2_with fail
 go_loopw [3, 4] (fun q i wr => ∃ k : Nat, i = .int .i64 k ∧ k ≤ n ∧ q = .int .i64 (((sizB (l.take k) : Nat)) : Int) ∧ Below w.heap.size w wr) (fun _ i _ => n - (RowKit.intOf i).toNat)
 case atStart => exact ⟨0, rfl, by omega, by simp [sizB], b⟩
 clear b
 obtain ⟨k, rfl, hk, rfl, b⟩ := hrel
 by_cases hlt : k < n
 case pos =>
  obtain ⟨d, hd⟩ : ∃ d, l[k]? = some d := ⟨_, List.getElem?_eq_getElem (by rw [← HN.out]; exact hlt)⟩
  obtain ⟨bb, k0, c', he, _, hcs⟩ := (h.later b).block (by rw [← HN.out]; omega)
  rw [← HN.out] at he
  simp only [Value.slice.injEq] at he
  obtain ⟨rfl, -, rfl⟩ := he
  obtain ⟨v1, v2, v3, v4, v5, d1, hD, o1, o2, o3, o4, o5⟩ := hcs k d hd
  have hfw := q5s (HOKS.out d (List.mem_of_getElem? hd)) (j9y HALL.out hd)
  have HRB := hide (fun (w' : World) (hb : Below wr.heap.size wr w') => q7r _ d w' (hD.later hb) hfw)
  have HX := hide (HNX.out k d hd)
  have hp := HPT.out (k + 1)
  have hp0 := HX.out
  rw [hp0] at hp
  have k2 := Below.refl wr.heap.size wr
  obtain ⟨sF, hsF⟩ : ∃ u : ByteArray, u = ⟨(fullL d).toArray⟩ := ⟨_, rfl⟩
  have hFZ : sF.size = (fullL d).length := by rw [hsF]; show (fullL d).toArray.size = _; rw [List.size_toArray]
  rw [← hsF] at HRB
  rw [← hFZ] at HX hp
  generalize sizB (l.take k) = S at *
  clear hcs hd hD hfw hp0 hsF hFZ
  have z1 : S + sF.size ≤ 14400000 := by omega
  generalize d.fee = f at *
  generalize d.frm = s at *
  generalize d.til = t at *
  go_wp2_with (first | (with_reducible refine w11g ?_; refine q3b rfl _ rfl rfl d1 ?_) | (go_at_call 15; refine (HRB.out _ k2).mono ?_; rintro _ _ ⟨rfl, hc⟩; (try replace b := later b hc); clear hc))
  go_roundw
  case rel => exact ⟨k + 1, by simp, by omega, by rw [HX.out]; simp, b⟩
  case measure => simp [RowKit.intOf]; omega
 obtain rfl : n = k := by omega
 have HT : Hid (l.take n = l) := List.take_of_length_le (by rw [← HN.out]; exact Nat.le_refl _)
 rw [HT.out]
 clear hlt hk
 go_wp2_with fail
 go_ret
 exact ⟨rfl, b⟩
theorem x1o (v : Value) (l : List Deed) (w : World) (h : DsIs w v l) (hn : l.length ≤ 1000) (hm : l.all mayD = true) :
  Calls Tryz.prog 43 #[v] w fun e w' => (∃ fv, e = .returned fv ∧ Hs w' fv (fulsB l)) ∧ Below w.heap.size w w' := by
 have hok := h.ok
 have HOKS := hide hok
 have HALL := hide hm
 obtain ⟨a1, c1, rfl⟩ := h.shape
 obtain ⟨n, hn'⟩ : ∃ n, n = l.length := ⟨_, rfl⟩
 have HN := hide hn'
 rw [← hn'] at h hn ⊢
 clear hn' hok hm
 have b := Below.refl w.heap.size w
 have qB := Nat.le_refl w.heap.size
 have U1 := OwnR.nil w w.heap.size 34 32
 go_enter Tryz.func43, Tryz.ntmps43
 go_wp2_with fail
 go_loopw [3, 4] (fun fv i wr => ∃ k : Nat, i = .int .i64 k ∧ k ≤ n ∧ OwnR wr w.heap.size 34 32 fv ((l.take k).map fuC) [] ∧ Below w.heap.size w wr ∧ w.heap.size ≤ wr.heap.size) (fun _ i _ => n - (RowKit.intOf i).toNat)
 case atStart => exact ⟨0, rfl, by omega, by simpa using U1, b, qB⟩
 clear b U1 qB
 obtain ⟨k, rfl, hk, U1, b, qB⟩ := hrel
 by_cases hlt : k < n
 case pos =>
  obtain ⟨d, hd⟩ : ∃ d, l[k]? = some d := ⟨_, List.getElem?_eq_getElem (by rw [← HN.out]; exact hlt)⟩
  obtain ⟨bb, k0, c', he, _, hcs⟩ := (h.later b).block (by rw [← HN.out]; omega)
  rw [← HN.out] at he
  simp only [Value.slice.injEq] at he
  obtain ⟨rfl, -, rfl⟩ := he
  obtain ⟨v1, v2, v3, v4, v5, d1, hD, o1, o2, o3, o4, o5⟩ := hcs k d hd
  have hfw := q5s (HOKS.out d (List.mem_of_getElem? hd)) (j9y HALL.out hd)
  have HRF : Hid (∀ (w' : World) (hb : Below wr.heap.size wr w'), Calls Tryz.prog 17 #[deedV v1 v2 v3 v4 v5 d.fee d.frm d.til] w' fun e w'' => e = .returned (hv (fulB d)) ∧ Below w'.heap.size w' w'') := fun w' hb => j8d _ d w' (hD.later hb) hfw
  have HUL : Hid (((l.take k).map fuC).length = k) := by rw [List.length_map, List.length_take]; exact Nat.min_eq_left (by rw [← HN.out]; omega)
  have HUX := hide (map_take fuC hd)
  have e2 : fuC d = bvs (fulB d) := rfl
  rw [e2] at HUX
  have HL : Hid ((fulB d).length = 32) := q7q d
  obtain ⟨aU, cU, rfl⟩ := U1.shape
  rw [HUL.out] at U1 ⊢
  have k2 := Below.refl wr.heap.size wr
  clear hcs hd hD hfw e2
  generalize fulB d = R at *
  generalize d.fee = f at *
  generalize d.frm = s at *
  generalize d.til = t at *
  go_wp2_with (first | (with_reducible refine w11g ?_; refine q3b rfl _ rfl rfl d1 ?_) | (go_at_call 17; refine (HRF.out _ k2).mono ?_; rintro _ _ ⟨rfl, hb⟩; replace U1 := U1.later hb; replace b := later b hb; replace qB := Nat.le_trans qB hb.size; clear hb) | ((with_reducible refine w7g ?_); refine q3r rfl hashElem (by decide) _ rfl (v := hv R) (el := bvs R) rfl (by simp [hv, Value.cells]) (by rw [q0d]; exact HL.out) (fun u hu => List.all_eq_true.1 (q1u R) u hu) ?_; intro _ g9 _ O9 hb; replace U1 := U1.later hb; replace b := later b hb; replace qB := Nat.le_trans qB hb.size; clear hb) | ((with_reducible refine w14g ?_); refine q1c rfl _ _ hashElem rfl rfl U1 rfl O9.sl (Els.one (by rw [q0d]; exact HL.out) (fun u hu => List.all_eq_true.1 (q1u R) u hu)) (k + 1) (by rw [HUL.out]; rfl) (by omega) (by omega) qB ?_; intro a8 c8 w8 U2 ht hbk; replace b := b.trans (ht.below (B := w.heap.size) b.size (fun y hy => U1.ge y hy)); replace qB := Nat.le_trans qB ht.size; clear hbk ht U1 O9))
  go_roundw
  case rel => exact ⟨k + 1, by simp, by omega, by rw [HUX.out]; exact U2, b, qB⟩
  case measure => simp [RowKit.intOf]; omega
 obtain rfl : n = k := by omega
 have HT : Hid (l.take n = l) := List.take_of_length_le (by rw [← HN.out]; exact Nat.le_refl _)
 rw [HT.out] at U1
 clear hlt hk
 go_wp2_with fail
 go_ret
 exact ⟨⟨_, rfl, j7j U1.sl⟩, b⟩
theorem q7o (v : Value) (x : Blk) (w : World) (h : BlkIs w v x) (hn : x.deeds.length ≤ 1000) (hf : ∀ d ∈ x.deeds, d.Fit) :
  Calls Tryz.prog 36 #[v] w fun e w' => e = .returned (.int .i64 (if mayB x = true then 0 else 2)) ∧ Below w.heap.size w w' := by
 have hz := j2c x.deeds
 have hl := q8y x.deeds
 obtain ⟨u, rfl, hD, hok⟩ := h
 have HBD := hide (fun (w' : World) (hb : Below w.heap.size w w') => j2v u x.deeds w' (hD.later hb) hn hf)
 have o1 : u.oneCell' = true := by obtain ⟨a, c, rfl⟩ := hD.shape; rfl
 have HM := hide (fun w => j6s x.head hok w)
 have HOK := hide hok
 have HL := hide hl
 have b := Below.refl w.heap.size w
 unfold mayB
 generalize (bodB x.deeds).1.1 = R at *
 generalize (bodB x.deeds).1.2 = s at *
 generalize (bodB x.deeds).2.1 = m at *
 generalize (bodB x.deeds).2.2 = c at *
 clear hD hok hl hn hf
 generalize fewB x.deeds = B at *
 generalize x.head = d at *
 clear x
 by_cases hm : mayH d = true
 ·rw [if_pos hm] at HM
  rw [hm, Bool.true_and]
  cases B
  case true =>
   obtain rfl : c = 0 := hz.2 rfl
   clear hm hz
   have mF1 := True.intro
   have mF2 := True.intro
   go_enter Tryz.func36, Tryz.ntmps36
   go_wp2_with (first | (with_reducible refine w2g ?_; clear mF1; refine q0k rfl _ rfl rfl HOK.out o1 ?_; intro _ g1 hg1 F1 hb; (try replace b := later b hb); clear hb) | (with_reducible refine w9g ?_; refine q1l rfl _ rfl rfl F1 ?_) | (with_reducible refine w0g ?_; refine q0a rfl 42 _ rfl rfl (KAt.ds F1) (by kernel_rfl) ?_) | (go_at_call 85; refine (HM.out _).mono ?_; rintro _ _ ⟨rfl, hc⟩; (try replace F1 := F1.later hc); (try replace b := later b hc); clear hc) | (go_at_call 25; refine (HBD.out _ b).mono ?_; rintro _ _ ⟨rfl, hc⟩; (try replace F1 := F1.later hc); (try replace b := later b hc); clear hc) | (with_reducible refine w3g ?_; clear mF2; refine q0j rfl rfl ?_; intro _ g2 hg2 F2 hb; (try have := F1.lt); (try have := F2.lt); (try have := b.size); (try replace F1 := F1.later hb); (try replace b := later b hb); clear hb) | (with_reducible refine w4g ?_; refine q0g rfl _ _ rfl rfl rfl HL.out F2 ?_; intro _ t1 ht; (try replace F1 := F1.tt ht); (try replace b := q0b b ht (by omega) (by omega)); replace F2 := t1; clear ht))
   go_ret
   exact ⟨rfl, b⟩
  case false =>
   have hc : c ≠ 0 := fun h => by have := hz.1 h; cases this
   have hcb : (c != 0) = true := bne_iff_ne.2 hc
   clear hm hz hc
   have mF1 := True.intro
   have mF2 := True.intro
   go_enter Tryz.func36, Tryz.ntmps36
   go_wp2_with (first | (with_reducible refine w2g ?_; clear mF1; refine q0k rfl _ rfl rfl HOK.out o1 ?_; intro _ g1 hg1 F1 hb; (try replace b := later b hb); clear hb) | (with_reducible refine w9g ?_; refine q1l rfl _ rfl rfl F1 ?_) | (with_reducible refine w0g ?_; refine q0a rfl 42 _ rfl rfl (KAt.ds F1) (by kernel_rfl) ?_) | (go_at_call 85; refine (HM.out _).mono ?_; rintro _ _ ⟨rfl, hc⟩; (try replace F1 := F1.later hc); (try replace b := later b hc); clear hc) | (go_at_call 25; refine (HBD.out _ b).mono ?_; rintro _ _ ⟨rfl, hc⟩; (try replace F1 := F1.later hc); (try replace b := later b hc); clear hc) | (with_reducible refine w3g ?_; clear mF2; refine q0j rfl rfl ?_; intro _ g2 hg2 F2 hb; (try have := F1.lt); (try have := F2.lt); (try have := b.size); (try replace F1 := F1.later hb); (try replace b := later b hb); clear hb) | (with_reducible refine w4g ?_; refine q0g rfl _ _ rfl rfl rfl HL.out F2 ?_; intro _ t1 ht; (try replace F1 := F1.tt ht); (try replace b := q0b b ht (by omega) (by omega)); replace F2 := t1; clear ht))
   go_ret
   exact ⟨rfl, b⟩
 ·rw [if_neg hm] at HM
  have hm' : mayH d = false := by simpa using hm
  rw [hm', Bool.false_and]
  clear hm hm' hz
  have mF1 := True.intro
  have mF2 := True.intro
  go_enter Tryz.func36, Tryz.ntmps36
  go_wp2_with (first | (with_reducible refine w2g ?_; clear mF1; refine q0k rfl _ rfl rfl HOK.out o1 ?_; intro _ g1 hg1 F1 hb; (try replace b := later b hb); clear hb) | (with_reducible refine w9g ?_; refine q1l rfl _ rfl rfl F1 ?_) | (go_at_call 85; refine (HM.out _).mono ?_; rintro _ _ ⟨rfl, hc⟩; (try replace F1 := F1.later hc); (try replace b := later b hc); clear hc))
  go_ret
  exact ⟨rfl, b⟩
theorem q9t {x : Blk} (h : mayB x = true) : mayH x.head = true := by
 unfold mayB at h
 rw [Bool.and_eq_true] at h
 exact h.1
theorem q9u {x : Blk} (h : mayB x = true) : fewB x.deeds = true := by
 unfold mayB at h
 rw [Bool.and_eq_true] at h
 exact h.2
def bidB (x : Blk) : List UInt8 := if mayB x = true then ofX tagHead [putH x.head] else zero32
theorem q9h (x : Blk) : (bidB x).length = 32 := by
 unfold bidB
 split
 ·exact q1h _ _
 ·rfl
theorem z1n (v : Value) (x : Blk) (w : World) (h : BlkIs w v x) (hn : x.deeds.length ≤ 1000) (hf : ∀ d ∈ x.deeds, d.Fit) :
  Calls Tryz.prog 35 #[v] w fun e w' => e = .returned (.tuple #[hv (bidB x), .int .i64 (if mayB x = true then 0 else 2)]) ∧ Below w.heap.size w w' := by
 have HM := hide (fun (w' : World) (hb : Below w.heap.size w w') => q7o v x w' (h.later hb) hn hf)
 obtain ⟨u, rfl, hD, hok⟩ := h
 have o1 : u.oneCell' = true := by obtain ⟨a, c, rfl⟩ := hD.shape; rfl
 have HI := hide (fun w => x8x x.head hok w)
 have HOK := hide hok
 have b := Below.refl w.heap.size w
 have HL : Hid ((bidB x).length = 32) := q9h x
 unfold bidB at HL ⊢
 clear hD hok hn hf
 by_cases hm : mayB x = true
 ·have e : idH x.head = (ofX tagHead [putH x.head], 0) := by unfold idH; rw [if_pos (q9t hm)]
  rw [e] at HI
  rw [if_pos hm] at HM HL ⊢
  rw [if_pos hm]
  clear hm e
  generalize ofX tagHead [putH x.head] = R at *
  generalize x.head = d at *
  have mF1 := True.intro
  have mF2 := True.intro
  go_enter Tryz.func35, Tryz.ntmps35
  go_wp2_with (first | (with_reducible refine w2g ?_; clear mF1; refine q0k rfl _ rfl rfl HOK.out o1 ?_; intro _ g1 hg1 F1 hb; (try replace b := later b hb); clear hb) | (with_reducible refine w3g ?_; clear mF2; refine q0j rfl rfl ?_; intro _ g2 hg2 F2 hb; (try have := F1.lt); (try have := F2.lt); (try have := b.size); (try replace F1 := F1.later hb); (try replace b := later b hb); clear hb) | (with_reducible refine w15g ?_; refine q0m rfl _ rfl rfl F1 ?_) | (with_reducible refine w9g ?_; refine q1l rfl _ rfl rfl F1 ?_) | (go_at_call 36; refine (HM.out _ b).mono ?_; rintro _ _ ⟨rfl, hc⟩; (try replace F1 := F1.later hc); (try replace F2 := F2.later hc); (try replace b := later b hc); clear hc) | (go_at_call 84; refine (HI.out _).mono ?_; rintro _ _ ⟨rfl, hc⟩; (try replace F1 := F1.later hc); (try replace F2 := F2.later hc); (try replace b := later b hc); clear hc) | (with_reducible refine w4g ?_; refine q0g rfl _ _ rfl rfl rfl HL.out F2 ?_; intro _ t1 ht; (try replace F1 := F1.tt ht); (try replace b := q0b b ht (by omega) (by omega)); replace F2 := t1; clear ht))
  exact bodyPost_ret (q4v rfl _ _ _ rfl rfl F2) rfl ⟨rfl, b⟩
 ·rw [if_neg hm] at HM HL ⊢
  rw [if_neg hm]
  clear hm HI
  generalize x.head = d at *
  have mF1 := True.intro
  have mF2 := True.intro
  go_enter Tryz.func35, Tryz.ntmps35
  go_wp2_with (first | (with_reducible refine w2g ?_; clear mF1; refine q0k rfl _ rfl rfl HOK.out o1 ?_; intro _ g1 hg1 F1 hb; (try replace b := later b hb); clear hb) | (with_reducible refine w3g ?_; clear mF2; refine q0j rfl rfl ?_; intro _ g2 hg2 F2 hb; (try have := F1.lt); (try have := F2.lt); (try have := b.size); (try replace F1 := F1.later hb); (try replace b := later b hb); clear hb) | (with_reducible refine w15g ?_; refine q0m rfl _ rfl rfl F1 ?_) | (go_at_call 36; refine (HM.out _ b).mono ?_; rintro _ _ ⟨rfl, hc⟩; (try replace F1 := F1.later hc); (try replace F2 := F2.later hc); (try replace b := later b hc); clear hc) | (with_reducible refine w5g ?_; refine q1j rfl rfl ?_) | (with_reducible refine w4g ?_; refine q0g rfl _ _ rfl rfl rfl HL.out F2 ?_; intro _ t1 ht; (try replace F1 := F1.tt ht); (try replace b := q0b b ht (by omega) (by omega)); replace F2 := t1; clear ht))
  exact bodyPost_ret (q4v rfl _ _ _ rfl rfl F2) rfl ⟨rfl, b⟩
theorem j7l (v : Value) (x : Blk) (w : World) (h : BlkIs w v x) (hn : x.deeds.length ≤ 1000) (hf : ∀ d ∈ x.deeds, d.Fit) :
  Calls Tryz.prog 37 #[v] w fun e w' => e = .returned (.bool (fitB x)) ∧ Below w.heap.size w w' := by
 have HM := hide (fun (w' : World) (hb : Below w.heap.size w w') => q7o v x w' (h.later hb) hn hf)
 obtain ⟨u, rfl, hD, hok⟩ := h
 have HBD := hide (fun (w' : World) (hb : Below w.heap.size w w') => j2v u x.deeds w' (hD.later hb) hn hf)
 have o1 : u.oneCell' = true := by obtain ⟨a, c, rfl⟩ := hD.shape; rfl
 have HOK := hide hok
 have HLB := hide hok.body
 have b := Below.refl w.heap.size w
 unfold fitB
 clear hD hok hn hf
 by_cases hm : mayB x = true
 ·have e := x0m (q9u hm)
  rw [e] at HBD
  have HL : Hid ((treeL (fulsB x.deeds)).length = 32) := q3p _ _
  rw [if_pos hm] at HM
  rw [hm, Bool.true_and]
  clear hm e
  generalize treeL (fulsB x.deeds) = R at *
  generalize sizB x.deeds = s at *
  generalize x.deeds.length = m at *
  generalize x.head = d at *
  obtain ⟨B1, hB1⟩ : ∃ B1, decide (d.body = R) = B1 := ⟨_, rfl⟩
  have E1 := hide hB1
  rw [hB1]
  clear hB1
  have q2 : ((d.size : Int) == (s : Int)) = decide (d.size = s) := q3a _ _
  have q3 : ((d.many : Int) == (m : Int)) = decide (d.many = m) := q3a _ _
  generalize decide (d.size = s) = B2 at *
  generalize decide (d.many = m) = B3 at *
  cases B1 <;> cases B2 <;> cases B3 <;> (
   have mF1 := True.intro
   have mF2 := True.intro
   go_enter Tryz.func37, Tryz.ntmps37
   go_wp2_with (first | (with_reducible refine w2g ?_; clear mF1; refine q0k rfl _ rfl rfl HOK.out o1 ?_; intro _ g1 hg1 F1 hb; (try replace b := later b hb); clear hb) | (with_reducible refine w3g ?_; clear mF2; refine q0j rfl rfl ?_; intro _ g2 hg2 F2 hb; (try have := F1.lt); (try have := F2.lt); (try have := b.size); (try replace F1 := F1.later hb); (try replace b := later b hb); clear hb) | (with_reducible refine w15g ?_; refine q0m rfl _ rfl rfl F1 ?_) | (with_reducible refine w0g ?_; refine q0a rfl 42 _ rfl rfl (KAt.ds F1) (by kernel_rfl) ?_) | (with_reducible show wpList _ _ _ (⟨_, Op.load 34 _, _, _, _, _⟩ :: _) _ _; first | refine q0i rfl _ rfl rfl (KAt.body F1) HLB.out ?_ | refine q0w rfl _ rfl rfl F2 ?_) | (with_reducible refine w6g ?_; first | refine q0a rfl 24 _ rfl rfl (KAt.size F1) (by kernel_rfl) ?_ | refine q0a rfl 24 _ rfl rfl (KAt.many F1) (by kernel_rfl) ?_) | (go_at_call 36; refine (HM.out _ b).mono ?_; rintro _ _ ⟨rfl, hc⟩; (try replace F1 := F1.later hc); (try replace b := later b hc); clear hc) | (go_at_call 25; refine (HBD.out _ b).mono ?_; rintro _ _ ⟨rfl, hc⟩; (try replace F1 := F1.later hc); (try replace b := later b hc); clear hc) | (with_reducible refine w4g ?_; refine q0g rfl _ _ rfl rfl rfl HL.out F2 ?_; intro _ t1 ht; (try replace F1 := F1.tt ht); (try replace b := q0b b ht (by omega) (by omega)); replace F2 := t1; clear ht) | (with_reducible show wpList _ _ _ (⟨_, Op.binOp BinOp.eql 34 _ _ _, _, _, _, _⟩ :: _) _ _; refine j2y rfl _ _ rfl rfl rfl HLB.out HL.out ?_; rw [E1.out]))
   go_ret
   exact ⟨by simp, b⟩)
 ·have hm' : mayB x = false := by simpa using hm
  rw [if_neg hm] at HM
  rw [hm', Bool.false_and]
  clear hm hm' HBD
  generalize x.head = d at *
  have mF1 := True.intro
  have mF2 := True.intro
  go_enter Tryz.func37, Tryz.ntmps37
  go_wp2_with (first | (with_reducible refine w2g ?_; clear mF1; refine q0k rfl _ rfl rfl HOK.out o1 ?_; intro _ g1 hg1 F1 hb; (try replace b := later b hb); clear hb) | (with_reducible refine w15g ?_; refine q0m rfl _ rfl rfl F1 ?_) | (go_at_call 36; refine (HM.out _ b).mono ?_; rintro _ _ ⟨rfl, hc⟩; (try replace F1 := F1.later hc); (try replace b := later b hc); clear hc))
  go_ret
  exact ⟨rfl, b⟩
end Go.Proofs.YtbbfnpfkbbpjgaaGreat
