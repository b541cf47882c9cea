/- origin.Take: its closures, take. -/
import Derived.Test.YtbbfnpfkbbpjgaaOBOrigR
import Derived.Test.YtbbfnpfkbbpjgaaOBOrigM
import Derived.Test.YtbbfnpfkbbpjgaaOBStSeat
namespace Go.Proofs.Ytbbfnpfkbbpjgaa
open Go.RowKit Go.Lib
set_option linter.unusedVariables false
set_option linter.unusedSimpArgs false

theorem seatBuilt (l m : List UInt8) (x y z : Nat) (h : l.length = 32) (k : m.length = 32) : Try.prog.built 93 [(0, hv l), (1, hv m), (2, .int .u64 x), (3, .int .u64 y), (4, .int .u64 z)] = some (seatCs ⟨l, m, x, y, z⟩).toArray := by
  obtain ⟨x0, x1, x2, x3, x4, x5, x6, x7, x8, x9, x10, x11, x12, x13, x14, x15, x16, x17, x18, x19, x20, x21, x22, x23, x24, x25, x26, x27, x28, x29, x30, x31, rfl⟩ := hash_bytes h
  obtain ⟨y0, y1, y2, y3, y4, y5, y6, y7, y8, y9, y10, y11, y12, y13, y14, y15, y16, y17, y18, y19, y20, y21, y22, y23, y24, y25, y26, y27, y28, y29, y30, y31, rfl⟩ := hash_bytes k
  kernel_rfl
theorem trustBuilt (l m : List UInt8) (h : l.length = 32) (k : m.length = 32) : Try.prog.built 97 [(0, hv l), (1, hv m)] = some (trustCs ⟨l, m⟩).toArray := by
  obtain ⟨x0, x1, x2, x3, x4, x5, x6, x7, x8, x9, x10, x11, x12, x13, x14, x15, x16, x17, x18, x19, x20, x21, x22, x23, x24, x25, x26, x27, x28, x29, x30, x31, rfl⟩ := hash_bytes h
  obtain ⟨y0, y1, y2, y3, y4, y5, y6, y7, y8, y9, y10, y11, y12, y13, y14, y15, y16, y17, y18, y19, y20, y21, y22, y23, y24, y25, y26, y27, y28, y29, y30, y31, rfl⟩ := hash_bytes k
  kernel_rfl
theorem otri (st1 : Option (List UInt8)) (most n : Nat) : st1 = none ∨ (∃ r, st1 = some r ∧ most < n) ∨ (∃ r, st1 = some r ∧ ¬ most < n) := by
  cases st1 with
  | none => exact .inl rfl
  | some r => by_cases h : most < n <;> simp [h]
set_option maxRecDepth 100000 in
set_option maxHeartbeats 1600000 in
theorem rdOOut (c g : Nat) (st : Option (List UInt8)) (w : World) (F1 : One w c 82 (.pointer (some ⟨g, 0, none⟩))) (F5 : RdO w g st) (hcg : c ≠ g) :
    Calls Try.prog 55 #[.pointer (some ⟨c, 0, none⟩)] w fun e w' => ∃ (x : OutT) (st' : Option (List UInt8)), e = .returned (outV x) ∧ x.Ok ∧ RdO w' g st' ∧ Got outP st x st' ∧ Touch (fun b => b = g) w w' := by
  have ht := Touch.refl (fun b => b = g) w
  go_enter Try.func55, Try.ntmps55
  go_wp2_with (first | (with_reducible show wpList _ _ _ (⟨_, Op.alloc _, _, _, _, _⟩ :: _) _ _; refine wpl_mk_out rfl rfl ?_; intro _ g2 h2 F2 hb; have l5 := F5.lt; have l1 := F1.lt; replace F1 := F1.later hb; replace F5 := F5.later hb; replace ht := ht.behind hb; clear hb) | (with_reducible show Code.wp _ (Code.region _ _ true) _ _ _; (try simp only [Act.put, List.setIfInBounds_toArray, List.set_cons_succ, List.set_cons_zero]); fail))
  (try simp only [Act.put, List.setIfInBounds_toArray, List.set_cons_succ, List.set_cons_zero])
  have gg2 : g < g2 := by omega
  have wg2 : w.heap.size ≤ g2 := h2
  refine region_plan (fun x => One x c 82 (.pointer (some ⟨g, 0, none⟩))) (.one [0, 2, 4] 1 (.one [] 3 (.one [] 5 (.bar [6] 7 (.stop []))))) (by kernel_rfl) (by kernel_rfl) (by kernel_rfl) (by decide) (fun _ _ h hb => h.later hb) F1 ?_
  intro _ hb0 _ _
  replace F1 := F1.later hb0
  replace F2 := F2.later hb0
  replace F5 := F5.later hb0
  replace ht := ht.behind hb0
  clear hb0
  refine plan_one ?_
  simp only [pickOps, opAt, List.getElem?_cons_succ, List.getElem?_cons_zero, List.nil_append, List.cons_append]
  repeat (first | go_big_quiet_skip | (go_big_quiet_want; first | ((with_reducible show Oper.quiet _ ⟨_, Op.load _ _, _, _, _, _⟩ _ _ _); first | (refine quiet_load_one 82 _ rfl rfl (fun w hw => One.cell (Kl.out hw)) (by kernel_rfl) ?_; simp only [Act.put, List.setIfInBounds_toArray, List.set_cons_succ, List.set_cons_zero]; go_big_quiet_on)) | (go_big_quiet_op; first | go_big_quiet_on | (refine ⟨_, fun _ => rfl, ?_⟩; go_big_quiet_on))))
  refine wpQuiet_nil ?_
  intro _ hb _
  replace F1 := F1.later hb
  replace F2 := F2.later hb
  replace F5 := F5.later hb
  replace ht := ht.behind hb
  have q2 := F2.lt
  have q1 := F1.lt
  clear hb
  go_wp2_with (go_at_call 53; refine (rdOHash g _ _ F5).mono ?_; rintro _ _ ⟨l1, s1, rfl, hl, h1, hg, ht1⟩; clear F5; have F5 := h1; clear h1; replace F1 := F1.touch ht1 (by show ¬ _ = _; omega); replace F2 := F2.touch ht1 (by show ¬ _ = _; omega); replace ht := ht.add ht1 (fun x h => h); have G1 := hide hg; have L1 := hide hl; clear hg hl ht1 q1 q2)
  refine goQ_same (fun _ _ h hb => h.later hb) F1 ?_
  (try simp only [Act.put, List.setIfInBounds_toArray, List.set_cons_succ, List.set_cons_zero])
  refine plan_one ?_
  simp only [pickOps, opAt, List.getElem?_cons_succ, List.getElem?_cons_zero, List.nil_append, List.cons_append]
  repeat (first | go_big_quiet_skip | (go_big_quiet_want; first | ((with_reducible show Oper.quiet _ ⟨_, Op.load _ _, _, _, _, _⟩ _ _ _); first | (refine quiet_load_one 82 _ rfl rfl (fun w hw => One.cell (Kl.out hw)) (by kernel_rfl) ?_; simp only [Act.put, List.setIfInBounds_toArray, List.set_cons_succ, List.set_cons_zero]; go_big_quiet_on)) | (go_big_quiet_op; first | go_big_quiet_on | (refine ⟨_, fun _ => rfl, ?_⟩; go_big_quiet_on))))
  refine wpQuiet_nil ?_
  intro _ hb _
  replace F1 := F1.later hb
  replace F2 := F2.later hb
  replace F5 := F5.later hb
  replace ht := ht.behind hb
  have q2 := F2.lt
  have q1 := F1.lt
  clear hb
  go_wp2_with (go_at_call 53; refine (rdOHash g _ _ F5).mono ?_; rintro _ _ ⟨l2, s2, rfl, hl, h1, hg, ht1⟩; clear F5; have F5 := h1; clear h1; replace F1 := F1.touch ht1 (by show ¬ _ = _; omega); replace F2 := F2.touch ht1 (by show ¬ _ = _; omega); replace ht := ht.add ht1 (fun x h => h); have G2 := hide hg; have L2 := hide hl; clear hg hl ht1 q1 q2)
  refine goQ_same (fun _ _ h hb => h.later hb) F1 ?_
  (try simp only [Act.put, List.setIfInBounds_toArray, List.set_cons_succ, List.set_cons_zero])
  refine plan_one ?_
  simp only [pickOps, opAt, List.getElem?_cons_succ, List.getElem?_cons_zero, List.nil_append, List.cons_append]
  repeat (first | go_big_quiet_skip | (go_big_quiet_want; first | ((with_reducible show Oper.quiet _ ⟨_, Op.load _ _, _, _, _, _⟩ _ _ _); first | (refine quiet_load_one 82 _ rfl rfl (fun w hw => One.cell (Kl.out hw)) (by kernel_rfl) ?_; simp only [Act.put, List.setIfInBounds_toArray, List.set_cons_succ, List.set_cons_zero]; go_big_quiet_on)) | (go_big_quiet_op; first | go_big_quiet_on | (refine ⟨_, fun _ => rfl, ?_⟩; go_big_quiet_on))))
  refine wpQuiet_nil ?_
  intro _ hb _
  replace F1 := F1.later hb
  replace F2 := F2.later hb
  replace F5 := F5.later hb
  replace ht := ht.behind hb
  have q2 := F2.lt
  have q1 := F1.lt
  clear hb
  go_wp2_with (go_at_call 52; refine (rdONumber g _ _ F5).mono ?_; rintro _ _ ⟨n3, s3, rfl, hl, h1, hg, ht1⟩; clear F5; have F5 := h1; clear h1; replace F1 := F1.touch ht1 (by show ¬ _ = _; omega); replace F2 := F2.touch ht1 (by show ¬ _ = _; omega); replace ht := ht.add ht1 (fun x h => h); have G3 := hide hg; have L3 := hide hl; clear hg hl ht1 q1 q2)
  refine goQ_same (fun _ _ h hb => h.later hb) F1 ?_
  (try simp only [Act.put, List.setIfInBounds_toArray, List.set_cons_succ, List.set_cons_zero])
  have HB := hide (outBuilt l1 l2 n3 L1.out L2.out)
  have OX : Hid (OutT.Ok ⟨l1, l2, n3⟩) := ⟨L1.out, L2.out, L3.out⟩
  have GX : Hid (Got outP st ⟨l1, l2, n3⟩ s3) := G1.out.bind (G2.out.bind (G3.out.last (f := fun n => (⟨l1, l2, n⟩ : OutT))))
  refine plan_bar ?_
  simp only [pickOps, opAt, List.getElem?_cons_succ, List.getElem?_cons_zero, List.nil_append, List.cons_append]
  repeat (first | go_big_quiet_skip | (go_big_quiet_want; first | ((with_reducible show Oper.quiet _ ⟨_, Op.build _ _, _, _, _, _⟩ _ _ _); refine quiet_build _ _ rfl (outCs ⟨l1, l2, n3⟩).toArray (by simp only [List.map_toArray, List.map_cons, List.map_nil]; exact HB.out) ?_; simp only [Act.put, List.setIfInBounds_toArray, List.set_cons_succ, List.set_cons_zero]; go_big_quiet_on) | (go_big_quiet_op; first | go_big_quiet_on | (refine ⟨_, fun _ => rfl, ?_⟩; go_big_quiet_on))))
  refine wpQuiet_nil ?_
  intro _ hb _
  replace F2 := F2.later hb
  replace F5 := F5.later hb
  replace ht := ht.behind hb
  clear hb
  refine wpl_set_out rfl _ _ rfl rfl rfl OX.out F2 ?_
  intro _ t1 ht2
  replace F5 := F5.touch ht2 (by show ¬ _ = _; omega)
  replace ht := ht.trans ht2 (fun x hx => .inr (by have : x = g2 := hx; omega))
  clear F2
  have F2 := t1
  clear t1 ht2
  refine goB_since ?_
  (try simp only [Act.put, List.setIfInBounds_toArray, List.set_cons_succ, List.set_cons_zero])
  refine plan_stop ?_
  simp only [pickOps, opAt, List.getElem?_cons_succ, List.getElem?_cons_zero, List.nil_append, List.cons_append]
  repeat (first | go_big_quiet_skip | (go_big_quiet_want; first | ((with_reducible show Oper.quiet _ ⟨_, Op.load _ _, _, _, _, _⟩ _ _ _); first | fail) | (go_big_quiet_op; first | go_big_quiet_on | (refine ⟨_, fun _ => rfl, ?_⟩; go_big_quiet_on))))
  refine wpQuiet_nil ?_
  intro _ hb _
  replace F2 := F2.later hb
  replace F5 := F5.later hb
  replace ht := ht.behind hb
  clear hb
  go_wp2_with fail
  exact bodyPost_ret (ret_out rfl _ _ rfl F2) rfl ⟨⟨l1, l2, n3⟩, _, rfl, OX.out, F5, GX.out, ht⟩
set_option maxRecDepth 100000 in
set_option maxHeartbeats 1600000 in
theorem rdOSeat (c g : Nat) (st : Option (List UInt8)) (w : World) (F1 : One w c 82 (.pointer (some ⟨g, 0, none⟩))) (F5 : RdO w g st) (hcg : c ≠ g) :
    Calls Try.prog 57 #[.pointer (some ⟨c, 0, none⟩)] w fun e w' => ∃ (x : SeatT) (st' : Option (List UInt8)), e = .returned (seatV x) ∧ x.Ok ∧ RdO w' g st' ∧ Got seatP st x st' ∧ Touch (fun b => b = g) w w' := by
  have ht := Touch.refl (fun b => b = g) w
  go_enter Try.func57, Try.ntmps57
  go_wp2_with (first | (with_reducible show wpList _ _ _ (⟨_, Op.alloc _, _, _, _, _⟩ :: _) _ _; refine wpl_mk_seat rfl rfl ?_; intro _ g2 h2 F2 hb; have l5 := F5.lt; have l1 := F1.lt; replace F1 := F1.later hb; replace F5 := F5.later hb; replace ht := ht.behind hb; clear hb) | (with_reducible show Code.wp _ (Code.region _ _ true) _ _ _; (try simp only [Act.put, List.setIfInBounds_toArray, List.set_cons_succ, List.set_cons_zero]); fail))
  (try simp only [Act.put, List.setIfInBounds_toArray, List.set_cons_succ, List.set_cons_zero])
  have gg2 : g < g2 := by omega
  have wg2 : w.heap.size ≤ g2 := h2
  refine region_plan (fun x => One x c 82 (.pointer (some ⟨g, 0, none⟩))) (.one [0, 2, 4, 6, 8] 1 (.one [] 3 (.one [] 5 (.one [] 7 (.one [] 9 (.bar [10] 11 (.stop []))))))) (by kernel_rfl) (by kernel_rfl) (by kernel_rfl) (by decide) (fun _ _ h hb => h.later hb) F1 ?_
  intro _ hb0 _ _
  replace F1 := F1.later hb0
  replace F2 := F2.later hb0
  replace F5 := F5.later hb0
  replace ht := ht.behind hb0
  clear hb0
  refine plan_one ?_
  simp only [pickOps, opAt, List.getElem?_cons_succ, List.getElem?_cons_zero, List.nil_append, List.cons_append]
  repeat (first | go_big_quiet_skip | (go_big_quiet_want; first | ((with_reducible show Oper.quiet _ ⟨_, Op.load _ _, _, _, _, _⟩ _ _ _); first | (refine quiet_load_one 82 _ rfl rfl (fun w hw => One.cell (Kl.out hw)) (by kernel_rfl) ?_; simp only [Act.put, List.setIfInBounds_toArray, List.set_cons_succ, List.set_cons_zero]; go_big_quiet_on)) | (go_big_quiet_op; first | go_big_quiet_on | (refine ⟨_, fun _ => rfl, ?_⟩; go_big_quiet_on))))
  refine wpQuiet_nil ?_
  intro _ hb _
  replace F1 := F1.later hb
  replace F2 := F2.later hb
  replace F5 := F5.later hb
  replace ht := ht.behind hb
  have q2 := F2.lt
  have q1 := F1.lt
  clear hb
  go_wp2_with (go_at_call 53; refine (rdOHash g _ _ F5).mono ?_; rintro _ _ ⟨l1, s1, rfl, hl, h1, hg, ht1⟩; clear F5; have F5 := h1; clear h1; replace F1 := F1.touch ht1 (by show ¬ _ = _; omega); replace F2 := F2.touch ht1 (by show ¬ _ = _; omega); replace ht := ht.add ht1 (fun x h => h); have G1 := hide hg; have L1 := hide hl; clear hg hl ht1 q1 q2)
  refine goQ_same (fun _ _ h hb => h.later hb) F1 ?_
  (try simp only [Act.put, List.setIfInBounds_toArray, List.set_cons_succ, List.set_cons_zero])
  refine plan_one ?_
  simp only [pickOps, opAt, List.getElem?_cons_succ, List.getElem?_cons_zero, List.nil_append, List.cons_append]
  repeat (first | go_big_quiet_skip | (go_big_quiet_want; first | ((with_reducible show Oper.quiet _ ⟨_, Op.load _ _, _, _, _, _⟩ _ _ _); first | (refine quiet_load_one 82 _ rfl rfl (fun w hw => One.cell (Kl.out hw)) (by kernel_rfl) ?_; simp only [Act.put, List.setIfInBounds_toArray, List.set_cons_succ, List.set_cons_zero]; go_big_quiet_on)) | (go_big_quiet_op; first | go_big_quiet_on | (refine ⟨_, fun _ => rfl, ?_⟩; go_big_quiet_on))))
  refine wpQuiet_nil ?_
  intro _ hb _
  replace F1 := F1.later hb
  replace F2 := F2.later hb
  replace F5 := F5.later hb
  replace ht := ht.behind hb
  have q2 := F2.lt
  have q1 := F1.lt
  clear hb
  go_wp2_with (go_at_call 53; refine (rdOHash g _ _ F5).mono ?_; rintro _ _ ⟨l2, s2, rfl, hl, h1, hg, ht1⟩; clear F5; have F5 := h1; clear h1; replace F1 := F1.touch ht1 (by show ¬ _ = _; omega); replace F2 := F2.touch ht1 (by show ¬ _ = _; omega); replace ht := ht.add ht1 (fun x h => h); have G2 := hide hg; have L2 := hide hl; clear hg hl ht1 q1 q2)
  refine goQ_same (fun _ _ h hb => h.later hb) F1 ?_
  (try simp only [Act.put, List.setIfInBounds_toArray, List.set_cons_succ, List.set_cons_zero])
  refine plan_one ?_
  simp only [pickOps, opAt, List.getElem?_cons_succ, List.getElem?_cons_zero, List.nil_append, List.cons_append]
  repeat (first | go_big_quiet_skip | (go_big_quiet_want; first | ((with_reducible show Oper.quiet _ ⟨_, Op.load _ _, _, _, _, _⟩ _ _ _); first | (refine quiet_load_one 82 _ rfl rfl (fun w hw => One.cell (Kl.out hw)) (by kernel_rfl) ?_; simp only [Act.put, List.setIfInBounds_toArray, List.set_cons_succ, List.set_cons_zero]; go_big_quiet_on)) | (go_big_quiet_op; first | go_big_quiet_on | (refine ⟨_, fun _ => rfl, ?_⟩; go_big_quiet_on))))
  refine wpQuiet_nil ?_
  intro _ hb _
  replace F1 := F1.later hb
  replace F2 := F2.later hb
  replace F5 := F5.later hb
  replace ht := ht.behind hb
  have q2 := F2.lt
  have q1 := F1.lt
  clear hb
  go_wp2_with (go_at_call 52; refine (rdONumber g _ _ F5).mono ?_; rintro _ _ ⟨n3, s3, rfl, hl, h1, hg, ht1⟩; clear F5; have F5 := h1; clear h1; replace F1 := F1.touch ht1 (by show ¬ _ = _; omega); replace F2 := F2.touch ht1 (by show ¬ _ = _; omega); replace ht := ht.add ht1 (fun x h => h); have G3 := hide hg; have L3 := hide hl; clear hg hl ht1 q1 q2)
  refine goQ_same (fun _ _ h hb => h.later hb) F1 ?_
  (try simp only [Act.put, List.setIfInBounds_toArray, List.set_cons_succ, List.set_cons_zero])
  refine plan_one ?_
  simp only [pickOps, opAt, List.getElem?_cons_succ, List.getElem?_cons_zero, List.nil_append, List.cons_append]
  repeat (first | go_big_quiet_skip | (go_big_quiet_want; first | ((with_reducible show Oper.quiet _ ⟨_, Op.load _ _, _, _, _, _⟩ _ _ _); first | (refine quiet_load_one 82 _ rfl rfl (fun w hw => One.cell (Kl.out hw)) (by kernel_rfl) ?_; simp only [Act.put, List.setIfInBounds_toArray, List.set_cons_succ, List.set_cons_zero]; go_big_quiet_on)) | (go_big_quiet_op; first | go_big_quiet_on | (refine ⟨_, fun _ => rfl, ?_⟩; go_big_quiet_on))))
  refine wpQuiet_nil ?_
  intro _ hb _
  replace F1 := F1.later hb
  replace F2 := F2.later hb
  replace F5 := F5.later hb
  replace ht := ht.behind hb
  have q2 := F2.lt
  have q1 := F1.lt
  clear hb
  go_wp2_with (go_at_call 52; refine (rdONumber g _ _ F5).mono ?_; rintro _ _ ⟨n4, s4, rfl, hl, h1, hg, ht1⟩; clear F5; have F5 := h1; clear h1; replace F1 := F1.touch ht1 (by show ¬ _ = _; omega); replace F2 := F2.touch ht1 (by show ¬ _ = _; omega); replace ht := ht.add ht1 (fun x h => h); have G4 := hide hg; have L4 := hide hl; clear hg hl ht1 q1 q2)
  refine goQ_same (fun _ _ h hb => h.later hb) F1 ?_
  (try simp only [Act.put, List.setIfInBounds_toArray, List.set_cons_succ, List.set_cons_zero])
  refine plan_one ?_
  simp only [pickOps, opAt, List.getElem?_cons_succ, List.getElem?_cons_zero, List.nil_append, List.cons_append]
  repeat (first | go_big_quiet_skip | (go_big_quiet_want; first | ((with_reducible show Oper.quiet _ ⟨_, Op.load _ _, _, _, _, _⟩ _ _ _); first | (refine quiet_load_one 82 _ rfl rfl (fun w hw => One.cell (Kl.out hw)) (by kernel_rfl) ?_; simp only [Act.put, List.setIfInBounds_toArray, List.set_cons_succ, List.set_cons_zero]; go_big_quiet_on)) | (go_big_quiet_op; first | go_big_quiet_on | (refine ⟨_, fun _ => rfl, ?_⟩; go_big_quiet_on))))
  refine wpQuiet_nil ?_
  intro _ hb _
  replace F1 := F1.later hb
  replace F2 := F2.later hb
  replace F5 := F5.later hb
  replace ht := ht.behind hb
  have q2 := F2.lt
  have q1 := F1.lt
  clear hb
  go_wp2_with (go_at_call 52; refine (rdONumber g _ _ F5).mono ?_; rintro _ _ ⟨n5, s5, rfl, hl, h1, hg, ht1⟩; clear F5; have F5 := h1; clear h1; replace F1 := F1.touch ht1 (by show ¬ _ = _; omega); replace F2 := F2.touch ht1 (by show ¬ _ = _; omega); replace ht := ht.add ht1 (fun x h => h); have G5 := hide hg; have L5 := hide hl; clear hg hl ht1 q1 q2)
  refine goQ_same (fun _ _ h hb => h.later hb) F1 ?_
  (try simp only [Act.put, List.setIfInBounds_toArray, List.set_cons_succ, List.set_cons_zero])
  have HB := hide (seatBuilt l1 l2 n3 n4 n5 L1.out L2.out)
  have OX : Hid (SeatT.Ok ⟨l1, l2, n3, n4, n5⟩) := ⟨L1.out, L2.out, L3.out, L4.out, L5.out⟩
  have GX : Hid (Got seatP st ⟨l1, l2, n3, n4, n5⟩ s5) := G1.out.bind (G2.out.bind (G3.out.bind (G4.out.bind (G5.out.last (f := fun n => (⟨l1, l2, n3, n4, n⟩ : SeatT))))))
  refine plan_bar ?_
  simp only [pickOps, opAt, List.getElem?_cons_succ, List.getElem?_cons_zero, List.nil_append, List.cons_append]
  repeat (first | go_big_quiet_skip | (go_big_quiet_want; first | ((with_reducible show Oper.quiet _ ⟨_, Op.build _ _, _, _, _, _⟩ _ _ _); refine quiet_build _ _ rfl (seatCs ⟨l1, l2, n3, n4, n5⟩).toArray (by simp only [List.map_toArray, List.map_cons, List.map_nil]; exact HB.out) ?_; simp only [Act.put, List.setIfInBounds_toArray, List.set_cons_succ, List.set_cons_zero]; go_big_quiet_on) | (go_big_quiet_op; first | go_big_quiet_on | (refine ⟨_, fun _ => rfl, ?_⟩; go_big_quiet_on))))
  refine wpQuiet_nil ?_
  intro _ hb _
  replace F2 := F2.later hb
  replace F5 := F5.later hb
  replace ht := ht.behind hb
  clear hb
  refine wpl_set_seat rfl _ _ rfl rfl rfl OX.out F2 ?_
  intro _ t1 ht2
  replace F5 := F5.touch ht2 (by show ¬ _ = _; omega)
  replace ht := ht.trans ht2 (fun x hx => .inr (by have : x = g2 := hx; omega))
  clear F2
  have F2 := t1
  clear t1 ht2
  refine goB_since ?_
  (try simp only [Act.put, List.setIfInBounds_toArray, List.set_cons_succ, List.set_cons_zero])
  refine plan_stop ?_
  simp only [pickOps, opAt, List.getElem?_cons_succ, List.getElem?_cons_zero, List.nil_append, List.cons_append]
  repeat (first | go_big_quiet_skip | (go_big_quiet_want; first | ((with_reducible show Oper.quiet _ ⟨_, Op.load _ _, _, _, _, _⟩ _ _ _); first | fail) | (go_big_quiet_op; first | go_big_quiet_on | (refine ⟨_, fun _ => rfl, ?_⟩; go_big_quiet_on))))
  refine wpQuiet_nil ?_
  intro _ hb _
  replace F2 := F2.later hb
  replace F5 := F5.later hb
  replace ht := ht.behind hb
  clear hb
  go_wp2_with fail
  exact bodyPost_ret (ret_seat rfl _ _ rfl F2) rfl ⟨⟨l1, l2, n3, n4, n5⟩, _, rfl, OX.out, F5, GX.out, ht⟩
set_option maxRecDepth 100000 in
set_option maxHeartbeats 1600000 in
theorem rdOTrust (c g : Nat) (st : Option (List UInt8)) (w : World) (F1 : One w c 82 (.pointer (some ⟨g, 0, none⟩))) (F5 : RdO w g st) (hcg : c ≠ g) :
    Calls Try.prog 59 #[.pointer (some ⟨c, 0, none⟩)] w fun e w' => ∃ (x : TrustT) (st' : Option (List UInt8)), e = .returned (trustV x) ∧ x.Ok ∧ RdO w' g st' ∧ Got trustP st x st' ∧ Touch (fun b => b = g) w w' := by
  have ht := Touch.refl (fun b => b = g) w
  go_enter Try.func59, Try.ntmps59
  go_wp2_with (first | (with_reducible show wpList _ _ _ (⟨_, Op.alloc _, _, _, _, _⟩ :: _) _ _; refine wpl_mk_trust rfl rfl ?_; intro _ g2 h2 F2 hb; have l5 := F5.lt; have l1 := F1.lt; replace F1 := F1.later hb; replace F5 := F5.later hb; replace ht := ht.behind hb; clear hb) | (with_reducible show Code.wp _ (Code.region _ _ true) _ _ _; (try simp only [Act.put, List.setIfInBounds_toArray, List.set_cons_succ, List.set_cons_zero]); fail))
  (try simp only [Act.put, List.setIfInBounds_toArray, List.set_cons_succ, List.set_cons_zero])
  have gg2 : g < g2 := by omega
  have wg2 : w.heap.size ≤ g2 := h2
  refine region_plan (fun x => One x c 82 (.pointer (some ⟨g, 0, none⟩))) (.one [0, 2] 1 (.one [] 3 (.bar [4] 5 (.stop [])))) (by kernel_rfl) (by kernel_rfl) (by kernel_rfl) (by decide) (fun _ _ h hb => h.later hb) F1 ?_
  intro _ hb0 _ _
  replace F1 := F1.later hb0
  replace F2 := F2.later hb0
  replace F5 := F5.later hb0
  replace ht := ht.behind hb0
  clear hb0
  refine plan_one ?_
  simp only [pickOps, opAt, List.getElem?_cons_succ, List.getElem?_cons_zero, List.nil_append, List.cons_append]
  repeat (first | go_big_quiet_skip | (go_big_quiet_want; first | ((with_reducible show Oper.quiet _ ⟨_, Op.load _ _, _, _, _, _⟩ _ _ _); first | (refine quiet_load_one 82 _ rfl rfl (fun w hw => One.cell (Kl.out hw)) (by kernel_rfl) ?_; simp only [Act.put, List.setIfInBounds_toArray, List.set_cons_succ, List.set_cons_zero]; go_big_quiet_on)) | (go_big_quiet_op; first | go_big_quiet_on | (refine ⟨_, fun _ => rfl, ?_⟩; go_big_quiet_on))))
  refine wpQuiet_nil ?_
  intro _ hb _
  replace F1 := F1.later hb
  replace F2 := F2.later hb
  replace F5 := F5.later hb
  replace ht := ht.behind hb
  have q2 := F2.lt
  have q1 := F1.lt
  clear hb
  go_wp2_with (go_at_call 53; refine (rdOHash g _ _ F5).mono ?_; rintro _ _ ⟨l1, s1, rfl, hl, h1, hg, ht1⟩; clear F5; have F5 := h1; clear h1; replace F1 := F1.touch ht1 (by show ¬ _ = _; omega); replace F2 := F2.touch ht1 (by show ¬ _ = _; omega); replace ht := ht.add ht1 (fun x h => h); have G1 := hide hg; have L1 := hide hl; clear hg hl ht1 q1 q2)
  refine goQ_same (fun _ _ h hb => h.later hb) F1 ?_
  (try simp only [Act.put, List.setIfInBounds_toArray, List.set_cons_succ, List.set_cons_zero])
  refine plan_one ?_
  simp only [pickOps, opAt, List.getElem?_cons_succ, List.getElem?_cons_zero, List.nil_append, List.cons_append]
  repeat (first | go_big_quiet_skip | (go_big_quiet_want; first | ((with_reducible show Oper.quiet _ ⟨_, Op.load _ _, _, _, _, _⟩ _ _ _); first | (refine quiet_load_one 82 _ rfl rfl (fun w hw => One.cell (Kl.out hw)) (by kernel_rfl) ?_; simp only [Act.put, List.setIfInBounds_toArray, List.set_cons_succ, List.set_cons_zero]; go_big_quiet_on)) | (go_big_quiet_op; first | go_big_quiet_on | (refine ⟨_, fun _ => rfl, ?_⟩; go_big_quiet_on))))
  refine wpQuiet_nil ?_
  intro _ hb _
  replace F1 := F1.later hb
  replace F2 := F2.later hb
  replace F5 := F5.later hb
  replace ht := ht.behind hb
  have q2 := F2.lt
  have q1 := F1.lt
  clear hb
  go_wp2_with (go_at_call 53; refine (rdOHash g _ _ F5).mono ?_; rintro _ _ ⟨l2, s2, rfl, hl, h1, hg, ht1⟩; clear F5; have F5 := h1; clear h1; replace F1 := F1.touch ht1 (by show ¬ _ = _; omega); replace F2 := F2.touch ht1 (by show ¬ _ = _; omega); replace ht := ht.add ht1 (fun x h => h); have G2 := hide hg; have L2 := hide hl; clear hg hl ht1 q1 q2)
  refine goQ_same (fun _ _ h hb => h.later hb) F1 ?_
  (try simp only [Act.put, List.setIfInBounds_toArray, List.set_cons_succ, List.set_cons_zero])
  have HB := hide (trustBuilt l1 l2 L1.out L2.out)
  have OX : Hid (TrustT.Ok ⟨l1, l2⟩) := ⟨L1.out, L2.out⟩
  have GX : Hid (Got trustP st ⟨l1, l2⟩ s2) := G1.out.bind (G2.out.last (f := fun n => (⟨l1, n⟩ : TrustT)))
  refine plan_bar ?_
  simp only [pickOps, opAt, List.getElem?_cons_succ, List.getElem?_cons_zero, List.nil_append, List.cons_append]
  repeat (first | go_big_quiet_skip | (go_big_quiet_want; first | ((with_reducible show Oper.quiet _ ⟨_, Op.build _ _, _, _, _, _⟩ _ _ _); refine quiet_build _ _ rfl (trustCs ⟨l1, l2⟩).toArray (by simp only [List.map_toArray, List.map_cons, List.map_nil]; exact HB.out) ?_; simp only [Act.put, List.setIfInBounds_toArray, List.set_cons_succ, List.set_cons_zero]; go_big_quiet_on) | (go_big_quiet_op; first | go_big_quiet_on | (refine ⟨_, fun _ => rfl, ?_⟩; go_big_quiet_on))))
  refine wpQuiet_nil ?_
  intro _ hb _
  replace F2 := F2.later hb
  replace F5 := F5.later hb
  replace ht := ht.behind hb
  clear hb
  refine wpl_set_trust rfl _ _ rfl rfl rfl OX.out F2 ?_
  intro _ t1 ht2
  replace F5 := F5.touch ht2 (by show ¬ _ = _; omega)
  replace ht := ht.trans ht2 (fun x hx => .inr (by have : x = g2 := hx; omega))
  clear F2
  have F2 := t1
  clear t1 ht2
  refine goB_since ?_
  (try simp only [Act.put, List.setIfInBounds_toArray, List.set_cons_succ, List.set_cons_zero])
  refine plan_stop ?_
  simp only [pickOps, opAt, List.getElem?_cons_succ, List.getElem?_cons_zero, List.nil_append, List.cons_append]
  repeat (first | go_big_quiet_skip | (go_big_quiet_want; first | ((with_reducible show Oper.quiet _ ⟨_, Op.load _ _, _, _, _, _⟩ _ _ _); first | fail) | (go_big_quiet_op; first | go_big_quiet_on | (refine ⟨_, fun _ => rfl, ?_⟩; go_big_quiet_on))))
  refine wpQuiet_nil ?_
  intro _ hb _
  replace F2 := F2.later hb
  replace F5 := F5.later hb
  replace ht := ht.behind hb
  clear hb
  go_wp2_with fail
  exact bodyPost_ret (ret_trust rfl _ _ rfl F2) rfl ⟨⟨l1, l2⟩, _, rfl, OX.out, F5, GX.out, ht⟩
set_option maxRecDepth 100000 in
set_option maxHeartbeats 6400000 in
theorem otakeOut (c g : Nat) (st : Option (List UInt8)) (most : Nat) (w : World) (F1 : One w c 82 (.pointer (some ⟨g, 0, none⟩))) (F5 : RdO w g st) (hcg : c ≠ g) (hm : most ≤ 1000) :
    Calls Try.prog 54 #[.pointer (some ⟨g, 0, none⟩), .int .u64 most, .func (.func 55) #[] #[.pointer (some ⟨c, 0, none⟩)]] w fun e w' => ∃ (l : List OutT) (st' : Option (List UInt8)) (v : Value), e = .returned v ∧ (∀ x ∈ l, x.Ok) ∧ l.length ≤ most ∧ OwnR w' w.heap.size 48 65 v (l.map outCs) [] ∧ RdO w' g st' ∧ Got (listP most outP) st l st' ∧ Touch (fun b => b = g) w w' := by
  have HC := hide (fun (st : Option (List UInt8)) (w : World) (h1 : One w c 82 (.pointer (some ⟨g, 0, none⟩))) (h5 : RdO w g st) => rdOOut c g st w h1 h5 hcg)
  have HN := hide (fun (w : World) (h5 : RdO w g st) => rdONumber g st w h5)
  have ht := Touch.refl (fun b => b = g) w
  have hgw := F5.lt
  have hcw := F1.lt
  go_enter Try.func54, Try.ntmps54
  go_wp2_with (first | (go_at_call 52; refine (HN.out _ F5).mono ?_; rintro _ w1 ⟨n, st1, rfl, hn, h1, hg, ht1⟩; clear F5; have F5 := h1; clear h1; replace F1 := F1.touch ht1 (by show ¬ _ = _; omega); replace ht := ht.add ht1 (fun x h => h); clear ht1) | (with_reducible show wpList _ _ _ (⟨_, Op.load 4 _, _, _, _, _⟩ :: _) _ _; generalize hstop : wpList _ _ _ _ _ _ = Gstop))
  have HG := hide hg
  clear hg HN
  obtain ⟨s, bb, FA, hs, hb1, hb2⟩ := F5
  rcases otri st1 most n with rfl | ⟨r1, rfl, hq⟩ | ⟨r1, rfl, hq⟩
  case' inl =>
    obtain rfl := hb1 rfl
    have HFIN : Hid (∀ (l : List OutT) (sk : Option (List UInt8)), Got (manyP outP n) none l sk → Got (listP most outP) st l sk) := fun l sk hk => by
      by_cases hq : most < n
      · obtain rfl := hk.2 rfl; exact HG.out.over hq l
      · exact HG.out.list hq hk
    have HNM : Hid ((none : Option (List UInt8)).isSome = true → n ≤ most) := fun h => (by cases h)
    clear hb1 hb2 HG hn
    rw [← hstop]; clear hstop
    go_wp2_with (first | (with_reducible show wpList _ _ _ (⟨_, Op.load _ _, _, _, _, _⟩ :: _) _ _; refine wpl_load_one rfl 4 _ rfl rfl (ORA.c1 FA) (by kernel_rfl) ?_) | (with_reducible show wpList _ _ _ (⟨_, Op.store _ _ _, _, _, _, _⟩ :: _) _ _; refine wpl_set_obad rfl _ _ rfl rfl rfl FA ?_; intro _ t1 h2; clear FA; have FA := t1; replace F1 := F1.touch h2 (by show ¬ _ = _; omega); replace ht := ht.add h2 (fun x h => h); clear t1 h2))
    have F5 := RdO.bad FA hs
    clear FA
    generalize hsA : (none : Option (List UInt8)) = stA at *
  case' inr.inl =>
    obtain ⟨rfl, -⟩ := hb2 _ rfl
    have HFIN : Hid (∀ (l : List OutT) (sk : Option (List UInt8)), Got (manyP outP n) none l sk → Got (listP most outP) st l sk) := fun l sk hk => by obtain rfl := hk.2 rfl; exact HG.out.over hq l
    have HNM : Hid ((none : Option (List UInt8)).isSome = true → n ≤ most) := fun h => (by cases h)
    have c1 := decide_eq_true (show (most : Int) < (n : Int) by omega)
    have c2 := decide_eq_true hq
    clear hb1 hb2 HG hn
    rw [← hstop]; clear hstop
    go_wp2_with (first | (with_reducible show wpList _ _ _ (⟨_, Op.load _ _, _, _, _, _⟩ :: _) _ _; refine wpl_load_one rfl 4 _ rfl rfl (ORA.c1 FA) (by kernel_rfl) ?_) | (with_reducible show wpList _ _ _ (⟨_, Op.store _ _ _, _, _, _, _⟩ :: _) _ _; refine wpl_set_obad rfl _ _ rfl rfl rfl FA ?_; intro _ t1 h2; clear FA; have FA := t1; replace F1 := F1.touch h2 (by show ¬ _ = _; omega); replace ht := ht.add h2 (fun x h => h); clear t1 h2))
    have F5 := RdO.bad FA hs
    clear FA c1 c2 hq
    generalize hsA : (none : Option (List UInt8)) = stA at *
  case' inr.inr =>
    obtain ⟨rfl, hr⟩ := hb2 _ rfl
    have HFIN : Hid (∀ (l : List OutT) (sk : Option (List UInt8)), Got (manyP outP n) (some r1) l sk → Got (listP most outP) st l sk) := fun l sk hk => HG.out.list hq hk
    have HNM : Hid ((some r1 : Option (List UInt8)).isSome = true → n ≤ most) := fun h => by omega
    have HRR := hide hr
    have c1 := decide_eq_false (show ¬ (most : Int) < (n : Int) by omega)
    have c2 := decide_eq_false hq
    clear hb1 hb2 HG hn hr
    rw [← hstop]; clear hstop
    go_wp2_with (first | (with_reducible show wpList _ _ _ (⟨_, Op.load _ _, _, _, _, _⟩ :: _) _ _; refine wpl_load_one rfl 4 _ rfl rfl (ORA.c1 FA) (by kernel_rfl) ?_) | (with_reducible show wpList _ _ _ (⟨_, Op.store _ _ _, _, _, _, _⟩ :: _) _ _; refine wpl_set_obad rfl _ _ rfl rfl rfl FA ?_; intro _ t1 h2; clear FA; have FA := t1; replace F1 := F1.touch h2 (by show ¬ _ = _; omega); replace ht := ht.add h2 (fun x h => h); clear t1 h2))
    have F5 := RdO.good FA hs HRR.out
    clear FA c1 c2 hq HRR
    generalize hsA : (some r1 : Option (List UInt8)) = stA at *
  all_goals
    clear hsA
    go_loopw [8, 9] (fun v i wr => ∃ (k : Nat) (l : List OutT) (sk : Option (List UInt8)), i = .int .u64 k ∧ k ≤ n ∧ k ≤ most ∧ Hid (l.length = k) ∧ Hid (∀ x ∈ l, x.Ok) ∧ OwnR wr w.heap.size 48 65 v (l.map outCs) [] ∧ Hid (Got (manyP outP k) stA l sk) ∧ RdO wr g sk ∧ One wr c 82 (.pointer (some ⟨g, 0, none⟩)) ∧ Touch (fun b => b = g) w wr) (fun _ i _ => n - (RowKit.intOf i).toNat)
    case atStart => exact ⟨0, [], stA, rfl, by omega, by omega, hide rfl, hide (by simp), OwnR.nil _ _ _ _, hide (got_none _ _), F5, F1, ht⟩
    case round =>
      clear F1 F5 ht
      obtain ⟨k, l, sk, rfl, hk, hkm, HLL, HOK, O1, HK, F5, F1, ht⟩ := hrel
      obtain ⟨av, cv, hv0⟩ := O1.shape
      obtain ⟨mm, hmm⟩ : ∃ mm, mm = (l.map outCs).length := ⟨_, rfl⟩
      rw [← hmm] at hv0
      subst hv0
      clear hmm
      cases sk with
      | none =>
        have cI := F5.flag0
        have HFG : Hid (Got (listP most outP) st l none) := by
          have h1 := Got.stop (k := n - k) HK.out l
          rw [show k + (n - k) = n by omega] at h1
          exact HFIN.out _ _ h1
        have HLM : Hid (l.length ≤ most) := by rw [HLL.out]; exact hide hkm
        by_cases h0 : k < n
        · have c0 := decide_eq_true (show (k : Int) < (n : Int) by omega)
          have c9 := decide_eq_true h0
          clear HC HFIN HNM
          go_wp2_with (with_reducible show wpList _ _ _ (⟨_, Op.load _ _, _, _, _, _⟩ :: _) _ _; refine wpl_load_one rfl 4 _ rfl rfl cI (by kernel_rfl) ?_)
          go_ret
          exact ⟨l, none, _, rfl, HOK.out, HLM.out, O1, F5, HFG.out, ht⟩
        · have c0 := decide_eq_false (show ¬ (k : Int) < (n : Int) by omega)
          have c9 := decide_eq_false h0
          clear HC HFIN HNM
          go_wp2_with (with_reducible show wpList _ _ _ (⟨_, Op.load _ _, _, _, _, _⟩ :: _) _ _; refine wpl_load_one rfl 4 _ rfl rfl cI (by kernel_rfl) ?_)
          go_ret
          exact ⟨l, none, _, rfl, HOK.out, HLM.out, O1, F5, HFG.out, ht⟩
      | some r =>
        have cI := F5.flag1
        by_cases h0 : k < n
        · have hnm : n ≤ most := HNM.out (by cases stA with | none => (have := HK.out.2 rfl; cases this) | some q => rfl)
          have c0 := decide_eq_true (show (k : Int) < (n : Int) by omega)
          have c9 := decide_eq_true h0
          have hkw : IntKind.u64.wrap ((k : Int) + 1) = ((k + 1 : Nat) : Int) := by rw [IntKind.wrap_u64]; omega
          have hsz := ht.size
          go_wp2_with (first | (with_reducible show wpList _ _ _ (⟨_, Op.load _ _, _, _, _, _⟩ :: _) _ _; refine wpl_load_one rfl 4 _ rfl rfl cI (by kernel_rfl) ?_) | (go_at_call 55; refine (HC.out _ _ F1 F5).mono ?_; rintro _ w1 ⟨x, s2, rfl, hx, h1, hg, ht1⟩; clear F5 cI; have F5 := h1; clear h1; have l1 := F1.lt; replace F1 := F1.touch ht1 (by show ¬ _ = _; omega); replace O1 := O1.tg ht1 hgw; replace ht := ht.add ht1 (fun x h => h); clear ht1) | ((with_reducible show wpList _ _ _ (⟨_, Op.buildSlice _ _ _, _, _, _, _⟩ :: _) _ _); refine wpl_row1 rfl outElem (by decide) _ rfl (v := outV x) (el := outCs x) rfl (by simp [outV, Value.cells]) (outCs_length hx) (outCs_one x) ?_; intro _ g9 h9 O9 hb; have l1 := F1.lt; replace F1 := F1.later hb; replace F5 := F5.later hb; replace O1 := O1.later hb; replace ht := ht.behind hb; clear hb) | ((with_reducible show wpList _ _ _ (⟨_, Op.call _, _, _, _, _⟩ :: _) _ _); refine wpl_append_row rfl _ _ outElem rfl rfl O1 rfl O9.sl O9.2.1 (k + 1) (by rw [List.length_map, HLL.out]; rfl) (by omega) (by omega) (by have := ht.size; omega) ?_; intro a2 c2 w2 O2 ht2 _; replace F5 := F5.touch ht2 (O1.off hgw); replace F1 := F1.touch ht2 (O1.off hcw); replace ht := ht.trans ht2 (fun b hb => .inr (O1.ge b hb)); clear O1 O9 ht2))
          go_roundw
          case rel => exact ⟨k + 1, l ++ [x], s2, by simp, by omega, by omega, hide (by rw [List.length_append, HLL.out]; rfl), hide (ok_snoc HOK.out hx), by rw [List.map_append]; exact O2, hide (HK.out.snoc hg), F5, F1, ht⟩
          case measure => simp [RowKit.intOf]; omega
        · have c0 := decide_eq_false (show ¬ (k : Int) < (n : Int) by omega)
          have c9 := decide_eq_false h0
          have HFG : Hid (Got (listP most outP) st l (some r)) := by
            have h1 := HK.out
            rw [show k = n by omega] at h1
            exact HFIN.out _ _ h1
          have HLM : Hid (l.length ≤ most) := by rw [HLL.out]; exact hide hkm
          clear HC HFIN HNM
          go_wp2_with (with_reducible show wpList _ _ _ (⟨_, Op.load _ _, _, _, _, _⟩ :: _) _ _; refine wpl_load_one rfl 4 _ rfl rfl cI (by kernel_rfl) ?_)
          go_ret
          exact ⟨l, some r, _, rfl, HOK.out, HLM.out, O1, F5, HFG.out, ht⟩
set_option maxRecDepth 100000 in
set_option maxHeartbeats 6400000 in
theorem otakeSeat (c g : Nat) (st : Option (List UInt8)) (most : Nat) (w : World) (F1 : One w c 82 (.pointer (some ⟨g, 0, none⟩))) (F5 : RdO w g st) (hcg : c ≠ g) (hm : most ≤ 1000) :
    Calls Try.prog 56 #[.pointer (some ⟨g, 0, none⟩), .int .u64 most, .func (.func 57) #[] #[.pointer (some ⟨c, 0, none⟩)]] w fun e w' => ∃ (l : List SeatT) (st' : Option (List UInt8)) (v : Value), e = .returned v ∧ (∀ x ∈ l, x.Ok) ∧ l.length ≤ most ∧ OwnR w' w.heap.size 93 67 v (l.map seatCs) [] ∧ RdO w' g st' ∧ Got (listP most seatP) st l st' ∧ Touch (fun b => b = g) w w' := by
  have HC := hide (fun (st : Option (List UInt8)) (w : World) (h1 : One w c 82 (.pointer (some ⟨g, 0, none⟩))) (h5 : RdO w g st) => rdOSeat c g st w h1 h5 hcg)
  have HN := hide (fun (w : World) (h5 : RdO w g st) => rdONumber g st w h5)
  have ht := Touch.refl (fun b => b = g) w
  have hgw := F5.lt
  have hcw := F1.lt
  go_enter Try.func56, Try.ntmps56
  go_wp2_with (first | (go_at_call 52; refine (HN.out _ F5).mono ?_; rintro _ w1 ⟨n, st1, rfl, hn, h1, hg, ht1⟩; clear F5; have F5 := h1; clear h1; replace F1 := F1.touch ht1 (by show ¬ _ = _; omega); replace ht := ht.add ht1 (fun x h => h); clear ht1) | (with_reducible show wpList _ _ _ (⟨_, Op.load 4 _, _, _, _, _⟩ :: _) _ _; generalize hstop : wpList _ _ _ _ _ _ = Gstop))
  have HG := hide hg
  clear hg HN
  obtain ⟨s, bb, FA, hs, hb1, hb2⟩ := F5
  rcases otri st1 most n with rfl | ⟨r1, rfl, hq⟩ | ⟨r1, rfl, hq⟩
  case' inl =>
    obtain rfl := hb1 rfl
    have HFIN : Hid (∀ (l : List SeatT) (sk : Option (List UInt8)), Got (manyP seatP n) none l sk → Got (listP most seatP) st l sk) := fun l sk hk => by
      by_cases hq : most < n
      · obtain rfl := hk.2 rfl; exact HG.out.over hq l
      · exact HG.out.list hq hk
    have HNM : Hid ((none : Option (List UInt8)).isSome = true → n ≤ most) := fun h => (by cases h)
    clear hb1 hb2 HG hn
    rw [← hstop]; clear hstop
    go_wp2_with (first | (with_reducible show wpList _ _ _ (⟨_, Op.load _ _, _, _, _, _⟩ :: _) _ _; refine wpl_load_one rfl 4 _ rfl rfl (ORA.c1 FA) (by kernel_rfl) ?_) | (with_reducible show wpList _ _ _ (⟨_, Op.store _ _ _, _, _, _, _⟩ :: _) _ _; refine wpl_set_obad rfl _ _ rfl rfl rfl FA ?_; intro _ t1 h2; clear FA; have FA := t1; replace F1 := F1.touch h2 (by show ¬ _ = _; omega); replace ht := ht.add h2 (fun x h => h); clear t1 h2))
    have F5 := RdO.bad FA hs
    clear FA
    generalize hsA : (none : Option (List UInt8)) = stA at *
  case' inr.inl =>
    obtain ⟨rfl, -⟩ := hb2 _ rfl
    have HFIN : Hid (∀ (l : List SeatT) (sk : Option (List UInt8)), Got (manyP seatP n) none l sk → Got (listP most seatP) st l sk) := fun l sk hk => by obtain rfl := hk.2 rfl; exact HG.out.over hq l
    have HNM : Hid ((none : Option (List UInt8)).isSome = true → n ≤ most) := fun h => (by cases h)
    have c1 := decide_eq_true (show (most : Int) < (n : Int) by omega)
    have c2 := decide_eq_true hq
    clear hb1 hb2 HG hn
    rw [← hstop]; clear hstop
    go_wp2_with (first | (with_reducible show wpList _ _ _ (⟨_, Op.load _ _, _, _, _, _⟩ :: _) _ _; refine wpl_load_one rfl 4 _ rfl rfl (ORA.c1 FA) (by kernel_rfl) ?_) | (with_reducible show wpList _ _ _ (⟨_, Op.store _ _ _, _, _, _, _⟩ :: _) _ _; refine wpl_set_obad rfl _ _ rfl rfl rfl FA ?_; intro _ t1 h2; clear FA; have FA := t1; replace F1 := F1.touch h2 (by show ¬ _ = _; omega); replace ht := ht.add h2 (fun x h => h); clear t1 h2))
    have F5 := RdO.bad FA hs
    clear FA c1 c2 hq
    generalize hsA : (none : Option (List UInt8)) = stA at *
  case' inr.inr =>
    obtain ⟨rfl, hr⟩ := hb2 _ rfl
    have HFIN : Hid (∀ (l : List SeatT) (sk : Option (List UInt8)), Got (manyP seatP n) (some r1) l sk → Got (listP most seatP) st l sk) := fun l sk hk => HG.out.list hq hk
    have HNM : Hid ((some r1 : Option (List UInt8)).isSome = true → n ≤ most) := fun h => by omega
    have HRR := hide hr
    have c1 := decide_eq_false (show ¬ (most : Int) < (n : Int) by omega)
    have c2 := decide_eq_false hq
    clear hb1 hb2 HG hn hr
    rw [← hstop]; clear hstop
    go_wp2_with (first | (with_reducible show wpList _ _ _ (⟨_, Op.load _ _, _, _, _, _⟩ :: _) _ _; refine wpl_load_one rfl 4 _ rfl rfl (ORA.c1 FA) (by kernel_rfl) ?_) | (with_reducible show wpList _ _ _ (⟨_, Op.store _ _ _, _, _, _, _⟩ :: _) _ _; refine wpl_set_obad rfl _ _ rfl rfl rfl FA ?_; intro _ t1 h2; clear FA; have FA := t1; replace F1 := F1.touch h2 (by show ¬ _ = _; omega); replace ht := ht.add h2 (fun x h => h); clear t1 h2))
    have F5 := RdO.good FA hs HRR.out
    clear FA c1 c2 hq HRR
    generalize hsA : (some r1 : Option (List UInt8)) = stA at *
  all_goals
    clear hsA
    go_loopw [8, 9] (fun v i wr => ∃ (k : Nat) (l : List SeatT) (sk : Option (List UInt8)), i = .int .u64 k ∧ k ≤ n ∧ k ≤ most ∧ Hid (l.length = k) ∧ Hid (∀ x ∈ l, x.Ok) ∧ OwnR wr w.heap.size 93 67 v (l.map seatCs) [] ∧ Hid (Got (manyP seatP k) stA l sk) ∧ RdO wr g sk ∧ One wr c 82 (.pointer (some ⟨g, 0, none⟩)) ∧ Touch (fun b => b = g) w wr) (fun _ i _ => n - (RowKit.intOf i).toNat)
    case atStart => exact ⟨0, [], stA, rfl, by omega, by omega, hide rfl, hide (by simp), OwnR.nil _ _ _ _, hide (got_none _ _), F5, F1, ht⟩
    case round =>
      clear F1 F5 ht
      obtain ⟨k, l, sk, rfl, hk, hkm, HLL, HOK, O1, HK, F5, F1, ht⟩ := hrel
      obtain ⟨av, cv, hv0⟩ := O1.shape
      obtain ⟨mm, hmm⟩ : ∃ mm, mm = (l.map seatCs).length := ⟨_, rfl⟩
      rw [← hmm] at hv0
      subst hv0
      clear hmm
      cases sk with
      | none =>
        have cI := F5.flag0
        have HFG : Hid (Got (listP most seatP) st l none) := by
          have h1 := Got.stop (k := n - k) HK.out l
          rw [show k + (n - k) = n by omega] at h1
          exact HFIN.out _ _ h1
        have HLM : Hid (l.length ≤ most) := by rw [HLL.out]; exact hide hkm
        by_cases h0 : k < n
        · have c0 := decide_eq_true (show (k : Int) < (n : Int) by omega)
          have c9 := decide_eq_true h0
          clear HC HFIN HNM
          go_wp2_with (with_reducible show wpList _ _ _ (⟨_, Op.load _ _, _, _, _, _⟩ :: _) _ _; refine wpl_load_one rfl 4 _ rfl rfl cI (by kernel_rfl) ?_)
          go_ret
          exact ⟨l, none, _, rfl, HOK.out, HLM.out, O1, F5, HFG.out, ht⟩
        · have c0 := decide_eq_false (show ¬ (k : Int) < (n : Int) by omega)
          have c9 := decide_eq_false h0
          clear HC HFIN HNM
          go_wp2_with (with_reducible show wpList _ _ _ (⟨_, Op.load _ _, _, _, _, _⟩ :: _) _ _; refine wpl_load_one rfl 4 _ rfl rfl cI (by kernel_rfl) ?_)
          go_ret
          exact ⟨l, none, _, rfl, HOK.out, HLM.out, O1, F5, HFG.out, ht⟩
      | some r =>
        have cI := F5.flag1
        by_cases h0 : k < n
        · have hnm : n ≤ most := HNM.out (by cases stA with | none => (have := HK.out.2 rfl; cases this) | some q => rfl)
          have c0 := decide_eq_true (show (k : Int) < (n : Int) by omega)
          have c9 := decide_eq_true h0
          have hkw : IntKind.u64.wrap ((k : Int) + 1) = ((k + 1 : Nat) : Int) := by rw [IntKind.wrap_u64]; omega
          have hsz := ht.size
          go_wp2_with (first | (with_reducible show wpList _ _ _ (⟨_, Op.load _ _, _, _, _, _⟩ :: _) _ _; refine wpl_load_one rfl 4 _ rfl rfl cI (by kernel_rfl) ?_) | (go_at_call 57; refine (HC.out _ _ F1 F5).mono ?_; rintro _ w1 ⟨x, s2, rfl, hx, h1, hg, ht1⟩; clear F5 cI; have F5 := h1; clear h1; have l1 := F1.lt; replace F1 := F1.touch ht1 (by show ¬ _ = _; omega); replace O1 := O1.tg ht1 hgw; replace ht := ht.add ht1 (fun x h => h); clear ht1) | ((with_reducible show wpList _ _ _ (⟨_, Op.buildSlice _ _ _, _, _, _, _⟩ :: _) _ _); refine wpl_row1 rfl seatElem (by decide) _ rfl (v := seatV x) (el := seatCs x) rfl (by simp [seatV, Value.cells]) (seatCs_length hx) (seatCs_one x) ?_; intro _ g9 h9 O9 hb; have l1 := F1.lt; replace F1 := F1.later hb; replace F5 := F5.later hb; replace O1 := O1.later hb; replace ht := ht.behind hb; clear hb) | ((with_reducible show wpList _ _ _ (⟨_, Op.call _, _, _, _, _⟩ :: _) _ _); refine wpl_append_row rfl _ _ seatElem rfl rfl O1 rfl O9.sl O9.2.1 (k + 1) (by rw [List.length_map, HLL.out]; rfl) (by omega) (by omega) (by have := ht.size; omega) ?_; intro a2 c2 w2 O2 ht2 _; replace F5 := F5.touch ht2 (O1.off hgw); replace F1 := F1.touch ht2 (O1.off hcw); replace ht := ht.trans ht2 (fun b hb => .inr (O1.ge b hb)); clear O1 O9 ht2))
          go_roundw
          case rel => exact ⟨k + 1, l ++ [x], s2, by simp, by omega, by omega, hide (by rw [List.length_append, HLL.out]; rfl), hide (ok_snoc HOK.out hx), by rw [List.map_append]; exact O2, hide (HK.out.snoc hg), F5, F1, ht⟩
          case measure => simp [RowKit.intOf]; omega
        · have c0 := decide_eq_false (show ¬ (k : Int) < (n : Int) by omega)
          have c9 := decide_eq_false h0
          have HFG : Hid (Got (listP most seatP) st l (some r)) := by
            have h1 := HK.out
            rw [show k = n by omega] at h1
            exact HFIN.out _ _ h1
          have HLM : Hid (l.length ≤ most) := by rw [HLL.out]; exact hide hkm
          clear HC HFIN HNM
          go_wp2_with (with_reducible show wpList _ _ _ (⟨_, Op.load _ _, _, _, _, _⟩ :: _) _ _; refine wpl_load_one rfl 4 _ rfl rfl cI (by kernel_rfl) ?_)
          go_ret
          exact ⟨l, some r, _, rfl, HOK.out, HLM.out, O1, F5, HFG.out, ht⟩
set_option maxRecDepth 100000 in
set_option maxHeartbeats 6400000 in
theorem otakeTrust (c g : Nat) (st : Option (List UInt8)) (most : Nat) (w : World) (F1 : One w c 82 (.pointer (some ⟨g, 0, none⟩))) (F5 : RdO w g st) (hcg : c ≠ g) (hm : most ≤ 1000) :
    Calls Try.prog 58 #[.pointer (some ⟨g, 0, none⟩), .int .u64 most, .func (.func 59) #[] #[.pointer (some ⟨c, 0, none⟩)]] w fun e w' => ∃ (l : List TrustT) (st' : Option (List UInt8)) (v : Value), e = .returned v ∧ (∀ x ∈ l, x.Ok) ∧ l.length ≤ most ∧ OwnR w' w.heap.size 97 64 v (l.map trustCs) [] ∧ RdO w' g st' ∧ Got (listP most trustP) st l st' ∧ Touch (fun b => b = g) w w' := by
  have HC := hide (fun (st : Option (List UInt8)) (w : World) (h1 : One w c 82 (.pointer (some ⟨g, 0, none⟩))) (h5 : RdO w g st) => rdOTrust c g st w h1 h5 hcg)
  have HN := hide (fun (w : World) (h5 : RdO w g st) => rdONumber g st w h5)
  have ht := Touch.refl (fun b => b = g) w
  have hgw := F5.lt
  have hcw := F1.lt
  go_enter Try.func58, Try.ntmps58
  go_wp2_with (first | (go_at_call 52; refine (HN.out _ F5).mono ?_; rintro _ w1 ⟨n, st1, rfl, hn, h1, hg, ht1⟩; clear F5; have F5 := h1; clear h1; replace F1 := F1.touch ht1 (by show ¬ _ = _; omega); replace ht := ht.add ht1 (fun x h => h); clear ht1) | (with_reducible show wpList _ _ _ (⟨_, Op.load 4 _, _, _, _, _⟩ :: _) _ _; generalize hstop : wpList _ _ _ _ _ _ = Gstop))
  have HG := hide hg
  clear hg HN
  obtain ⟨s, bb, FA, hs, hb1, hb2⟩ := F5
  rcases otri st1 most n with rfl | ⟨r1, rfl, hq⟩ | ⟨r1, rfl, hq⟩
  case' inl =>
    obtain rfl := hb1 rfl
    have HFIN : Hid (∀ (l : List TrustT) (sk : Option (List UInt8)), Got (manyP trustP n) none l sk → Got (listP most trustP) st l sk) := fun l sk hk => by
      by_cases hq : most < n
      · obtain rfl := hk.2 rfl; exact HG.out.over hq l
      · exact HG.out.list hq hk
    have HNM : Hid ((none : Option (List UInt8)).isSome = true → n ≤ most) := fun h => (by cases h)
    clear hb1 hb2 HG hn
    rw [← hstop]; clear hstop
    go_wp2_with (first | (with_reducible show wpList _ _ _ (⟨_, Op.load _ _, _, _, _, _⟩ :: _) _ _; refine wpl_load_one rfl 4 _ rfl rfl (ORA.c1 FA) (by kernel_rfl) ?_) | (with_reducible show wpList _ _ _ (⟨_, Op.store _ _ _, _, _, _, _⟩ :: _) _ _; refine wpl_set_obad rfl _ _ rfl rfl rfl FA ?_; intro _ t1 h2; clear FA; have FA := t1; replace F1 := F1.touch h2 (by show ¬ _ = _; omega); replace ht := ht.add h2 (fun x h => h); clear t1 h2))
    have F5 := RdO.bad FA hs
    clear FA
    generalize hsA : (none : Option (List UInt8)) = stA at *
  case' inr.inl =>
    obtain ⟨rfl, -⟩ := hb2 _ rfl
    have HFIN : Hid (∀ (l : List TrustT) (sk : Option (List UInt8)), Got (manyP trustP n) none l sk → Got (listP most trustP) st l sk) := fun l sk hk => by obtain rfl := hk.2 rfl; exact HG.out.over hq l
    have HNM : Hid ((none : Option (List UInt8)).isSome = true → n ≤ most) := fun h => (by cases h)
    have c1 := decide_eq_true (show (most : Int) < (n : Int) by omega)
    have c2 := decide_eq_true hq
    clear hb1 hb2 HG hn
    rw [← hstop]; clear hstop
    go_wp2_with (first | (with_reducible show wpList _ _ _ (⟨_, Op.load _ _, _, _, _, _⟩ :: _) _ _; refine wpl_load_one rfl 4 _ rfl rfl (ORA.c1 FA) (by kernel_rfl) ?_) | (with_reducible show wpList _ _ _ (⟨_, Op.store _ _ _, _, _, _, _⟩ :: _) _ _; refine wpl_set_obad rfl _ _ rfl rfl rfl FA ?_; intro _ t1 h2; clear FA; have FA := t1; replace F1 := F1.touch h2 (by show ¬ _ = _; omega); replace ht := ht.add h2 (fun x h => h); clear t1 h2))
    have F5 := RdO.bad FA hs
    clear FA c1 c2 hq
    generalize hsA : (none : Option (List UInt8)) = stA at *
  case' inr.inr =>
    obtain ⟨rfl, hr⟩ := hb2 _ rfl
    have HFIN : Hid (∀ (l : List TrustT) (sk : Option (List UInt8)), Got (manyP trustP n) (some r1) l sk → Got (listP most trustP) st l sk) := fun l sk hk => HG.out.list hq hk
    have HNM : Hid ((some r1 : Option (List UInt8)).isSome = true → n ≤ most) := fun h => by omega
    have HRR := hide hr
    have c1 := decide_eq_false (show ¬ (most : Int) < (n : Int) by omega)
    have c2 := decide_eq_false hq
    clear hb1 hb2 HG hn hr
    rw [← hstop]; clear hstop
    go_wp2_with (first | (with_reducible show wpList _ _ _ (⟨_, Op.load _ _, _, _, _, _⟩ :: _) _ _; refine wpl_load_one rfl 4 _ rfl rfl (ORA.c1 FA) (by kernel_rfl) ?_) | (with_reducible show wpList _ _ _ (⟨_, Op.store _ _ _, _, _, _, _⟩ :: _) _ _; refine wpl_set_obad rfl _ _ rfl rfl rfl FA ?_; intro _ t1 h2; clear FA; have FA := t1; replace F1 := F1.touch h2 (by show ¬ _ = _; omega); replace ht := ht.add h2 (fun x h => h); clear t1 h2))
    have F5 := RdO.good FA hs HRR.out
    clear FA c1 c2 hq HRR
    generalize hsA : (some r1 : Option (List UInt8)) = stA at *
  all_goals
    clear hsA
    go_loopw [8, 9] (fun v i wr => ∃ (k : Nat) (l : List TrustT) (sk : Option (List UInt8)), i = .int .u64 k ∧ k ≤ n ∧ k ≤ most ∧ Hid (l.length = k) ∧ Hid (∀ x ∈ l, x.Ok) ∧ OwnR wr w.heap.size 97 64 v (l.map trustCs) [] ∧ Hid (Got (manyP trustP k) stA l sk) ∧ RdO wr g sk ∧ One wr c 82 (.pointer (some ⟨g, 0, none⟩)) ∧ Touch (fun b => b = g) w wr) (fun _ i _ => n - (RowKit.intOf i).toNat)
    case atStart => exact ⟨0, [], stA, rfl, by omega, by omega, hide rfl, hide (by simp), OwnR.nil _ _ _ _, hide (got_none _ _), F5, F1, ht⟩
    case round =>
      clear F1 F5 ht
      obtain ⟨k, l, sk, rfl, hk, hkm, HLL, HOK, O1, HK, F5, F1, ht⟩ := hrel
      obtain ⟨av, cv, hv0⟩ := O1.shape
      obtain ⟨mm, hmm⟩ : ∃ mm, mm = (l.map trustCs).length := ⟨_, rfl⟩
      rw [← hmm] at hv0
      subst hv0
      clear hmm
      cases sk with
      | none =>
        have cI := F5.flag0
        have HFG : Hid (Got (listP most trustP) st l none) := by
          have h1 := Got.stop (k := n - k) HK.out l
          rw [show k + (n - k) = n by omega] at h1
          exact HFIN.out _ _ h1
        have HLM : Hid (l.length ≤ most) := by rw [HLL.out]; exact hide hkm
        by_cases h0 : k < n
        · have c0 := decide_eq_true (show (k : Int) < (n : Int) by omega)
          have c9 := decide_eq_true h0
          clear HC HFIN HNM
          go_wp2_with (with_reducible show wpList _ _ _ (⟨_, Op.load _ _, _, _, _, _⟩ :: _) _ _; refine wpl_load_one rfl 4 _ rfl rfl cI (by kernel_rfl) ?_)
          go_ret
          exact ⟨l, none, _, rfl, HOK.out, HLM.out, O1, F5, HFG.out, ht⟩
        · have c0 := decide_eq_false (show ¬ (k : Int) < (n : Int) by omega)
          have c9 := decide_eq_false h0
          clear HC HFIN HNM
          go_wp2_with (with_reducible show wpList _ _ _ (⟨_, Op.load _ _, _, _, _, _⟩ :: _) _ _; refine wpl_load_one rfl 4 _ rfl rfl cI (by kernel_rfl) ?_)
          go_ret
          exact ⟨l, none, _, rfl, HOK.out, HLM.out, O1, F5, HFG.out, ht⟩
      | some r =>
        have cI := F5.flag1
        by_cases h0 : k < n
        · have hnm : n ≤ most := HNM.out (by cases stA with | none => (have := HK.out.2 rfl; cases this) | some q => rfl)
          have c0 := decide_eq_true (show (k : Int) < (n : Int) by omega)
          have c9 := decide_eq_true h0
          have hkw : IntKind.u64.wrap ((k : Int) + 1) = ((k + 1 : Nat) : Int) := by rw [IntKind.wrap_u64]; omega
          have hsz := ht.size
          go_wp2_with (first | (with_reducible show wpList _ _ _ (⟨_, Op.load _ _, _, _, _, _⟩ :: _) _ _; refine wpl_load_one rfl 4 _ rfl rfl cI (by kernel_rfl) ?_) | (go_at_call 59; refine (HC.out _ _ F1 F5).mono ?_; rintro _ w1 ⟨x, s2, rfl, hx, h1, hg, ht1⟩; clear F5 cI; have F5 := h1; clear h1; have l1 := F1.lt; replace F1 := F1.touch ht1 (by show ¬ _ = _; omega); replace O1 := O1.tg ht1 hgw; replace ht := ht.add ht1 (fun x h => h); clear ht1) | ((with_reducible show wpList _ _ _ (⟨_, Op.buildSlice _ _ _, _, _, _, _⟩ :: _) _ _); refine wpl_row1 rfl trustElem (by decide) _ rfl (v := trustV x) (el := trustCs x) rfl (by simp [trustV, Value.cells]) (trustCs_length hx) (trustCs_one x) ?_; intro _ g9 h9 O9 hb; have l1 := F1.lt; replace F1 := F1.later hb; replace F5 := F5.later hb; replace O1 := O1.later hb; replace ht := ht.behind hb; clear hb) | ((with_reducible show wpList _ _ _ (⟨_, Op.call _, _, _, _, _⟩ :: _) _ _); refine wpl_append_row rfl _ _ trustElem rfl rfl O1 rfl O9.sl O9.2.1 (k + 1) (by rw [List.length_map, HLL.out]; rfl) (by omega) (by omega) (by have := ht.size; omega) ?_; intro a2 c2 w2 O2 ht2 _; replace F5 := F5.touch ht2 (O1.off hgw); replace F1 := F1.touch ht2 (O1.off hcw); replace ht := ht.trans ht2 (fun b hb => .inr (O1.ge b hb)); clear O1 O9 ht2))
          go_roundw
          case rel => exact ⟨k + 1, l ++ [x], s2, by simp, by omega, by omega, hide (by rw [List.length_append, HLL.out]; rfl), hide (ok_snoc HOK.out hx), by rw [List.map_append]; exact O2, hide (HK.out.snoc hg), F5, F1, ht⟩
          case measure => simp [RowKit.intOf]; omega
        · have c0 := decide_eq_false (show ¬ (k : Int) < (n : Int) by omega)
          have c9 := decide_eq_false h0
          have HFG : Hid (Got (listP most trustP) st l (some r)) := by
            have h1 := HK.out
            rw [show k = n by omega] at h1
            exact HFIN.out _ _ h1
          have HLM : Hid (l.length ≤ most) := by rw [HLL.out]; exact hide hkm
          clear HC HFIN HNM
          go_wp2_with (with_reducible show wpList _ _ _ (⟨_, Op.load _ _, _, _, _, _⟩ :: _) _ _; refine wpl_load_one rfl 4 _ rfl rfl cI (by kernel_rfl) ?_)
          go_ret
          exact ⟨l, some r, _, rfl, HOK.out, HLM.out, O1, F5, HFG.out, ht⟩
end Go.Proofs.Ytbbfnpfkbbpjgaa
