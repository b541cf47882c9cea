/- deed.Take: the closure that takes a thing that is spent. -/
import Derived.Test.YtbbfnpfkbbpjgaaGreatQHTakeW
import Derived.Test.YtbbfnpfkbbpjgaaGreatQHRowE
import Derived.Test.YtbbfnpfkbbpjgaaGreatQHBlkM
import Derived.Test.YtbbfnpfkbbpjgaaGreatQHElCert
namespace Go.Proofs.YtbbfnpfkbbpjgaaGreat
open Go.RowKit Go.Lib
set_option linter.unusedVariables false
set_option linter.unusedSimpArgs false
set_option maxRecDepth 100000
set_option maxHeartbeats 4000000
theorem inBuilt (l : List UInt8) (n : Nat) (h : l.length = 32) : Tryz.prog.built 80 [(0, hv l), (1, .int .u64 n)] = some (inCs ⟨l, n⟩).toArray := by
 obtain ⟨x0, x1, x2, x3, x4, x5, x6, x7, x8, x9, x10, x11, x12, x13, x14, x15, x16, x17, x18, x19, x20, x21, x22, x23, x24, x25, x26, x27, x28, x29, x30, x31, rfl⟩ := q5f h
 kernel_rfl
theorem rdIn (c g : Nat) (st : Option (List UInt8)) (w : World) (F1 : One w c 133 (.pointer (some ⟨g, 0, none⟩))) (F5 : RdD w g st) (hcg : c ≠ g) :
  Calls Tryz.prog 96 #[.pointer (some ⟨c, 0, none⟩)] w fun e w' => ∃ (x : InT) (st' : Option (List UInt8)), e = .returned (inV x) ∧ x.Ok ∧ RdD w' g st' ∧ Got inP st x st' ∧ Touch (fun b => b = g) w w' := by
 have ht := Touch.refl (fun b => b = g) w
 go_enter Tryz.func96, Tryz.ntmps96
 go_wp2_with (first | (with_reducible refine w3g ?_; refine j3u rfl rfl ?_; intro _ g2 h2 F2 hb; have l5 := F5.lt; have l1 := F1.lt; replace F1 := F1.later hb; replace F5 := F5.later hb; replace ht := ht.behind hb; clear hb) | (with_reducible show Code.wp _ (Code.region _ _ true) _ _ _; (try simp only [pS]); fail))
 (try simp only [pS])
 have gg2 : g < g2 := by omega
 have wg2 : w.heap.size ≤ g2 := h2
 refine q1m (fun x => One x c 133 (.pointer (some ⟨g, 0, none⟩))) (.one [0, 2] 1 (.one [] 3 (.bar [4] 5 (.stop [])))) (by kernel_rfl) (by kernel_rfl) (by kernel_rfl) (by decide) (fun _ _ h hb => h.later hb) F1 ?_
 intro _ hb0 _ _
 replace F1 := F1.later hb0
 replace F2 := F2.later hb0
 replace F5 := F5.later hb0
 replace ht := ht.behind hb0
 clear hb0
 refine q0w ?_
 simp only [pickOps, opAt, List.getElem?_cons_succ, List.getElem?_cons_zero, List.nil_append, List.cons_append]
 repeat ((go_big_quiet_want; first | ((with_reducible refine w28g ?_); first | (refine q1u 133 _ rfl rfl (fun w hw => One.cell (Kl.out hw)) (by kernel_rfl) ?_; simp only [pS]; go_big_quiet_on))))
 refine wpQuiet_nil ?_
 intro _ hb _
 replace F1 := F1.later hb
 replace F2 := F2.later hb
 replace F5 := F5.later hb
 replace ht := ht.behind hb
 have q2 := F2.lt
 have q1 := F1.lt
 clear hb
 go_wp2_with (go_at_call 97; refine (rdHash g _ _ F5).mono ?_; rintro _ _ ⟨l1, s1, rfl, hl, h1, hg, ht1⟩; clear F5; have F5 := h1; clear h1; replace F1 := F1.touch ht1 (by show ¬ _ = _; omega); replace F2 := F2.touch ht1 (by show ¬ _ = _; omega); replace ht := ht.add ht1 (fun x h => h); have G1 := hide hg; have L1 := hide hl; clear hg hl ht1 q1 q2)
 refine q1e (fun _ _ h hb => h.later hb) F1 ?_
 refine q0w ?_
 simp only [pickOps, opAt, List.getElem?_cons_succ, List.getElem?_cons_zero, List.nil_append, List.cons_append]
 repeat (fail)
 refine wpQuiet_nil ?_
 intro _ hb _
 replace F1 := F1.later hb
 replace F2 := F2.later hb
 replace F5 := F5.later hb
 replace ht := ht.behind hb
 have q2 := F2.lt
 have q1 := F1.lt
 clear hb
 go_wp2_with (go_at_call 98; refine (rdNumber g _ _ F5).mono ?_; rintro _ _ ⟨n2, s2, rfl, hl, h1, hg, ht1⟩; clear F5; have F5 := h1; clear h1; replace F1 := F1.touch ht1 (by show ¬ _ = _; omega); replace F2 := F2.touch ht1 (by show ¬ _ = _; omega); replace ht := ht.add ht1 (fun x h => h); have G2 := hide hg; have L2 := hide hl; clear hg hl ht1 q1 q2)
 refine q1e (fun _ _ h hb => h.later hb) F1 ?_
 have HB := hide (inBuilt l1 n2 L1.out)
 have OX : Hid (InT.Ok ⟨l1, n2⟩) := ⟨L1.out, L2.out⟩
 have GX : Hid (Got inP st ⟨l1, n2⟩ s2) := G1.out.bind (G2.out.last (f := fun n => (⟨l1, n⟩ : InT)))
 refine q2u ?_
 simp only [pickOps, opAt, List.getElem?_cons_succ, List.getElem?_cons_zero, List.nil_append, List.cons_append]
 repeat ((go_big_quiet_want; first | ((with_reducible refine w32g ?_); refine q6h _ _ rfl (inCs ⟨l1, n2⟩).toArray (by simp only [List.map_toArray, List.map_cons, List.map_nil]; exact HB.out) ?_; simp only [pS]; go_big_quiet_on)))
 refine wpQuiet_nil ?_
 intro _ hb _
 replace F2 := F2.later hb
 replace F5 := F5.later hb
 replace ht := ht.behind hb
 clear hb
 refine j1h rfl _ _ rfl rfl rfl OX.out F2 ?_
 intro _ t1 ht2
 replace F5 := F5.touch ht2 (by show ¬ _ = _; omega)
 replace ht := ht.trans ht2 (fun x hx => .inr (by have : x = g2 := hx; omega))
 clear F2
 have F2 := t1
 clear t1 ht2
 refine q1v ?_
 (try simp only [pS])
 refine q2l ?_
 simp only [pickOps, opAt, List.getElem?_cons_succ, List.getElem?_cons_zero, List.nil_append, List.cons_append]
 repeat (fail)
 refine wpQuiet_nil ?_
 intro _ hb _
 replace F2 := F2.later hb
 replace F5 := F5.later hb
 replace ht := ht.behind hb
 clear hb
 go_wp2_with fail
 exact bodyPost_ret (ret_in rfl _ _ rfl F2) rfl ⟨⟨l1, n2⟩, _, rfl, OX.out, F5, GX.out, ht⟩
theorem takenIn (c g : Nat) (st : Option (List UInt8)) (most : Nat) (w : World) (F1 : One w c 133 (.pointer (some ⟨g, 0, none⟩))) (F5 : RdD w g st) (hcg : c ≠ g) (hm : most ≤ 8) :
  Calls Tryz.prog 95 #[.pointer (some ⟨g, 0, none⟩), .int .i64 most, .func (.func 96) #[] #[.pointer (some ⟨c, 0, none⟩)]] w fun e w' => ∃ (l : List InT) (st' : Option (List UInt8)) (v : Value), e = .returned v ∧ (∀ x ∈ l, x.Ok) ∧ l.length ≤ most ∧ OwnR w' w.heap.size 80 33 v (l.map inCs) [] ∧ RdD w' g st' ∧ Got (listP most inP) st l st' ∧ Touch (fun b => b = g) w w' := by
 have HC := hide (fun (st : Option (List UInt8)) (w : World) (h1 : One w c 133 (.pointer (some ⟨g, 0, none⟩))) (h5 : RdD w g st) => rdIn c g st w h1 h5 hcg)
 have HN := hide (fun (w : World) (h5 : RdD w g st) => rdNumber g st w h5)
 have ht := Touch.refl (fun b => b = g) w
 have hgw := F5.lt
 have hcw := F1.lt
 have wm : IntKind.u64.wrap (most : Int) = (most : Int) := by rw [IntKind.wrap_u64]; omega
 go_enter Tryz.func95, Tryz.ntmps95
 go_wp2_with (first | (go_at_call 98; refine (HN.out _ F5).mono ?_; rintro _ w1 ⟨n, st1, rfl, hn, h1, hg, ht1⟩; clear F5; have F5 := h1; clear h1; replace F1 := F1.touch ht1 (by show ¬ _ = _; omega); replace ht := ht.add ht1 (fun x h => h); clear ht1) | (with_reducible refine w17g ?_; generalize hstop : wpList _ _ _ _ _ _ = Gstop))
 by_cases hq : most < n
 ·have c1 := decide_eq_true (show (most : Int) < (n : Int) by omega)
  obtain ⟨s, bb, FA, hs, _, _⟩ := F5
  have HG := hide (hg.over (p := inP) hq ([] : List InT))
  have c2 := decide_eq_true hq
  clear F1 hg hn HC HN
  rw [← hstop]; clear hstop
  go_wp2_with (with_reducible refine w4g ?_; refine q2y rfl _ _ rfl rfl rfl FA ?_; intro _ t1 h2; clear FA; have FA := t1; replace ht := ht.add h2 (fun x h => h); clear t1 h2)
  go_ret
  exact ⟨[], none, _, rfl, by simp, by simp, OwnR.nil _ _ _ _, RdD.bad FA hs, HG.out, ht⟩
 ·have c1 := decide_eq_false (show ¬ (most : Int) < (n : Int) by omega)
  have HG := hide hg
  have hgw2 := F5.lt
  have hqn : n ≤ 8 := by omega
  have c2 := decide_eq_false hq
  clear hg hn HN
  rw [← hstop]; clear hstop
  go_wp2_with fail
  go_loopw [8, 19] (fun v i wr => ∃ (k : Nat) (l : List InT) (sk : Option (List UInt8)), i = .int .u64 k ∧ k ≤ n ∧ l.length = k ∧ (∀ x ∈ l, x.Ok) ∧ OwnR wr w.heap.size 80 33 v (l.map inCs) [] ∧ Hid (Got (manyP inP k) st1 l sk) ∧ RdD wr g sk ∧ One wr c 133 (.pointer (some ⟨g, 0, none⟩)) ∧ Touch (fun b => b = g) w wr) (fun _ i _ => n - (RowKit.intOf i).toNat)
  case atStart => exact ⟨0, [], st1, rfl, by omega, rfl, by simp, OwnR.nil _ _ _ _, hide (q5k _ _), F5, F1, ht⟩
  case round =>
   clear F1 F5 ht
   obtain ⟨k, l, sk, rfl, hk, hl, hok, O1, HK, F5, F1, ht⟩ := hrel
   by_cases hlt : k < n
   ·have hkw : IntKind.u64.wrap ((k : Int) + 1) = ((k + 1 : Nat) : Int) := by rw [IntKind.wrap_u64]; omega
    have hsz := ht.size
    have HOK := hide hok
    have HLL := hide hl
    clear hok hl c1 c2 HG
    go_wp2_with (first | (go_at_call 96; refine (HC.out _ _ F1 F5).mono ?_; rintro _ w1 ⟨x, s2, rfl, hx, h1, hg, ht1⟩; clear F5; have F5 := h1; clear h1; have l1 := F1.lt; replace F1 := F1.touch ht1 (by show ¬ _ = _; omega); replace O1 := O1.tg ht1 hgw; replace ht := ht.add ht1 (fun x h => h); clear ht1) | ((with_reducible refine w7g ?_); refine q2q rfl inElem (by decide) _ rfl (v := inV x) (el := inCs x) rfl (by simp [inV, Value.cells]) (q4o hx) (j2f x) ?_; intro _ g9 h9 O9 hb; have l1 := F1.lt; replace F1 := F1.later hb; replace F5 := F5.later hb; replace O1 := O1.later hb; replace ht := ht.behind hb; clear hb) | ((with_reducible refine w15g ?_); refine q0s rfl _ _ inElem rfl rfl O1 rfl O9.sl O9.2.1 (k + 1) (by rw [List.length_map, HLL.out]; rfl) (by omega) (by omega) (by have := ht.size; omega) ?_; intro a2 c2 w2 O2 ht2 _; replace F5 := F5.touch ht2 (O1.off hgw); replace F1 := F1.touch ht2 (O1.off hcw); replace ht := ht.trans ht2 (fun b hb => .inr (O1.ge b hb)); clear O1 O9 ht2))
    go_roundw
    case rel => exact ⟨k + 1, l ++ [x], s2, by simp, by omega, by simp [HLL.out], q6u HOK.out hx, by rw [List.map_append]; exact O2, hide (HK.out.snoc hg), F5, F1, ht⟩
    case measure => simp [RowKit.intOf]; omega
   ·obtain rfl : n = k := by omega
    have HOK := hide hok
    have HLL := hide hl
    clear hok hl
    obtain ⟨av, cv, rfl⟩ := O1.shape
    go_wp2_with fail
    go_ret
    exact ⟨l, sk, _, rfl, HOK.out, by rw [HLL.out]; omega, O1, F5, HG.out.list hq HK.out, ht⟩
theorem outBuilt (l m : List UInt8) (n : Nat) (h : l.length = 32) (k : m.length = 32) : Tryz.prog.built 84 [(0, hv l), (1, hv m), (2, .int .u64 n)] = some (outCs ⟨l, m, n⟩).toArray := by
 obtain ⟨x0, x1, x2, x3, x4, x5, x6, x7, x8, x9, x10, x11, x12, x13, x14, x15, x16, x17, x18, x19, x20, x21, x22, x23, x24, x25, x26, x27, x28, x29, x30, x31, rfl⟩ := q5f h
 obtain ⟨y0, y1, y2, y3, y4, y5, y6, y7, y8, y9, y10, y11, y12, y13, y14, y15, y16, y17, y18, y19, y20, y21, y22, y23, y24, y25, y26, y27, y28, y29, y30, y31, rfl⟩ := q5f k
 kernel_rfl
theorem rdOut (c g : Nat) (st : Option (List UInt8)) (w : World) (F1 : One w c 133 (.pointer (some ⟨g, 0, none⟩))) (F5 : RdD w g st) (hcg : c ≠ g) :
  Calls Tryz.prog 100 #[.pointer (some ⟨c, 0, none⟩)] w fun e w' => ∃ (x : OutT) (st' : Option (List UInt8)), e = .returned (outV x) ∧ x.Ok ∧ RdD w' g st' ∧ Got outP st x st' ∧ Touch (fun b => b = g) w w' := by
 have ht := Touch.refl (fun b => b = g) w
 go_enter Tryz.func100, Tryz.ntmps100
 go_wp2_with (first | (with_reducible refine w3g ?_; refine j1j rfl rfl ?_; intro _ g2 h2 F2 hb; have l5 := F5.lt; have l1 := F1.lt; replace F1 := F1.later hb; replace F5 := F5.later hb; replace ht := ht.behind hb; clear hb) | (with_reducible show Code.wp _ (Code.region _ _ true) _ _ _; (try simp only [pS]); fail))
 (try simp only [pS])
 have gg2 : g < g2 := by omega
 have wg2 : w.heap.size ≤ g2 := h2
 refine q1m (fun x => One x c 133 (.pointer (some ⟨g, 0, none⟩))) (.one [0, 2, 4] 1 (.one [] 3 (.one [] 5 (.bar [6] 7 (.stop []))))) (by kernel_rfl) (by kernel_rfl) (by kernel_rfl) (by decide) (fun _ _ h hb => h.later hb) F1 ?_
 intro _ hb0 _ _
 replace F1 := F1.later hb0
 replace F2 := F2.later hb0
 replace F5 := F5.later hb0
 replace ht := ht.behind hb0
 clear hb0
 refine q0w ?_
 simp only [pickOps, opAt, List.getElem?_cons_succ, List.getElem?_cons_zero, List.nil_append, List.cons_append]
 repeat ((go_big_quiet_want; first | ((with_reducible refine w28g ?_); first | (refine q1u 133 _ rfl rfl (fun w hw => One.cell (Kl.out hw)) (by kernel_rfl) ?_; simp only [pS]; go_big_quiet_on))))
 refine wpQuiet_nil ?_
 intro _ hb _
 replace F1 := F1.later hb
 replace F2 := F2.later hb
 replace F5 := F5.later hb
 replace ht := ht.behind hb
 have q2 := F2.lt
 have q1 := F1.lt
 clear hb
 go_wp2_with (go_at_call 97; refine (rdHash g _ _ F5).mono ?_; rintro _ _ ⟨l1, s1, rfl, hl, h1, hg, ht1⟩; clear F5; have F5 := h1; clear h1; replace F1 := F1.touch ht1 (by show ¬ _ = _; omega); replace F2 := F2.touch ht1 (by show ¬ _ = _; omega); replace ht := ht.add ht1 (fun x h => h); have G1 := hide hg; have L1 := hide hl; clear hg hl ht1 q1 q2)
 refine q1e (fun _ _ h hb => h.later hb) F1 ?_
 refine q0w ?_
 simp only [pickOps, opAt, List.getElem?_cons_succ, List.getElem?_cons_zero, List.nil_append, List.cons_append]
 repeat (fail)
 refine wpQuiet_nil ?_
 intro _ hb _
 replace F1 := F1.later hb
 replace F2 := F2.later hb
 replace F5 := F5.later hb
 replace ht := ht.behind hb
 have q2 := F2.lt
 have q1 := F1.lt
 clear hb
 go_wp2_with (go_at_call 97; refine (rdHash g _ _ F5).mono ?_; rintro _ _ ⟨l2, s2, rfl, hl, h1, hg, ht1⟩; clear F5; have F5 := h1; clear h1; replace F1 := F1.touch ht1 (by show ¬ _ = _; omega); replace F2 := F2.touch ht1 (by show ¬ _ = _; omega); replace ht := ht.add ht1 (fun x h => h); have G2 := hide hg; have L2 := hide hl; clear hg hl ht1 q1 q2)
 refine q1e (fun _ _ h hb => h.later hb) F1 ?_
 refine q0w ?_
 simp only [pickOps, opAt, List.getElem?_cons_succ, List.getElem?_cons_zero, List.nil_append, List.cons_append]
 repeat (fail)
 refine wpQuiet_nil ?_
 intro _ hb _
 replace F1 := F1.later hb
 replace F2 := F2.later hb
 replace F5 := F5.later hb
 replace ht := ht.behind hb
 have q2 := F2.lt
 have q1 := F1.lt
 clear hb
 go_wp2_with (go_at_call 98; refine (rdNumber g _ _ F5).mono ?_; rintro _ _ ⟨n3, s3, rfl, hl, h1, hg, ht1⟩; clear F5; have F5 := h1; clear h1; replace F1 := F1.touch ht1 (by show ¬ _ = _; omega); replace F2 := F2.touch ht1 (by show ¬ _ = _; omega); replace ht := ht.add ht1 (fun x h => h); have G3 := hide hg; have L3 := hide hl; clear hg hl ht1 q1 q2)
 refine q1e (fun _ _ h hb => h.later hb) F1 ?_
 have HB := hide (outBuilt l1 l2 n3 L1.out L2.out)
 have OX : Hid (OutT.Ok ⟨l1, l2, n3⟩) := ⟨L1.out, L2.out, L3.out⟩
 have GX : Hid (Got outP st ⟨l1, l2, n3⟩ s3) := G1.out.bind (G2.out.bind (G3.out.last (f := fun n => (⟨l1, l2, n⟩ : OutT))))
 refine q2u ?_
 simp only [pickOps, opAt, List.getElem?_cons_succ, List.getElem?_cons_zero, List.nil_append, List.cons_append]
 repeat ((go_big_quiet_want; first | ((with_reducible refine w32g ?_); refine q6h _ _ rfl (outCs ⟨l1, l2, n3⟩).toArray (by simp only [List.map_toArray, List.map_cons, List.map_nil]; exact HB.out) ?_; simp only [pS]; go_big_quiet_on)))
 refine wpQuiet_nil ?_
 intro _ hb _
 replace F2 := F2.later hb
 replace F5 := F5.later hb
 replace ht := ht.behind hb
 clear hb
 refine q9a rfl _ _ rfl rfl rfl OX.out F2 ?_
 intro _ t1 ht2
 replace F5 := F5.touch ht2 (by show ¬ _ = _; omega)
 replace ht := ht.trans ht2 (fun x hx => .inr (by have : x = g2 := hx; omega))
 clear F2
 have F2 := t1
 clear t1 ht2
 refine q1v ?_
 (try simp only [pS])
 refine q2l ?_
 simp only [pickOps, opAt, List.getElem?_cons_succ, List.getElem?_cons_zero, List.nil_append, List.cons_append]
 repeat (fail)
 refine wpQuiet_nil ?_
 intro _ hb _
 replace F2 := F2.later hb
 replace F5 := F5.later hb
 replace ht := ht.behind hb
 clear hb
 go_wp2_with fail
 exact bodyPost_ret (z1n rfl _ _ rfl F2) rfl ⟨⟨l1, l2, n3⟩, _, rfl, OX.out, F5, GX.out, ht⟩
theorem takenOut (c g : Nat) (st : Option (List UInt8)) (most : Nat) (w : World) (F1 : One w c 133 (.pointer (some ⟨g, 0, none⟩))) (F5 : RdD w g st) (hcg : c ≠ g) (hm : most ≤ 8) :
  Calls Tryz.prog 99 #[.pointer (some ⟨g, 0, none⟩), .int .i64 most, .func (.func 100) #[] #[.pointer (some ⟨c, 0, none⟩)]] w fun e w' => ∃ (l : List OutT) (st' : Option (List UInt8)) (v : Value), e = .returned v ∧ (∀ x ∈ l, x.Ok) ∧ l.length ≤ most ∧ OwnR w' w.heap.size 84 65 v (l.map outCs) [] ∧ RdD w' g st' ∧ Got (listP most outP) st l st' ∧ Touch (fun b => b = g) w w' := by
 have HC := hide (fun (st : Option (List UInt8)) (w : World) (h1 : One w c 133 (.pointer (some ⟨g, 0, none⟩))) (h5 : RdD w g st) => rdOut c g st w h1 h5 hcg)
 have HN := hide (fun (w : World) (h5 : RdD w g st) => rdNumber g st w h5)
 have ht := Touch.refl (fun b => b = g) w
 have hgw := F5.lt
 have hcw := F1.lt
 have wm : IntKind.u64.wrap (most : Int) = (most : Int) := by rw [IntKind.wrap_u64]; omega
 go_enter Tryz.func99, Tryz.ntmps99
 go_wp2_with (first | (go_at_call 98; refine (HN.out _ F5).mono ?_; rintro _ w1 ⟨n, st1, rfl, hn, h1, hg, ht1⟩; clear F5; have F5 := h1; clear h1; replace F1 := F1.touch ht1 (by show ¬ _ = _; omega); replace ht := ht.add ht1 (fun x h => h); clear ht1) | (with_reducible refine w17g ?_; generalize hstop : wpList _ _ _ _ _ _ = Gstop))
 by_cases hq : most < n
 ·have c1 := decide_eq_true (show (most : Int) < (n : Int) by omega)
  obtain ⟨s, bb, FA, hs, _, _⟩ := F5
  have HG := hide (hg.over (p := outP) hq ([] : List OutT))
  have c2 := decide_eq_true hq
  clear F1 hg hn HC HN
  rw [← hstop]; clear hstop
  go_wp2_with (with_reducible refine w4g ?_; refine q2y rfl _ _ rfl rfl rfl FA ?_; intro _ t1 h2; clear FA; have FA := t1; replace ht := ht.add h2 (fun x h => h); clear t1 h2)
  go_ret
  exact ⟨[], none, _, rfl, by simp, by simp, OwnR.nil _ _ _ _, RdD.bad FA hs, HG.out, ht⟩
 ·have c1 := decide_eq_false (show ¬ (most : Int) < (n : Int) by omega)
  have HG := hide hg
  have hgw2 := F5.lt
  have hqn : n ≤ 8 := by omega
  have c2 := decide_eq_false hq
  clear hg hn HN
  rw [← hstop]; clear hstop
  go_wp2_with fail
  go_loopw [8, 19] (fun v i wr => ∃ (k : Nat) (l : List OutT) (sk : Option (List UInt8)), i = .int .u64 k ∧ k ≤ n ∧ l.length = k ∧ (∀ x ∈ l, x.Ok) ∧ OwnR wr w.heap.size 84 65 v (l.map outCs) [] ∧ Hid (Got (manyP outP k) st1 l sk) ∧ RdD wr g sk ∧ One wr c 133 (.pointer (some ⟨g, 0, none⟩)) ∧ Touch (fun b => b = g) w wr) (fun _ i _ => n - (RowKit.intOf i).toNat)
  case atStart => exact ⟨0, [], st1, rfl, by omega, rfl, by simp, OwnR.nil _ _ _ _, hide (q5k _ _), F5, F1, ht⟩
  case round =>
   clear F1 F5 ht
   obtain ⟨k, l, sk, rfl, hk, hl, hok, O1, HK, F5, F1, ht⟩ := hrel
   by_cases hlt : k < n
   ·have hkw : IntKind.u64.wrap ((k : Int) + 1) = ((k + 1 : Nat) : Int) := by rw [IntKind.wrap_u64]; omega
    have hsz := ht.size
    have HOK := hide hok
    have HLL := hide hl
    clear hok hl c1 c2 HG
    go_wp2_with (first | (go_at_call 100; refine (HC.out _ _ F1 F5).mono ?_; rintro _ w1 ⟨x, s2, rfl, hx, h1, hg, ht1⟩; clear F5; have F5 := h1; clear h1; have l1 := F1.lt; replace F1 := F1.touch ht1 (by show ¬ _ = _; omega); replace O1 := O1.tg ht1 hgw; replace ht := ht.add ht1 (fun x h => h); clear ht1) | ((with_reducible refine w7g ?_); refine q2q rfl outElem (by decide) _ rfl (v := outV x) (el := outCs x) rfl (by simp [outV, Value.cells]) (q3o hx) (j2j x) ?_; intro _ g9 h9 O9 hb; have l1 := F1.lt; replace F1 := F1.later hb; replace F5 := F5.later hb; replace O1 := O1.later hb; replace ht := ht.behind hb; clear hb) | ((with_reducible refine w15g ?_); refine q0s rfl _ _ outElem rfl rfl O1 rfl O9.sl O9.2.1 (k + 1) (by rw [List.length_map, HLL.out]; rfl) (by omega) (by omega) (by have := ht.size; omega) ?_; intro a2 c2 w2 O2 ht2 _; replace F5 := F5.touch ht2 (O1.off hgw); replace F1 := F1.touch ht2 (O1.off hcw); replace ht := ht.trans ht2 (fun b hb => .inr (O1.ge b hb)); clear O1 O9 ht2))
    go_roundw
    case rel => exact ⟨k + 1, l ++ [x], s2, by simp, by omega, by simp [HLL.out], q6u HOK.out hx, by rw [List.map_append]; exact O2, hide (HK.out.snoc hg), F5, F1, ht⟩
    case measure => simp [RowKit.intOf]; omega
   ·obtain rfl : n = k := by omega
    have HOK := hide hok
    have HLL := hide hl
    clear hok hl
    obtain ⟨av, cv, rfl⟩ := O1.shape
    go_wp2_with fail
    go_ret
    exact ⟨l, sk, _, rfl, HOK.out, by rw [HLL.out]; omega, O1, F5, HG.out.list hq HK.out, ht⟩
theorem certBuilt6 (q : Nat) (l m : List UInt8) (x y z : Nat) (h : l.length = 32) (k : m.length = 32) : Tryz.prog.built 87 [(0, .int .u8 q), (1, hv l), (2, hv m), (3, .int .u64 x), (4, .int .u64 y), (5, .int .u64 z)] = some (certCs ⟨q, l, m, x, y, z⟩).toArray := by
 obtain ⟨x0, x1, x2, x3, x4, x5, x6, x7, x8, x9, x10, x11, x12, x13, x14, x15, x16, x17, x18, x19, x20, x21, x22, x23, x24, x25, x26, x27, x28, x29, x30, x31, rfl⟩ := q5f h
 obtain ⟨y0, y1, y2, y3, y4, y5, y6, y7, y8, y9, y10, y11, y12, y13, y14, y15, y16, y17, y18, y19, y20, y21, y22, y23, y24, y25, y26, y27, y28, y29, y30, y31, rfl⟩ := q5f k
 kernel_rfl
theorem rdCert (c g : Nat) (st : Option (List UInt8)) (w : World) (F1 : One w c 133 (.pointer (some ⟨g, 0, none⟩))) (F5 : RdD w g st) (hcg : c ≠ g) :
  Calls Tryz.prog 102 #[.pointer (some ⟨c, 0, none⟩)] w fun e w' => ∃ (x : CertT) (st' : Option (List UInt8)), e = .returned (certV x) ∧ x.Ok ∧ RdD w' g st' ∧ Got certP st x st' ∧ Touch (fun b => b = g) w w' := by
 have ht := Touch.refl (fun b => b = g) w
 go_enter Tryz.func102, Tryz.ntmps102
 go_wp2_with (first | (with_reducible refine w3g ?_; refine q3f rfl rfl ?_; intro _ g2 h2 F2 hb; have l5 := F5.lt; have l1 := F1.lt; replace F1 := F1.later hb; replace F5 := F5.later hb; replace ht := ht.behind hb; clear hb) | (with_reducible show Code.wp _ (Code.region _ _ true) _ _ _; (try simp only [pS]); fail))
 (try simp only [pS])
 have gg2 : g < g2 := by omega
 have wg2 : w.heap.size ≤ g2 := h2
 refine q1m (fun x => One x c 133 (.pointer (some ⟨g, 0, none⟩))) (.one [0, 3, 5, 7, 9, 11] 1 (.one [2] 4 (.one [] 6 (.one [] 8 (.one [] 10 (.one [] 12 (.bar [13] 14 (.stop [])))))))) (by kernel_rfl) (by kernel_rfl) (by kernel_rfl) (by decide) (fun _ _ h hb => h.later hb) F1 ?_
 intro _ hb0 _ _
 replace F1 := F1.later hb0
 replace F2 := F2.later hb0
 replace F5 := F5.later hb0
 replace ht := ht.behind hb0
 clear hb0
 refine q0w ?_
 simp only [pickOps, opAt, List.getElem?_cons_succ, List.getElem?_cons_zero, List.nil_append, List.cons_append]
 repeat ((go_big_quiet_want; first | ((with_reducible refine w28g ?_); first | (refine q1u 133 _ rfl rfl (fun w hw => One.cell (Kl.out hw)) (by kernel_rfl) ?_; simp only [pS]; go_big_quiet_on))))
 refine wpQuiet_nil ?_
 intro _ hb _
 replace F1 := F1.later hb
 replace F2 := F2.later hb
 replace F5 := F5.later hb
 replace ht := ht.behind hb
 have q2 := F2.lt
 have q1 := F1.lt
 clear hb
 go_wp2_with (go_at_call 103; refine (rdText g _ 1 _ F5 (by decide)).mono ?_; rintro _ _ ⟨l0, s0, rfl, hl, h1, hg, ht1⟩; clear F5; have F5 := h1; clear h1; replace F1 := F1.touch ht1 (by show ¬ _ = _; omega); replace F2 := F2.touch ht1 (by show ¬ _ = _; omega); replace ht := ht.add ht1 (fun x h => h); have G0 := hide hg; have L0 := hide hl; clear hg hl ht1 q1 q2)
 refine q1e (fun _ _ h hb => h.later hb) F1 ?_
 obtain ⟨sx, hsx⟩ : ∃ s : ByteArray, s = ⟨l0.toArray⟩ := ⟨_, rfl⟩
 have hsz : 0 < sx.size := by rw [hsx]; show 0 < l0.toArray.size; rw [List.size_toArray, L0.out]; decide
 have e0 : ∀ h : 0 < sx.size, ((sx[0]'h).toNat : Int) = (((l0.getD 0 0).toNat : Nat) : Int) := fun h => by rw [j0y sx 0 h, hsx]
 rw [← hsx]
 clear hsx
 refine q0w ?_
 simp only [pickOps, opAt, List.getElem?_cons_succ, List.getElem?_cons_zero, List.nil_append, List.cons_append]
 repeat ((go_big_quiet_want; first | (go_big_quiet_op; first | (refine ⟨_, fun _ => rfl, ?_⟩; go_big_quiet_on))))
 refine wpQuiet_nil ?_
 intro _ hb _
 replace F1 := F1.later hb
 replace F2 := F2.later hb
 replace F5 := F5.later hb
 replace ht := ht.behind hb
 have q2 := F2.lt
 have q1 := F1.lt
 clear hb
 go_wp2_with (go_at_call 97; refine (rdHash g _ _ F5).mono ?_; rintro _ _ ⟨l1, s1, rfl, hl, h1, hg, ht1⟩; clear F5; have F5 := h1; clear h1; replace F1 := F1.touch ht1 (by show ¬ _ = _; omega); replace F2 := F2.touch ht1 (by show ¬ _ = _; omega); replace ht := ht.add ht1 (fun x h => h); have G1 := hide hg; have L1 := hide hl; clear hg hl ht1 q1 q2)
 refine q1e (fun _ _ h hb => h.later hb) F1 ?_
 refine q0w ?_
 simp only [pickOps, opAt, List.getElem?_cons_succ, List.getElem?_cons_zero, List.nil_append, List.cons_append]
 repeat (fail)
 refine wpQuiet_nil ?_
 intro _ hb _
 replace F1 := F1.later hb
 replace F2 := F2.later hb
 replace F5 := F5.later hb
 replace ht := ht.behind hb
 have q2 := F2.lt
 have q1 := F1.lt
 clear hb
 go_wp2_with (go_at_call 97; refine (rdHash g _ _ F5).mono ?_; rintro _ _ ⟨l2, s2, rfl, hl, h1, hg, ht1⟩; clear F5; have F5 := h1; clear h1; replace F1 := F1.touch ht1 (by show ¬ _ = _; omega); replace F2 := F2.touch ht1 (by show ¬ _ = _; omega); replace ht := ht.add ht1 (fun x h => h); have G2 := hide hg; have L2 := hide hl; clear hg hl ht1 q1 q2)
 refine q1e (fun _ _ h hb => h.later hb) F1 ?_
 refine q0w ?_
 simp only [pickOps, opAt, List.getElem?_cons_succ, List.getElem?_cons_zero, List.nil_append, List.cons_append]
 repeat (fail)
 refine wpQuiet_nil ?_
 intro _ hb _
 replace F1 := F1.later hb
 replace F2 := F2.later hb
 replace F5 := F5.later hb
 replace ht := ht.behind hb
 have q2 := F2.lt
 have q1 := F1.lt
 clear hb
 go_wp2_with (go_at_call 98; refine (rdNumber g _ _ F5).mono ?_; rintro _ _ ⟨n3, s3, rfl, hl, h1, hg, ht1⟩; clear F5; have F5 := h1; clear h1; replace F1 := F1.touch ht1 (by show ¬ _ = _; omega); replace F2 := F2.touch ht1 (by show ¬ _ = _; omega); replace ht := ht.add ht1 (fun x h => h); have G3 := hide hg; have L3 := hide hl; clear hg hl ht1 q1 q2)
 refine q1e (fun _ _ h hb => h.later hb) F1 ?_
 refine q0w ?_
 simp only [pickOps, opAt, List.getElem?_cons_succ, List.getElem?_cons_zero, List.nil_append, List.cons_append]
 repeat (fail)
 refine wpQuiet_nil ?_
 intro _ hb _
 replace F1 := F1.later hb
 replace F2 := F2.later hb
 replace F5 := F5.later hb
 replace ht := ht.behind hb
 have q2 := F2.lt
 have q1 := F1.lt
 clear hb
 go_wp2_with (go_at_call 98; refine (rdNumber g _ _ F5).mono ?_; rintro _ _ ⟨n4, s4, rfl, hl, h1, hg, ht1⟩; clear F5; have F5 := h1; clear h1; replace F1 := F1.touch ht1 (by show ¬ _ = _; omega); replace F2 := F2.touch ht1 (by show ¬ _ = _; omega); replace ht := ht.add ht1 (fun x h => h); have G4 := hide hg; have L4 := hide hl; clear hg hl ht1 q1 q2)
 refine q1e (fun _ _ h hb => h.later hb) F1 ?_
 refine q0w ?_
 simp only [pickOps, opAt, List.getElem?_cons_succ, List.getElem?_cons_zero, List.nil_append, List.cons_append]
 repeat (fail)
 refine wpQuiet_nil ?_
 intro _ hb _
 replace F1 := F1.later hb
 replace F2 := F2.later hb
 replace F5 := F5.later hb
 replace ht := ht.behind hb
 have q2 := F2.lt
 have q1 := F1.lt
 clear hb
 go_wp2_with (go_at_call 98; refine (rdNumber g _ _ F5).mono ?_; rintro _ _ ⟨n5, s5, rfl, hl, h1, hg, ht1⟩; clear F5; have F5 := h1; clear h1; replace F1 := F1.touch ht1 (by show ¬ _ = _; omega); replace F2 := F2.touch ht1 (by show ¬ _ = _; omega); replace ht := ht.add ht1 (fun x h => h); have G5 := hide hg; have L5 := hide hl; clear hg hl ht1 q1 q2)
 refine q1e (fun _ _ h hb => h.later hb) F1 ?_
 have HB := hide (certBuilt6 (l0.getD 0 0).toNat l1 l2 n3 n4 n5 L1.out L2.out)
 have OX : Hid (CertT.Ok ⟨(l0.getD 0 0).toNat, l1, l2, n3, n4, n5⟩) := ⟨UInt8.toNat_lt _, L1.out, L2.out, L3.out, L4.out, L5.out⟩
 have GX : Hid (Got certP st ⟨(l0.getD 0 0).toNat, l1, l2, n3, n4, n5⟩ s5) := G0.out.bind (G1.out.bind (G2.out.bind (G3.out.bind (G4.out.bind (G5.out.last (f := fun n => (⟨(l0.getD 0 0).toNat, l1, l2, n3, n4, n⟩ : CertT)))))))
 refine q2u ?_
 simp only [pickOps, opAt, List.getElem?_cons_succ, List.getElem?_cons_zero, List.nil_append, List.cons_append]
 repeat ((go_big_quiet_want; first | ((with_reducible refine w32g ?_); refine q6h _ _ rfl (certCs ⟨(l0.getD 0 0).toNat, l1, l2, n3, n4, n5⟩).toArray (by simp only [List.map_toArray, List.map_cons, List.map_nil]; exact HB.out) ?_; simp only [pS]; go_big_quiet_on)))
 refine wpQuiet_nil ?_
 intro _ hb _
 replace F2 := F2.later hb
 replace F5 := F5.later hb
 replace ht := ht.behind hb
 clear hb
 refine q2o rfl _ _ rfl rfl rfl OX.out F2 ?_
 intro _ t1 ht2
 replace F5 := F5.touch ht2 (by show ¬ _ = _; omega)
 replace ht := ht.trans ht2 (fun x hx => .inr (by have : x = g2 := hx; omega))
 clear F2
 have F2 := t1
 clear t1 ht2
 refine q1v ?_
 (try simp only [pS])
 refine q2l ?_
 simp only [pickOps, opAt, List.getElem?_cons_succ, List.getElem?_cons_zero, List.nil_append, List.cons_append]
 repeat (fail)
 refine wpQuiet_nil ?_
 intro _ hb _
 replace F2 := F2.later hb
 replace F5 := F5.later hb
 replace ht := ht.behind hb
 clear hb
 go_wp2_with fail
 exact bodyPost_ret (z0s rfl _ _ rfl F2) rfl ⟨⟨(l0.getD 0 0).toNat, l1, l2, n3, n4, n5⟩, _, rfl, OX.out, F5, GX.out, ht⟩
end Go.Proofs.YtbbfnpfkbbpjgaaGreat
