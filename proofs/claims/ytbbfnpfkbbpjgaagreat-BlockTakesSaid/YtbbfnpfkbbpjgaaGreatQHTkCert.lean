/- deed.taken, at api.Cert. -/
import Derived.Test.YtbbfnpfkbbpjgaaGreatQHRdIn
import Derived.Test.YtbbfnpfkbbpjgaaGreatQHBlkM
import Derived.Test.YtbbfnpfkbbpjgaaGreatQHTakeW
import Derived.Test.YtbbfnpfkbbpjgaaGreatQHElCert
namespace Go.Proofs.YtbbfnpfkbbpjgaaGreat
open Go.RowKit Go.Lib
set_option linter.unusedVariables false
set_option linter.unusedSimpArgs false
set_option maxRecDepth 100000
set_option maxHeartbeats 4000000
theorem takenCert (c g : Nat) (st : Option (List UInt8)) (most : Nat) (w : World) (F1 : One w c 133 (.pointer (some ⟨g, 0, none⟩))) (F5 : RdD w g st) (hcg : c ≠ g) (hm : most ≤ 8) :
  Calls Tryz.prog 101 #[.pointer (some ⟨g, 0, none⟩), .int .i64 most, .func (.func 102) #[] #[.pointer (some ⟨c, 0, none⟩)]] w fun e w' => ∃ (l : List CertT) (st' : Option (List UInt8)) (v : Value), e = .returned v ∧ (∀ x ∈ l, x.Ok) ∧ l.length ≤ most ∧ OwnR w' w.heap.size 87 68 v (l.map certCs) [] ∧ RdD w' g st' ∧ Got (listP most certP) st l st' ∧ Touch (fun b => b = g) w w' := by
 have HC := hide (fun (st : Option (List UInt8)) (w : World) (h1 : One w c 133 (.pointer (some ⟨g, 0, none⟩))) (h5 : RdD w g st) => rdCert c g st w h1 h5 hcg)
 have HN := hide (fun (w : World) (h5 : RdD w g st) => rdNumber g st w h5)
 have ht := Touch.refl (fun b => b = g) w
 have hgw := F5.lt
 have hcw := F1.lt
 have wm : IntKind.u64.wrap (most : Int) = (most : Int) := by rw [IntKind.wrap_u64]; omega
 go_enter Tryz.func101, Tryz.ntmps101
 go_wp2_with (first | (go_at_call 98; refine (HN.out _ F5).mono ?_; rintro _ w1 ⟨n, st1, rfl, hn, h1, hg, ht1⟩; clear F5; have F5 := h1; clear h1; replace F1 := F1.touch ht1 (by show ¬ _ = _; omega); replace ht := ht.add ht1 (fun x h => h); clear ht1) | (with_reducible refine w17g ?_; generalize hstop : wpList _ _ _ _ _ _ = Gstop))
 by_cases hq : most < n
 ·have c1 := decide_eq_true (show (most : Int) < (n : Int) by omega)
  obtain ⟨s, bb, FA, hs, _, _⟩ := F5
  have HG := hide (hg.over (p := certP) hq ([] : List CertT))
  have c2 := decide_eq_true hq
  clear F1 hg hn HC HN
  rw [← hstop]; clear hstop
  go_wp2_with (with_reducible refine w4g ?_; refine q2y rfl _ _ rfl rfl rfl FA ?_; intro _ t1 h2; clear FA; have FA := t1; replace ht := ht.add h2 (fun x h => h); clear t1 h2)
  go_ret
  exact ⟨[], none, _, rfl, by simp, by simp, OwnR.nil _ _ _ _, RdD.bad FA hs, HG.out, ht⟩
 ·have c1 := decide_eq_false (show ¬ (most : Int) < (n : Int) by omega)
  have HG := hide hg
  have hgw2 := F5.lt
  have hqn : n ≤ 8 := by omega
  have c2 := decide_eq_false hq
  clear hg hn HN
  rw [← hstop]; clear hstop
  go_wp2_with fail
  go_loopw [8, 19] (fun v i wr => ∃ (k : Nat) (l : List CertT) (sk : Option (List UInt8)), i = .int .u64 k ∧ k ≤ n ∧ l.length = k ∧ (∀ x ∈ l, x.Ok) ∧ OwnR wr w.heap.size 87 68 v (l.map certCs) [] ∧ Hid (Got (manyP certP k) st1 l sk) ∧ RdD wr g sk ∧ One wr c 133 (.pointer (some ⟨g, 0, none⟩)) ∧ Touch (fun b => b = g) w wr) (fun _ i _ => n - (RowKit.intOf i).toNat)
  case atStart => exact ⟨0, [], st1, rfl, by omega, rfl, by simp, OwnR.nil _ _ _ _, hide (q5k _ _), F5, F1, ht⟩
  case round =>
   clear F1 F5 ht
   obtain ⟨k, l, sk, rfl, hk, hl, hok, O1, HK, F5, F1, ht⟩ := hrel
   by_cases hlt : k < n
   ·have hkw : IntKind.u64.wrap ((k : Int) + 1) = ((k + 1 : Nat) : Int) := by rw [IntKind.wrap_u64]; omega
    have hsz := ht.size
    have HOK := hide hok
    have HLL := hide hl
    clear hok hl c1 c2 HG
    go_wp2_with (first | (go_at_call 102; refine (HC.out _ _ F1 F5).mono ?_; rintro _ w1 ⟨x, s2, rfl, hx, h1, hg, ht1⟩; clear F5; have F5 := h1; clear h1; have l1 := F1.lt; replace F1 := F1.touch ht1 (by show ¬ _ = _; omega); replace O1 := O1.tg ht1 hgw; replace ht := ht.add ht1 (fun x h => h); clear ht1) | ((with_reducible refine w7g ?_); refine q2q rfl certElem (by decide) _ rfl (v := certV x) (el := certCs x) rfl (by simp [certV, Value.cells]) (q1w hx) (j1g x) ?_; intro _ g9 h9 O9 hb; have l1 := F1.lt; replace F1 := F1.later hb; replace F5 := F5.later hb; replace O1 := O1.later hb; replace ht := ht.behind hb; clear hb) | ((with_reducible refine w15g ?_); refine q0s rfl _ _ certElem rfl rfl O1 rfl O9.sl O9.2.1 (k + 1) (by rw [List.length_map, HLL.out]; rfl) (by omega) (by omega) (by have := ht.size; omega) ?_; intro a2 c2 w2 O2 ht2 _; replace F5 := F5.touch ht2 (O1.off hgw); replace F1 := F1.touch ht2 (O1.off hcw); replace ht := ht.trans ht2 (fun b hb => .inr (O1.ge b hb)); clear O1 O9 ht2))
    go_roundw
    case rel => exact ⟨k + 1, l ++ [x], s2, by simp, by omega, by simp [HLL.out], q6u HOK.out hx, by rw [List.map_append]; exact O2, hide (HK.out.snoc hg), F5, F1, ht⟩
    case measure => simp [RowKit.intOf]; omega
   ·obtain rfl : n = k := by omega
    have HOK := hide hok
    have HLL := hide hl
    clear hok hl
    obtain ⟨av, cv, rfl⟩ := O1.shape
    go_wp2_with fail
    go_ret
    exact ⟨l, sk, _, rfl, HOK.out, by rw [HLL.out]; omega, O1, F5, HG.out.list hq HK.out, ht⟩
theorem payBuilt (l : List UInt8) (n : Nat) (h : l.length = 32) : Tryz.prog.built 89 [(0, hv l), (1, .int .u64 n)] = some (payCs ⟨l, n⟩).toArray := by
 obtain ⟨x0, x1, x2, x3, x4, x5, x6, x7, x8, x9, x10, x11, x12, x13, x14, x15, x16, x17, x18, x19, x20, x21, x22, x23, x24, x25, x26, x27, x28, x29, x30, x31, rfl⟩ := q5f h
 kernel_rfl
theorem rdPay (c g : Nat) (st : Option (List UInt8)) (w : World) (F1 : One w c 133 (.pointer (some ⟨g, 0, none⟩))) (F5 : RdD w g st) (hcg : c ≠ g) :
  Calls Tryz.prog 105 #[.pointer (some ⟨c, 0, none⟩)] w fun e w' => ∃ (x : PayT) (st' : Option (List UInt8)), e = .returned (payV x) ∧ x.Ok ∧ RdD w' g st' ∧ Got payP st x st' ∧ Touch (fun b => b = g) w w' := by
 have ht := Touch.refl (fun b => b = g) w
 go_enter Tryz.func105, Tryz.ntmps105
 go_wp2_with (first | (with_reducible refine w3g ?_; refine j1a rfl rfl ?_; intro _ g2 h2 F2 hb; have l5 := F5.lt; have l1 := F1.lt; replace F1 := F1.later hb; replace F5 := F5.later hb; replace ht := ht.behind hb; clear hb) | (with_reducible show Code.wp _ (Code.region _ _ true) _ _ _; (try simp only [pS]); fail))
 (try simp only [pS])
 have gg2 : g < g2 := by omega
 have wg2 : w.heap.size ≤ g2 := h2
 refine q1m (fun x => One x c 133 (.pointer (some ⟨g, 0, none⟩))) (.one [0, 2] 1 (.one [] 3 (.bar [4] 5 (.stop [])))) (by kernel_rfl) (by kernel_rfl) (by kernel_rfl) (by decide) (fun _ _ h hb => h.later hb) F1 ?_
 intro _ hb0 _ _
 replace F1 := F1.later hb0
 replace F2 := F2.later hb0
 replace F5 := F5.later hb0
 replace ht := ht.behind hb0
 clear hb0
 refine q0w ?_
 simp only [pickOps, opAt, List.getElem?_cons_succ, List.getElem?_cons_zero, List.nil_append, List.cons_append]
 repeat ((go_big_quiet_want; first | ((with_reducible refine w28g ?_); first | (refine q1u 133 _ rfl rfl (fun w hw => One.cell (Kl.out hw)) (by kernel_rfl) ?_; simp only [pS]; go_big_quiet_on))))
 refine wpQuiet_nil ?_
 intro _ hb _
 replace F1 := F1.later hb
 replace F2 := F2.later hb
 replace F5 := F5.later hb
 replace ht := ht.behind hb
 have q2 := F2.lt
 have q1 := F1.lt
 clear hb
 go_wp2_with (go_at_call 97; refine (rdHash g _ _ F5).mono ?_; rintro _ _ ⟨l1, s1, rfl, hl, h1, hg, ht1⟩; clear F5; have F5 := h1; clear h1; replace F1 := F1.touch ht1 (by show ¬ _ = _; omega); replace F2 := F2.touch ht1 (by show ¬ _ = _; omega); replace ht := ht.add ht1 (fun x h => h); have G1 := hide hg; have L1 := hide hl; clear hg hl ht1 q1 q2)
 refine q1e (fun _ _ h hb => h.later hb) F1 ?_
 refine q0w ?_
 simp only [pickOps, opAt, List.getElem?_cons_succ, List.getElem?_cons_zero, List.nil_append, List.cons_append]
 repeat (fail)
 refine wpQuiet_nil ?_
 intro _ hb _
 replace F1 := F1.later hb
 replace F2 := F2.later hb
 replace F5 := F5.later hb
 replace ht := ht.behind hb
 have q2 := F2.lt
 have q1 := F1.lt
 clear hb
 go_wp2_with (go_at_call 98; refine (rdNumber g _ _ F5).mono ?_; rintro _ _ ⟨n2, s2, rfl, hl, h1, hg, ht1⟩; clear F5; have F5 := h1; clear h1; replace F1 := F1.touch ht1 (by show ¬ _ = _; omega); replace F2 := F2.touch ht1 (by show ¬ _ = _; omega); replace ht := ht.add ht1 (fun x h => h); have G2 := hide hg; have L2 := hide hl; clear hg hl ht1 q1 q2)
 refine q1e (fun _ _ h hb => h.later hb) F1 ?_
 have HB := hide (payBuilt l1 n2 L1.out)
 have OX : Hid (PayT.Ok ⟨l1, n2⟩) := ⟨L1.out, L2.out⟩
 have GX : Hid (Got payP st ⟨l1, n2⟩ s2) := G1.out.bind (G2.out.last (f := fun n => (⟨l1, n⟩ : PayT)))
 refine q2u ?_
 simp only [pickOps, opAt, List.getElem?_cons_succ, List.getElem?_cons_zero, List.nil_append, List.cons_append]
 repeat ((go_big_quiet_want; first | ((with_reducible refine w32g ?_); refine q6h _ _ rfl (payCs ⟨l1, n2⟩).toArray (by simp only [List.map_toArray, List.map_cons, List.map_nil]; exact HB.out) ?_; simp only [pS]; go_big_quiet_on)))
 refine wpQuiet_nil ?_
 intro _ hb _
 replace F2 := F2.later hb
 replace F5 := F5.later hb
 replace ht := ht.behind hb
 clear hb
 refine q9d rfl _ _ rfl rfl rfl OX.out F2 ?_
 intro _ t1 ht2
 replace F5 := F5.touch ht2 (by show ¬ _ = _; omega)
 replace ht := ht.trans ht2 (fun x hx => .inr (by have : x = g2 := hx; omega))
 clear F2
 have F2 := t1
 clear t1 ht2
 refine q1v ?_
 (try simp only [pS])
 refine q2l ?_
 simp only [pickOps, opAt, List.getElem?_cons_succ, List.getElem?_cons_zero, List.nil_append, List.cons_append]
 repeat (fail)
 refine wpQuiet_nil ?_
 intro _ hb _
 replace F2 := F2.later hb
 replace F5 := F5.later hb
 replace ht := ht.behind hb
 clear hb
 go_wp2_with fail
 exact bodyPost_ret (z1m rfl _ _ rfl F2) rfl ⟨⟨l1, n2⟩, _, rfl, OX.out, F5, GX.out, ht⟩
theorem takenPay (c g : Nat) (st : Option (List UInt8)) (most : Nat) (w : World) (F1 : One w c 133 (.pointer (some ⟨g, 0, none⟩))) (F5 : RdD w g st) (hcg : c ≠ g) (hm : most ≤ 8) :
  Calls Tryz.prog 104 #[.pointer (some ⟨g, 0, none⟩), .int .i64 most, .func (.func 105) #[] #[.pointer (some ⟨c, 0, none⟩)]] w fun e w' => ∃ (l : List PayT) (st' : Option (List UInt8)) (v : Value), e = .returned v ∧ (∀ x ∈ l, x.Ok) ∧ l.length ≤ most ∧ OwnR w' w.heap.size 89 33 v (l.map payCs) [] ∧ RdD w' g st' ∧ Got (listP most payP) st l st' ∧ Touch (fun b => b = g) w w' := by
 have HC := hide (fun (st : Option (List UInt8)) (w : World) (h1 : One w c 133 (.pointer (some ⟨g, 0, none⟩))) (h5 : RdD w g st) => rdPay c g st w h1 h5 hcg)
 have HN := hide (fun (w : World) (h5 : RdD w g st) => rdNumber g st w h5)
 have ht := Touch.refl (fun b => b = g) w
 have hgw := F5.lt
 have hcw := F1.lt
 have wm : IntKind.u64.wrap (most : Int) = (most : Int) := by rw [IntKind.wrap_u64]; omega
 go_enter Tryz.func104, Tryz.ntmps104
 go_wp2_with (first | (go_at_call 98; refine (HN.out _ F5).mono ?_; rintro _ w1 ⟨n, st1, rfl, hn, h1, hg, ht1⟩; clear F5; have F5 := h1; clear h1; replace F1 := F1.touch ht1 (by show ¬ _ = _; omega); replace ht := ht.add ht1 (fun x h => h); clear ht1) | (with_reducible refine w17g ?_; generalize hstop : wpList _ _ _ _ _ _ = Gstop))
 by_cases hq : most < n
 ·have c1 := decide_eq_true (show (most : Int) < (n : Int) by omega)
  obtain ⟨s, bb, FA, hs, _, _⟩ := F5
  have HG := hide (hg.over (p := payP) hq ([] : List PayT))
  have c2 := decide_eq_true hq
  clear F1 hg hn HC HN
  rw [← hstop]; clear hstop
  go_wp2_with (with_reducible refine w4g ?_; refine q2y rfl _ _ rfl rfl rfl FA ?_; intro _ t1 h2; clear FA; have FA := t1; replace ht := ht.add h2 (fun x h => h); clear t1 h2)
  go_ret
  exact ⟨[], none, _, rfl, by simp, by simp, OwnR.nil _ _ _ _, RdD.bad FA hs, HG.out, ht⟩
 ·have c1 := decide_eq_false (show ¬ (most : Int) < (n : Int) by omega)
  have HG := hide hg
  have hgw2 := F5.lt
  have hqn : n ≤ 8 := by omega
  have c2 := decide_eq_false hq
  clear hg hn HN
  rw [← hstop]; clear hstop
  go_wp2_with fail
  go_loopw [8, 19] (fun v i wr => ∃ (k : Nat) (l : List PayT) (sk : Option (List UInt8)), i = .int .u64 k ∧ k ≤ n ∧ l.length = k ∧ (∀ x ∈ l, x.Ok) ∧ OwnR wr w.heap.size 89 33 v (l.map payCs) [] ∧ Hid (Got (manyP payP k) st1 l sk) ∧ RdD wr g sk ∧ One wr c 133 (.pointer (some ⟨g, 0, none⟩)) ∧ Touch (fun b => b = g) w wr) (fun _ i _ => n - (RowKit.intOf i).toNat)
  case atStart => exact ⟨0, [], st1, rfl, by omega, rfl, by simp, OwnR.nil _ _ _ _, hide (q5k _ _), F5, F1, ht⟩
  case round =>
   clear F1 F5 ht
   obtain ⟨k, l, sk, rfl, hk, hl, hok, O1, HK, F5, F1, ht⟩ := hrel
   by_cases hlt : k < n
   ·have hkw : IntKind.u64.wrap ((k : Int) + 1) = ((k + 1 : Nat) : Int) := by rw [IntKind.wrap_u64]; omega
    have hsz := ht.size
    have HOK := hide hok
    have HLL := hide hl
    clear hok hl c1 c2 HG
    go_wp2_with (first | (go_at_call 105; refine (HC.out _ _ F1 F5).mono ?_; rintro _ w1 ⟨x, s2, rfl, hx, h1, hg, ht1⟩; clear F5; have F5 := h1; clear h1; have l1 := F1.lt; replace F1 := F1.touch ht1 (by show ¬ _ = _; omega); replace O1 := O1.tg ht1 hgw; replace ht := ht.add ht1 (fun x h => h); clear ht1) | ((with_reducible refine w7g ?_); refine q2q rfl payElem (by decide) _ rfl (v := payV x) (el := payCs x) rfl (by simp [payV, Value.cells]) (q4h hx) (j3o x) ?_; intro _ g9 h9 O9 hb; have l1 := F1.lt; replace F1 := F1.later hb; replace F5 := F5.later hb; replace O1 := O1.later hb; replace ht := ht.behind hb; clear hb) | ((with_reducible refine w15g ?_); refine q0s rfl _ _ payElem rfl rfl O1 rfl O9.sl O9.2.1 (k + 1) (by rw [List.length_map, HLL.out]; rfl) (by omega) (by omega) (by have := ht.size; omega) ?_; intro a2 c2 w2 O2 ht2 _; replace F5 := F5.touch ht2 (O1.off hgw); replace F1 := F1.touch ht2 (O1.off hcw); replace ht := ht.trans ht2 (fun b hb => .inr (O1.ge b hb)); clear O1 O9 ht2))
    go_roundw
    case rel => exact ⟨k + 1, l ++ [x], s2, by simp, by omega, by simp [HLL.out], q6u HOK.out hx, by rw [List.map_append]; exact O2, hide (HK.out.snoc hg), F5, F1, ht⟩
    case measure => simp [RowKit.intOf]; omega
   ·obtain rfl : n = k := by omega
    have HOK := hide hok
    have HLL := hide hl
    clear hok hl
    obtain ⟨av, cv, rfl⟩ := O1.shape
    go_wp2_with fail
    go_ret
    exact ⟨l, sk, _, rfl, HOK.out, by rw [HLL.out]; omega, O1, F5, HG.out.list hq HK.out, ht⟩
theorem witBuilt (l : List UInt8) (s : ByteArray) (h : l.length = 32) : Tryz.prog.built 74 [(0, hv l), (1, .string s)] = some (witCs ⟨l, s⟩).toArray := by
 obtain ⟨x0, x1, x2, x3, x4, x5, x6, x7, x8, x9, x10, x11, x12, x13, x14, x15, x16, x17, x18, x19, x20, x21, x22, x23, x24, x25, x26, x27, x28, x29, x30, x31, rfl⟩ := q5f h
 kernel_rfl
theorem rdWit (c g : Nat) (st : Option (List UInt8)) (w : World) (F1 : One w c 133 (.pointer (some ⟨g, 0, none⟩))) (F5 : RdD w g st) (hcg : c ≠ g) :
  Calls Tryz.prog 107 #[.pointer (some ⟨c, 0, none⟩)] w fun e w' => ∃ (x : WitT) (st' : Option (List UInt8)), e = .returned (witV x) ∧ x.Ok ∧ RdD w' g st' ∧ Got witP st x st' ∧ Touch (fun b => b = g) w w' := by
 have ht := Touch.refl (fun b => b = g) w
 go_enter Tryz.func107, Tryz.ntmps107
 go_wp2_with (first | (with_reducible refine w3g ?_; refine j0t rfl rfl ?_; intro _ g2 h2 F2 hb; have l5 := F5.lt; have l1 := F1.lt; replace F1 := F1.later hb; replace F5 := F5.later hb; replace ht := ht.behind hb; clear hb) | (with_reducible show Code.wp _ (Code.region _ _ true) _ _ _; (try simp only [pS]); fail))
 (try simp only [pS])
 have gg2 : g < g2 := by omega
 have wg2 : w.heap.size ≤ g2 := h2
 refine q1m (fun x => One x c 133 (.pointer (some ⟨g, 0, none⟩))) (.one [0, 2] 1 (.one [] 3 (.bar [4] 5 (.stop [])))) (by kernel_rfl) (by kernel_rfl) (by kernel_rfl) (by decide) (fun _ _ h hb => h.later hb) F1 ?_
 intro _ hb0 _ _
 replace F1 := F1.later hb0
 replace F2 := F2.later hb0
 replace F5 := F5.later hb0
 replace ht := ht.behind hb0
 clear hb0
 refine q0w ?_
 simp only [pickOps, opAt, List.getElem?_cons_succ, List.getElem?_cons_zero, List.nil_append, List.cons_append]
 repeat ((go_big_quiet_want; first | ((with_reducible refine w28g ?_); first | (refine q1u 133 _ rfl rfl (fun w hw => One.cell (Kl.out hw)) (by kernel_rfl) ?_; simp only [pS]; go_big_quiet_on))))
 refine wpQuiet_nil ?_
 intro _ hb _
 replace F1 := F1.later hb
 replace F2 := F2.later hb
 replace F5 := F5.later hb
 replace ht := ht.behind hb
 have q2 := F2.lt
 have q1 := F1.lt
 clear hb
 go_wp2_with (go_at_call 97; refine (rdHash g _ _ F5).mono ?_; rintro _ _ ⟨l1, s1, rfl, hl, h1, hg, ht1⟩; clear F5; have F5 := h1; clear h1; replace F1 := F1.touch ht1 (by show ¬ _ = _; omega); replace F2 := F2.touch ht1 (by show ¬ _ = _; omega); replace ht := ht.add ht1 (fun x h => h); have G1 := hide hg; have L1 := hide hl; clear hg hl ht1 q1 q2)
 refine q1e (fun _ _ h hb => h.later hb) F1 ?_
 refine q0w ?_
 simp only [pickOps, opAt, List.getElem?_cons_succ, List.getElem?_cons_zero, List.nil_append, List.cons_append]
 repeat (fail)
 refine wpQuiet_nil ?_
 intro _ hb _
 replace F1 := F1.later hb
 replace F2 := F2.later hb
 replace F5 := F5.later hb
 replace ht := ht.behind hb
 have q2 := F2.lt
 have q1 := F1.lt
 clear hb
 go_wp2_with (go_at_call 103; refine (rdText g _ 1024 _ F5 (by decide)).mono ?_; rintro _ _ ⟨l2, s2, rfl, hl, h1, hg, ht1⟩; clear F5; have F5 := h1; clear h1; replace F1 := F1.touch ht1 (by show ¬ _ = _; omega); replace F2 := F2.touch ht1 (by show ¬ _ = _; omega); replace ht := ht.add ht1 (fun x h => h); have G2 := hide hg; have L2 := hide hl; clear hg hl ht1 q1 q2)
 refine q1e (fun _ _ h hb => h.later hb) F1 ?_
 have HB := hide (witBuilt l1 ⟨l2.toArray⟩ L1.out)
 have OX : Hid (WitT.Ok ⟨l1, ⟨l2.toArray⟩⟩) := L1.out
 have GX : Hid (Got witP st ⟨l1, ⟨l2.toArray⟩⟩ s2) := G1.out.bind (G2.out.last (f := fun s => (⟨l1, ⟨s.toArray⟩⟩ : WitT)))
 refine q2u ?_
 simp only [pickOps, opAt, List.getElem?_cons_succ, List.getElem?_cons_zero, List.nil_append, List.cons_append]
 repeat ((go_big_quiet_want; first | ((with_reducible refine w32g ?_); refine q6h _ _ rfl (witCs ⟨l1, ⟨l2.toArray⟩⟩).toArray (by simp only [List.map_toArray, List.map_cons, List.map_nil]; exact HB.out) ?_; simp only [pS]; go_big_quiet_on)))
 refine wpQuiet_nil ?_
 intro _ hb _
 replace F2 := F2.later hb
 replace F5 := F5.later hb
 replace ht := ht.behind hb
 clear hb
 refine q8v rfl _ _ rfl rfl rfl OX.out F2 ?_
 intro _ t1 ht2
 replace F5 := F5.touch ht2 (by show ¬ _ = _; omega)
 replace ht := ht.trans ht2 (fun x hx => .inr (by have : x = g2 := hx; omega))
 clear F2
 have F2 := t1
 clear t1 ht2
 refine q1v ?_
 (try simp only [pS])
 refine q2l ?_
 simp only [pickOps, opAt, List.getElem?_cons_succ, List.getElem?_cons_zero, List.nil_append, List.cons_append]
 repeat (fail)
 refine wpQuiet_nil ?_
 intro _ hb _
 replace F2 := F2.later hb
 replace F5 := F5.later hb
 replace ht := ht.behind hb
 clear hb
 go_wp2_with fail
 exact bodyPost_ret (z2g rfl _ _ rfl F2) rfl ⟨⟨l1, ⟨l2.toArray⟩⟩, _, rfl, OX.out, F5, GX.out, ht⟩
theorem takenWit (c g : Nat) (st : Option (List UInt8)) (most : Nat) (w : World) (F1 : One w c 133 (.pointer (some ⟨g, 0, none⟩))) (F5 : RdD w g st) (hcg : c ≠ g) (hm : most ≤ 8) :
  Calls Tryz.prog 106 #[.pointer (some ⟨g, 0, none⟩), .int .i64 most, .func (.func 107) #[] #[.pointer (some ⟨c, 0, none⟩)]] w fun e w' => ∃ (l : List WitT) (st' : Option (List UInt8)) (v : Value), e = .returned v ∧ (∀ x ∈ l, x.Ok) ∧ l.length ≤ most ∧ OwnR w' w.heap.size 74 33 v (l.map witCs) [] ∧ RdD w' g st' ∧ Got (listP most witP) st l st' ∧ Touch (fun b => b = g) w w' := by
 have HC := hide (fun (st : Option (List UInt8)) (w : World) (h1 : One w c 133 (.pointer (some ⟨g, 0, none⟩))) (h5 : RdD w g st) => rdWit c g st w h1 h5 hcg)
 have HN := hide (fun (w : World) (h5 : RdD w g st) => rdNumber g st w h5)
 have ht := Touch.refl (fun b => b = g) w
 have hgw := F5.lt
 have hcw := F1.lt
 have wm : IntKind.u64.wrap (most : Int) = (most : Int) := by rw [IntKind.wrap_u64]; omega
 go_enter Tryz.func106, Tryz.ntmps106
 go_wp2_with (first | (go_at_call 98; refine (HN.out _ F5).mono ?_; rintro _ w1 ⟨n, st1, rfl, hn, h1, hg, ht1⟩; clear F5; have F5 := h1; clear h1; replace F1 := F1.touch ht1 (by show ¬ _ = _; omega); replace ht := ht.add ht1 (fun x h => h); clear ht1) | (with_reducible refine w17g ?_; generalize hstop : wpList _ _ _ _ _ _ = Gstop))
 by_cases hq : most < n
 ·have c1 := decide_eq_true (show (most : Int) < (n : Int) by omega)
  obtain ⟨s, bb, FA, hs, _, _⟩ := F5
  have HG := hide (hg.over (p := witP) hq ([] : List WitT))
  have c2 := decide_eq_true hq
  clear F1 hg hn HC HN
  rw [← hstop]; clear hstop
  go_wp2_with (with_reducible refine w4g ?_; refine q2y rfl _ _ rfl rfl rfl FA ?_; intro _ t1 h2; clear FA; have FA := t1; replace ht := ht.add h2 (fun x h => h); clear t1 h2)
  go_ret
  exact ⟨[], none, _, rfl, by simp, by simp, OwnR.nil _ _ _ _, RdD.bad FA hs, HG.out, ht⟩
 ·have c1 := decide_eq_false (show ¬ (most : Int) < (n : Int) by omega)
  have HG := hide hg
  have hgw2 := F5.lt
  have hqn : n ≤ 8 := by omega
  have c2 := decide_eq_false hq
  clear hg hn HN
  rw [← hstop]; clear hstop
  go_wp2_with fail
  go_loopw [8, 19] (fun v i wr => ∃ (k : Nat) (l : List WitT) (sk : Option (List UInt8)), i = .int .u64 k ∧ k ≤ n ∧ l.length = k ∧ (∀ x ∈ l, x.Ok) ∧ OwnR wr w.heap.size 74 33 v (l.map witCs) [] ∧ Hid (Got (manyP witP k) st1 l sk) ∧ RdD wr g sk ∧ One wr c 133 (.pointer (some ⟨g, 0, none⟩)) ∧ Touch (fun b => b = g) w wr) (fun _ i _ => n - (RowKit.intOf i).toNat)
  case atStart => exact ⟨0, [], st1, rfl, by omega, rfl, by simp, OwnR.nil _ _ _ _, hide (q5k _ _), F5, F1, ht⟩
  case round =>
   clear F1 F5 ht
   obtain ⟨k, l, sk, rfl, hk, hl, hok, O1, HK, F5, F1, ht⟩ := hrel
   by_cases hlt : k < n
   ·have hkw : IntKind.u64.wrap ((k : Int) + 1) = ((k + 1 : Nat) : Int) := by rw [IntKind.wrap_u64]; omega
    have hsz := ht.size
    have HOK := hide hok
    have HLL := hide hl
    clear hok hl c1 c2 HG
    go_wp2_with (first | (go_at_call 107; refine (HC.out _ _ F1 F5).mono ?_; rintro _ w1 ⟨x, s2, rfl, hx, h1, hg, ht1⟩; clear F5; have F5 := h1; clear h1; have l1 := F1.lt; replace F1 := F1.touch ht1 (by show ¬ _ = _; omega); replace O1 := O1.tg ht1 hgw; replace ht := ht.add ht1 (fun x h => h); clear ht1) | ((with_reducible refine w7g ?_); refine q2q rfl witElem (by decide) _ rfl (v := witV x) (el := witCs x) rfl (by simp [witV, Value.cells]) (q4k hx) (j3t x) ?_; intro _ g9 h9 O9 hb; have l1 := F1.lt; replace F1 := F1.later hb; replace F5 := F5.later hb; replace O1 := O1.later hb; replace ht := ht.behind hb; clear hb) | ((with_reducible refine w15g ?_); refine q0s rfl _ _ witElem rfl rfl O1 rfl O9.sl O9.2.1 (k + 1) (by rw [List.length_map, HLL.out]; rfl) (by omega) (by omega) (by have := ht.size; omega) ?_; intro a2 c2 w2 O2 ht2 _; replace F5 := F5.touch ht2 (O1.off hgw); replace F1 := F1.touch ht2 (O1.off hcw); replace ht := ht.trans ht2 (fun b hb => .inr (O1.ge b hb)); clear O1 O9 ht2))
    go_roundw
    case rel => exact ⟨k + 1, l ++ [x], s2, by simp, by omega, by simp [HLL.out], q6u HOK.out hx, by rw [List.map_append]; exact O2, hide (HK.out.snoc hg), F5, F1, ht⟩
    case measure => simp [RowKit.intOf]; omega
   ·obtain rfl : n = k := by omega
    have HOK := hide hok
    have HLL := hide hl
    clear hok hl
    obtain ⟨av, cv, rfl⟩ := O1.shape
    go_wp2_with fail
    go_ret
    exact ⟨l, sk, _, rfl, HOK.out, by rw [HLL.out]; omega, O1, F5, HG.out.list hq HK.out, ht⟩
end Go.Proofs.YtbbfnpfkbbpjgaaGreat
