/- deed.Take. -/
import Derived.Test.YtbbfnpfkbbpjgaaGreatQHBlkM
import Derived.Test.YtbbfnpfkbbpjgaaGreatQHDeed5
import Derived.Test.YtbbfnpfkbbpjgaaGreatQHRdIn
import Derived.Test.YtbbfnpfkbbpjgaaGreatQHTkCert
import Derived.Test.YtbbfnpfkbbpjgaaGreatQHSqOut
import Derived.Test.YtbbfnpfkbbpjgaaGreatQHTakeL
namespace Go.Proofs.YtbbfnpfkbbpjgaaGreat
open Go.RowKit Go.Lib
set_option linter.unusedVariables false
set_option linter.unusedSimpArgs false
set_option maxRecDepth 100000
set_option maxHeartbeats 4000000
theorem RdD.tt {w w' : World} {g g' : Nat} {st : Option (List UInt8)} (h : RdD w g st) (ht : Touch (fun y => y = g') w w') (hS : ¬ g = g' := by omega) : RdD w' g st := h.touch ht hS
theorem rdBuilt (s : ByteArray) : Tryz.prog.built 135 [(0, .string s)] = some #[.string s, .bool false] := by kernel_rfl
theorem rdpZero : (Tryz.prog.info? 133).bind (·.zero) = some (.pointer none) := by kernel_rfl
theorem rdpSize : (Tryz.prog.info? 133).map (·.size) = some 1 := by kernel_rfl
theorem DeedOwn.base {w : World} {B B' : Nat} {v : Value} {d : Deed} (h : DeedOwn w B v d) (hB : B' ≤ B) : DeedOwn w B' v d := by
 obtain ⟨v1, v2, v3, v4, v5, h0, h1, h2, h3, h4, h5, h6⟩ := h
 exact ⟨v1, v2, v3, v4, v5, h0, h1.base hB, h2.base hB, h3.base hB, h4.base hB, h5.base hB, h6⟩
theorem x3p {w : World} {B B1 B2 B3 B4 B5 : Nat} {v1 v2 v3 v4 v5 : Value} {l1 : List InT} {l2 : List OutT} {n3 n4 n5 : Nat} {l6 : List CertT} {l7 : List PayT} {l8 : List WitT} (O1 : OwnR w B1 80 33 v1 (l1.map inCs) []) (O2 : OwnR w B2 84 65 v2 (l2.map outCs) []) (O3 : OwnR w B3 87 68 v3 (l6.map certCs) []) (O4 : OwnR w B4 89 33 v4 (l7.map payCs) []) (O5 : OwnR w B5 74 33 v5 (l8.map witCs) [])
  (h1 : B ≤ B1) (h2 : B ≤ B2) (h3 : B ≤ B3) (h4 : B ≤ B4) (h5 : B ≤ B5) (ok : Deed.Ok ⟨l1, l2, n3, n4, n5, l6, l7, l8⟩) : DeedOwn w B (deedV v1 v2 v3 v4 v5 n3 n4 n5) ⟨l1, l2, n3, n4, n5, l6, l7, l8⟩ :=
 ⟨_, _, _, _, _, rfl, O1.base h1, O2.base h2, O3.base h3, O4.base h4, O5.base h5, ok⟩
theorem q5c {P : Program} {ops : Array Oper} {rest : List Oper} {o : Oper} {a : Act} {w : World} {Q : Exit → Act → World → Prop} (hw : Region.wanted o (yielded ops a.tmps) = true) {t u : TypeId} (x y : Operand) (ho : o.op = .binOp .neq t x y u) {m n : ByteArray} (hx : a.eval x = .string m) (hy : a.eval y = .string n) {B : Bool} (hB : (m.toList == n.toList) = B) (hk : wpList P ops Q rest (a.put o.dst (.bool (!B))) w) : wpList P ops Q (o :: rest) a w :=
 q3l hw _ (by
  unfold execOp
  simp only [ho, hx, hy, Sem.run_bind]
  subst hB
  simp [eqGuard, binOp, Op.stringOp]) hk
theorem j8r (s : ByteArray) (w : World) (hs : s.size ≤ 1048576) :
  Calls Tryz.prog 48 #[.string s] w fun e w' => (∃ v, e = .returned (.tuple #[v, .int .i64 (takeD s.data.toList).2]) ∧ DeedOwn w' w.heap.size v (takeD s.data.toList).1) ∧ Below w.heap.size w w' := by
 have HRB := hide (rdBuilt s)
 have HT := hide (fun d st (h : Got deedP (some s.data.toList) d st) => j8b h)
 have b := Below.refl w.heap.size w
 generalize hL : s.data.toList = L at *
 have HLs := hide hL
 clear hL
 generalize takeD L = T at *
 have mF8 := True.intro
 have mF2 := True.intro
 have mF1 := True.intro
 go_enter Tryz.func48, Tryz.ntmps48
 go_wp2_with (first | (with_reducible refine w12g ?_; clear mF8; refine q1x rfl rfl ?_; intro _ g8 hg8 F8 hb; replace b := later b hb; clear hb) | ((with_reducible refine w5g ?_); refine q2x rfl 135 _ rfl rfl (cs := [.string s, .bool false]) HRB.out ?_) | ((with_reducible refine w2g ?_); (try have := F1.lt); (try have := F2.lt); (try have := F5.lt); (try have := F8.lt); have := b.size; refine q4j rfl 135 _ rfl (v := .agg #[.string s, .bool false]) rfl (cs := [.string s, .bool false]) rfl ?_; intro _ g hg F5x hb; have F5 := RdD.good F5x hs HLs.out; clear F5x; replace F8 := F8.later hb; replace b := later b hb; clear hb) | ((with_reducible show wpList _ _ _ (⟨_, Op.alloc 133, _, _, _, _⟩ :: _) _ _); clear mF1; (try have := F1.lt); (try have := F2.lt); (try have := F5.lt); (try have := F8.lt); have := b.size; refine q5e rfl 133 rfl rdpZero (cs := [.pointer none]) rfl ?_; intro _ c hc F1 hb; replace F5 := F5.later hb; replace F8 := F8.later hb; replace b := later b hb; clear hb) | ((with_reducible show wpList _ _ _ (⟨_, Op.store 133 _ _, _, _, _, _⟩ :: _) _ _); refine q0i rfl 133 _ _ rfl (v := .pointer (some ⟨g, 0, none⟩)) rfl rfl F1 (by decide) rdpSize rfl rfl ?_; intro _ t1 ht1; clear F1; replace F5 := F5.tt ht1; replace F8 := F8.tt ht1; replace b := q0b b ht1 (by omega) (by omega); have F1 : One _ c 133 (.pointer (some ⟨g, 0, none⟩)) := t1; have hcg : c ≠ g := (by omega); clear t1 ht1) | (with_reducible refine w12g ?_; clear mF2; (try have := F1.lt); (try have := F2.lt); (try have := F5.lt); (try have := F8.lt); have := b.size; refine q1x rfl rfl ?_; intro _ gt hgt F2 hb; replace F1 := F1.later hb; replace F5 := F5.later hb; replace F8 := F8.later hb; replace b := later b hb; clear hb) | (with_reducible refine w0g ?_; refine q0a rfl 133 _ rfl rfl (One.cell F1) (by kernel_rfl) ?_) | (go_at_call 95; (try have := F1.lt); (try have := F2.lt); (try have := F5.lt); (try have := F8.lt); have := b.size; refine (takenIn c g _ 8 _ F1 F5 hcg (by decide)).mono ?_; rintro _ _ ⟨l1, s1, v1, rfl, k1, z1, O1, h1, hg, ht1⟩; clear F5; have F5 := h1; clear h1; obtain ⟨aO1, cO1, rfl⟩ := O1.shape; (try replace F1 := F1.tt ht1); (try replace F2 := F2.tt ht1); (try replace F8 := F8.tt ht1); replace b := q0b b ht1 (by omega) (by omega); have G1 := hide hg; have K1 := hide k1; have Z1 := hide z1; clear hg k1 z1 ht1) | ((with_reducible refine w4g ?_); refine j1r (v := .slice aO1 _ cO1) rfl _ _ rfl rfl rfl rfl rfl F2 ?_; intro _ t1 ht1; clear F2; (try replace F1 := F1.tt ht1); (try replace F8 := F8.tt ht1); (try replace O1 := O1.tg ht1 (by omega)); replace b := q0b b ht1 (by omega) (by omega); (try replace F5 := F5.tt ht1); have F2 := t1; clear t1 ht1) | (go_at_call 99; (try have := F1.lt); (try have := F2.lt); (try have := F5.lt); (try have := F8.lt); have := b.size; refine (takenOut c g _ 8 _ F1 F5 hcg (by decide)).mono ?_; rintro _ _ ⟨l2, s2, v1, rfl, k1, z1, O2, h1, hg, ht1⟩; clear F5; have F5 := h1; clear h1; obtain ⟨aO2, cO2, rfl⟩ := O2.shape; (try replace F1 := F1.tt ht1); (try replace F2 := F2.tt ht1); (try replace F8 := F8.tt ht1); (try replace O1 := O1.tg ht1 (by omega)); replace b := q0b b ht1 (by omega) (by omega); have G2 := hide hg; have K2 := hide k1; have Z2 := hide z1; clear hg k1 z1 ht1) | ((with_reducible refine w4g ?_); refine q9t (v := .slice aO2 _ cO2) rfl _ _ rfl rfl rfl rfl rfl F2 ?_; intro _ t1 ht1; clear F2; (try replace F1 := F1.tt ht1); (try replace F8 := F8.tt ht1); (try replace O1 := O1.tg ht1 (by omega)); (try replace O2 := O2.tg ht1 (by omega)); replace b := q0b b ht1 (by omega) (by omega); (try replace F5 := F5.tt ht1); have F2 := t1; clear t1 ht1) | (with_reducible show Code.wp _ (Code.region _ _ true) _ _ _; (try simp only [pS]); fail))
 (try simp only [pS])
 refine q1m (fun x => One x c 133 (.pointer (some ⟨g, 0, none⟩))) (.one [0, 2, 4] 1 (.one [6] 3 (.one [] 5 (.one [] 7 (.one [8] 9 (.bar [10] 11 (.stop []))))))) (by kernel_rfl) (by kernel_rfl) (by kernel_rfl) (by decide) (fun _ _ h hb => h.later hb) F1 ?_
 intro _ hb0 _ _
 (try replace F1 := F1.later hb0); (try replace F2 := F2.later hb0); (try replace F5 := F5.later hb0); (try replace F8 := F8.later hb0); (try replace O1 := O1.later hb0); (try replace O2 := O2.later hb0); replace b := later b hb0
 clear hb0
 refine q0w ?_
 simp only [pickOps, opAt, List.getElem?_cons_succ, List.getElem?_cons_zero, List.nil_append, List.cons_append]
 repeat ((go_big_quiet_want; first | ((with_reducible refine w28g ?_); first | (refine q1u 133 _ rfl rfl (fun w hw => One.cell (Kl.out hw)) (by kernel_rfl) ?_; simp only [pS]; go_big_quiet_on))))
 refine wpQuiet_nil ?_
 intro _ hb _
 (try replace F1 := F1.later hb); (try replace F2 := F2.later hb); (try replace F5 := F5.later hb); (try replace F8 := F8.later hb); (try replace O1 := O1.later hb); (try replace O2 := O2.later hb); replace b := later b hb
 clear hb
 (try have := F1.lt); (try have := F2.lt); (try have := F5.lt); (try have := F8.lt); have := b.size
 go_wp2_with (go_at_call 98; refine (rdNumber g _ _ F5).mono ?_; rintro _ _ ⟨n3, s3, rfl, hl, h1, hg, ht1⟩; clear F5; have F5 := h1; clear h1; (try replace F1 := F1.tt ht1); (try replace F2 := F2.tt ht1); (try replace F8 := F8.tt ht1); (try replace O1 := O1.tg ht1 (by omega)); (try replace O2 := O2.tg ht1 (by omega)); replace b := q0b b ht1 (by omega) (by omega); have G3 := hide hg; have K3 := hide hl; clear hg hl ht1)
 refine q1e (fun _ _ h hb => h.later hb) F1 ?_
 refine q0w ?_
 simp only [pickOps, opAt, List.getElem?_cons_succ, List.getElem?_cons_zero, List.nil_append, List.cons_append]
 repeat ((go_big_quiet_want; first | (go_big_quiet_op; first | (refine ⟨_, fun _ => rfl, ?_⟩; go_big_quiet_on))))
 refine wpQuiet_nil ?_
 intro _ hb _
 (try replace F1 := F1.later hb); (try replace F2 := F2.later hb); (try replace F5 := F5.later hb); (try replace F8 := F8.later hb); (try replace O1 := O1.later hb); (try replace O2 := O2.later hb); replace b := later b hb
 clear hb
 (try have := F1.lt); (try have := F2.lt); (try have := F5.lt); (try have := F8.lt); have := b.size
 go_wp2_with (go_at_call 98; refine (rdNumber g _ _ F5).mono ?_; rintro _ _ ⟨n4, s4, rfl, hl, h1, hg, ht1⟩; clear F5; have F5 := h1; clear h1; (try replace F1 := F1.tt ht1); (try replace F2 := F2.tt ht1); (try replace F8 := F8.tt ht1); (try replace O1 := O1.tg ht1 (by omega)); (try replace O2 := O2.tg ht1 (by omega)); replace b := q0b b ht1 (by omega) (by omega); have G4 := hide hg; have K4 := hide hl; clear hg hl ht1)
 refine q1e (fun _ _ h hb => h.later hb) F1 ?_
 refine q0w ?_
 simp only [pickOps, opAt, List.getElem?_cons_succ, List.getElem?_cons_zero, List.nil_append, List.cons_append]
 repeat (fail)
 refine wpQuiet_nil ?_
 intro _ hb _
 (try replace F1 := F1.later hb); (try replace F2 := F2.later hb); (try replace F5 := F5.later hb); (try replace F8 := F8.later hb); (try replace O1 := O1.later hb); (try replace O2 := O2.later hb); replace b := later b hb
 clear hb
 (try have := F1.lt); (try have := F2.lt); (try have := F5.lt); (try have := F8.lt); have := b.size
 go_wp2_with (go_at_call 98; refine (rdNumber g _ _ F5).mono ?_; rintro _ _ ⟨n5, s5, rfl, hl, h1, hg, ht1⟩; clear F5; have F5 := h1; clear h1; (try replace F1 := F1.tt ht1); (try replace F2 := F2.tt ht1); (try replace F8 := F8.tt ht1); (try replace O1 := O1.tg ht1 (by omega)); (try replace O2 := O2.tg ht1 (by omega)); replace b := q0b b ht1 (by omega) (by omega); have G5 := hide hg; have K5 := hide hl; clear hg hl ht1)
 refine q1e (fun _ _ h hb => h.later hb) F1 ?_
 refine q0w ?_
 simp only [pickOps, opAt, List.getElem?_cons_succ, List.getElem?_cons_zero, List.nil_append, List.cons_append]
 repeat (fail)
 refine wpQuiet_nil ?_
 intro _ hb _
 (try replace F1 := F1.later hb); (try replace F2 := F2.later hb); (try replace F5 := F5.later hb); (try replace F8 := F8.later hb); (try replace O1 := O1.later hb); (try replace O2 := O2.later hb); replace b := later b hb
 clear hb
 refine j1t (n := n3) rfl _ _ rfl rfl rfl F2 ?_
 intro _ t1 ht1
 clear F2
 (try replace F1 := F1.tt ht1); (try replace F8 := F8.tt ht1); (try replace O1 := O1.tg ht1 (by omega)); (try replace O2 := O2.tg ht1 (by omega)); replace b := q0b b ht1 (by omega) (by omega)
 (try replace F5 := F5.tt ht1)
 have F2 := t1
 clear t1 ht1
 refine q1e (fun _ _ h hb => h.later hb) F1 ?_
 (try simp only [pS])
 refine q0w ?_
 simp only [pickOps, opAt, List.getElem?_cons_succ, List.getElem?_cons_zero, List.nil_append, List.cons_append]
 repeat ((go_big_quiet_want; first | (go_big_quiet_op; first | (refine ⟨_, fun _ => rfl, ?_⟩; go_big_quiet_on))))
 refine wpQuiet_nil ?_
 intro _ hb _
 (try replace F1 := F1.later hb); (try replace F2 := F2.later hb); (try replace F5 := F5.later hb); (try replace F8 := F8.later hb); (try replace O1 := O1.later hb); (try replace O2 := O2.later hb); replace b := later b hb
 clear hb
 refine j1q (n := n4) rfl _ _ rfl rfl rfl F2 ?_
 intro _ t1 ht1
 clear F2
 (try replace F1 := F1.tt ht1); (try replace F8 := F8.tt ht1); (try replace O1 := O1.tg ht1 (by omega)); (try replace O2 := O2.tg ht1 (by omega)); replace b := q0b b ht1 (by omega) (by omega)
 (try replace F5 := F5.tt ht1)
 have F2 := t1
 clear t1 ht1
 refine q1e (fun _ _ h hb => h.later hb) F1 ?_
 (try simp only [pS])
 refine q2u ?_
 simp only [pickOps, opAt, List.getElem?_cons_succ, List.getElem?_cons_zero, List.nil_append, List.cons_append]
 repeat ((go_big_quiet_want; first | (go_big_quiet_op; first | (refine ⟨_, fun _ => rfl, ?_⟩; go_big_quiet_on))))
 refine wpQuiet_nil ?_
 intro _ hb _
 (try replace F1 := F1.later hb); (try replace F2 := F2.later hb); (try replace F5 := F5.later hb); (try replace F8 := F8.later hb); (try replace O1 := O1.later hb); (try replace O2 := O2.later hb); replace b := later b hb
 clear hb
 refine j1u (n := n5) rfl _ _ rfl rfl rfl F2 ?_
 intro _ t1 ht1
 clear F2
 (try replace F1 := F1.tt ht1); (try replace F8 := F8.tt ht1); (try replace O1 := O1.tg ht1 (by omega)); (try replace O2 := O2.tg ht1 (by omega)); replace b := q0b b ht1 (by omega) (by omega)
 (try replace F5 := F5.tt ht1)
 have F2 := t1
 clear t1 ht1
 refine q1v ?_
 (try simp only [pS])
 refine q2l ?_
 simp only [pickOps, opAt, List.getElem?_cons_succ, List.getElem?_cons_zero, List.nil_append, List.cons_append]
 repeat (fail)
 refine wpQuiet_nil ?_
 intro _ hb _
 (try replace F1 := F1.later hb); (try replace F2 := F2.later hb); (try replace F5 := F5.later hb); (try replace F8 := F8.later hb); (try replace O1 := O1.later hb); (try replace O2 := O2.later hb); replace b := later b hb
 clear hb
 (try have := F1.lt); (try have := F2.lt); (try have := F5.lt); (try have := F8.lt); have := b.size
 go_wp2_with (first | (with_reducible refine w0g ?_; refine q0a rfl 133 _ rfl rfl (One.cell F1) (by kernel_rfl) ?_) | (go_at_call 101; (try have := F1.lt); (try have := F2.lt); (try have := F5.lt); (try have := F8.lt); have := b.size; refine (takenCert c g _ 4 _ F1 F5 hcg (by decide)).mono ?_; rintro _ _ ⟨l6, s6, v1, rfl, k1, z1, O3, h1, hg, ht1⟩; clear F5; have F5 := h1; clear h1; obtain ⟨aO3, cO3, rfl⟩ := O3.shape; (try replace F1 := F1.tt ht1); (try replace F2 := F2.tt ht1); (try replace F8 := F8.tt ht1); (try replace O1 := O1.tg ht1 (by omega)); (try replace O2 := O2.tg ht1 (by omega)); replace b := q0b b ht1 (by omega) (by omega); have G6 := hide hg; have K6 := hide k1; have Z6 := hide z1; clear hg k1 z1 ht1) | ((with_reducible refine w4g ?_); refine q8u (v := .slice aO3 _ cO3) rfl _ _ rfl rfl rfl rfl rfl F2 ?_; intro _ t1 ht1; clear F2; (try replace F1 := F1.tt ht1); (try replace F8 := F8.tt ht1); (try replace O1 := O1.tg ht1 (by omega)); (try replace O2 := O2.tg ht1 (by omega)); (try replace O3 := O3.tg ht1 (by omega)); replace b := q0b b ht1 (by omega) (by omega); (try replace F5 := F5.tt ht1); have F2 := t1; clear t1 ht1) | (go_at_call 104; (try have := F1.lt); (try have := F2.lt); (try have := F5.lt); (try have := F8.lt); have := b.size; refine (takenPay c g _ 4 _ F1 F5 hcg (by decide)).mono ?_; rintro _ _ ⟨l7, s7, v1, rfl, k1, z1, O4, h1, hg, ht1⟩; clear F5; have F5 := h1; clear h1; obtain ⟨aO4, cO4, rfl⟩ := O4.shape; (try replace F1 := F1.tt ht1); (try replace F2 := F2.tt ht1); (try replace F8 := F8.tt ht1); (try replace O1 := O1.tg ht1 (by omega)); (try replace O2 := O2.tg ht1 (by omega)); (try replace O3 := O3.tg ht1 (by omega)); replace b := q0b b ht1 (by omega) (by omega); have G7 := hide hg; have K7 := hide k1; have Z7 := hide z1; clear hg k1 z1 ht1) | ((with_reducible refine w4g ?_); refine q9x (v := .slice aO4 _ cO4) rfl _ _ rfl rfl rfl rfl rfl F2 ?_; intro _ t1 ht1; clear F2; (try replace F1 := F1.tt ht1); (try replace F8 := F8.tt ht1); (try replace O1 := O1.tg ht1 (by omega)); (try replace O2 := O2.tg ht1 (by omega)); (try replace O3 := O3.tg ht1 (by omega)); (try replace O4 := O4.tg ht1 (by omega)); replace b := q0b b ht1 (by omega) (by omega); (try replace F5 := F5.tt ht1); have F2 := t1; clear t1 ht1) | (go_at_call 106; (try have := F1.lt); (try have := F2.lt); (try have := F5.lt); (try have := F8.lt); have := b.size; refine (takenWit c g _ 8 _ F1 F5 hcg (by decide)).mono ?_; rintro _ _ ⟨l8, s8, v1, rfl, k1, z1, O5, h1, hg, ht1⟩; clear F5; have F5 := h1; clear h1; obtain ⟨aO5, cO5, rfl⟩ := O5.shape; (try replace F1 := F1.tt ht1); (try replace F2 := F2.tt ht1); (try replace F8 := F8.tt ht1); (try replace O1 := O1.tg ht1 (by omega)); (try replace O2 := O2.tg ht1 (by omega)); (try replace O3 := O3.tg ht1 (by omega)); (try replace O4 := O4.tg ht1 (by omega)); replace b := q0b b ht1 (by omega) (by omega); have G8 := hide hg; have K8 := hide k1; have Z8 := hide z1; clear hg k1 z1 ht1) | ((with_reducible refine w4g ?_); refine j0a (v := .slice aO5 _ cO5) rfl _ _ rfl rfl rfl rfl rfl F2 ?_; intro _ t1 ht1; clear F2; (try replace F1 := F1.tt ht1); (try replace F8 := F8.tt ht1); (try replace O1 := O1.tg ht1 (by omega)); (try replace O2 := O2.tg ht1 (by omega)); (try replace O3 := O3.tg ht1 (by omega)); (try replace O4 := O4.tg ht1 (by omega)); (try replace O5 := O5.tg ht1 (by omega)); replace b := q0b b ht1 (by omega) (by omega); (try replace F5 := F5.tt ht1); have F2 := t1; clear t1 ht1) | (with_reducible show wpList _ _ _ (⟨_, Op.load 4 _, _, _, _, _⟩ :: _) _ _; generalize hstop : wpList _ _ _ _ _ _ = Gstop))
 obtain ⟨d, hd⟩ : ∃ d : Deed, d = ⟨l1, l2, n3, n4, n5, l6, l7, l8⟩ := ⟨_, rfl⟩
 have HOK : Hid d.Ok := by rw [hd]; exact ⟨K1.out, K2.out, K3.out, K4.out, K5.out, K6.out, K7.out, K8.out⟩
 have HFT : Hid d.Fit := by rw [hd]; exact ⟨Nat.le_trans Z1.out (by decide), Nat.le_trans Z2.out (by decide), Nat.le_trans Z6.out (by decide), Nat.le_trans Z7.out (by decide), Nat.le_trans Z8.out (by decide)⟩
 have HGD : Got deedP (some L) d s8 := by
  rw [hd]
  have GB : Got bodyP (some L) ⟨l1, l2, n3, n4, n5, l6, l7, []⟩ s7 := G1.out.bind (G2.out.bind (G3.out.bind (G4.out.bind (G5.out.bind (G6.out.bind (G7.out.last (f := fun p => (⟨l1, l2, n3, n4, n5, l6, p, []⟩ : Deed))))))))
  exact GB.bind (G8.out.last (f := fun w => (⟨l1, l2, n3, n4, n5, l6, l7, w⟩ : Deed)))
 have HTD := hide (HT.out d s8 HGD)
 have HOW := x3p (B := g8 + 1) (n3 := n3) (n4 := n4) (n5 := n5) O1 O2 O3 O4 O5 (by omega) (by omega) (by omega) (by omega) (by omega) (by rw [hd] at HOK; exact HOK.out)
 rw [← hd] at HOW
 simp only [List.length_map] at HOW F2
 clear O1 O2 O3 O4 O5 G1 G2 G3 G4 G5 G6 G7 G8 K1 K2 K3 K4 K5 K6 K7 K8 Z1 Z2 Z6 Z7 Z8 hd HGD HT
 generalize l1.length = m1 at *
 generalize l2.length = m2 at *
 generalize l6.length = m6 at *
 generalize l7.length = m7 at *
 generalize l8.length = m8 at *
 obtain ⟨q, bb, FA, hq, hbad, hgood⟩ := F5
 cases s8 with
 | none =>
  obtain rfl := hbad rfl
  have hR : T = (deed0, 6) := by rw [HTD.out]; exact if_neg (fun h => by cases h.1)
  have HR := hide hR
  clear hbad hgood HTD hR
  rw [← hstop]; clear hstop
  go_wp2_with (first | (with_reducible refine w0g ?_; refine q0a rfl 4 _ rfl rfl (RA.c1 FA) (by kernel_rfl) ?_) | ((with_reducible refine w5g ?_); refine q0q rfl 29 rfl (cs := deedCs nilS nilS nilS nilS nilS 0 0 0) deedBuilt0 ?_) | ((with_reducible refine w4g ?_); refine q1b rfl _ _ rfl rfl (v1 := nilS) (v2 := nilS) (v3 := nilS) (v4 := nilS) (v5 := nilS) (f := 0) (s := 0) (t := 0) rfl rfl rfl rfl rfl rfl F8 ?_; intro _ t1 ht1; replace b := q0b b ht1 (by omega) (by omega); clear F8; have F8 := t1; clear t1 ht1))
  refine bodyPost_ret (q3q rfl _ _ _ rfl rfl F8) rfl ?_
  rw [HR.out]
  exact ⟨⟨_, rfl, DeedOwn.nil _ _⟩, b⟩
 | some r =>
  obtain ⟨rfl, hr⟩ := hgood r rfl
  clear hbad hgood
  cases r with
  | cons r0 r1 =>
   have hR : T = (deed0, 6) := by rw [HTD.out]; exact if_neg (fun h => by cases h.1)
   have HE : Hid ((q.toList == ByteArray.toList ⟨#[]⟩) = false) := by
    rw [ByteArray.toList_eq, ByteArray.toList_eq, hr]
    exact hide rfl
   have HR := hide hR
   clear HTD hR hr
   rw [← hstop]; clear hstop
   go_wp2_with (first | (with_reducible refine w0g ?_; refine q0a rfl 133 _ rfl rfl (One.cell F1) (by kernel_rfl) ?_) | (with_reducible refine w0g ?_; refine q0a rfl 4 _ rfl rfl (RA.c1 FA) (by kernel_rfl) ?_) | (with_reducible refine w0g ?_; refine q0a rfl 9 _ rfl rfl (RA.c0 FA) (by kernel_rfl) ?_) | (with_reducible refine w8g ?_; refine q5c rfl _ _ rfl rfl rfl HE.out ?_) | ((with_reducible refine w5g ?_); refine q0q rfl 29 rfl (cs := deedCs nilS nilS nilS nilS nilS 0 0 0) deedBuilt0 ?_) | ((with_reducible refine w4g ?_); refine q1b rfl _ _ rfl rfl (v1 := nilS) (v2 := nilS) (v3 := nilS) (v4 := nilS) (v5 := nilS) (f := 0) (s := 0) (t := 0) rfl rfl rfl rfl rfl rfl F8 ?_; intro _ t1 ht1; replace b := q0b b ht1 (by omega) (by omega); clear F8; have F8 := t1; clear t1 ht1))
   refine bodyPost_ret (q3q rfl _ _ _ rfl rfl F8) rfl ?_
   rw [HR.out]
   exact ⟨⟨_, rfl, DeedOwn.nil _ _⟩, b⟩
  | nil =>
   have HE : Hid ((q.toList == ByteArray.toList ⟨#[]⟩) = true) := by
    rw [ByteArray.toList_eq, ByteArray.toList_eq, hr]
    exact hide rfl
   cases hm : mayD d
   case false =>
    have hR : T = (deed0, 6) := by rw [HTD.out]; exact if_neg (fun h => by rw [hm] at h; cases h.2)
    have HR := hide hR
    have HMY := hide (fun v w' (h : DeedOwn w' (g8 + 1) v d) => j2g v d w' h.is HFT.out)
    rw [hm] at HMY
    clear HTD hR hr hm
    rw [← hstop]; clear hstop
    go_wp2_with (first | (with_reducible refine w0g ?_; refine q0a rfl 133 _ rfl rfl (One.cell F1) (by kernel_rfl) ?_) | (with_reducible refine w0g ?_; refine q0a rfl 4 _ rfl rfl (RA.c1 FA) (by kernel_rfl) ?_) | (with_reducible refine w0g ?_; refine q0a rfl 9 _ rfl rfl (RA.c0 FA) (by kernel_rfl) ?_) | (with_reducible refine w8g ?_; refine q5c rfl _ _ rfl rfl rfl HE.out ?_) | (with_reducible refine w0g ?_; refine q1g rfl _ rfl rfl F2 ?_) | (go_at_call 58; refine (HMY.out _ _ HOW).mono ?_; rintro _ _ ⟨rfl, hc⟩; replace F2 := F2.later hc; replace F8 := F8.later hc; replace HOW := HOW.later hc; replace b := later b hc; clear hc) | ((with_reducible refine w5g ?_); refine q0q rfl 29 rfl (cs := deedCs nilS nilS nilS nilS nilS 0 0 0) deedBuilt0 ?_) | ((with_reducible refine w4g ?_); refine q1b rfl _ _ rfl rfl (v1 := nilS) (v2 := nilS) (v3 := nilS) (v4 := nilS) (v5 := nilS) (f := 0) (s := 0) (t := 0) rfl rfl rfl rfl rfl rfl F8 ?_; intro _ t1 ht1; replace b := q0b b ht1 (by omega) (by omega); clear F8; have F8 := t1; clear t1 ht1))
    refine bodyPost_ret (q3q rfl _ _ _ rfl rfl F8) rfl ?_
    rw [HR.out]
    exact ⟨⟨_, rfl, DeedOwn.nil _ _⟩, b⟩
   case true =>
    have hR : T = (d, 0) := by rw [HTD.out]; exact if_pos ⟨rfl, hm⟩
    have HR := hide hR
    have HMY := hide (fun v w' (h : DeedOwn w' (g8 + 1) v d) => j2g v d w' h.is HFT.out)
    rw [hm] at HMY
    clear HTD hR hr hm
    rw [← hstop]; clear hstop
    have q1 := F2.o1
    have q2 := F2.o2
    have q3 := F2.o3
    have q4 := F2.o4
    have q5 := F2.o5
    go_wp2_with (first | (with_reducible refine w0g ?_; refine q0a rfl 133 _ rfl rfl (One.cell F1) (by kernel_rfl) ?_) | (with_reducible refine w0g ?_; refine q0a rfl 4 _ rfl rfl (RA.c1 FA) (by kernel_rfl) ?_) | (with_reducible refine w0g ?_; refine q0a rfl 9 _ rfl rfl (RA.c0 FA) (by kernel_rfl) ?_) | (with_reducible refine w8g ?_; refine q5c rfl _ _ rfl rfl rfl HE.out ?_) | (with_reducible refine w0g ?_; refine q1g rfl _ rfl rfl F2 ?_) | (go_at_call 58; refine (HMY.out _ _ HOW).mono ?_; rintro _ _ ⟨rfl, hc⟩; replace F2 := F2.later hc; replace F8 := F8.later hc; replace HOW := HOW.later hc; replace b := later b hc; clear hc) | ((with_reducible refine w4g ?_); refine q1b rfl _ _ rfl rfl (v1 := .slice aO1 m1 cO1) (v2 := .slice aO2 m2 cO2) (v3 := .slice aO3 m6 cO3) (v4 := .slice aO4 m7 cO4) (v5 := .slice aO5 m8 cO5) (f := n3) (s := n4) (t := n5) rfl rfl rfl rfl rfl rfl F8 ?_; intro _ t1 ht1; replace b := q0b b ht1 (by omega) (by omega); have l8 := F8.lt; clear F8; have F8 := t1; replace HOW := HOW.tt ht1 (Nat.lt_succ_self _); clear t1 ht1))
    refine bodyPost_ret (q3q rfl _ _ _ rfl rfl F8) rfl ?_
    rw [HR.out]
    exact ⟨⟨_, rfl, HOW.base (by omega)⟩, b⟩
def smallD : Deed := ⟨[in0], [], 0, 0, 0, [], [], []⟩
theorem j8w : smallD.Ok := ⟨by intro x hx; simp [smallD] at hx; subst hx; exact x1e, by simp [smallD], by decide, by decide, by decide, by simp [smallD], by simp [smallD], by simp [smallD]⟩
theorem x3d : mayD smallD = true := by decide +kernel
theorem q8n : (fullL smallD).length = 41 := by decide +kernel
theorem x3q : smallD.Fit := ⟨by decide, by decide, by decide, by decide, by decide⟩
theorem inBuilt0 : Tryz.prog.built 80 [] = some (inCs in0).toArray := by kernel_rfl
theorem deedBuilt1 (a : Option Addr) (n c : Nat) : Tryz.prog.built 29 [(0, .slice a n c)] = some (deedCs (.slice a n c) nilS nilS nilS nilS 0 0 0).toArray := by kernel_rfl
/-- What was read of s up to the place k, and is more: its short form begins so. -/
def PreR (s : List UInt8) (k m : Nat) : Prop := m < 128 ^ k ∧ ∀ x, 0 < x → putF 10 (m + x * 128 ^ k) = s.take k ++ putF (10 - k) x
theorem x6g (s : List UInt8) : PreR s 0 0 := ⟨by simp, fun x _ => by simp⟩
theorem j4y {s : List UInt8} {k : Nat} (hl : k < s.length) : s.take (k + 1) = s.take k ++ [s.getD k 0] := by
 rw [List.take_succ_eq_append_getElem hl, List.getD_eq_getElem?_getD, List.getElem?_eq_getElem hl, Option.getD_some]
theorem x8n {s : List UInt8} {k m : Nat} (h : PreR s k m) (hk : k < 9) (hl : k < s.length) (hc : 128 ≤ (s.getD k 0).toNat) : PreR s (k + 1) (m + (s.getD k 0).toNat % 128 * 128 ^ k) := by
  obtain ⟨h1, h2⟩ := h
  have e := j4y hl
  have hc2 := (s.getD k 0).toNat_lt
  have hof : UInt8.ofNat (s.getD k 0).toNat = s.getD k 0 := UInt8.ofNat_toNat
  generalize s.getD k 0 = c at *
  refine ⟨?_, fun x hx => ?_⟩
  · rw [Nat.pow_succ]
    have : (c.toNat % 128 + 1) * 128 ^ k ≤ 128 * 128 ^ k := Nat.mul_le_mul_right _ (by omega)
    rw [Nat.add_mul] at this
    omega
  · have e1 : m + c.toNat % 128 * 128 ^ k + x * 128 ^ (k + 1) = m + (c.toNat % 128 + x * 128) * 128 ^ k := by
      rw [Nat.pow_succ, Nat.add_mul, Nat.add_assoc, Nat.mul_assoc x, Nat.mul_comm 128]
    rw [e1, h2 _ (by omega), e, List.append_assoc, show 10 - k = (10 - (k + 1)) + 1 by omega, putF, if_neg (by omega),
      show (c.toNat % 128 + x * 128) % 128 + 128 = c.toNat by omega, show (c.toNat % 128 + x * 128) / 128 = x by omega, hof]
    rfl
theorem z2m {s : List UInt8} {k m : Nat} (h : PreR s k m) (hk : k < 10) (hl : k < s.length) (hc : (s.getD k 0).toNat < 128) (h0 : ¬ ((s.getD k 0).toNat = 0 ∧ 0 < k)) : putL (m + (s.getD k 0).toNat % 128 * 128 ^ k) = s.take (k + 1) := by
 obtain ⟨h1, h2⟩ := h
 rw [j4y hl]
 have hof : UInt8.ofNat (s.getD k 0).toNat = s.getD k 0 := UInt8.ofNat_toNat
 generalize s.getD k 0 = c at *
 rw [Nat.mod_eq_of_lt hc]
 by_cases hz : c.toNat = 0
 ·have hk0 : k = 0 := by omega
  subst hk0
  have hm : m = 0 := by simpa using h1
  subst hm
  rw [hz]
  have : c = 0 := UInt8.toNat_inj.1 (by simpa using hz)
  subst this
  rfl
 ·unfold putL
  rw [h2 _ (by omega), show 10 - k = (10 - (k + 1)) + 1 by omega, putF, if_pos hc, hof]
theorem j5t : ∀ (r m k : Nat), 0 < k → m < 128 ^ k → (putF r m).length ≤ k
 | 0, _, _, _, _ => by simp [putF]
 | r + 1, m, k, hk, hm => by
  rw [putF]
  split
  ·simp; omega
  ·rename_i h
   obtain ⟨k, rfl⟩ : ∃ q, k = q + 1 := ⟨k - 1, by omega⟩
   by_cases h0 : k = 0
   ·subst h0; simp at hm; omega
   ·have := j5t r (m / 128) k (by omega) (by rw [Nat.pow_succ] at hm; exact Nat.div_lt_of_lt_mul (by rwa [Nat.mul_comm] at hm))
    rw [List.length_cons]; omega
theorem z0u {s : List UInt8} {k m : Nat} (h : PreR s k m) (hk : 0 < k) : (putL m).length ≤ k := j5t _ _ _ hk h.1
/-- A product of 64 bits: is it whole? -/
theorem x7x (p k : Nat) (hp : p < 128) (hk : k < 10) : (p * 128 ^ k % 18446744073709551616 / 128 ^ k = p) ↔ ¬ (k = 9 ∧ 1 < p) := by
 have hc : k = 0 ∨ k = 1 ∨ k = 2 ∨ k = 3 ∨ k = 4 ∨ k = 5 ∨ k = 6 ∨ k = 7 ∨ k = 8 ∨ k = 9 := by omega
 have h9 : ∀ q : Fin 128, (q.1 * 9223372036854775808 % 18446744073709551616 / 9223372036854775808 = q.1) ↔ ¬ 1 < q.1 := by decide +kernel
 have h9p := h9 ⟨p, hp⟩
 rcases hc with rfl | rfl | rfl | rfl | rfl | rfl | rfl | rfl | rfl | rfl
 case inr.inr.inr.inr.inr.inr.inr.inr.inr =>
  simp only [Nat.reducePow, true_and]
  exact h9p
 all_goals
  clear h9 h9p
  simp only [Nat.reducePow]
  omega
end Go.Proofs.YtbbfnpfkbbpjgaaGreat
