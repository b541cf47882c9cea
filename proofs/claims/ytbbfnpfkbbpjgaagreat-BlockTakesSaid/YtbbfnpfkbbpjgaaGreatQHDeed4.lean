/- deed.cert. -/
import Derived.Test.YtbbfnpfkbbpjgaaGreatQHDeed3
namespace Go.Proofs.YtbbfnpfkbbpjgaaGreat
open Go.RowKit Go.Lib
set_option linter.unusedVariables false
set_option linter.unusedSimpArgs false
set_option maxRecDepth 100000
set_option maxHeartbeats 4000000
section
variable {P : Program} {ops : Array Oper} {rest : List Oper} {o : Oper} {a : Act} {w : World} {Q : Exit → Act → World → Prop} {K : Act → Prop}
theorem j4a (hw : Region.wanted o (yielded ops a.tmps) = true) {t u : TypeId} (x y : Operand) (ho : o.op = .binOp .lss t x y u) {k : IntKind} {m n : Int} (hx : a.eval x = .int k m) (hy : a.eval y = .int k n) {B : Bool} (hB : decide (m < n) = B) (hk : wpList P ops Q rest (a.put o.dst (.bool B)) w) : wpList P ops Q (o :: rest) a w :=
 q3l hw _ (by
  unfold execOp
  simp only [ho, hx, hy, Sem.run_bind]
  subst hB
  simp [eqGuard, binOp, Op.intCmp]) hk
theorem q9e (hw : Region.wanted o (yielded ops a.tmps) = true) {t u : TypeId} (x y : Operand) (ho : o.op = .binOp .leq t x y u) {k : IntKind} {m n : Int} (hx : a.eval x = .int k m) (hy : a.eval y = .int k n) {B : Bool} (hB : decide (m ≤ n) = B) (hk : wpList P ops Q rest (a.put o.dst (.bool B)) w) : wpList P ops Q (o :: rest) a w :=
 q3l hw _ (by
  unfold execOp
  simp only [ho, hx, hy, Sem.run_bind]
  subst hB
  simp [eqGuard, binOp, Op.intCmp]) hk
end
def certK (k : Nat) : CertT := ⟨k, zero32, zero32, 0, 0, 0⟩
theorem certBuilt (k : Nat) : Tryz.prog.built 87 [(0, .int .u8 k)] = some (certCs (certK k)).toArray := by kernel_rfl
theorem q6l {k : Nat} (h : k < 256) : (certK k).Ok := ⟨h, rfl, rfl, by show (0 : Nat) < _; decide, by show (0 : Nat) < _; decide, by show (0 : Nat) < _; decide⟩
theorem x5u (k : Nat) (key pool : List UInt8) (x y z : Nat) (hk : k = 1 ∨ k = 2) (w : World) (hc : CertT.Ok ⟨k, key, pool, x, y, z⟩) (B : Bool) (hB : sameCert ⟨k, key, pool, x, y, z⟩ ⟨k, key, zero32, 0, 0, 0⟩ = B) :
  Calls Tryz.prog 123 #[certV ⟨k, key, pool, x, y, z⟩] w fun e w' => e = .returned (.bool B) ∧ Below w.heap.size w w' := by
 have HX := hide hc
 have HK : Hid (key.length = 32) := hc.2.1
 have HY : Hid ((certK k).Ok) := q6l hc.1
 have HZ : Hid (CertT.Ok ⟨k, key, zero32, 0, 0, 0⟩) := ⟨hc.1, hc.2.1, rfl, (q6l hc.1).2.2.2⟩
 have HB := hide (certBuilt k)
 have HS := hide hB
 have b := Below.refl w.heap.size w
 clear hc hB
 have mF1 := True.intro
 have mF2 := True.intro
 rcases hk with rfl | rfl
 all_goals
  cases B
  all_goals
   go_enter Tryz.func123, Tryz.ntmps123
   go_wp2_with (first | (with_reducible refine w2g ?_; clear mF1; refine q1q rfl _ rfl rfl HX.out ?_; intro _ g1 hg1 F1 hb; (try have := F1.lt); (try have := F2.lt); (try have := z.lt); (try have := b.size); (try replace b := later b hb); clear hb) | (with_reducible refine w0g ?_; refine q0a rfl 5 _ rfl rfl (CertAt.kind F1) (by kernel_rfl) ?_) | ((with_reducible refine w5g ?_); refine q2x rfl 87 _ rfl rfl HB.out ?_) | (with_reducible refine w3g ?_; clear mF2; refine q3f rfl rfl ?_; intro _ g3 hg3 F2 hb; (try have := F1.lt); (try have := F2.lt); (try have := z.lt); (try have := b.size); (try replace F1 := F1.later hb); (try replace b := later b hb); clear hb) | (with_reducible refine w4g ?_; refine q2o rfl _ _ rfl rfl rfl HY.out F2 ?_; intro _ t1 ht; (try replace F1 := F1.tt ht); (try replace b := q0b b ht (by omega) (by omega)); replace F2 := t1; clear ht) | (with_reducible refine w0g ?_; refine q0h rfl _ rfl rfl ((CertAt.key F1)) (HK.out) ?_) | (with_reducible refine w4g ?_; refine q5r rfl _ _ rfl rfl rfl HK.out F2 ?_; intro _ t1 ht; (try replace F1 := F1.tt ht); (try replace b := q0b b ht (by omega) (by omega)); (try dsimp only [certK] at t1); replace F2 := t1; clear ht) | (with_reducible refine w0g ?_; refine q1k rfl _ rfl rfl F1.cells HX.out ?_) | (with_reducible refine w0g ?_; refine q1k rfl _ rfl rfl F2.cells HZ.out ?_) | (with_reducible refine w8g ?_; refine q6e rfl _ _ rfl rfl rfl HX.out HZ.out ?_; rw [HS.out]))
   go_ret
   exact ⟨rfl, b⟩
theorem x6s (key pool : List UInt8) (x y z : Nat) (w : World) (hc : CertT.Ok ⟨4, key, pool, x, y, z⟩) (B1 B2 B3 : Bool) (h1 : decide ((x : Int) < 9223372036854775808) = B1) (h2 : decide ((y : Int) < 9223372036854775808) = B2) (h3 : decide ((z : Int) ≤ 1000) = B3) :
  Calls Tryz.prog 123 #[certV ⟨4, key, pool, x, y, z⟩] w fun e w' => e = .returned (.bool (B1 && (B2 && B3))) ∧ Below w.heap.size w w' := by
 have HX := hide hc
 have HY : Hid ((certK 4).Ok) := q6l hc.1
 have HB := hide (certBuilt 4)
 have HS := hide ((j3m ⟨4, key, pool, x, y, z⟩ ⟨4, key, pool, x, y, z⟩).2 rfl)
 have H1 := hide h1
 have H2 := hide h2
 have H3 := hide h3
 have b := Below.refl w.heap.size w
 clear hc h1 h2 h3
 have mF1 := True.intro
 have mF2 := True.intro
 cases B1 <;> cases B2
 all_goals
  go_enter Tryz.func123, Tryz.ntmps123
  go_wp2_with (first | (with_reducible refine w2g ?_; clear mF1; refine q1q rfl _ rfl rfl HX.out ?_; intro _ g1 hg1 F1 hb; (try have := F1.lt); (try have := F2.lt); (try have := z.lt); (try have := b.size); (try replace b := later b hb); clear hb) | (with_reducible refine w0g ?_; refine q0a rfl 5 _ rfl rfl (CertAt.kind F1) (by kernel_rfl) ?_) | ((with_reducible refine w5g ?_); refine q2x rfl 87 _ rfl rfl HB.out ?_) | (with_reducible refine w3g ?_; clear mF2; refine q3f rfl rfl ?_; intro _ g3 hg3 F2 hb; (try have := F1.lt); (try have := F2.lt); (try have := z.lt); (try have := b.size); (try replace F1 := F1.later hb); (try replace b := later b hb); clear hb) | (with_reducible refine w4g ?_; refine q2o rfl _ _ rfl rfl rfl HY.out F2 ?_; intro _ t1 ht; (try replace F1 := F1.tt ht); (try replace b := q0b b ht (by omega) (by omega)); replace F2 := t1; clear ht) | (with_reducible refine w0g ?_; refine q1k rfl _ rfl rfl F1.cells HX.out ?_) | (with_reducible refine w0g ?_; refine q1k rfl _ rfl rfl F2.cells HX.out ?_) | (with_reducible refine w4g ?_; refine q2o rfl _ _ rfl rfl rfl HX.out F2 ?_; intro _ t1 ht; (try replace F1 := F1.tt ht); (try replace b := q0b b ht (by omega) (by omega)); replace F2 := t1; clear ht) | (with_reducible refine w8g ?_; refine q6e rfl _ _ rfl rfl rfl HX.out HX.out ?_; rw [HS.out]) | ((with_reducible refine w0g ?_; refine q0a rfl 24 _ rfl rfl (CertAt.a F1) (by kernel_rfl) ?_)) | ((with_reducible refine w0g ?_; refine q0a rfl 24 _ rfl rfl (CertAt.b F1) (by kernel_rfl) ?_)) | ((with_reducible refine w0g ?_; refine q0a rfl 24 _ rfl rfl (CertAt.c F1) (by kernel_rfl) ?_)) | (with_reducible refine w8g ?_; first | refine j4a rfl _ _ rfl rfl rfl H1.out ?_ | refine j4a rfl _ _ rfl rfl rfl H2.out ?_ | refine q9e rfl _ _ rfl rfl rfl H3.out ?_))
  go_ret
  exact ⟨rfl, b⟩
theorem x6j (k : Nat) (key pool : List UInt8) (x y z : Nat) (hk : k ≠ 1 ∧ k ≠ 2 ∧ k ≠ 3 ∧ k ≠ 4 ∧ k ≠ 5 ∧ k ≠ 6) (w : World) (hc : CertT.Ok ⟨k, key, pool, x, y, z⟩) :
  Calls Tryz.prog 123 #[certV ⟨k, key, pool, x, y, z⟩] w fun e w' => e = .returned (.bool false) ∧ Below w.heap.size w w' := by
 have HX := hide hc
 have HY : Hid ((certK k).Ok) := q6l hc.1
 have HB := hide (certBuilt k)
 have b := Below.refl w.heap.size w
 obtain ⟨k1, k2, k3, k4, k5, k6⟩ := hk
 have e1 : ((k : Int) == 1) = false := by rw [beq_eq_false_iff_ne]; omega
 have e2 : ((k : Int) == 2) = false := by rw [beq_eq_false_iff_ne]; omega
 have e3 : ((k : Int) == 3) = false := by rw [beq_eq_false_iff_ne]; omega
 have e4 : ((k : Int) == 4) = false := by rw [beq_eq_false_iff_ne]; omega
 have e5 : ((k : Int) == 5) = false := by rw [beq_eq_false_iff_ne]; omega
 have e6 : ((k : Int) == 6) = false := by rw [beq_eq_false_iff_ne]; omega
 clear hc k1 k2 k3 k4 k5 k6
 have mF1 := True.intro
 have mF2 := True.intro
 go_enter Tryz.func123, Tryz.ntmps123
 go_wp2_with (first | (with_reducible refine w2g ?_; clear mF1; refine q1q rfl _ rfl rfl HX.out ?_; intro _ g1 hg1 F1 hb; (try have := F1.lt); (try have := F2.lt); (try have := z.lt); (try have := b.size); (try replace b := later b hb); clear hb) | (with_reducible refine w0g ?_; refine q0a rfl 5 _ rfl rfl (CertAt.kind F1) (by kernel_rfl) ?_) | ((with_reducible refine w5g ?_); refine q2x rfl 87 _ rfl rfl HB.out ?_) | (with_reducible refine w3g ?_; clear mF2; refine q3f rfl rfl ?_; intro _ g3 hg3 F2 hb; (try have := F1.lt); (try have := F2.lt); (try have := z.lt); (try have := b.size); (try replace F1 := F1.later hb); (try replace b := later b hb); clear hb) | (with_reducible refine w4g ?_; refine q2o rfl _ _ rfl rfl rfl HY.out F2 ?_; intro _ t1 ht; (try replace F1 := F1.tt ht); (try replace b := q0b b ht (by omega) (by omega)); replace F2 := t1; clear ht))
 go_ret
 exact ⟨rfl, b⟩
theorem x6k (key pool : List UInt8) (x y z : Nat) (w : World) (hc : CertT.Ok ⟨3, key, pool, x, y, z⟩) (B : Bool) (hB : sameCert ⟨3, key, pool, x, y, z⟩ ⟨3, key, pool, 0, 0, 0⟩ = B) :
  Calls Tryz.prog 123 #[certV ⟨3, key, pool, x, y, z⟩] w fun e w' => e = .returned (.bool B) ∧ Below w.heap.size w w' := by
 have HX := hide hc
 have HK : Hid (key.length = 32) := hc.2.1
 have HL : Hid (pool.length = 32) := hc.2.2.1
 have HM : Hid (U64 x) := hc.2.2.2.1
 have HN : Hid (U64 y) := hc.2.2.2.2.1
 have HY : Hid ((certK 3).Ok) := q6l hc.1
 have HZ : Hid (CertT.Ok ⟨3, key, pool, 0, 0, 0⟩) := ⟨hc.1, hc.2.1, hc.2.2.1, (q6l hc.1).2.2.2⟩
 have HB := hide (certBuilt 3)
 have HS := hide hB
 have b := Below.refl w.heap.size w
 clear hc hB
 have mF1 := True.intro
 have mF2 := True.intro
 go_enter Tryz.func123, Tryz.ntmps123
 go_wp2_with (first | (with_reducible refine w2g ?_; clear mF1; refine q1q rfl _ rfl rfl HX.out ?_; intro _ g1 hg1 F1 hb; (try have := F1.lt); (try have := F2.lt); (try have := z.lt); (try have := b.size); (try replace b := later b hb); clear hb) | (with_reducible refine w0g ?_; refine q0a rfl 5 _ rfl rfl (CertAt.kind F1) (by kernel_rfl) ?_) | ((with_reducible refine w5g ?_); refine q2x rfl 87 _ rfl rfl HB.out ?_) | (with_reducible refine w3g ?_; clear mF2; refine q3f rfl rfl ?_; intro _ g3 hg3 F2 hb; (try have := F1.lt); (try have := F2.lt); (try have := z.lt); (try have := b.size); (try replace F1 := F1.later hb); (try replace b := later b hb); clear hb) | (with_reducible refine w4g ?_; refine q2o rfl _ _ rfl rfl rfl HY.out F2 ?_; intro _ t1 ht; (try replace F1 := F1.tt ht); (try replace b := q0b b ht (by omega) (by omega)); replace F2 := t1; clear ht) | (with_reducible show Code.wp _ (Code.region _ _ true) _ _ _; fail))
 unfold certK at F2
 have g13 : g1 < g3 := by omega
 refine q1m (fun w => CertAt w g1 _) (.one [0, 1, 2, 3, 4] 5 (.bar [6] 7 (.stop []))) (by kernel_rfl) (by kernel_rfl) (by kernel_rfl) (by decide) (fun _ _ h hb => h.later hb) F1 ?_
 intro _ hb0 _ _
 (try replace F1 := F1.later hb0); (try replace F2 := F2.later hb0); (try replace b := later b hb0)
 clear hb0
 refine q0w ?_
 simp only [pickOps, opAt, List.getElem?_cons_succ, List.getElem?_cons_zero, List.nil_append, List.cons_append]
 repeat ((go_big_quiet_want; first | ((with_reducible refine w28g ?_); first | (refine q2i 34 _ rfl rfl (fun w hw => CertAt.key (Kl.out hw)) _ Tryz.underlying34 rfl (by rw [q0c, HK.out]; exact hashInfo) ?_; simp only [pS]; go_big_quiet_on) | (refine q2i 34 _ rfl rfl (fun w hw => CertAt.pool (Kl.out hw)) _ Tryz.underlying34 rfl (by rw [q0c, HL.out]; exact hashInfo) ?_; simp only [pS]; go_big_quiet_on)) | (go_big_quiet_op; first | (refine ⟨_, fun _ => rfl, ?_⟩; go_big_quiet_on))))
 refine wpQuiet_nil ?_
 intro _ hb _
 (try replace F1 := F1.later hb); (try replace F2 := F2.later hb); (try replace b := later b hb)
 clear hb
 refine q5r rfl _ _ rfl rfl rfl HK.out F2 ?_
 intro _ t1 ht
 (try replace F1 := F1.tt ht); (try replace b := q0b b ht (by omega) (by omega))
 (try dsimp only at t1)
 replace F2 := t1
 clear ht
 refine q1e (fun _ _ h hb => h.later hb) F1 ?_
 (try simp only [pS])
 refine q2u ?_
 simp only [pickOps, opAt, List.getElem?_cons_succ, List.getElem?_cons_zero, List.nil_append, List.cons_append]
 repeat ((go_big_quiet_want; first | (go_big_quiet_op; first | (refine ⟨_, fun _ => rfl, ?_⟩; go_big_quiet_on))))
 refine wpQuiet_nil ?_
 intro _ hb _
 (try replace F1 := F1.later hb); (try replace F2 := F2.later hb); (try replace b := later b hb)
 clear hb
 refine q4p rfl _ _ rfl rfl rfl HL.out F2 ?_
 intro _ t1 ht
 (try replace F1 := F1.tt ht); (try replace b := q0b b ht (by omega) (by omega))
 (try dsimp only at t1)
 replace F2 := t1
 clear ht
 refine q1v ?_
 (try simp only [pS])
 refine q2l ?_
 simp only [pickOps, opAt, List.getElem?_cons_succ, List.getElem?_cons_zero, List.nil_append, List.cons_append]
 repeat (fail)
 refine wpQuiet_nil ?_
 intro _ hb _
 (try replace F1 := F1.later hb); (try replace F2 := F2.later hb); (try replace b := later b hb)
 clear hb
 cases B
 all_goals
  go_wp2_with (first | (with_reducible refine w0g ?_; refine q1k rfl _ rfl rfl F1.cells HX.out ?_) | (with_reducible refine w0g ?_; refine q1k rfl _ rfl rfl F2.cells HZ.out ?_) | (with_reducible refine w0g ?_; refine q0a rfl 5 _ rfl rfl (CertAt.kind F1) (by kernel_rfl) ?_) | (with_reducible refine w8g ?_; refine q6e rfl _ _ rfl rfl rfl HX.out HZ.out ?_; rw [HS.out]))
  go_ret
  exact ⟨rfl, b⟩
theorem x5h (key pool : List UInt8) (x y z : Nat) (w : World) (hc : CertT.Ok ⟨5, key, pool, x, y, z⟩) (B : Bool) (hB : sameCert ⟨5, key, pool, x, y, z⟩ ⟨5, zero32, pool, x, 0, 0⟩ = B) :
  Calls Tryz.prog 123 #[certV ⟨5, key, pool, x, y, z⟩] w fun e w' => e = .returned (.bool B) ∧ Below w.heap.size w w' := by
 have HX := hide hc
 have HK : Hid (key.length = 32) := hc.2.1
 have HL : Hid (pool.length = 32) := hc.2.2.1
 have HM : Hid (U64 x) := hc.2.2.2.1
 have HN : Hid (U64 y) := hc.2.2.2.2.1
 have HY : Hid ((certK 5).Ok) := q6l hc.1
 have HZ : Hid (CertT.Ok ⟨5, zero32, pool, x, 0, 0⟩) := ⟨hc.1, rfl, hc.2.2.1, hc.2.2.2.1, by show (0 : Nat) < _; decide, by show (0 : Nat) < _; decide⟩
 have HB := hide (certBuilt 5)
 have HS := hide hB
 have b := Below.refl w.heap.size w
 clear hc hB
 have mF1 := True.intro
 have mF2 := True.intro
 go_enter Tryz.func123, Tryz.ntmps123
 go_wp2_with (first | (with_reducible refine w2g ?_; clear mF1; refine q1q rfl _ rfl rfl HX.out ?_; intro _ g1 hg1 F1 hb; (try have := F1.lt); (try have := F2.lt); (try have := z.lt); (try have := b.size); (try replace b := later b hb); clear hb) | (with_reducible refine w0g ?_; refine q0a rfl 5 _ rfl rfl (CertAt.kind F1) (by kernel_rfl) ?_) | ((with_reducible refine w5g ?_); refine q2x rfl 87 _ rfl rfl HB.out ?_) | (with_reducible refine w3g ?_; clear mF2; refine q3f rfl rfl ?_; intro _ g3 hg3 F2 hb; (try have := F1.lt); (try have := F2.lt); (try have := z.lt); (try have := b.size); (try replace F1 := F1.later hb); (try replace b := later b hb); clear hb) | (with_reducible refine w4g ?_; refine q2o rfl _ _ rfl rfl rfl HY.out F2 ?_; intro _ t1 ht; (try replace F1 := F1.tt ht); (try replace b := q0b b ht (by omega) (by omega)); replace F2 := t1; clear ht) | (with_reducible show Code.wp _ (Code.region _ _ true) _ _ _; fail))
 unfold certK at F2
 have g13 : g1 < g3 := by omega
 refine q1m (fun w => CertAt w g1 _) (.one [0, 1, 2, 3, 4] 5 (.bar [6] 7 (.stop []))) (by kernel_rfl) (by kernel_rfl) (by kernel_rfl) (by decide) (fun _ _ h hb => h.later hb) F1 ?_
 intro _ hb0 _ _
 (try replace F1 := F1.later hb0); (try replace F2 := F2.later hb0); (try replace b := later b hb0)
 clear hb0
 refine q0w ?_
 simp only [pickOps, opAt, List.getElem?_cons_succ, List.getElem?_cons_zero, List.nil_append, List.cons_append]
 repeat ((go_big_quiet_want; first | ((with_reducible refine w28g ?_); first | (refine q2i 34 _ rfl rfl (fun w hw => CertAt.pool (Kl.out hw)) _ Tryz.underlying34 rfl (by rw [q0c, HL.out]; exact hashInfo) ?_; simp only [pS]; go_big_quiet_on) | (refine q1u 24 _ rfl rfl (fun w hw => CertAt.a (Kl.out hw)) (by kernel_rfl) ?_; simp only [pS]; go_big_quiet_on)) | (go_big_quiet_op; first | (refine ⟨_, fun _ => rfl, ?_⟩; go_big_quiet_on))))
 refine wpQuiet_nil ?_
 intro _ hb _
 (try replace F1 := F1.later hb); (try replace F2 := F2.later hb); (try replace b := later b hb)
 clear hb
 refine q4p rfl _ _ rfl rfl rfl HL.out F2 ?_
 intro _ t1 ht
 (try replace F1 := F1.tt ht); (try replace b := q0b b ht (by omega) (by omega))
 (try dsimp only at t1)
 replace F2 := t1
 clear ht
 refine q1e (fun _ _ h hb => h.later hb) F1 ?_
 (try simp only [pS])
 refine q2u ?_
 simp only [pickOps, opAt, List.getElem?_cons_succ, List.getElem?_cons_zero, List.nil_append, List.cons_append]
 repeat ((go_big_quiet_want; first | (go_big_quiet_op; first | (refine ⟨_, fun _ => rfl, ?_⟩; go_big_quiet_on))))
 refine wpQuiet_nil ?_
 intro _ hb _
 (try replace F1 := F1.later hb); (try replace F2 := F2.later hb); (try replace b := later b hb)
 clear hb
 refine q6s rfl _ _ rfl rfl rfl HM.out F2 ?_
 intro _ t1 ht
 (try replace F1 := F1.tt ht); (try replace b := q0b b ht (by omega) (by omega))
 (try dsimp only at t1)
 replace F2 := t1
 clear ht
 refine q1v ?_
 (try simp only [pS])
 refine q2l ?_
 simp only [pickOps, opAt, List.getElem?_cons_succ, List.getElem?_cons_zero, List.nil_append, List.cons_append]
 repeat (fail)
 refine wpQuiet_nil ?_
 intro _ hb _
 (try replace F1 := F1.later hb); (try replace F2 := F2.later hb); (try replace b := later b hb)
 clear hb
 cases B
 all_goals
  go_wp2_with (first | (with_reducible refine w0g ?_; refine q1k rfl _ rfl rfl F1.cells HX.out ?_) | (with_reducible refine w0g ?_; refine q1k rfl _ rfl rfl F2.cells HZ.out ?_) | (with_reducible refine w0g ?_; refine q0a rfl 5 _ rfl rfl (CertAt.kind F1) (by kernel_rfl) ?_) | (with_reducible refine w8g ?_; refine q6e rfl _ _ rfl rfl rfl HX.out HZ.out ?_; rw [HS.out]))
  go_ret
  exact ⟨rfl, b⟩
theorem x6d (key pool : List UInt8) (x y z : Nat) (w : World) (hc : CertT.Ok ⟨6, key, pool, x, y, z⟩) (B : Bool) (hB : sameCert ⟨6, key, pool, x, y, z⟩ ⟨6, zero32, pool, x, y, 0⟩ = B) :
  Calls Tryz.prog 123 #[certV ⟨6, key, pool, x, y, z⟩] w fun e w' => e = .returned (.bool B) ∧ Below w.heap.size w w' := by
 have HX := hide hc
 have HK : Hid (key.length = 32) := hc.2.1
 have HL : Hid (pool.length = 32) := hc.2.2.1
 have HM : Hid (U64 x) := hc.2.2.2.1
 have HN : Hid (U64 y) := hc.2.2.2.2.1
 have HY : Hid ((certK 6).Ok) := q6l hc.1
 have HZ : Hid (CertT.Ok ⟨6, zero32, pool, x, y, 0⟩) := ⟨hc.1, rfl, hc.2.2.1, hc.2.2.2.1, hc.2.2.2.2.1, by show (0 : Nat) < _; decide⟩
 have HB := hide (certBuilt 6)
 have HS := hide hB
 have b := Below.refl w.heap.size w
 clear hc hB
 have mF1 := True.intro
 have mF2 := True.intro
 go_enter Tryz.func123, Tryz.ntmps123
 go_wp2_with (first | (with_reducible refine w2g ?_; clear mF1; refine q1q rfl _ rfl rfl HX.out ?_; intro _ g1 hg1 F1 hb; (try have := F1.lt); (try have := F2.lt); (try have := z.lt); (try have := b.size); (try replace b := later b hb); clear hb) | (with_reducible refine w0g ?_; refine q0a rfl 5 _ rfl rfl (CertAt.kind F1) (by kernel_rfl) ?_) | ((with_reducible refine w5g ?_); refine q2x rfl 87 _ rfl rfl HB.out ?_) | (with_reducible refine w3g ?_; clear mF2; refine q3f rfl rfl ?_; intro _ g3 hg3 F2 hb; (try have := F1.lt); (try have := F2.lt); (try have := z.lt); (try have := b.size); (try replace F1 := F1.later hb); (try replace b := later b hb); clear hb) | (with_reducible refine w4g ?_; refine q2o rfl _ _ rfl rfl rfl HY.out F2 ?_; intro _ t1 ht; (try replace F1 := F1.tt ht); (try replace b := q0b b ht (by omega) (by omega)); replace F2 := t1; clear ht) | (with_reducible show Code.wp _ (Code.region _ _ true) _ _ _; fail))
 unfold certK at F2
 have g13 : g1 < g3 := by omega
 refine q1m (fun w => CertAt w g1 _) (.one [0, 1, 2, 3, 4, 5, 6] 7 (.one [8] 9 (.bar [10] 11 (.stop [])))) (by kernel_rfl) (by kernel_rfl) (by kernel_rfl) (by decide) (fun _ _ h hb => h.later hb) F1 ?_
 intro _ hb0 _ _
 (try replace F1 := F1.later hb0); (try replace F2 := F2.later hb0); (try replace b := later b hb0)
 clear hb0
 refine q0w ?_
 simp only [pickOps, opAt, List.getElem?_cons_succ, List.getElem?_cons_zero, List.nil_append, List.cons_append]
 repeat ((go_big_quiet_want; first | ((with_reducible refine w28g ?_); first | (refine q2i 34 _ rfl rfl (fun w hw => CertAt.pool (Kl.out hw)) _ Tryz.underlying34 rfl (by rw [q0c, HL.out]; exact hashInfo) ?_; simp only [pS]; go_big_quiet_on) | (refine q1u 24 _ rfl rfl (fun w hw => CertAt.a (Kl.out hw)) (by kernel_rfl) ?_; simp only [pS]; go_big_quiet_on) | (refine q1u 24 _ rfl rfl (fun w hw => CertAt.b (Kl.out hw)) (by kernel_rfl) ?_; simp only [pS]; go_big_quiet_on)) | (go_big_quiet_op; first | (refine ⟨_, fun _ => rfl, ?_⟩; go_big_quiet_on))))
 refine wpQuiet_nil ?_
 intro _ hb _
 (try replace F1 := F1.later hb); (try replace F2 := F2.later hb); (try replace b := later b hb)
 clear hb
 refine q4p rfl _ _ rfl rfl rfl HL.out F2 ?_
 intro _ t1 ht
 (try replace F1 := F1.tt ht); (try replace b := q0b b ht (by omega) (by omega))
 (try dsimp only at t1)
 replace F2 := t1
 clear ht
 refine q1e (fun _ _ h hb => h.later hb) F1 ?_
 (try simp only [pS])
 refine q0w ?_
 simp only [pickOps, opAt, List.getElem?_cons_succ, List.getElem?_cons_zero, List.nil_append, List.cons_append]
 repeat ((go_big_quiet_want; first | (go_big_quiet_op; first | (refine ⟨_, fun _ => rfl, ?_⟩; go_big_quiet_on))))
 refine wpQuiet_nil ?_
 intro _ hb _
 (try replace F1 := F1.later hb); (try replace F2 := F2.later hb); (try replace b := later b hb)
 clear hb
 refine q6s rfl _ _ rfl rfl rfl HM.out F2 ?_
 intro _ t1 ht
 (try replace F1 := F1.tt ht); (try replace b := q0b b ht (by omega) (by omega))
 (try dsimp only at t1)
 replace F2 := t1
 clear ht
 refine q1e (fun _ _ h hb => h.later hb) F1 ?_
 (try simp only [pS])
 refine q2u ?_
 simp only [pickOps, opAt, List.getElem?_cons_succ, List.getElem?_cons_zero, List.nil_append, List.cons_append]
 repeat ((go_big_quiet_want; first | (go_big_quiet_op; first | (refine ⟨_, fun _ => rfl, ?_⟩; go_big_quiet_on))))
 refine wpQuiet_nil ?_
 intro _ hb _
 (try replace F1 := F1.later hb); (try replace F2 := F2.later hb); (try replace b := later b hb)
 clear hb
 refine q8s rfl _ _ rfl rfl rfl HN.out F2 ?_
 intro _ t1 ht
 (try replace F1 := F1.tt ht); (try replace b := q0b b ht (by omega) (by omega))
 (try dsimp only at t1)
 replace F2 := t1
 clear ht
 refine q1v ?_
 (try simp only [pS])
 refine q2l ?_
 simp only [pickOps, opAt, List.getElem?_cons_succ, List.getElem?_cons_zero, List.nil_append, List.cons_append]
 repeat (fail)
 refine wpQuiet_nil ?_
 intro _ hb _
 (try replace F1 := F1.later hb); (try replace F2 := F2.later hb); (try replace b := later b hb)
 clear hb
 cases B
 all_goals
  go_wp2_with (first | (with_reducible refine w0g ?_; refine q1k rfl _ rfl rfl F1.cells HX.out ?_) | (with_reducible refine w0g ?_; refine q1k rfl _ rfl rfl F2.cells HZ.out ?_) | (with_reducible refine w0g ?_; refine q0a rfl 5 _ rfl rfl (CertAt.kind F1) (by kernel_rfl) ?_) | (with_reducible refine w8g ?_; refine q6e rfl _ _ rfl rfl rfl HX.out HZ.out ?_; rw [HS.out]))
  go_ret
  exact ⟨rfl, b⟩
theorem x8l (c : CertT) (w : World) (hc : c.Ok) : Calls Tryz.prog 123 #[certV c] w fun e w' => e = .returned (.bool (certB c)) ∧ Below w.heap.size w w' := by
 obtain ⟨k, key, pool, x, y, z⟩ := c
 by_cases h1 : k = 1 ∨ k = 2
 ·have := x5u k key pool x y z h1 w hc _ rfl
  rwa [show sameCert ⟨k, key, pool, x, y, z⟩ ⟨k, key, zero32, 0, 0, 0⟩ = certB ⟨k, key, pool, x, y, z⟩ by unfold certB; rw [if_pos h1]; simp [sameCert]] at this
 ·by_cases h3 : k = 3
  ·subst h3
   have := x6k key pool x y z w hc _ rfl
   rwa [show sameCert ⟨3, key, pool, x, y, z⟩ ⟨3, key, pool, 0, 0, 0⟩ = certB ⟨3, key, pool, x, y, z⟩ by simp [certB, sameCert]] at this
  ·by_cases h4 : k = 4
   ·subst h4
    have := x6s key pool x y z w hc _ _ _ rfl rfl rfl
    have e1 : decide ((x : Int) < 9223372036854775808) = decide (x < 9223372036854775808) := decide_eq_decide.2 (by omega)
    have e2 : decide ((y : Int) < 9223372036854775808) = decide (y < 9223372036854775808) := decide_eq_decide.2 (by omega)
    have e3 : decide ((z : Int) ≤ 1000) = decide (z ≤ 1000) := decide_eq_decide.2 (by omega)
    rw [e1, e2, e3] at this
    exact this
   ·by_cases h5 : k = 5
    ·subst h5
     have := x5h key pool x y z w hc _ rfl
     rwa [show sameCert ⟨5, key, pool, x, y, z⟩ ⟨5, zero32, pool, x, 0, 0⟩ = certB ⟨5, key, pool, x, y, z⟩ by simp [certB, sameCert]] at this
    ·by_cases h6 : k = 6
     ·subst h6
      have := x6d key pool x y z w hc _ rfl
      rwa [show sameCert ⟨6, key, pool, x, y, z⟩ ⟨6, zero32, pool, x, y, 0⟩ = certB ⟨6, key, pool, x, y, z⟩ by simp [certB, sameCert]] at this
     ·have := x6j k key pool x y z ⟨fun h => h1 (.inl h), fun h => h1 (.inr h), h3, h4, h5, h6⟩ w hc
      rwa [show false = certB ⟨k, key, pool, x, y, z⟩ by unfold certB; rw [if_neg h1, if_neg h3, if_neg h4, if_neg h5, if_neg h6]] at this
end Go.Proofs.YtbbfnpfkbbpjgaaGreat
