/- The reference's Cert. -/
import Derived.Test.YtbbfnpfkbbpjgaaGreatQHDeed4
import Derived.Test.YtbbfnpfkbbpjgaaGreatQHElCert
import Derived.Test.YtbbfnpfkbbpjgaaGreatQHRowE
namespace Go.Proofs.YtbbfnpfkbbpjgaaGreat
open Go.RowKit Go.Lib
set_option linter.unusedVariables false
set_option linter.unusedSimpArgs false
set_option maxRecDepth 100000
set_option maxHeartbeats 4000000
theorem q4u {P : Program} {ops : Array Oper} {rest : List Oper} {o : Oper} {a : Act} {w : World} {Q : Exit → Act → World → Prop} (hw : Region.wanted o (yielded ops a.tmps) = true) {t u : TypeId} (x y : Operand) (ho : o.op = .binOp .eql t x y u) {k : IntKind} {m n : Int} (hx : a.eval x = .int k m) (hy : a.eval y = .int k n) {B : Bool} (hB : (m == n) = B) (hk : wpList P ops Q rest (a.put o.dst (.bool B)) w) : wpList P ops Q (o :: rest) a w :=
 q3l hw _ (by
  unfold execOp
  simp only [ho, hx, hy, Sem.run_bind]
  subst hB
  simp [eqGuard, binOp, Op.intCmp]) hk
theorem q3y {ops : Array Oper} {rest : List Oper} {o : Oper} {a : Act} {w : World} {Q : Exit → Act → World → Prop} (hw : Region.wanted o (yielded ops a.tmps) = true) (x y : Operand) (ho : o.op = .binOp .eql 34 x y 34) {k l : List UInt8} (hx : a.eval x = hv k) (hy : a.eval y = hv l) (h1 : k.length = 32) (h2 : l.length = 32) {B : Bool} (hB : decide (k = l) = B) (hk : wpList Tryz.prog ops Q rest (a.put o.dst (.bool B)) w) : wpList Tryz.prog ops Q (o :: rest) a w :=
 q3l hw _ (by
  rw [← hB]
  exact x0h 34 x y ho hx hy (by kernel_rfl) (fun w => q2g 9998 k l h1 h2 w) w) hk
theorem refCertK (k : Nat) (key pool : List UInt8) (x y z : Nat) (w : World) (hc : CertT.Ok ⟨k, key, pool, x, y, z⟩) (K0 P0 X0 Y0 Z0 X1 Y1 Z1 : Bool) (h1 : decide (key = zero32) = K0) (h2 : decide (pool = zero32) = P0) (h3 : ((x : Int) == 0) = X0) (h4 : ((y : Int) == 0) = Y0) (h5 : ((z : Int) == 0) = Z0) (h6 : decide ((x : Int) ≤ 9223372036854775807) = X1) (h7 : decide ((y : Int) ≤ 9223372036854775807) = Y1) (h8 : decide ((z : Int) ≤ 1000) = Z1) :
  Calls Tryz.prog 52 #[certV ⟨k, key, pool, x, y, z⟩] w fun e w' => e = .returned (.bool (if k = 1 ∨ k = 2 then P0 && (X0 && (Y0 && Z0)) else if k = 3 then X0 && (Y0 && Z0) else if k = 4 then X1 && (Y1 && Z1) else if k = 5 then K0 && (Y0 && Z0) else if k = 6 then K0 && Z0 else false)) ∧ Below w.heap.size w w' := by
 have HX := hide hc
 have HK : Hid (key.length = 32) := hc.2.1
 have HL : Hid (pool.length = 32) := hc.2.2.1
 have H0 : Hid (zero32.length = 32) := rfl
 have H1 := hide h1
 have H2 := hide h2
 have H3 := hide h3
 have H4 := hide h4
 have H5 := hide h5
 have H6 := hide h6
 have H7 := hide h7
 have H8 := hide h8
 have b := Below.refl w.heap.size w
 clear hc h1 h2 h3 h4 h5 h6 h7 h8
 have mF1 := True.intro
 have mF2 := True.intro
 by_cases k1 : k = 1
 ·subst k1
  rw [if_pos (by decide)]
  cases P0 <;> cases X0 <;> cases Y0
  all_goals
   go_enter Tryz.func52, Tryz.ntmps52
   go_wp2_with (first | (with_reducible refine w2g ?_; clear mF1; refine q1q rfl _ rfl rfl HX.out ?_; intro _ g1 hg1 F1 hb; (try have := F1.lt); (try have := F2.lt); (try have := z.lt); (try have := b.size); (try replace b := later b hb); clear hb) | ((with_reducible refine w5g ?_); refine q0q rfl 34 rfl (cs := bvs zero32) hashBuilt ?_) | (with_reducible refine w3g ?_; clear mF2; refine q0r rfl rfl ?_; intro _ g3 hg3 F2 hb; (try have := F1.lt); (try have := F2.lt); (try have := z.lt); (try have := b.size); (try replace F1 := F1.later hb); (try replace b := later b hb); clear hb) | (with_reducible refine w4g ?_; refine q0k rfl _ _ rfl rfl rfl H0.out F2 ?_; intro _ t1 ht; (try replace F1 := F1.tt ht); (try replace b := q0b b ht (by omega) (by omega)); replace F2 := t1; clear ht) | (with_reducible refine w0g ?_; refine q0a rfl 5 _ rfl rfl (CertAt.kind F1) (by kernel_rfl) ?_) | (with_reducible refine w0g ?_; refine q0h rfl _ rfl rfl ((CertAt.key F1)) (HK.out) ?_) | (with_reducible refine w0g ?_; refine q0h rfl _ rfl rfl ((CertAt.pool F1)) (HL.out) ?_) | (with_reducible refine w0g ?_; refine q1a rfl _ rfl rfl F2 ?_) | (with_reducible refine w8g ?_; first | refine q3y rfl _ _ rfl rfl rfl HK.out H0.out H1.out ?_ | refine q3y rfl _ _ rfl rfl rfl HL.out H0.out H2.out ?_) | (with_reducible refine w0g ?_; refine q0a rfl 24 _ rfl rfl (CertAt.a F1) (by kernel_rfl) ?_) | (with_reducible refine w0g ?_; refine q0a rfl 24 _ rfl rfl (CertAt.b F1) (by kernel_rfl) ?_) | (with_reducible refine w0g ?_; refine q0a rfl 24 _ rfl rfl (CertAt.c F1) (by kernel_rfl) ?_) | (with_reducible refine w8g ?_; first | refine q4u rfl _ _ rfl rfl rfl H3.out ?_ | refine q4u rfl _ _ rfl rfl rfl H4.out ?_ | refine q4u rfl _ _ rfl rfl rfl H5.out ?_))
   go_ret
   exact ⟨rfl, b⟩
 ·by_cases k2 : k = 2
  ·subst k2
   rw [if_pos (by decide)]
   cases P0 <;> cases X0 <;> cases Y0
   all_goals
    go_enter Tryz.func52, Tryz.ntmps52
    go_wp2_with (first | (with_reducible refine w2g ?_; clear mF1; refine q1q rfl _ rfl rfl HX.out ?_; intro _ g1 hg1 F1 hb; (try have := F1.lt); (try have := F2.lt); (try have := z.lt); (try have := b.size); (try replace b := later b hb); clear hb) | ((with_reducible refine w5g ?_); refine q0q rfl 34 rfl (cs := bvs zero32) hashBuilt ?_) | (with_reducible refine w3g ?_; clear mF2; refine q0r rfl rfl ?_; intro _ g3 hg3 F2 hb; (try have := F1.lt); (try have := F2.lt); (try have := z.lt); (try have := b.size); (try replace F1 := F1.later hb); (try replace b := later b hb); clear hb) | (with_reducible refine w4g ?_; refine q0k rfl _ _ rfl rfl rfl H0.out F2 ?_; intro _ t1 ht; (try replace F1 := F1.tt ht); (try replace b := q0b b ht (by omega) (by omega)); replace F2 := t1; clear ht) | (with_reducible refine w0g ?_; refine q0a rfl 5 _ rfl rfl (CertAt.kind F1) (by kernel_rfl) ?_) | (with_reducible refine w0g ?_; refine q0h rfl _ rfl rfl ((CertAt.key F1)) (HK.out) ?_) | (with_reducible refine w0g ?_; refine q0h rfl _ rfl rfl ((CertAt.pool F1)) (HL.out) ?_) | (with_reducible refine w0g ?_; refine q1a rfl _ rfl rfl F2 ?_) | (with_reducible refine w8g ?_; first | refine q3y rfl _ _ rfl rfl rfl HK.out H0.out H1.out ?_ | refine q3y rfl _ _ rfl rfl rfl HL.out H0.out H2.out ?_) | (with_reducible refine w0g ?_; refine q0a rfl 24 _ rfl rfl (CertAt.a F1) (by kernel_rfl) ?_) | (with_reducible refine w0g ?_; refine q0a rfl 24 _ rfl rfl (CertAt.b F1) (by kernel_rfl) ?_) | (with_reducible refine w0g ?_; refine q0a rfl 24 _ rfl rfl (CertAt.c F1) (by kernel_rfl) ?_) | (with_reducible refine w8g ?_; first | refine q4u rfl _ _ rfl rfl rfl H3.out ?_ | refine q4u rfl _ _ rfl rfl rfl H4.out ?_ | refine q4u rfl _ _ rfl rfl rfl H5.out ?_))
    go_ret
    exact ⟨rfl, b⟩
  ·rw [if_neg (fun h => h.elim k1 k2)]
   by_cases k3 : k = 3
   ·subst k3
    rw [if_pos rfl]
    cases X0 <;> cases Y0
    all_goals
     go_enter Tryz.func52, Tryz.ntmps52
     go_wp2_with (first | (with_reducible refine w2g ?_; clear mF1; refine q1q rfl _ rfl rfl HX.out ?_; intro _ g1 hg1 F1 hb; (try have := F1.lt); (try have := F2.lt); (try have := z.lt); (try have := b.size); (try replace b := later b hb); clear hb) | ((with_reducible refine w5g ?_); refine q0q rfl 34 rfl (cs := bvs zero32) hashBuilt ?_) | (with_reducible refine w3g ?_; clear mF2; refine q0r rfl rfl ?_; intro _ g3 hg3 F2 hb; (try have := F1.lt); (try have := F2.lt); (try have := z.lt); (try have := b.size); (try replace F1 := F1.later hb); (try replace b := later b hb); clear hb) | (with_reducible refine w4g ?_; refine q0k rfl _ _ rfl rfl rfl H0.out F2 ?_; intro _ t1 ht; (try replace F1 := F1.tt ht); (try replace b := q0b b ht (by omega) (by omega)); replace F2 := t1; clear ht) | (with_reducible refine w0g ?_; refine q0a rfl 5 _ rfl rfl (CertAt.kind F1) (by kernel_rfl) ?_) | (with_reducible refine w0g ?_; refine q0h rfl _ rfl rfl ((CertAt.key F1)) (HK.out) ?_) | (with_reducible refine w0g ?_; refine q0h rfl _ rfl rfl ((CertAt.pool F1)) (HL.out) ?_) | (with_reducible refine w0g ?_; refine q1a rfl _ rfl rfl F2 ?_) | (with_reducible refine w8g ?_; first | refine q3y rfl _ _ rfl rfl rfl HK.out H0.out H1.out ?_ | refine q3y rfl _ _ rfl rfl rfl HL.out H0.out H2.out ?_) | (with_reducible refine w0g ?_; refine q0a rfl 24 _ rfl rfl (CertAt.a F1) (by kernel_rfl) ?_) | (with_reducible refine w0g ?_; refine q0a rfl 24 _ rfl rfl (CertAt.b F1) (by kernel_rfl) ?_) | (with_reducible refine w0g ?_; refine q0a rfl 24 _ rfl rfl (CertAt.c F1) (by kernel_rfl) ?_) | (with_reducible refine w8g ?_; first | refine q4u rfl _ _ rfl rfl rfl H3.out ?_ | refine q4u rfl _ _ rfl rfl rfl H4.out ?_ | refine q4u rfl _ _ rfl rfl rfl H5.out ?_))
     go_ret
     exact ⟨rfl, b⟩
   ·rw [if_neg k3]
    by_cases k4 : k = 4
    ·subst k4
     rw [if_pos rfl]
     cases X1 <;> cases Y1
     all_goals
      go_enter Tryz.func52, Tryz.ntmps52
      go_wp2_with (first | (with_reducible refine w2g ?_; clear mF1; refine q1q rfl _ rfl rfl HX.out ?_; intro _ g1 hg1 F1 hb; (try have := F1.lt); (try have := F2.lt); (try have := z.lt); (try have := b.size); (try replace b := later b hb); clear hb) | ((with_reducible refine w5g ?_); refine q0q rfl 34 rfl (cs := bvs zero32) hashBuilt ?_) | (with_reducible refine w3g ?_; clear mF2; refine q0r rfl rfl ?_; intro _ g3 hg3 F2 hb; (try have := F1.lt); (try have := F2.lt); (try have := z.lt); (try have := b.size); (try replace F1 := F1.later hb); (try replace b := later b hb); clear hb) | (with_reducible refine w4g ?_; refine q0k rfl _ _ rfl rfl rfl H0.out F2 ?_; intro _ t1 ht; (try replace F1 := F1.tt ht); (try replace b := q0b b ht (by omega) (by omega)); replace F2 := t1; clear ht) | (with_reducible refine w0g ?_; refine q0a rfl 5 _ rfl rfl (CertAt.kind F1) (by kernel_rfl) ?_) | (with_reducible refine w0g ?_; refine q0h rfl _ rfl rfl ((CertAt.key F1)) (HK.out) ?_) | (with_reducible refine w0g ?_; refine q0h rfl _ rfl rfl ((CertAt.pool F1)) (HL.out) ?_) | (with_reducible refine w0g ?_; refine q1a rfl _ rfl rfl F2 ?_) | (with_reducible refine w8g ?_; first | refine q3y rfl _ _ rfl rfl rfl HK.out H0.out H1.out ?_ | refine q3y rfl _ _ rfl rfl rfl HL.out H0.out H2.out ?_) | (with_reducible refine w0g ?_; refine q0a rfl 24 _ rfl rfl (CertAt.a F1) (by kernel_rfl) ?_) | (with_reducible refine w0g ?_; refine q0a rfl 24 _ rfl rfl (CertAt.b F1) (by kernel_rfl) ?_) | (with_reducible refine w0g ?_; refine q0a rfl 24 _ rfl rfl (CertAt.c F1) (by kernel_rfl) ?_) | (with_reducible refine w8g ?_; first | refine q9e rfl _ _ rfl rfl rfl H6.out ?_ | refine q9e rfl _ _ rfl rfl rfl H7.out ?_ | refine q9e rfl _ _ rfl rfl rfl H8.out ?_))
      go_ret
      exact ⟨rfl, b⟩
    ·rw [if_neg k4]
     by_cases k5 : k = 5
     ·subst k5
      rw [if_pos rfl]
      cases K0 <;> cases Y0
      all_goals
       go_enter Tryz.func52, Tryz.ntmps52
       go_wp2_with (first | (with_reducible refine w2g ?_; clear mF1; refine q1q rfl _ rfl rfl HX.out ?_; intro _ g1 hg1 F1 hb; (try have := F1.lt); (try have := F2.lt); (try have := z.lt); (try have := b.size); (try replace b := later b hb); clear hb) | ((with_reducible refine w5g ?_); refine q0q rfl 34 rfl (cs := bvs zero32) hashBuilt ?_) | (with_reducible refine w3g ?_; clear mF2; refine q0r rfl rfl ?_; intro _ g3 hg3 F2 hb; (try have := F1.lt); (try have := F2.lt); (try have := z.lt); (try have := b.size); (try replace F1 := F1.later hb); (try replace b := later b hb); clear hb) | (with_reducible refine w4g ?_; refine q0k rfl _ _ rfl rfl rfl H0.out F2 ?_; intro _ t1 ht; (try replace F1 := F1.tt ht); (try replace b := q0b b ht (by omega) (by omega)); replace F2 := t1; clear ht) | (with_reducible refine w0g ?_; refine q0a rfl 5 _ rfl rfl (CertAt.kind F1) (by kernel_rfl) ?_) | (with_reducible refine w0g ?_; refine q0h rfl _ rfl rfl ((CertAt.key F1)) (HK.out) ?_) | (with_reducible refine w0g ?_; refine q0h rfl _ rfl rfl ((CertAt.pool F1)) (HL.out) ?_) | (with_reducible refine w0g ?_; refine q1a rfl _ rfl rfl F2 ?_) | (with_reducible refine w8g ?_; first | refine q3y rfl _ _ rfl rfl rfl HK.out H0.out H1.out ?_ | refine q3y rfl _ _ rfl rfl rfl HL.out H0.out H2.out ?_) | (with_reducible refine w0g ?_; refine q0a rfl 24 _ rfl rfl (CertAt.b F1) (by kernel_rfl) ?_) | (with_reducible refine w0g ?_; refine q0a rfl 24 _ rfl rfl (CertAt.c F1) (by kernel_rfl) ?_) | (with_reducible refine w8g ?_; first | refine q4u rfl _ _ rfl rfl rfl H4.out ?_ | refine q4u rfl _ _ rfl rfl rfl H5.out ?_))
       go_ret
       exact ⟨rfl, b⟩
     ·rw [if_neg k5]
      by_cases k6 : k = 6
      ·subst k6
       rw [if_pos rfl]
       cases K0
       all_goals
        go_enter Tryz.func52, Tryz.ntmps52
        go_wp2_with (first | (with_reducible refine w2g ?_; clear mF1; refine q1q rfl _ rfl rfl HX.out ?_; intro _ g1 hg1 F1 hb; (try have := F1.lt); (try have := F2.lt); (try have := z.lt); (try have := b.size); (try replace b := later b hb); clear hb) | ((with_reducible refine w5g ?_); refine q0q rfl 34 rfl (cs := bvs zero32) hashBuilt ?_) | (with_reducible refine w3g ?_; clear mF2; refine q0r rfl rfl ?_; intro _ g3 hg3 F2 hb; (try have := F1.lt); (try have := F2.lt); (try have := z.lt); (try have := b.size); (try replace F1 := F1.later hb); (try replace b := later b hb); clear hb) | (with_reducible refine w4g ?_; refine q0k rfl _ _ rfl rfl rfl H0.out F2 ?_; intro _ t1 ht; (try replace F1 := F1.tt ht); (try replace b := q0b b ht (by omega) (by omega)); replace F2 := t1; clear ht) | (with_reducible refine w0g ?_; refine q0a rfl 5 _ rfl rfl (CertAt.kind F1) (by kernel_rfl) ?_) | (with_reducible refine w0g ?_; refine q0h rfl _ rfl rfl ((CertAt.key F1)) (HK.out) ?_) | (with_reducible refine w0g ?_; refine q0h rfl _ rfl rfl ((CertAt.pool F1)) (HL.out) ?_) | (with_reducible refine w0g ?_; refine q1a rfl _ rfl rfl F2 ?_) | (with_reducible refine w8g ?_; first | refine q3y rfl _ _ rfl rfl rfl HK.out H0.out H1.out ?_ | refine q3y rfl _ _ rfl rfl rfl HL.out H0.out H2.out ?_) | (with_reducible refine w0g ?_; refine q0a rfl 24 _ rfl rfl (CertAt.c F1) (by kernel_rfl) ?_) | (with_reducible refine w8g ?_; first | refine q4u rfl _ _ rfl rfl rfl H5.out ?_))
        go_ret
        exact ⟨rfl, b⟩
      ·rw [if_neg k6]
       have e1 : ((k : Int) == 1) = false := by rw [beq_eq_false_iff_ne]; omega
       have e2 : ((k : Int) == 2) = false := by rw [beq_eq_false_iff_ne]; omega
       have e3 : ((k : Int) == 3) = false := by rw [beq_eq_false_iff_ne]; omega
       have e4 : ((k : Int) == 4) = false := by rw [beq_eq_false_iff_ne]; omega
       have e5 : ((k : Int) == 5) = false := by rw [beq_eq_false_iff_ne]; omega
       have e6 : ((k : Int) == 6) = false := by rw [beq_eq_false_iff_ne]; omega
       clear k1 k2 k3 k4 k5 k6
       go_enter Tryz.func52, Tryz.ntmps52
       go_wp2_with (first | (with_reducible refine w2g ?_; clear mF1; refine q1q rfl _ rfl rfl HX.out ?_; intro _ g1 hg1 F1 hb; (try have := F1.lt); (try have := F2.lt); (try have := z.lt); (try have := b.size); (try replace b := later b hb); clear hb) | ((with_reducible refine w5g ?_); refine q0q rfl 34 rfl (cs := bvs zero32) hashBuilt ?_) | (with_reducible refine w3g ?_; clear mF2; refine q0r rfl rfl ?_; intro _ g3 hg3 F2 hb; (try have := F1.lt); (try have := F2.lt); (try have := z.lt); (try have := b.size); (try replace F1 := F1.later hb); (try replace b := later b hb); clear hb) | (with_reducible refine w4g ?_; refine q0k rfl _ _ rfl rfl rfl H0.out F2 ?_; intro _ t1 ht; (try replace F1 := F1.tt ht); (try replace b := q0b b ht (by omega) (by omega)); replace F2 := t1; clear ht) | (with_reducible refine w0g ?_; refine q0a rfl 5 _ rfl rfl (CertAt.kind F1) (by kernel_rfl) ?_) | (with_reducible refine w0g ?_; refine q0h rfl _ rfl rfl ((CertAt.key F1)) (HK.out) ?_) | (with_reducible refine w0g ?_; refine q0h rfl _ rfl rfl ((CertAt.pool F1)) (HL.out) ?_) | (with_reducible refine w0g ?_; refine q1a rfl _ rfl rfl F2 ?_) | (with_reducible refine w8g ?_; first | refine q3y rfl _ _ rfl rfl rfl HK.out H0.out H1.out ?_ | refine q3y rfl _ _ rfl rfl rfl HL.out H0.out H2.out ?_))
       go_ret
       exact ⟨rfl, b⟩
theorem x0u (c : CertT) (w : World) (hc : c.Ok) : Calls Tryz.prog 52 #[certV c] w fun e w' => e = .returned (.bool (certB c)) ∧ Below w.heap.size w w' := by
 obtain ⟨k, key, pool, x, y, z⟩ := c
 have e6 : decide ((x : Int) ≤ 9223372036854775807) = decide (x < 9223372036854775808) := decide_eq_decide.2 (by omega)
 have e7 : decide ((y : Int) ≤ 9223372036854775807) = decide (y < 9223372036854775808) := decide_eq_decide.2 (by omega)
 have e8 : decide ((z : Int) ≤ 1000) = decide (z ≤ 1000) := decide_eq_decide.2 (by omega)
 exact refCertK k key pool x y z w hc _ _ _ _ _ _ _ _ rfl rfl (q3n x 0) (q3n y 0) (q3n z 0) e6 e7 e8
theorem q6z {α : Type} {f : α → α → Bool} : ∀ {l m : List α}, l.length ≠ m.length → sameL f l m = false
 | [], [], h => absurd rfl h
 | [], _ :: _, _ => rfl
 | _ :: _, [], _ => rfl
 | a :: l, b :: m, h => by
  unfold sameL
  rw [q6z (l := l) (m := m) (by simpa using h), Bool.and_false]
theorem q3j {α : Type} {f : α → α → Bool} : ∀ (l m : List α) (k : Nat) (x y : α), l[k]? = some x → m[k]? = some y → sameL f (l.take (k + 1)) (m.take (k + 1)) = (sameL f (l.take k) (m.take k) && f x y)
 | [], _, _, _, _, h, _ => by simp at h
 | _ :: _, [], _, _, _, _, h => by simp at h
 | a :: l, b :: m, 0, x, y, h1, h2 => by
  simp only [List.getElem?_cons_zero, Option.some.injEq] at h1 h2
  subst h1
  subst h2
  simp [sameL]
 | a :: l, b :: m, k + 1, x, y, h1, h2 => by
  rw [List.getElem?_cons_succ] at h1 h2
  have ih := q3j (f := f) l m k x y h1 h2
  simp only [List.take_succ_cons, sameL] at ih ⊢
  rw [ih, Bool.and_assoc]
theorem q3k {α : Type} {f : α → α → Bool} : ∀ (l m : List α) (k : Nat), sameL f (l.take k) (m.take k) = false → sameL f l m = false
 | _, _, 0, h => by simp [sameL] at h
 | [], [], _ + 1, h => by simp [sameL] at h
 | [], _ :: _, _ + 1, _ => rfl
 | _ :: _, [], _ + 1, _ => rfl
 | a :: l, b :: m, k + 1, h => by
  simp only [List.take_succ_cons, sameL, Bool.and_eq_false_iff] at h ⊢
  rcases h with h | h
  ·exact .inl h
  ·exact .inr (q3k l m k h)
theorem z2c (v1 v2 : Value) (l m : List InT) (w : World) (h1 : Sl w v1 33 (l.map inCs)) (h2 : Sl w v2 33 (m.map inCs)) (hl : ∀ x ∈ l, x.Ok) (hm : ∀ x ∈ m, x.Ok) :
  Calls Tryz.prog 108 #[v1, v2] w fun e w' => e = .returned (.bool (sameL sameIn l m)) ∧ Below w.heap.size w w' := by
 obtain ⟨a1, c1, rfl, hc1, hm1, _⟩ := h1.shape
 obtain ⟨a2, c2, rfl, hc2, hm2, _⟩ := h2.shape
 have b := Below.refl w.heap.size w
 by_cases hlen : l.length = m.length
 ·obtain ⟨n, hn⟩ : ∃ n, n = l.length := ⟨_, rfl⟩
  have HN := hide hn
  have HM : Hid (n = m.length) := by unfold Hid; omega
  rw [← hlen] at hc2 ⊢
  rw [← hn] at hc1 hc2 ⊢
  have hcap : n ≤ maxLen := by omega
  unfold maxLen at hcap
  have HL := hide hl
  have HK := hide hm
  clear hn hl hm hc1 hc2 hm1 hm2 hlen
  go_enter Tryz.func108, Tryz.ntmps108
  go_wp2_with fail
  go_loopw [13] (fun i wr => ∃ k : Nat, i = .int .i64 k ∧ k ≤ n ∧ Hid (sameL sameIn (l.take k) (m.take k) = true) ∧ Below w.heap.size w wr) (fun i _ => n - (RowKit.intOf i).toNat)
  case atStart => exact ⟨0, rfl, by omega, hide (by simp [sameL]), b⟩
  case round =>
   clear b
   obtain ⟨k, rfl, hk, HA, b⟩ := hrel
   by_cases hlt : k < n
   ·obtain ⟨x, hx, okx⟩ := q1i HL.out (k := k) (by rw [← HN.out]; exact hlt)
    obtain ⟨y, hy, oky⟩ := q1i HK.out (k := k) (by rw [← HM.out]; exact hlt)
    obtain ⟨b1, k1, c1', e1, _, hcs1⟩ := (h1.later b).block (by rw [← HN.out]; omega)
    obtain ⟨b2, k2, c2', e2, _, hcs2⟩ := (h2.later b).block (by rw [← HM.out]; omega)
    simp only [Value.slice.injEq] at e1 e2
    obtain ⟨rfl, -, rfl⟩ := e1
    obtain ⟨rfl, -, rfl⟩ := e2
    have d1 := hcs1 k x hx
    have d2 := hcs2 k y hy
    have HR := hide (q3j (f := sameIn) l m k x y hx hy)
    have HS := hide (q3k (f := sameIn) l m (k + 1))
    have OX := hide okx
    have OY := hide oky
    clear hcs1 hcs2 okx oky hx hy
    cases hB : sameIn x y
    case true =>
     have HA2 : Hid (sameL sameIn (l.take (k + 1)) (m.take (k + 1)) = true) := by rw [HR.out, HA.out, hB]; exact hide rfl
     have HB := hide hB
     clear HR HS HA hB
     go_wp2_with (with_reducible show Code.wp _ (Code.region _ _ true) _ _ _; fail)
     refine q0e (by kernel_rfl) (by kernel_rfl) ?_
     repeat ((go_big_quiet_want; first | ((with_reducible refine w28g ?_); first | (refine q1p _ rfl rfl d1 OX.out ?_; simp only [pS]; go_big_quiet_on) | (refine q1p _ rfl rfl d2 OY.out ?_; simp only [pS]; go_big_quiet_on)) | ((with_reducible refine w31g ?_); refine q7n _ _ rfl rfl rfl OX.out OY.out ?_; rw [HB.out]; simp only [pS]; go_big_quiet_on) | (go_big_quiet_op; go_big_quiet_on)))
     refine wpQuiet_nil ?_
     intro _ hq
     (try replace b := later b hq)
     clear hq
     go_wp2_with fail
     go_roundw
     case rel => exact ⟨k + 1, by simp, by omega, HA2, b⟩
     case measure => simp [RowKit.intOf]; omega
    case false =>
     have HA2 : Hid (sameL sameIn l m = false) := HS.out (by rw [HR.out, hB, Bool.and_false])
     have HB := hide hB
     clear HR HS HA hB
     go_wp2_with (with_reducible show Code.wp _ (Code.region _ _ true) _ _ _; fail)
     refine q0e (by kernel_rfl) (by kernel_rfl) ?_
     repeat ((go_big_quiet_want; first | ((with_reducible refine w28g ?_); first | (refine q1p _ rfl rfl d1 OX.out ?_; simp only [pS]; go_big_quiet_on) | (refine q1p _ rfl rfl d2 OY.out ?_; simp only [pS]; go_big_quiet_on)) | ((with_reducible refine w31g ?_); refine q7n _ _ rfl rfl rfl OX.out OY.out ?_; rw [HB.out]; simp only [pS]; go_big_quiet_on) | (go_big_quiet_op; go_big_quiet_on)))
     refine wpQuiet_nil ?_
     intro _ hq
     (try replace b := later b hq)
     clear hq
     go_wp2_with fail
     go_ret
     exact ⟨by rw [HA2.out]; rfl, b⟩
   ·obtain rfl : k = n := by omega
    have hA := HA.out
    rw [List.take_of_length_le (by rw [← HN.out]; exact Nat.le_refl _), List.take_of_length_le (by rw [← HM.out]; exact Nat.le_refl _)] at hA
    clear HA
    go_wp2_with fail
    go_ret
    exact ⟨by rw [hA]; rfl, b⟩
 ·have hR : sameL sameIn l m = false := q6z hlen
  rw [hR]
  have e1 : ((l.length : Int) != (m.length : Int)) = true := by simp; omega
  clear hR hl hm hlen h1 h2 hc1 hc2 hm1 hm2
  go_enter Tryz.func108, Tryz.ntmps108
  go_wp2_with fail
  go_ret
  exact ⟨rfl, b⟩
end Go.Proofs.YtbbfnpfkbbpjgaaGreat
