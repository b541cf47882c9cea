/- The reference's Cert. -/
import Derived.Test.YtbbfnpfkbbpjgaaGreatQBDeed4
namespace Go.Proofs.YtbbfnpfkbbpjgaaGreat
open Go.RowKit Go.Lib
set_option linter.unusedVariables false
set_option linter.unusedSimpArgs false
set_option maxRecDepth 100000
set_option maxHeartbeats 4000000
theorem q2r {P : Program} {ops : Array Oper} {rest : List Oper} {o : Oper} {a : Act} {w : World} {Q : Exit → Act → World → Prop} (hw : Region.wanted o (yielded ops a.tmps) = true) {t u : TypeId} (x y : Operand) (ho : o.op = .binOp .eql t x y u) {k : IntKind} {m n : Int} (hx : a.eval x = .int k m) (hy : a.eval y = .int k n) {B : Bool} (hB : (m == n) = B) (hk : wpList P ops Q rest (a.put o.dst (.bool B)) w) : wpList P ops Q (o :: rest) a w :=
  q3v hw _ (by
    unfold execOp
    simp only [ho, hx, hy, Sem.run_bind]
    subst hB
    simp [eqGuard, binOp, Op.intCmp]) hk
theorem q3u {ops : Array Oper} {rest : List Oper} {o : Oper} {a : Act} {w : World} {Q : Exit → Act → World → Prop} (hw : Region.wanted o (yielded ops a.tmps) = true) (x y : Operand) (ho : o.op = .binOp .eql 34 x y 34) {k l : List UInt8} (hx : a.eval x = hv k) (hy : a.eval y = hv l) (h1 : k.length = 32) (h2 : l.length = 32) {B : Bool} (hB : decide (k = l) = B) (hk : wpList Tryz.prog ops Q rest (a.put o.dst (.bool B)) w) : wpList Tryz.prog ops Q (o :: rest) a w :=
  q3v hw _ (by
    rw [← hB]
    exact j7o 34 x y ho hx hy (by kernel_rfl) (fun w => q2h 9998 k l h1 h2 w) w) hk
theorem refCertK (k : Nat) (key pool : List UInt8) (x y z : Nat) (w : World) (hc : CertT.Ok ⟨k, key, pool, x, y, z⟩) (K0 P0 X0 Y0 Z0 X1 Y1 Z1 : Bool) (h1 : decide (key = zero32) = K0) (h2 : decide (pool = zero32) = P0) (h3 : ((x : Int) == 0) = X0) (h4 : ((y : Int) == 0) = Y0) (h5 : ((z : Int) == 0) = Z0) (h6 : decide ((x : Int) ≤ 9223372036854775807) = X1) (h7 : decide ((y : Int) ≤ 9223372036854775807) = Y1) (h8 : decide ((z : Int) ≤ 1000) = Z1) :
    Calls Tryz.prog 52 #[certV ⟨k, key, pool, x, y, z⟩] w fun e w' => e = .returned (.bool (if k = 1 ∨ k = 2 then P0 && (X0 && (Y0 && Z0)) else if k = 3 then X0 && (Y0 && Z0) else if k = 4 then X1 && (Y1 && Z1) else if k = 5 then K0 && (Y0 && Z0) else if k = 6 then K0 && Z0 else false)) ∧ Below w.heap.size w w' := by
  have HX := hide hc
  have HK : Hid (key.length = 32) := hc.2.1
  have HL : Hid (pool.length = 32) := hc.2.2.1
  have H0 : Hid (zero32.length = 32) := rfl
  have H1 := hide h1
  have H2 := hide h2
  have H3 := hide h3
  have H4 := hide h4
  have H5 := hide h5
  have H6 := hide h6
  have H7 := hide h7
  have H8 := hide h8
  have b := Below.refl w.heap.size w
  clear hc h1 h2 h3 h4 h5 h6 h7 h8
  have mF1 := True.intro
  have mF2 := True.intro
  by_cases k1 : k = 1
  · subst k1
    rw [if_pos (by decide)]
    cases P0 <;> cases X0 <;> cases Y0
    all_goals
      go_enter Tryz.func52, Tryz.ntmps52
      go_wp2_with (first | (with_reducible refine w4g ?_; clear mF1; refine q1r rfl _ rfl rfl HX.out ?_; intro _ g1 hg1 F1 hb; (try have := F1.lt); (try have := F2.lt); (try have := z.lt); (try have := b.size); (try replace F1 := F1.later hb); (try replace F2 := F2.later hb); (try replace z := z.later hb); (try replace b := later b hb); clear hb) | ((with_reducible refine w7g ?_); refine q1w rfl 34 rfl (cs := bvs zero32) hashBuilt ?_) | (with_reducible refine w5g ?_; clear mF2; refine q0v rfl rfl ?_; intro _ g3 hg3 F2 hb; (try have := F1.lt); (try have := F2.lt); (try have := z.lt); (try have := b.size); (try replace F1 := F1.later hb); (try replace F2 := F2.later hb); (try replace z := z.later hb); (try replace b := later b hb); clear hb) | (with_reducible refine w6g ?_; refine q0l rfl _ _ rfl rfl rfl H0.out F2 ?_; intro _ t1 ht; (try replace F1 := F1.tt ht); (try replace F2 := F2.tt ht); (try replace z := z.tt ht); (try replace b := q0c b ht (by omega) (by omega)); replace F2 := t1; clear ht) | (with_reducible refine w0g ?_; refine q0a rfl 5 _ rfl rfl (CertAt.kind F1) (by kernel_rfl) ?_) | (with_reducible refine w0g ?_; refine q0j rfl _ rfl rfl ((CertAt.key F1)) (HK.out) ?_) | (with_reducible refine w0g ?_; refine q0j rfl _ rfl rfl ((CertAt.pool F1)) (HL.out) ?_) | (with_reducible refine w0g ?_; refine q0t rfl _ rfl rfl F2 ?_) | (with_reducible refine w9g ?_; first | refine q3u rfl _ _ rfl rfl rfl HK.out H0.out H1.out ?_ | refine q3u rfl _ _ rfl rfl rfl HL.out H0.out H2.out ?_) | (with_reducible refine w0g ?_; refine q0a rfl 24 _ rfl rfl (CertAt.a F1) (by kernel_rfl) ?_) | (with_reducible refine w0g ?_; refine q0a rfl 24 _ rfl rfl (CertAt.b F1) (by kernel_rfl) ?_) | (with_reducible refine w0g ?_; refine q0a rfl 24 _ rfl rfl (CertAt.c F1) (by kernel_rfl) ?_) | (with_reducible refine w9g ?_; first | refine q2r rfl _ _ rfl rfl rfl H3.out ?_ | refine q2r rfl _ _ rfl rfl rfl H4.out ?_ | refine q2r rfl _ _ rfl rfl rfl H5.out ?_ | refine q2p rfl _ _ rfl rfl rfl H6.out ?_ | refine q2p rfl _ _ rfl rfl rfl H7.out ?_ | refine q2p rfl _ _ rfl rfl rfl H8.out ?_))
      go_ret
      exact ⟨rfl, b⟩
  · by_cases k2 : k = 2
    · subst k2
      rw [if_pos (by decide)]
      cases P0 <;> cases X0 <;> cases Y0
      all_goals
        go_enter Tryz.func52, Tryz.ntmps52
        go_wp2_with (first | (with_reducible refine w4g ?_; clear mF1; refine q1r rfl _ rfl rfl HX.out ?_; intro _ g1 hg1 F1 hb; (try have := F1.lt); (try have := F2.lt); (try have := z.lt); (try have := b.size); (try replace F1 := F1.later hb); (try replace F2 := F2.later hb); (try replace z := z.later hb); (try replace b := later b hb); clear hb) | ((with_reducible refine w7g ?_); refine q1w rfl 34 rfl (cs := bvs zero32) hashBuilt ?_) | (with_reducible refine w5g ?_; clear mF2; refine q0v rfl rfl ?_; intro _ g3 hg3 F2 hb; (try have := F1.lt); (try have := F2.lt); (try have := z.lt); (try have := b.size); (try replace F1 := F1.later hb); (try replace F2 := F2.later hb); (try replace z := z.later hb); (try replace b := later b hb); clear hb) | (with_reducible refine w6g ?_; refine q0l rfl _ _ rfl rfl rfl H0.out F2 ?_; intro _ t1 ht; (try replace F1 := F1.tt ht); (try replace F2 := F2.tt ht); (try replace z := z.tt ht); (try replace b := q0c b ht (by omega) (by omega)); replace F2 := t1; clear ht) | (with_reducible refine w0g ?_; refine q0a rfl 5 _ rfl rfl (CertAt.kind F1) (by kernel_rfl) ?_) | (with_reducible refine w0g ?_; refine q0j rfl _ rfl rfl ((CertAt.key F1)) (HK.out) ?_) | (with_reducible refine w0g ?_; refine q0j rfl _ rfl rfl ((CertAt.pool F1)) (HL.out) ?_) | (with_reducible refine w0g ?_; refine q0t rfl _ rfl rfl F2 ?_) | (with_reducible refine w9g ?_; first | refine q3u rfl _ _ rfl rfl rfl HK.out H0.out H1.out ?_ | refine q3u rfl _ _ rfl rfl rfl HL.out H0.out H2.out ?_) | (with_reducible refine w0g ?_; refine q0a rfl 24 _ rfl rfl (CertAt.a F1) (by kernel_rfl) ?_) | (with_reducible refine w0g ?_; refine q0a rfl 24 _ rfl rfl (CertAt.b F1) (by kernel_rfl) ?_) | (with_reducible refine w0g ?_; refine q0a rfl 24 _ rfl rfl (CertAt.c F1) (by kernel_rfl) ?_) | (with_reducible refine w9g ?_; first | refine q2r rfl _ _ rfl rfl rfl H3.out ?_ | refine q2r rfl _ _ rfl rfl rfl H4.out ?_ | refine q2r rfl _ _ rfl rfl rfl H5.out ?_ | refine q2p rfl _ _ rfl rfl rfl H6.out ?_ | refine q2p rfl _ _ rfl rfl rfl H7.out ?_ | refine q2p rfl _ _ rfl rfl rfl H8.out ?_))
        go_ret
        exact ⟨rfl, b⟩
    · rw [if_neg (fun h => h.elim k1 k2)]
      by_cases k3 : k = 3
      · subst k3
        rw [if_pos rfl]
        cases X0 <;> cases Y0
        all_goals
          go_enter Tryz.func52, Tryz.ntmps52
          go_wp2_with (first | (with_reducible refine w4g ?_; clear mF1; refine q1r rfl _ rfl rfl HX.out ?_; intro _ g1 hg1 F1 hb; (try have := F1.lt); (try have := F2.lt); (try have := z.lt); (try have := b.size); (try replace F1 := F1.later hb); (try replace F2 := F2.later hb); (try replace z := z.later hb); (try replace b := later b hb); clear hb) | ((with_reducible refine w7g ?_); refine q1w rfl 34 rfl (cs := bvs zero32) hashBuilt ?_) | (with_reducible refine w5g ?_; clear mF2; refine q0v rfl rfl ?_; intro _ g3 hg3 F2 hb; (try have := F1.lt); (try have := F2.lt); (try have := z.lt); (try have := b.size); (try replace F1 := F1.later hb); (try replace F2 := F2.later hb); (try replace z := z.later hb); (try replace b := later b hb); clear hb) | (with_reducible refine w6g ?_; refine q0l rfl _ _ rfl rfl rfl H0.out F2 ?_; intro _ t1 ht; (try replace F1 := F1.tt ht); (try replace F2 := F2.tt ht); (try replace z := z.tt ht); (try replace b := q0c b ht (by omega) (by omega)); replace F2 := t1; clear ht) | (with_reducible refine w0g ?_; refine q0a rfl 5 _ rfl rfl (CertAt.kind F1) (by kernel_rfl) ?_) | (with_reducible refine w0g ?_; refine q0j rfl _ rfl rfl ((CertAt.key F1)) (HK.out) ?_) | (with_reducible refine w0g ?_; refine q0j rfl _ rfl rfl ((CertAt.pool F1)) (HL.out) ?_) | (with_reducible refine w0g ?_; refine q0t rfl _ rfl rfl F2 ?_) | (with_reducible refine w9g ?_; first | refine q3u rfl _ _ rfl rfl rfl HK.out H0.out H1.out ?_ | refine q3u rfl _ _ rfl rfl rfl HL.out H0.out H2.out ?_) | (with_reducible refine w0g ?_; refine q0a rfl 24 _ rfl rfl (CertAt.a F1) (by kernel_rfl) ?_) | (with_reducible refine w0g ?_; refine q0a rfl 24 _ rfl rfl (CertAt.b F1) (by kernel_rfl) ?_) | (with_reducible refine w0g ?_; refine q0a rfl 24 _ rfl rfl (CertAt.c F1) (by kernel_rfl) ?_) | (with_reducible refine w9g ?_; first | refine q2r rfl _ _ rfl rfl rfl H3.out ?_ | refine q2r rfl _ _ rfl rfl rfl H4.out ?_ | refine q2r rfl _ _ rfl rfl rfl H5.out ?_ | refine q2p rfl _ _ rfl rfl rfl H6.out ?_ | refine q2p rfl _ _ rfl rfl rfl H7.out ?_ | refine q2p rfl _ _ rfl rfl rfl H8.out ?_))
          go_ret
          exact ⟨rfl, b⟩
      · rw [if_neg k3]
        by_cases k4 : k = 4
        · subst k4
          rw [if_pos rfl]
          cases X1 <;> cases Y1
          all_goals
            go_enter Tryz.func52, Tryz.ntmps52
            go_wp2_with (first | (with_reducible refine w4g ?_; clear mF1; refine q1r rfl _ rfl rfl HX.out ?_; intro _ g1 hg1 F1 hb; (try have := F1.lt); (try have := F2.lt); (try have := z.lt); (try have := b.size); (try replace F1 := F1.later hb); (try replace F2 := F2.later hb); (try replace z := z.later hb); (try replace b := later b hb); clear hb) | ((with_reducible refine w7g ?_); refine q1w rfl 34 rfl (cs := bvs zero32) hashBuilt ?_) | (with_reducible refine w5g ?_; clear mF2; refine q0v rfl rfl ?_; intro _ g3 hg3 F2 hb; (try have := F1.lt); (try have := F2.lt); (try have := z.lt); (try have := b.size); (try replace F1 := F1.later hb); (try replace F2 := F2.later hb); (try replace z := z.later hb); (try replace b := later b hb); clear hb) | (with_reducible refine w6g ?_; refine q0l rfl _ _ rfl rfl rfl H0.out F2 ?_; intro _ t1 ht; (try replace F1 := F1.tt ht); (try replace F2 := F2.tt ht); (try replace z := z.tt ht); (try replace b := q0c b ht (by omega) (by omega)); replace F2 := t1; clear ht) | (with_reducible refine w0g ?_; refine q0a rfl 5 _ rfl rfl (CertAt.kind F1) (by kernel_rfl) ?_) | (with_reducible refine w0g ?_; refine q0j rfl _ rfl rfl ((CertAt.key F1)) (HK.out) ?_) | (with_reducible refine w0g ?_; refine q0j rfl _ rfl rfl ((CertAt.pool F1)) (HL.out) ?_) | (with_reducible refine w0g ?_; refine q0t rfl _ rfl rfl F2 ?_) | (with_reducible refine w9g ?_; first | refine q3u rfl _ _ rfl rfl rfl HK.out H0.out H1.out ?_ | refine q3u rfl _ _ rfl rfl rfl HL.out H0.out H2.out ?_) | (with_reducible refine w0g ?_; refine q0a rfl 24 _ rfl rfl (CertAt.a F1) (by kernel_rfl) ?_) | (with_reducible refine w0g ?_; refine q0a rfl 24 _ rfl rfl (CertAt.b F1) (by kernel_rfl) ?_) | (with_reducible refine w0g ?_; refine q0a rfl 24 _ rfl rfl (CertAt.c F1) (by kernel_rfl) ?_) | (with_reducible refine w9g ?_; first | refine q2r rfl _ _ rfl rfl rfl H3.out ?_ | refine q2r rfl _ _ rfl rfl rfl H4.out ?_ | refine q2r rfl _ _ rfl rfl rfl H5.out ?_ | refine q2p rfl _ _ rfl rfl rfl H6.out ?_ | refine q2p rfl _ _ rfl rfl rfl H7.out ?_ | refine q2p rfl _ _ rfl rfl rfl H8.out ?_))
            go_ret
            exact ⟨rfl, b⟩
        · rw [if_neg k4]
          by_cases k5 : k = 5
          · subst k5
            rw [if_pos rfl]
            cases K0 <;> cases Y0
            all_goals
              go_enter Tryz.func52, Tryz.ntmps52
              go_wp2_with (first | (with_reducible refine w4g ?_; clear mF1; refine q1r rfl _ rfl rfl HX.out ?_; intro _ g1 hg1 F1 hb; (try have := F1.lt); (try have := F2.lt); (try have := z.lt); (try have := b.size); (try replace F1 := F1.later hb); (try replace F2 := F2.later hb); (try replace z := z.later hb); (try replace b := later b hb); clear hb) | ((with_reducible refine w7g ?_); refine q1w rfl 34 rfl (cs := bvs zero32) hashBuilt ?_) | (with_reducible refine w5g ?_; clear mF2; refine q0v rfl rfl ?_; intro _ g3 hg3 F2 hb; (try have := F1.lt); (try have := F2.lt); (try have := z.lt); (try have := b.size); (try replace F1 := F1.later hb); (try replace F2 := F2.later hb); (try replace z := z.later hb); (try replace b := later b hb); clear hb) | (with_reducible refine w6g ?_; refine q0l rfl _ _ rfl rfl rfl H0.out F2 ?_; intro _ t1 ht; (try replace F1 := F1.tt ht); (try replace F2 := F2.tt ht); (try replace z := z.tt ht); (try replace b := q0c b ht (by omega) (by omega)); replace F2 := t1; clear ht) | (with_reducible refine w0g ?_; refine q0a rfl 5 _ rfl rfl (CertAt.kind F1) (by kernel_rfl) ?_) | (with_reducible refine w0g ?_; refine q0j rfl _ rfl rfl ((CertAt.key F1)) (HK.out) ?_) | (with_reducible refine w0g ?_; refine q0j rfl _ rfl rfl ((CertAt.pool F1)) (HL.out) ?_) | (with_reducible refine w0g ?_; refine q0t rfl _ rfl rfl F2 ?_) | (with_reducible refine w9g ?_; first | refine q3u rfl _ _ rfl rfl rfl HK.out H0.out H1.out ?_ | refine q3u rfl _ _ rfl rfl rfl HL.out H0.out H2.out ?_) | (with_reducible refine w0g ?_; refine q0a rfl 24 _ rfl rfl (CertAt.a F1) (by kernel_rfl) ?_) | (with_reducible refine w0g ?_; refine q0a rfl 24 _ rfl rfl (CertAt.b F1) (by kernel_rfl) ?_) | (with_reducible refine w0g ?_; refine q0a rfl 24 _ rfl rfl (CertAt.c F1) (by kernel_rfl) ?_) | (with_reducible refine w9g ?_; first | refine q2r rfl _ _ rfl rfl rfl H3.out ?_ | refine q2r rfl _ _ rfl rfl rfl H4.out ?_ | refine q2r rfl _ _ rfl rfl rfl H5.out ?_ | refine q2p rfl _ _ rfl rfl rfl H6.out ?_ | refine q2p rfl _ _ rfl rfl rfl H7.out ?_ | refine q2p rfl _ _ rfl rfl rfl H8.out ?_))
              go_ret
              exact ⟨rfl, b⟩
          · rw [if_neg k5]
            by_cases k6 : k = 6
            · subst k6
              rw [if_pos rfl]
              cases K0
              all_goals
                go_enter Tryz.func52, Tryz.ntmps52
                go_wp2_with (first | (with_reducible refine w4g ?_; clear mF1; refine q1r rfl _ rfl rfl HX.out ?_; intro _ g1 hg1 F1 hb; (try have := F1.lt); (try have := F2.lt); (try have := z.lt); (try have := b.size); (try replace F1 := F1.later hb); (try replace F2 := F2.later hb); (try replace z := z.later hb); (try replace b := later b hb); clear hb) | ((with_reducible refine w7g ?_); refine q1w rfl 34 rfl (cs := bvs zero32) hashBuilt ?_) | (with_reducible refine w5g ?_; clear mF2; refine q0v rfl rfl ?_; intro _ g3 hg3 F2 hb; (try have := F1.lt); (try have := F2.lt); (try have := z.lt); (try have := b.size); (try replace F1 := F1.later hb); (try replace F2 := F2.later hb); (try replace z := z.later hb); (try replace b := later b hb); clear hb) | (with_reducible refine w6g ?_; refine q0l rfl _ _ rfl rfl rfl H0.out F2 ?_; intro _ t1 ht; (try replace F1 := F1.tt ht); (try replace F2 := F2.tt ht); (try replace z := z.tt ht); (try replace b := q0c b ht (by omega) (by omega)); replace F2 := t1; clear ht) | (with_reducible refine w0g ?_; refine q0a rfl 5 _ rfl rfl (CertAt.kind F1) (by kernel_rfl) ?_) | (with_reducible refine w0g ?_; refine q0j rfl _ rfl rfl ((CertAt.key F1)) (HK.out) ?_) | (with_reducible refine w0g ?_; refine q0j rfl _ rfl rfl ((CertAt.pool F1)) (HL.out) ?_) | (with_reducible refine w0g ?_; refine q0t rfl _ rfl rfl F2 ?_) | (with_reducible refine w9g ?_; first | refine q3u rfl _ _ rfl rfl rfl HK.out H0.out H1.out ?_ | refine q3u rfl _ _ rfl rfl rfl HL.out H0.out H2.out ?_) | (with_reducible refine w0g ?_; refine q0a rfl 24 _ rfl rfl (CertAt.a F1) (by kernel_rfl) ?_) | (with_reducible refine w0g ?_; refine q0a rfl 24 _ rfl rfl (CertAt.b F1) (by kernel_rfl) ?_) | (with_reducible refine w0g ?_; refine q0a rfl 24 _ rfl rfl (CertAt.c F1) (by kernel_rfl) ?_) | (with_reducible refine w9g ?_; first | refine q2r rfl _ _ rfl rfl rfl H3.out ?_ | refine q2r rfl _ _ rfl rfl rfl H4.out ?_ | refine q2r rfl _ _ rfl rfl rfl H5.out ?_ | refine q2p rfl _ _ rfl rfl rfl H6.out ?_ | refine q2p rfl _ _ rfl rfl rfl H7.out ?_ | refine q2p rfl _ _ rfl rfl rfl H8.out ?_))
                go_ret
                exact ⟨rfl, b⟩
            · rw [if_neg k6]
              have e1 : ((k : Int) == 1) = false := by rw [beq_eq_false_iff_ne]; omega
              have e2 : ((k : Int) == 2) = false := by rw [beq_eq_false_iff_ne]; omega
              have e3 : ((k : Int) == 3) = false := by rw [beq_eq_false_iff_ne]; omega
              have e4 : ((k : Int) == 4) = false := by rw [beq_eq_false_iff_ne]; omega
              have e5 : ((k : Int) == 5) = false := by rw [beq_eq_false_iff_ne]; omega
              have e6 : ((k : Int) == 6) = false := by rw [beq_eq_false_iff_ne]; omega
              clear k1 k2 k3 k4 k5 k6
              go_enter Tryz.func52, Tryz.ntmps52
              go_wp2_with (first | (with_reducible refine w4g ?_; clear mF1; refine q1r rfl _ rfl rfl HX.out ?_; intro _ g1 hg1 F1 hb; (try have := F1.lt); (try have := F2.lt); (try have := z.lt); (try have := b.size); (try replace F1 := F1.later hb); (try replace F2 := F2.later hb); (try replace z := z.later hb); (try replace b := later b hb); clear hb) | ((with_reducible refine w7g ?_); refine q1w rfl 34 rfl (cs := bvs zero32) hashBuilt ?_) | (with_reducible refine w5g ?_; clear mF2; refine q0v rfl rfl ?_; intro _ g3 hg3 F2 hb; (try have := F1.lt); (try have := F2.lt); (try have := z.lt); (try have := b.size); (try replace F1 := F1.later hb); (try replace F2 := F2.later hb); (try replace z := z.later hb); (try replace b := later b hb); clear hb) | (with_reducible refine w6g ?_; refine q0l rfl _ _ rfl rfl rfl H0.out F2 ?_; intro _ t1 ht; (try replace F1 := F1.tt ht); (try replace F2 := F2.tt ht); (try replace z := z.tt ht); (try replace b := q0c b ht (by omega) (by omega)); replace F2 := t1; clear ht) | (with_reducible refine w0g ?_; refine q0a rfl 5 _ rfl rfl (CertAt.kind F1) (by kernel_rfl) ?_) | (with_reducible refine w0g ?_; refine q0j rfl _ rfl rfl ((CertAt.key F1)) (HK.out) ?_) | (with_reducible refine w0g ?_; refine q0j rfl _ rfl rfl ((CertAt.pool F1)) (HL.out) ?_) | (with_reducible refine w0g ?_; refine q0t rfl _ rfl rfl F2 ?_) | (with_reducible refine w9g ?_; first | refine q3u rfl _ _ rfl rfl rfl HK.out H0.out H1.out ?_ | refine q3u rfl _ _ rfl rfl rfl HL.out H0.out H2.out ?_) | (with_reducible refine w0g ?_; refine q0a rfl 24 _ rfl rfl (CertAt.a F1) (by kernel_rfl) ?_) | (with_reducible refine w0g ?_; refine q0a rfl 24 _ rfl rfl (CertAt.b F1) (by kernel_rfl) ?_) | (with_reducible refine w0g ?_; refine q0a rfl 24 _ rfl rfl (CertAt.c F1) (by kernel_rfl) ?_) | (with_reducible refine w9g ?_; first | refine q2r rfl _ _ rfl rfl rfl H3.out ?_ | refine q2r rfl _ _ rfl rfl rfl H4.out ?_ | refine q2r rfl _ _ rfl rfl rfl H5.out ?_ | refine q2p rfl _ _ rfl rfl rfl H6.out ?_ | refine q2p rfl _ _ rfl rfl rfl H7.out ?_ | refine q2p rfl _ _ rfl rfl rfl H8.out ?_))
              go_ret
              exact ⟨rfl, b⟩
theorem j8s (c : CertT) (w : World) (hc : c.Ok) : Calls Tryz.prog 52 #[certV c] w fun e w' => e = .returned (.bool (certB c)) ∧ Below w.heap.size w w' := by
  obtain ⟨k, key, pool, x, y, z⟩ := c
  have e6 : decide ((x : Int) ≤ 9223372036854775807) = decide (x < 9223372036854775808) := decide_eq_decide.2 (by omega)
  have e7 : decide ((y : Int) ≤ 9223372036854775807) = decide (y < 9223372036854775808) := decide_eq_decide.2 (by omega)
  have e8 : decide ((z : Int) ≤ 1000) = decide (z ≤ 1000) := decide_eq_decide.2 (by omega)
  exact refCertK k key pool x y z w hc _ _ _ _ _ _ _ _ rfl rfl (q3m x 0) (q3m y 0) (q3m z 0) e6 e7 e8
end Go.Proofs.YtbbfnpfkbbpjgaaGreat
