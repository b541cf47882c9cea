/- The reference of layer 13: Same. Printed by gen_refsame.py. -/
import Derived.Test.YtbbfnpfkbbpjgaaGreatQHSqOut
namespace Go.Proofs.YtbbfnpfkbbpjgaaGreat
open Go.RowKit Go.Lib
set_option linter.unusedVariables false
set_option linter.unusedSimpArgs false
set_option maxRecDepth 100000
set_option maxHeartbeats 4000000
theorem j9o {d e : Deed} (h : ¬ (d.ins.length = e.ins.length ∧ d.outs.length = e.outs.length ∧ d.fee = e.fee ∧ d.frm = e.frm ∧ d.til = e.til ∧ d.certs.length = e.certs.length ∧ d.pays.length = e.pays.length ∧ d.wits.length = e.wits.length)) : sameD d e = false := by
 rw [Bool.eq_false_iff]
 intro hs
 rw [(x1y _ _).1 hs] at h
 exact h ⟨rfl, rfl, rfl, rfl, rfl, rfl, rfl, rfl⟩
theorem q7u {P : Program} {ops : Array Oper} {rest : List Oper} {o : Oper} {a : Act} {w : World} {Q : Exit → Act → World → Prop} (hw : Region.wanted o (yielded ops a.tmps) = true) {t u : TypeId} (x y : Operand) (ho : o.op = .binOp .neq t x y u) {k : IntKind} {m n : Int} (hx : a.eval x = .int k m) (hy : a.eval y = .int k n) {B : Bool} (hB : (m != n) = B) (hk : wpList P ops Q rest (a.put o.dst (.bool B)) w) : wpList P ops Q (o :: rest) a w :=
 q3l hw _ (by
  unfold execOp
  simp only [ho, hx, hy, Sem.run_bind]
  subst hB
  simp [eqGuard, binOp, Op.intCmp, bne]) hk
theorem q6v (n m : Nat) : ((n : Int) != (m : Int)) = !decide (n = m) := by
 rw [← q3n]; rfl
theorem x3w (v u : Value) (d e : Deed) (w : World) (hd : DeedIs w v d) (he : DeedIs w u e) (hn : ¬ (d.ins.length = e.ins.length ∧ d.outs.length = e.outs.length ∧ d.fee = e.fee ∧ d.frm = e.frm ∧ d.til = e.til ∧ d.certs.length = e.certs.length ∧ d.pays.length = e.pays.length ∧ d.wits.length = e.wits.length)) :
    Calls Tryz.prog 73 #[v, u] w fun x w' => x = .returned (.bool (sameD d e)) ∧ Below w.heap.size w w' := by
  rw [j9o hn]
  obtain ⟨v1, v2, v3, v4, v5, rfl, h1, h2, h3, h4, h5, ok⟩ := hd
  obtain ⟨u1, u2, u3, u4, u5, rfl, k1, k2, k3, k4, k5, oe⟩ := he
  obtain ⟨a1, c1, rfl, -⟩ := h1.shape
  obtain ⟨b1, e1, rfl, -⟩ := k1.shape
  have o1 := h1.one'
  have p1 := k1.one'
  obtain ⟨a2, c2, rfl, -⟩ := h2.shape
  obtain ⟨b2, e2, rfl, -⟩ := k2.shape
  have o2 := h2.one'
  have p2 := k2.one'
  obtain ⟨a3, c3, rfl, -⟩ := h3.shape
  obtain ⟨b3, e3, rfl, -⟩ := k3.shape
  have o3 := h3.one'
  have p3 := k3.one'
  obtain ⟨a4, c4, rfl, -⟩ := h4.shape
  obtain ⟨b4, e4, rfl, -⟩ := k4.shape
  have o4 := h4.one'
  have p4 := k4.one'
  obtain ⟨a5, c5, rfl, -⟩ := h5.shape
  obtain ⟨b5, e5, rfl, -⟩ := k5.shape
  have o5 := h5.one'
  have p5 := k5.one'
  have b := Below.refl w.heap.size w
  clear h1 h2 h3 h4 h5 k1 k2 k3 k4 k5 ok oe
  have hn2 : (!decide (d.ins.length = e.ins.length)) = false → (!decide (d.outs.length = e.outs.length)) = false → (!decide (d.fee = e.fee)) = false → (!decide (d.frm = e.frm)) = false → (!decide (d.til = e.til)) = false → (!decide (d.certs.length = e.certs.length)) = false → (!decide (d.pays.length = e.pays.length)) = false → (!decide (d.wits.length = e.wits.length)) = false → False := by
    intro q1 q2 q3 q4 q5 q6 q7 q8
    simp only [Bool.not_eq_eq_eq_not, Bool.not_false, decide_eq_true_eq] at q1 q2 q3 q4 q5 q6 q7 q8
    exact hn ⟨q1, q2, q3, q4, q5, q6, q7, q8⟩
  have HN := hide hn2
  clear hn hn2
  have E1 := hide (fun _ : Unit => q6v (d.ins.length) (e.ins.length))
  have E2 := hide (fun _ : Unit => q6v (d.outs.length) (e.outs.length))
  have E3 := hide (fun _ : Unit => q6v (d.fee) (e.fee))
  have E4 := hide (fun _ : Unit => q6v (d.frm) (e.frm))
  have E5 := hide (fun _ : Unit => q6v (d.til) (e.til))
  have E6 := hide (fun _ : Unit => q6v (d.certs.length) (e.certs.length))
  have E7 := hide (fun _ : Unit => q6v (d.pays.length) (e.pays.length))
  have E8 := hide (fun _ : Unit => q6v (d.wits.length) (e.wits.length))
  generalize (!decide (d.ins.length = e.ins.length)) = A1 at *
  generalize (!decide (d.outs.length = e.outs.length)) = A2 at *
  generalize (!decide (d.fee = e.fee)) = A3 at *
  generalize (!decide (d.frm = e.frm)) = A4 at *
  generalize (!decide (d.til = e.til)) = A5 at *
  generalize (!decide (d.certs.length = e.certs.length)) = A6 at *
  generalize (!decide (d.pays.length = e.pays.length)) = A7 at *
  generalize (!decide (d.wits.length = e.wits.length)) = A8 at *
  generalize d.ins.length = x1 at *
  generalize e.ins.length = y1 at *
  generalize d.outs.length = x2 at *
  generalize e.outs.length = y2 at *
  generalize d.fee = x3 at *
  generalize e.fee = y3 at *
  generalize d.frm = x4 at *
  generalize e.frm = y4 at *
  generalize d.til = x5 at *
  generalize e.til = y5 at *
  generalize d.certs.length = x6 at *
  generalize e.certs.length = y6 at *
  generalize d.pays.length = x7 at *
  generalize e.pays.length = y7 at *
  generalize d.wits.length = x8 at *
  generalize e.wits.length = y8 at *
  have mF1 := True.intro
  have mF2 := True.intro
  go_enter Tryz.func73, Tryz.ntmps73
  go_wp2_with (first | (with_reducible refine w2g ?_; clear mF1; refine q0x rfl _ rfl rfl o1 o2 o3 o4 o5 ?_; intro _ g2 hg2 F1 hb; (try replace b := later b hb); clear hb) | (with_reducible refine w2g ?_; clear mF2; refine q0x rfl _ rfl rfl p1 p2 p3 p4 p5 ?_; intro _ g3 hg3 F2 hb; (try replace F1 := F1.later hb); (try replace b := later b hb); clear hb) | (with_reducible refine w0g ?_; first | ((with_reducible refine w6g ?_); first | refine q0a rfl 24 _ rfl rfl (DAt.c2 F1) (by kernel_rfl) ?_ | refine q0a rfl 24 _ rfl rfl (DAt.c3 F1) (by kernel_rfl) ?_ | refine q0a rfl 24 _ rfl rfl (DAt.c4 F1) (by kernel_rfl) ?_) | refine q0a rfl 22 _ rfl rfl (DAt.c0 F1) (by kernel_rfl) ?_ | refine q0a rfl 23 _ rfl rfl (DAt.c1 F1) (by kernel_rfl) ?_ | refine q0a rfl 25 _ rfl rfl (DAt.c5 F1) (by kernel_rfl) ?_ | refine q0a rfl 26 _ rfl rfl (DAt.c6 F1) (by kernel_rfl) ?_ | refine q0a rfl 27 _ rfl rfl (DAt.c7 F1) (by kernel_rfl) ?_) | (with_reducible refine w0g ?_; first | ((with_reducible refine w6g ?_); first | refine q0a rfl 24 _ rfl rfl (DAt.c2 F2) (by kernel_rfl) ?_ | refine q0a rfl 24 _ rfl rfl (DAt.c3 F2) (by kernel_rfl) ?_ | refine q0a rfl 24 _ rfl rfl (DAt.c4 F2) (by kernel_rfl) ?_) | refine q0a rfl 22 _ rfl rfl (DAt.c0 F2) (by kernel_rfl) ?_ | refine q0a rfl 23 _ rfl rfl (DAt.c1 F2) (by kernel_rfl) ?_ | refine q0a rfl 25 _ rfl rfl (DAt.c5 F2) (by kernel_rfl) ?_ | refine q0a rfl 26 _ rfl rfl (DAt.c6 F2) (by kernel_rfl) ?_ | refine q0a rfl 27 _ rfl rfl (DAt.c7 F2) (by kernel_rfl) ?_) | (with_reducible refine w8g ?_; first | refine q7u rfl _ _ rfl rfl rfl (E1.out ()) ?_ | refine q7u rfl _ _ rfl rfl rfl (E2.out ()) ?_ | refine q7u rfl _ _ rfl rfl rfl (E3.out ()) ?_ | refine q7u rfl _ _ rfl rfl rfl (E4.out ()) ?_ | refine q7u rfl _ _ rfl rfl rfl (E5.out ()) ?_ | refine q7u rfl _ _ rfl rfl rfl (E6.out ()) ?_ | refine q7u rfl _ _ rfl rfl rfl (E7.out ()) ?_ | refine q7u rfl _ _ rfl rfl rfl (E8.out ()) ?_))
  all_goals first
    | (exact (HN.out (by first | exact Bool.eq_false_iff.2 (by assumption)) (by first | exact Bool.eq_false_iff.2 (by assumption)) (by first | exact Bool.eq_false_iff.2 (by assumption)) (by first | exact Bool.eq_false_iff.2 (by assumption)) (by first | exact Bool.eq_false_iff.2 (by assumption)) (by first | exact Bool.eq_false_iff.2 (by assumption)) (by first | exact Bool.eq_false_iff.2 (by assumption)) (by first | assumption)).elim)
    | (go_ret
       exact ⟨rfl, b⟩)
theorem j9j (v u : Value) (d e : Deed) (w : World) (hd : DeedIs w v d) (he : DeedIs w u e) (hn : d.ins.length = e.ins.length ∧ d.outs.length = e.outs.length ∧ d.fee = e.fee ∧ d.frm = e.frm ∧ d.til = e.til ∧ d.certs.length = e.certs.length ∧ d.pays.length = e.pays.length ∧ d.wits.length = e.wits.length) :
  Calls Tryz.prog 73 #[v, u] w fun x w' => x = .returned (.bool (sameD d e)) ∧ Below w.heap.size w w' := by
 obtain ⟨q1, q2, q3, q4, q5, q6, q7, q8⟩ := hn
 obtain ⟨v1, v2, v3, v4, v5, rfl, h1, h2, h3, h4, h5, ok⟩ := hd
 obtain ⟨u1, u2, u3, u4, u5, rfl, k1, k2, k3, k4, k5, oe⟩ := he
 obtain ⟨a1, c1, rfl, -⟩ := h1.shape
 obtain ⟨b1, e1, rfl, -⟩ := k1.shape
 have o1 := h1.one'
 have p1 := k1.one'
 have HL1 := hide ok.ins
 have HK1 := hide oe.ins
 obtain ⟨a2, c2, rfl, -⟩ := h2.shape
 obtain ⟨b2, e2, rfl, -⟩ := k2.shape
 have o2 := h2.one'
 have p2 := k2.one'
 have HL2 := hide ok.outs
 have HK2 := hide oe.outs
 obtain ⟨a3, c3, rfl, -⟩ := h3.shape
 obtain ⟨b3, e3, rfl, -⟩ := k3.shape
 have o3 := h3.one'
 have p3 := k3.one'
 have HL3 := hide ok.certs
 have HK3 := hide oe.certs
 obtain ⟨a4, c4, rfl, -⟩ := h4.shape
 obtain ⟨b4, e4, rfl, -⟩ := k4.shape
 have o4 := h4.one'
 have p4 := k4.one'
 have HL4 := hide ok.pays
 have HK4 := hide oe.pays
 obtain ⟨a5, c5, rfl, -⟩ := h5.shape
 obtain ⟨b5, e5, rfl, -⟩ := k5.shape
 have o5 := h5.one'
 have p5 := k5.one'
 have HL5 := hide ok.wits
 have HK5 := hide oe.wits
 have hS : sameD d e = (sameL sameIn d.ins e.ins && (sameL sameOut d.outs e.outs && (sameL sameCert d.certs e.certs && (sameL samePay d.pays e.pays && sameL sameWit d.wits e.wits)))) := by
  unfold sameD
  rw [decide_eq_true q3, decide_eq_true q4, decide_eq_true q5]
  simp
 rw [hS]
 clear hS ok oe
 have b := Below.refl w.heap.size w
 rw [← q3, ← q4, ← q5]
 clear q3 q4 q5
 have HM1 := hide q1
 rw [← q1] at k1 p1 ⊢
 clear q1
 obtain ⟨n1, hn1⟩ : ∃ n, n = d.ins.length := ⟨_, rfl⟩
 have HN1 := hide hn1
 rw [← hn1] at HM1 h1 k1 o1 p1 ⊢
 clear hn1
 have HM2 := hide q2
 rw [← q2] at k2 p2 ⊢
 clear q2
 obtain ⟨n2, hn2⟩ : ∃ n, n = d.outs.length := ⟨_, rfl⟩
 have HN2 := hide hn2
 rw [← hn2] at HM2 h2 k2 o2 p2 ⊢
 clear hn2
 have HM3 := hide q6
 rw [← q6] at k3 p3 ⊢
 clear q6
 obtain ⟨n3, hn3⟩ : ∃ n, n = d.certs.length := ⟨_, rfl⟩
 have HN3 := hide hn3
 rw [← hn3] at HM3 h3 k3 o3 p3 ⊢
 clear hn3
 have HM4 := hide q7
 rw [← q7] at k4 p4 ⊢
 clear q7
 obtain ⟨n4, hn4⟩ : ∃ n, n = d.pays.length := ⟨_, rfl⟩
 have HN4 := hide hn4
 rw [← hn4] at HM4 h4 k4 o4 p4 ⊢
 clear hn4
 have HM5 := hide q8
 rw [← q8] at k5 p5 ⊢
 clear q8
 obtain ⟨n5, hn5⟩ : ∃ n, n = d.wits.length := ⟨_, rfl⟩
 have HN5 := hide hn5
 rw [← hn5] at HM5 h5 k5 o5 p5 ⊢
 clear hn5
 have N1 : n1 ≤ 9223372036854775807 := by obtain ⟨_, _, hx, h1x, h2x, _⟩ := h1.shape; unfold maxLen at h2x; rw [← HN1.out] at h1x; omega
 have N2 : n2 ≤ 9223372036854775807 := by obtain ⟨_, _, hx, h1x, h2x, _⟩ := h2.shape; unfold maxLen at h2x; rw [← HN2.out] at h1x; omega
 have N3 : n3 ≤ 9223372036854775807 := by obtain ⟨_, _, hx, h1x, h2x, _⟩ := h3.shape; unfold maxLen at h2x; rw [← HN3.out] at h1x; omega
 have N4 : n4 ≤ 9223372036854775807 := by obtain ⟨_, _, hx, h1x, h2x, _⟩ := h4.shape; unfold maxLen at h2x; rw [← HN4.out] at h1x; omega
 have N5 : n5 ≤ 9223372036854775807 := by obtain ⟨_, _, hx, h1x, h2x, _⟩ := h5.shape; unfold maxLen at h2x; rw [← HN5.out] at h1x; omega
 obtain ⟨l1, hl1⟩ : ∃ l, l = d.ins := ⟨_, rfl⟩
 obtain ⟨m1, hm1⟩ : ∃ m, m = e.ins := ⟨_, rfl⟩
 rw [← hl1] at h1 HL1 HN1 ⊢
 rw [← hm1] at k1 HK1 HM1 ⊢
 clear hl1 hm1
 obtain ⟨l2, hl2⟩ : ∃ l, l = d.outs := ⟨_, rfl⟩
 obtain ⟨m2, hm2⟩ : ∃ m, m = e.outs := ⟨_, rfl⟩
 rw [← hl2] at h2 HL2 HN2 ⊢
 rw [← hm2] at k2 HK2 HM2 ⊢
 clear hl2 hm2
 obtain ⟨l3, hl3⟩ : ∃ l, l = d.certs := ⟨_, rfl⟩
 obtain ⟨m3, hm3⟩ : ∃ m, m = e.certs := ⟨_, rfl⟩
 rw [← hl3] at h3 HL3 HN3 ⊢
 rw [← hm3] at k3 HK3 HM3 ⊢
 clear hl3 hm3
 obtain ⟨l4, hl4⟩ : ∃ l, l = d.pays := ⟨_, rfl⟩
 obtain ⟨m4, hm4⟩ : ∃ m, m = e.pays := ⟨_, rfl⟩
 rw [← hl4] at h4 HL4 HN4 ⊢
 rw [← hm4] at k4 HK4 HM4 ⊢
 clear hl4 hm4
 obtain ⟨l5, hl5⟩ : ∃ l, l = d.wits := ⟨_, rfl⟩
 obtain ⟨m5, hm5⟩ : ∃ m, m = e.wits := ⟨_, rfl⟩
 rw [← hl5] at h5 HL5 HN5 ⊢
 rw [← hm5] at k5 HK5 HM5 ⊢
 clear hl5 hm5
 generalize d.fee = f at *
 generalize d.frm = s at *
 generalize d.til = t at *
 clear d e
 have mF1 := True.intro
 have mF2 := True.intro
 go_enter Tryz.func73, Tryz.ntmps73
 go_wp2_with (first | (with_reducible refine w2g ?_; clear mF1; refine q0x rfl _ rfl rfl o1 o2 o3 o4 o5 ?_; intro _ g2 hg2 F1 hb; (try replace b := later b hb); clear hb) | (with_reducible refine w2g ?_; clear mF2; refine q0x rfl _ rfl rfl p1 p2 p3 p4 p5 ?_; intro _ g3 hg3 F2 hb; (try replace F1 := F1.later hb); (try replace b := later b hb); clear hb) | (with_reducible refine w0g ?_; first | ((with_reducible refine w6g ?_); first | refine q0a rfl 24 _ rfl rfl (DAt.c2 F1) (by kernel_rfl) ?_ | refine q0a rfl 24 _ rfl rfl (DAt.c3 F1) (by kernel_rfl) ?_ | refine q0a rfl 24 _ rfl rfl (DAt.c4 F1) (by kernel_rfl) ?_) | refine q0a rfl 22 _ rfl rfl (DAt.c0 F1) (by kernel_rfl) ?_ | refine q0a rfl 23 _ rfl rfl (DAt.c1 F1) (by kernel_rfl) ?_ | refine q0a rfl 25 _ rfl rfl (DAt.c5 F1) (by kernel_rfl) ?_ | refine q0a rfl 26 _ rfl rfl (DAt.c6 F1) (by kernel_rfl) ?_ | refine q0a rfl 27 _ rfl rfl (DAt.c7 F1) (by kernel_rfl) ?_) | (with_reducible refine w0g ?_; first | ((with_reducible refine w6g ?_); first | refine q0a rfl 24 _ rfl rfl (DAt.c2 F2) (by kernel_rfl) ?_ | refine q0a rfl 24 _ rfl rfl (DAt.c3 F2) (by kernel_rfl) ?_ | refine q0a rfl 24 _ rfl rfl (DAt.c4 F2) (by kernel_rfl) ?_) | refine q0a rfl 22 _ rfl rfl (DAt.c0 F2) (by kernel_rfl) ?_ | refine q0a rfl 23 _ rfl rfl (DAt.c1 F2) (by kernel_rfl) ?_ | refine q0a rfl 25 _ rfl rfl (DAt.c5 F2) (by kernel_rfl) ?_ | refine q0a rfl 26 _ rfl rfl (DAt.c6 F2) (by kernel_rfl) ?_ | refine q0a rfl 27 _ rfl rfl (DAt.c7 F2) (by kernel_rfl) ?_))
 clear o1 o2 o3 o4 o5 p1 p2 p3 p4 p5 hg2 hg3
 go_loopw [5] (fun i wr => ∃ k : Nat, i = .int .i64 k ∧ k ≤ n1 ∧ Hid (sameL sameIn (l1.take k) (m1.take k) = true) ∧ DAt wr g2 (.slice a1 n1 c1) (.slice a2 n2 c2) (.slice a3 n3 c3) (.slice a4 n4 c4) (.slice a5 n5 c5) f s t ∧ DAt wr g3 (.slice b1 n1 e1) (.slice b2 n2 e2) (.slice b3 n3 e3) (.slice b4 n4 e4) (.slice b5 n5 e5) f s t ∧ Below w.heap.size w wr) (fun i _ => n1 - (RowKit.intOf i).toNat)
 case atStart => exact ⟨0, rfl, by omega, hide (by simp [sameL]), F1, F2, b⟩
 case round =>
  clear b F1 F2
  obtain ⟨k, rfl, hk, HA, F1, F2, b⟩ := hrel
  by_cases hlt : k < n1
  ·obtain ⟨x, hx, okx⟩ := q1i HL1.out (k := k) (by rw [← HN1.out]; exact hlt)
   obtain ⟨y, hy, oky⟩ := q1i HK1.out (k := k) (by rw [← HM1.out]; exact hlt)
   obtain ⟨bb1, kk1, c1', q1, _, hcs1⟩ := (h1.later b).block (by rw [← HN1.out]; omega)
   obtain ⟨bb2, kk2, c2', q2, _, hcs2⟩ := (k1.later b).block (by rw [← HM1.out]; omega)
   simp only [Value.slice.injEq] at q1 q2
   obtain ⟨rfl, -, rfl⟩ := q1
   obtain ⟨rfl, -, rfl⟩ := q2
   have d1 := hcs1 k x hx
   have d2 := hcs2 k y hy
   have HR := hide (q3j (f := sameIn) l1 m1 k x y hx hy)
   have HS := hide (q3k (f := sameIn) l1 m1 (k + 1))
   have OX := hide okx
   have OY := hide oky
   clear hcs1 hcs2 okx oky hx hy
   cases hB : sameIn x y
   case true =>
    have HA2 : Hid (sameL sameIn (l1.take (k + 1)) (m1.take (k + 1)) = true) := by rw [HR.out, HA.out, hB]; exact hide rfl
    have HB := hide hB
    clear HR HS HA hB
    go_wp2_with (first | (with_reducible refine w0g ?_; first | refine q0a rfl 22 _ rfl rfl (DAt.c0 F1) (by kernel_rfl) ?_) | (with_reducible show Code.wp _ (Code.region _ _ true) _ _ _; fail))
    refine q0e (by kernel_rfl) (by kernel_rfl) ?_
    repeat ((go_big_quiet_want; first | ((with_reducible refine w28g ?_); first | (refine q0d 22 _ rfl rfl (DAt.c0 F1) (by kernel_rfl) ?_; simp only [pS]; go_big_quiet_on) | (refine q0d 22 _ rfl rfl (DAt.c0 F2) (by kernel_rfl) ?_; simp only [pS]; go_big_quiet_on) | (refine q1p _ rfl rfl d1 OX.out ?_; simp only [pS]; go_big_quiet_on) | (refine q1p _ rfl rfl d2 OY.out ?_; simp only [pS]; go_big_quiet_on)) | ((with_reducible refine w31g ?_); refine q7n _ _ rfl rfl rfl OX.out OY.out ?_; rw [HB.out]; simp only [pS]; go_big_quiet_on) | (go_big_quiet_op; go_big_quiet_on)))
    refine wpQuiet_nil ?_
    intro _ hq
    (try replace F1 := F1.later hq); (try replace F2 := F2.later hq); (try replace b := later b hq)
    clear hq
    go_wp2_with fail
    go_roundw
    case rel => exact ⟨k + 1, by simp, by omega, HA2, F1, F2, b⟩
    case measure => simp [RowKit.intOf]; omega
   case false =>
    have HA2 : Hid (sameL sameIn l1 m1 = false) := HS.out (by rw [HR.out, hB, Bool.and_false])
    have HB := hide hB
    clear HR HS HA hB
    go_wp2_with (first | (with_reducible refine w0g ?_; first | refine q0a rfl 22 _ rfl rfl (DAt.c0 F1) (by kernel_rfl) ?_) | (with_reducible show Code.wp _ (Code.region _ _ true) _ _ _; fail))
    refine q0e (by kernel_rfl) (by kernel_rfl) ?_
    repeat ((go_big_quiet_want; first | ((with_reducible refine w28g ?_); first | (refine q0d 22 _ rfl rfl (DAt.c0 F1) (by kernel_rfl) ?_; simp only [pS]; go_big_quiet_on) | (refine q0d 22 _ rfl rfl (DAt.c0 F2) (by kernel_rfl) ?_; simp only [pS]; go_big_quiet_on) | (refine q1p _ rfl rfl d1 OX.out ?_; simp only [pS]; go_big_quiet_on) | (refine q1p _ rfl rfl d2 OY.out ?_; simp only [pS]; go_big_quiet_on)) | ((with_reducible refine w31g ?_); refine q7n _ _ rfl rfl rfl OX.out OY.out ?_; rw [HB.out]; simp only [pS]; go_big_quiet_on) | (go_big_quiet_op; go_big_quiet_on)))
    refine wpQuiet_nil ?_
    intro _ hq
    (try replace F1 := F1.later hq); (try replace F2 := F2.later hq); (try replace b := later b hq)
    clear hq
    go_wp2_with fail
    go_ret
    exact ⟨by rw [HA2.out]; simp, b⟩
  ·obtain rfl : n1 = k := by omega
   have hA := HA.out
   rw [List.take_of_length_le (by rw [← HN1.out]; exact Nat.le_refl _), List.take_of_length_le (by rw [← HM1.out]; exact Nat.le_refl _)] at hA
   have R1 := hide hA
   clear HA hA hlt hk
   go_wp2_with ((with_reducible refine w0g ?_; first | refine q0a rfl 22 _ rfl rfl (DAt.c0 F1) (by kernel_rfl) ?_))
   go_loopw [6] (fun i wr => ∃ k : Nat, i = .int .i64 k ∧ k ≤ n2 ∧ Hid (sameL sameOut (l2.take k) (m2.take k) = true) ∧ DAt wr g2 (.slice a1 n1 c1) (.slice a2 n2 c2) (.slice a3 n3 c3) (.slice a4 n4 c4) (.slice a5 n5 c5) f s t ∧ DAt wr g3 (.slice b1 n1 e1) (.slice b2 n2 e2) (.slice b3 n3 e3) (.slice b4 n4 e4) (.slice b5 n5 e5) f s t ∧ Below w.heap.size w wr) (fun i _ => n2 - (RowKit.intOf i).toNat)
   case atStart => exact ⟨0, rfl, by omega, hide (by simp [sameL]), F1, F2, b⟩
   case round =>
    clear b F1 F2
    obtain ⟨k, rfl, hk, HA, F1, F2, b⟩ := hrel
    by_cases hlt : k < n2
    ·obtain ⟨x, hx, okx⟩ := q1i HL2.out (k := k) (by rw [← HN2.out]; exact hlt)
     obtain ⟨y, hy, oky⟩ := q1i HK2.out (k := k) (by rw [← HM2.out]; exact hlt)
     obtain ⟨bb1, kk1, c1', q1, _, hcs1⟩ := (h2.later b).block (by rw [← HN2.out]; omega)
     obtain ⟨bb2, kk2, c2', q2, _, hcs2⟩ := (k2.later b).block (by rw [← HM2.out]; omega)
     simp only [Value.slice.injEq] at q1 q2
     obtain ⟨rfl, -, rfl⟩ := q1
     obtain ⟨rfl, -, rfl⟩ := q2
     have d1 := hcs1 k x hx
     have d2 := hcs2 k y hy
     have HR := hide (q3j (f := sameOut) l2 m2 k x y hx hy)
     have HS := hide (q3k (f := sameOut) l2 m2 (k + 1))
     have OX := hide okx
     have OY := hide oky
     clear hcs1 hcs2 okx oky hx hy
     cases hB : sameOut x y
     case true =>
      have HA2 : Hid (sameL sameOut (l2.take (k + 1)) (m2.take (k + 1)) = true) := by rw [HR.out, HA.out, hB]; exact hide rfl
      have HB := hide hB
      clear HR HS HA hB
      go_wp2_with (first | (with_reducible refine w0g ?_; first | refine q0a rfl 23 _ rfl rfl (DAt.c1 F1) (by kernel_rfl) ?_) | (with_reducible show Code.wp _ (Code.region _ _ true) _ _ _; fail))
      refine q0e (by kernel_rfl) (by kernel_rfl) ?_
      repeat ((go_big_quiet_want; first | ((with_reducible refine w28g ?_); first | (refine q0d 23 _ rfl rfl (DAt.c1 F1) (by kernel_rfl) ?_; simp only [pS]; go_big_quiet_on) | (refine q0d 23 _ rfl rfl (DAt.c1 F2) (by kernel_rfl) ?_; simp only [pS]; go_big_quiet_on) | (refine q3p _ rfl rfl d1 OX.out ?_; simp only [pS]; go_big_quiet_on) | (refine q3p _ rfl rfl d2 OY.out ?_; simp only [pS]; go_big_quiet_on)) | ((with_reducible refine w31g ?_); refine q6j _ _ rfl rfl rfl OX.out OY.out ?_; rw [HB.out]; simp only [pS]; go_big_quiet_on) | (go_big_quiet_op; go_big_quiet_on)))
      refine wpQuiet_nil ?_
      intro _ hq
      (try replace F1 := F1.later hq); (try replace F2 := F2.later hq); (try replace b := later b hq)
      clear hq
      go_wp2_with fail
      go_roundw
      case rel => exact ⟨k + 1, by simp, by omega, HA2, F1, F2, b⟩
      case measure => simp [RowKit.intOf]; omega
     case false =>
      have HA2 : Hid (sameL sameOut l2 m2 = false) := HS.out (by rw [HR.out, hB, Bool.and_false])
      have HB := hide hB
      clear HR HS HA hB
      go_wp2_with (first | (with_reducible refine w0g ?_; first | refine q0a rfl 23 _ rfl rfl (DAt.c1 F1) (by kernel_rfl) ?_) | (with_reducible show Code.wp _ (Code.region _ _ true) _ _ _; fail))
      refine q0e (by kernel_rfl) (by kernel_rfl) ?_
      repeat ((go_big_quiet_want; first | ((with_reducible refine w28g ?_); first | (refine q0d 23 _ rfl rfl (DAt.c1 F1) (by kernel_rfl) ?_; simp only [pS]; go_big_quiet_on) | (refine q0d 23 _ rfl rfl (DAt.c1 F2) (by kernel_rfl) ?_; simp only [pS]; go_big_quiet_on) | (refine q3p _ rfl rfl d1 OX.out ?_; simp only [pS]; go_big_quiet_on) | (refine q3p _ rfl rfl d2 OY.out ?_; simp only [pS]; go_big_quiet_on)) | ((with_reducible refine w31g ?_); refine q6j _ _ rfl rfl rfl OX.out OY.out ?_; rw [HB.out]; simp only [pS]; go_big_quiet_on) | (go_big_quiet_op; go_big_quiet_on)))
      refine wpQuiet_nil ?_
      intro _ hq
      (try replace F1 := F1.later hq); (try replace F2 := F2.later hq); (try replace b := later b hq)
      clear hq
      go_wp2_with fail
      go_ret
      exact ⟨by rw [R1.out, Bool.true_and, HA2.out]; simp, b⟩
    ·obtain rfl : n2 = k := by omega
     have hA := HA.out
     rw [List.take_of_length_le (by rw [← HN2.out]; exact Nat.le_refl _), List.take_of_length_le (by rw [← HM2.out]; exact Nat.le_refl _)] at hA
     have R2 := hide hA
     clear HA hA hlt hk
     go_wp2_with ((with_reducible refine w0g ?_; first | refine q0a rfl 23 _ rfl rfl (DAt.c1 F1) (by kernel_rfl) ?_))
     go_loopw [7] (fun i wr => ∃ k : Nat, i = .int .i64 k ∧ k ≤ n3 ∧ Hid (sameL sameCert (l3.take k) (m3.take k) = true) ∧ DAt wr g2 (.slice a1 n1 c1) (.slice a2 n2 c2) (.slice a3 n3 c3) (.slice a4 n4 c4) (.slice a5 n5 c5) f s t ∧ DAt wr g3 (.slice b1 n1 e1) (.slice b2 n2 e2) (.slice b3 n3 e3) (.slice b4 n4 e4) (.slice b5 n5 e5) f s t ∧ Below w.heap.size w wr) (fun i _ => n3 - (RowKit.intOf i).toNat)
     case atStart => exact ⟨0, rfl, by omega, hide (by simp [sameL]), F1, F2, b⟩
     case round =>
      clear b F1 F2
      obtain ⟨k, rfl, hk, HA, F1, F2, b⟩ := hrel
      by_cases hlt : k < n3
      ·obtain ⟨x, hx, okx⟩ := q1i HL3.out (k := k) (by rw [← HN3.out]; exact hlt)
       obtain ⟨y, hy, oky⟩ := q1i HK3.out (k := k) (by rw [← HM3.out]; exact hlt)
       obtain ⟨bb1, kk1, c1', q1, _, hcs1⟩ := (h3.later b).block (by rw [← HN3.out]; omega)
       obtain ⟨bb2, kk2, c2', q2, _, hcs2⟩ := (k3.later b).block (by rw [← HM3.out]; omega)
       simp only [Value.slice.injEq] at q1 q2
       obtain ⟨rfl, -, rfl⟩ := q1
       obtain ⟨rfl, -, rfl⟩ := q2
       have d1 := hcs1 k x hx
       have d2 := hcs2 k y hy
       have HR := hide (q3j (f := sameCert) l3 m3 k x y hx hy)
       have HS := hide (q3k (f := sameCert) l3 m3 (k + 1))
       have OX := hide okx
       have OY := hide oky
       clear hcs1 hcs2 okx oky hx hy
       cases hB : sameCert x y
       case true =>
        have HA2 : Hid (sameL sameCert (l3.take (k + 1)) (m3.take (k + 1)) = true) := by rw [HR.out, HA.out, hB]; exact hide rfl
        have HB := hide hB
        clear HR HS HA hB
        go_wp2_with (first | (with_reducible refine w0g ?_; first | refine q0a rfl 25 _ rfl rfl (DAt.c5 F1) (by kernel_rfl) ?_) | (with_reducible show Code.wp _ (Code.region _ _ true) _ _ _; fail))
        refine q0e (by kernel_rfl) (by kernel_rfl) ?_
        repeat ((go_big_quiet_want; first | ((with_reducible refine w28g ?_); first | (refine q0d 25 _ rfl rfl (DAt.c5 F1) (by kernel_rfl) ?_; simp only [pS]; go_big_quiet_on) | (refine q0d 25 _ rfl rfl (DAt.c5 F2) (by kernel_rfl) ?_; simp only [pS]; go_big_quiet_on) | (refine q3c _ rfl rfl d1 OX.out ?_; simp only [pS]; go_big_quiet_on) | (refine q3c _ rfl rfl d2 OY.out ?_; simp only [pS]; go_big_quiet_on)) | ((with_reducible refine w31g ?_); refine q5w _ _ rfl rfl rfl OX.out OY.out ?_; rw [HB.out]; simp only [pS]; go_big_quiet_on) | (go_big_quiet_op; go_big_quiet_on)))
        refine wpQuiet_nil ?_
        intro _ hq
        (try replace F1 := F1.later hq); (try replace F2 := F2.later hq); (try replace b := later b hq)
        clear hq
        go_wp2_with fail
        go_roundw
        case rel => exact ⟨k + 1, by simp, by omega, HA2, F1, F2, b⟩
        case measure => simp [RowKit.intOf]; omega
       case false =>
        have HA2 : Hid (sameL sameCert l3 m3 = false) := HS.out (by rw [HR.out, hB, Bool.and_false])
        have HB := hide hB
        clear HR HS HA hB
        go_wp2_with (first | (with_reducible refine w0g ?_; first | refine q0a rfl 25 _ rfl rfl (DAt.c5 F1) (by kernel_rfl) ?_) | (with_reducible show Code.wp _ (Code.region _ _ true) _ _ _; fail))
        refine q0e (by kernel_rfl) (by kernel_rfl) ?_
        repeat ((go_big_quiet_want; first | ((with_reducible refine w28g ?_); first | (refine q0d 25 _ rfl rfl (DAt.c5 F1) (by kernel_rfl) ?_; simp only [pS]; go_big_quiet_on) | (refine q0d 25 _ rfl rfl (DAt.c5 F2) (by kernel_rfl) ?_; simp only [pS]; go_big_quiet_on) | (refine q3c _ rfl rfl d1 OX.out ?_; simp only [pS]; go_big_quiet_on) | (refine q3c _ rfl rfl d2 OY.out ?_; simp only [pS]; go_big_quiet_on)) | ((with_reducible refine w31g ?_); refine q5w _ _ rfl rfl rfl OX.out OY.out ?_; rw [HB.out]; simp only [pS]; go_big_quiet_on) | (go_big_quiet_op; go_big_quiet_on)))
        refine wpQuiet_nil ?_
        intro _ hq
        (try replace F1 := F1.later hq); (try replace F2 := F2.later hq); (try replace b := later b hq)
        clear hq
        go_wp2_with fail
        go_ret
        exact ⟨by rw [R1.out, Bool.true_and, R2.out, Bool.true_and, HA2.out]; simp, b⟩
      ·obtain rfl : n3 = k := by omega
       have hA := HA.out
       rw [List.take_of_length_le (by rw [← HN3.out]; exact Nat.le_refl _), List.take_of_length_le (by rw [← HM3.out]; exact Nat.le_refl _)] at hA
       have R3 := hide hA
       clear HA hA hlt hk
       go_wp2_with ((with_reducible refine w0g ?_; first | refine q0a rfl 25 _ rfl rfl (DAt.c5 F1) (by kernel_rfl) ?_))
       go_loopw [8] (fun i wr => ∃ k : Nat, i = .int .i64 k ∧ k ≤ n4 ∧ Hid (sameL samePay (l4.take k) (m4.take k) = true) ∧ DAt wr g2 (.slice a1 n1 c1) (.slice a2 n2 c2) (.slice a3 n3 c3) (.slice a4 n4 c4) (.slice a5 n5 c5) f s t ∧ DAt wr g3 (.slice b1 n1 e1) (.slice b2 n2 e2) (.slice b3 n3 e3) (.slice b4 n4 e4) (.slice b5 n5 e5) f s t ∧ Below w.heap.size w wr) (fun i _ => n4 - (RowKit.intOf i).toNat)
       case atStart => exact ⟨0, rfl, by omega, hide (by simp [sameL]), F1, F2, b⟩
       case round =>
        clear b F1 F2
        obtain ⟨k, rfl, hk, HA, F1, F2, b⟩ := hrel
        by_cases hlt : k < n4
        ·obtain ⟨x, hx, okx⟩ := q1i HL4.out (k := k) (by rw [← HN4.out]; exact hlt)
         obtain ⟨y, hy, oky⟩ := q1i HK4.out (k := k) (by rw [← HM4.out]; exact hlt)
         obtain ⟨bb1, kk1, c1', q1, _, hcs1⟩ := (h4.later b).block (by rw [← HN4.out]; omega)
         obtain ⟨bb2, kk2, c2', q2, _, hcs2⟩ := (k4.later b).block (by rw [← HM4.out]; omega)
         simp only [Value.slice.injEq] at q1 q2
         obtain ⟨rfl, -, rfl⟩ := q1
         obtain ⟨rfl, -, rfl⟩ := q2
         have d1 := hcs1 k x hx
         have d2 := hcs2 k y hy
         have HR := hide (q3j (f := samePay) l4 m4 k x y hx hy)
         have HS := hide (q3k (f := samePay) l4 m4 (k + 1))
         have OX := hide okx
         have OY := hide oky
         clear hcs1 hcs2 okx oky hx hy
         cases hB : samePay x y
         case true =>
          have HA2 : Hid (sameL samePay (l4.take (k + 1)) (m4.take (k + 1)) = true) := by rw [HR.out, HA.out, hB]; exact hide rfl
          have HB := hide hB
          clear HR HS HA hB
          go_wp2_with (first | (with_reducible refine w0g ?_; first | refine q0a rfl 26 _ rfl rfl (DAt.c6 F1) (by kernel_rfl) ?_) | (with_reducible show Code.wp _ (Code.region _ _ true) _ _ _; fail))
          refine q0e (by kernel_rfl) (by kernel_rfl) ?_
          repeat ((go_big_quiet_want; first | ((with_reducible refine w28g ?_); first | (refine q0d 26 _ rfl rfl (DAt.c6 F1) (by kernel_rfl) ?_; simp only [pS]; go_big_quiet_on) | (refine q0d 26 _ rfl rfl (DAt.c6 F2) (by kernel_rfl) ?_; simp only [pS]; go_big_quiet_on) | (refine q2e _ rfl rfl d1 OX.out ?_; simp only [pS]; go_big_quiet_on) | (refine q2e _ rfl rfl d2 OY.out ?_; simp only [pS]; go_big_quiet_on)) | ((with_reducible refine w31g ?_); refine q6m _ _ rfl rfl rfl OX.out OY.out ?_; rw [HB.out]; simp only [pS]; go_big_quiet_on) | (go_big_quiet_op; go_big_quiet_on)))
          refine wpQuiet_nil ?_
          intro _ hq
          (try replace F1 := F1.later hq); (try replace F2 := F2.later hq); (try replace b := later b hq)
          clear hq
          go_wp2_with fail
          go_roundw
          case rel => exact ⟨k + 1, by simp, by omega, HA2, F1, F2, b⟩
          case measure => simp [RowKit.intOf]; omega
         case false =>
          have HA2 : Hid (sameL samePay l4 m4 = false) := HS.out (by rw [HR.out, hB, Bool.and_false])
          have HB := hide hB
          clear HR HS HA hB
          go_wp2_with (first | (with_reducible refine w0g ?_; first | refine q0a rfl 26 _ rfl rfl (DAt.c6 F1) (by kernel_rfl) ?_) | (with_reducible show Code.wp _ (Code.region _ _ true) _ _ _; fail))
          refine q0e (by kernel_rfl) (by kernel_rfl) ?_
          repeat ((go_big_quiet_want; first | ((with_reducible refine w28g ?_); first | (refine q0d 26 _ rfl rfl (DAt.c6 F1) (by kernel_rfl) ?_; simp only [pS]; go_big_quiet_on) | (refine q0d 26 _ rfl rfl (DAt.c6 F2) (by kernel_rfl) ?_; simp only [pS]; go_big_quiet_on) | (refine q2e _ rfl rfl d1 OX.out ?_; simp only [pS]; go_big_quiet_on) | (refine q2e _ rfl rfl d2 OY.out ?_; simp only [pS]; go_big_quiet_on)) | ((with_reducible refine w31g ?_); refine q6m _ _ rfl rfl rfl OX.out OY.out ?_; rw [HB.out]; simp only [pS]; go_big_quiet_on) | (go_big_quiet_op; go_big_quiet_on)))
          refine wpQuiet_nil ?_
          intro _ hq
          (try replace F1 := F1.later hq); (try replace F2 := F2.later hq); (try replace b := later b hq)
          clear hq
          go_wp2_with fail
          go_ret
          exact ⟨by rw [R1.out, Bool.true_and, R2.out, Bool.true_and, R3.out, Bool.true_and, HA2.out]; simp, b⟩
        ·obtain rfl : n4 = k := by omega
         have hA := HA.out
         rw [List.take_of_length_le (by rw [← HN4.out]; exact Nat.le_refl _), List.take_of_length_le (by rw [← HM4.out]; exact Nat.le_refl _)] at hA
         have R4 := hide hA
         clear HA hA hlt hk
         go_wp2_with ((with_reducible refine w0g ?_; first | refine q0a rfl 26 _ rfl rfl (DAt.c6 F1) (by kernel_rfl) ?_))
         go_loopw [9] (fun i wr => ∃ k : Nat, i = .int .i64 k ∧ k ≤ n5 ∧ Hid (sameL sameWit (l5.take k) (m5.take k) = true) ∧ DAt wr g2 (.slice a1 n1 c1) (.slice a2 n2 c2) (.slice a3 n3 c3) (.slice a4 n4 c4) (.slice a5 n5 c5) f s t ∧ DAt wr g3 (.slice b1 n1 e1) (.slice b2 n2 e2) (.slice b3 n3 e3) (.slice b4 n4 e4) (.slice b5 n5 e5) f s t ∧ Below w.heap.size w wr) (fun i _ => n5 - (RowKit.intOf i).toNat)
         case atStart => exact ⟨0, rfl, by omega, hide (by simp [sameL]), F1, F2, b⟩
         case round =>
          clear b F1 F2
          obtain ⟨k, rfl, hk, HA, F1, F2, b⟩ := hrel
          by_cases hlt : k < n5
          ·obtain ⟨x, hx, okx⟩ := q1i HL5.out (k := k) (by rw [← HN5.out]; exact hlt)
           obtain ⟨y, hy, oky⟩ := q1i HK5.out (k := k) (by rw [← HM5.out]; exact hlt)
           obtain ⟨bb1, kk1, c1', q1, _, hcs1⟩ := (h5.later b).block (by rw [← HN5.out]; omega)
           obtain ⟨bb2, kk2, c2', q2, _, hcs2⟩ := (k5.later b).block (by rw [← HM5.out]; omega)
           simp only [Value.slice.injEq] at q1 q2
           obtain ⟨rfl, -, rfl⟩ := q1
           obtain ⟨rfl, -, rfl⟩ := q2
           have d1 := hcs1 k x hx
           have d2 := hcs2 k y hy
           have HR := hide (q3j (f := sameWit) l5 m5 k x y hx hy)
           have HS := hide (q3k (f := sameWit) l5 m5 (k + 1))
           have OX := hide okx
           have OY := hide oky
           clear hcs1 hcs2 okx oky hx hy
           cases hB : sameWit x y
           case true =>
            have HA2 : Hid (sameL sameWit (l5.take (k + 1)) (m5.take (k + 1)) = true) := by rw [HR.out, HA.out, hB]; exact hide rfl
            have HB := hide hB
            clear HR HS HA hB
            go_wp2_with (first | (with_reducible refine w0g ?_; first | refine q0a rfl 27 _ rfl rfl (DAt.c7 F1) (by kernel_rfl) ?_) | (with_reducible show Code.wp _ (Code.region _ _ true) _ _ _; fail))
            refine q0e (by kernel_rfl) (by kernel_rfl) ?_
            repeat ((go_big_quiet_want; first | ((with_reducible refine w28g ?_); first | (refine q0d 27 _ rfl rfl (DAt.c7 F1) (by kernel_rfl) ?_; simp only [pS]; go_big_quiet_on) | (refine q0d 27 _ rfl rfl (DAt.c7 F2) (by kernel_rfl) ?_; simp only [pS]; go_big_quiet_on) | (refine q2j _ rfl rfl d1 OX.out ?_; simp only [pS]; go_big_quiet_on) | (refine q2j _ rfl rfl d2 OY.out ?_; simp only [pS]; go_big_quiet_on)) | ((with_reducible refine w31g ?_); refine q6p _ _ rfl rfl rfl OX.out OY.out ?_; rw [HB.out]; simp only [pS]; go_big_quiet_on) | (go_big_quiet_op; go_big_quiet_on)))
            refine wpQuiet_nil ?_
            intro _ hq
            (try replace F1 := F1.later hq); (try replace F2 := F2.later hq); (try replace b := later b hq)
            clear hq
            go_wp2_with fail
            go_roundw
            case rel => exact ⟨k + 1, by simp, by omega, HA2, F1, F2, b⟩
            case measure => simp [RowKit.intOf]; omega
           case false =>
            have HA2 : Hid (sameL sameWit l5 m5 = false) := HS.out (by rw [HR.out, hB, Bool.and_false])
            have HB := hide hB
            clear HR HS HA hB
            go_wp2_with (first | (with_reducible refine w0g ?_; first | refine q0a rfl 27 _ rfl rfl (DAt.c7 F1) (by kernel_rfl) ?_) | (with_reducible show Code.wp _ (Code.region _ _ true) _ _ _; fail))
            refine q0e (by kernel_rfl) (by kernel_rfl) ?_
            repeat ((go_big_quiet_want; first | ((with_reducible refine w28g ?_); first | (refine q0d 27 _ rfl rfl (DAt.c7 F1) (by kernel_rfl) ?_; simp only [pS]; go_big_quiet_on) | (refine q0d 27 _ rfl rfl (DAt.c7 F2) (by kernel_rfl) ?_; simp only [pS]; go_big_quiet_on) | (refine q2j _ rfl rfl d1 OX.out ?_; simp only [pS]; go_big_quiet_on) | (refine q2j _ rfl rfl d2 OY.out ?_; simp only [pS]; go_big_quiet_on)) | ((with_reducible refine w31g ?_); refine q6p _ _ rfl rfl rfl OX.out OY.out ?_; rw [HB.out]; simp only [pS]; go_big_quiet_on) | (go_big_quiet_op; go_big_quiet_on)))
            refine wpQuiet_nil ?_
            intro _ hq
            (try replace F1 := F1.later hq); (try replace F2 := F2.later hq); (try replace b := later b hq)
            clear hq
            go_wp2_with fail
            go_ret
            exact ⟨by rw [R1.out, Bool.true_and, R2.out, Bool.true_and, R3.out, Bool.true_and, R4.out, Bool.true_and, HA2.out]; simp, b⟩
          ·obtain rfl : n5 = k := by omega
           have hA := HA.out
           rw [List.take_of_length_le (by rw [← HN5.out]; exact Nat.le_refl _), List.take_of_length_le (by rw [← HM5.out]; exact Nat.le_refl _)] at hA
           have R5 := hide hA
           clear HA hA hlt hk
           go_wp2_with ((with_reducible refine w0g ?_; first | refine q0a rfl 27 _ rfl rfl (DAt.c7 F1) (by kernel_rfl) ?_))
           go_ret
           exact ⟨by rw [R1.out, R2.out, R3.out, R4.out, R5.out]; rfl, b⟩
theorem j9q (v u : Value) (d e : Deed) (w : World) (hd : DeedIs w v d) (he : DeedIs w u e) :
  Calls Tryz.prog 73 #[v, u] w fun x w' => x = .returned (.bool (sameD d e)) ∧ Below w.heap.size w w' := by
 by_cases h : d.ins.length = e.ins.length ∧ d.outs.length = e.outs.length ∧ d.fee = e.fee ∧ d.frm = e.frm ∧ d.til = e.til ∧ d.certs.length = e.certs.length ∧ d.pays.length = e.pays.length ∧ d.wits.length = e.wits.length
 ·exact j9j v u d e w hd he h
 ·exact x3w v u d e w hd he h
end Go.Proofs.YtbbfnpfkbbpjgaaGreat
