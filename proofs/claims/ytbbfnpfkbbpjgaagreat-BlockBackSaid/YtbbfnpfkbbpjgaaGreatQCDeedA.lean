/- deed.Same. -/
import Derived.Test.YtbbfnpfkbbpjgaaGreatQCDeedN
import Derived.Test.YtbbfnpfkbbpjgaaGreatQCSlSame
namespace Go.Proofs.YtbbfnpfkbbpjgaaGreat
open Go.RowKit Go.Lib
set_option linter.unusedVariables false
set_option linter.unusedSimpArgs false
set_option maxRecDepth 100000
set_option maxHeartbeats 4000000
theorem j8p (v u : Value) (d e : Deed) (w : World) (hd : DeedIs w v d) (he : DeedIs w u e) :
  Calls Tryz.prog 49 #[v, u] w fun x w' => x = .returned (.bool (sameD d e)) ∧ Below w.heap.size w w' := by
 obtain ⟨v1, v2, v3, v4, v5, rfl, h1, h2, h3, h4, h5, ok⟩ := hd
 obtain ⟨u1, u2, u3, u4, u5, rfl, k1, k2, k3, k4, k5, oe⟩ := he
 have o1 := h1.one'
 have o2 := h2.one'
 have o3 := h3.one'
 have o4 := h4.one'
 have o5 := h5.one'
 have p1 := k1.one'
 have p2 := k2.one'
 have p3 := k3.one'
 have p4 := k4.one'
 have p5 := k5.one'
 have R1 := hide (fun (w' : World) (hb : Below w.heap.size w w') => z2c _ _ _ _ w' (h1.later hb) (k1.later hb) ok.ins oe.ins)
 have R2 := hide (fun (w' : World) (hb : Below w.heap.size w w') => x7w _ _ _ _ w' (h2.later hb) (k2.later hb) ok.outs oe.outs)
 have R3 := hide (fun (w' : World) (hb : Below w.heap.size w w') => x7f _ _ _ _ w' (h3.later hb) (k3.later hb) ok.certs oe.certs)
 have R4 := hide (fun (w' : World) (hb : Below w.heap.size w w') => x9h _ _ _ _ w' (h4.later hb) (k4.later hb) ok.pays oe.pays)
 have R5 := hide (fun (w' : World) (hb : Below w.heap.size w w') => z0i _ _ _ _ w' (h5.later hb) (k5.later hb) ok.wits oe.wits)
 have b := Below.refl w.heap.size w
 have E1 := hide (fun _ : Unit => q3a d.fee e.fee)
 have E2 := hide (fun _ : Unit => q3a d.frm e.frm)
 have E3 := hide (fun _ : Unit => q3a d.til e.til)
 unfold sameD
 clear h1 h2 h3 h4 h5 k1 k2 k3 k4 k5 ok oe
 generalize sameL sameIn d.ins e.ins = A1 at *
 generalize sameL sameOut d.outs e.outs = A2 at *
 generalize sameL sameCert d.certs e.certs = A6 at *
 generalize sameL samePay d.pays e.pays = A7 at *
 generalize sameL sameWit d.wits e.wits = A8 at *
 generalize decide (d.fee = e.fee) = A3 at *
 generalize decide (d.frm = e.frm) = A4 at *
 generalize decide (d.til = e.til) = A5 at *
 generalize d.fee = f1 at *
 generalize d.frm = s1 at *
 generalize d.til = t1' at *
 generalize e.fee = f2 at *
 generalize e.frm = s2 at *
 generalize e.til = t2' at *
 have mF1 := True.intro
 have mF2 := True.intro
 go_enter Tryz.func49, Tryz.ntmps49
 go_wp2_with (first | (with_reducible refine w2g ?_; clear mF1; refine q0v rfl _ rfl rfl o1 o2 o3 o4 o5 ?_; intro _ g2 hg2 F1 hb; (try replace b := later b hb); clear hb) | (with_reducible refine w2g ?_; clear mF2; refine q0v rfl _ rfl rfl p1 p2 p3 p4 p5 ?_; intro _ g3 hg3 F2 hb; (try replace F1 := F1.later hb); (try replace b := later b hb); clear hb) | (with_reducible refine w0g ?_; first | ((with_reducible refine w6g ?_); first | refine q0a rfl 24 _ rfl rfl (DAt.c2 F1) (by kernel_rfl) ?_ | refine q0a rfl 24 _ rfl rfl (DAt.c3 F1) (by kernel_rfl) ?_ | refine q0a rfl 24 _ rfl rfl (DAt.c4 F1) (by kernel_rfl) ?_) | refine q0a rfl 22 _ rfl rfl (DAt.c0 F1) (by kernel_rfl) ?_ | refine q0a rfl 23 _ rfl rfl (DAt.c1 F1) (by kernel_rfl) ?_ | refine q0a rfl 25 _ rfl rfl (DAt.c5 F1) (by kernel_rfl) ?_ | refine q0a rfl 26 _ rfl rfl (DAt.c6 F1) (by kernel_rfl) ?_ | refine q0a rfl 27 _ rfl rfl (DAt.c7 F1) (by kernel_rfl) ?_) | (with_reducible refine w0g ?_; first | ((with_reducible refine w6g ?_); first | refine q0a rfl 24 _ rfl rfl (DAt.c2 F2) (by kernel_rfl) ?_ | refine q0a rfl 24 _ rfl rfl (DAt.c3 F2) (by kernel_rfl) ?_ | refine q0a rfl 24 _ rfl rfl (DAt.c4 F2) (by kernel_rfl) ?_) | refine q0a rfl 22 _ rfl rfl (DAt.c0 F2) (by kernel_rfl) ?_ | refine q0a rfl 23 _ rfl rfl (DAt.c1 F2) (by kernel_rfl) ?_ | refine q0a rfl 25 _ rfl rfl (DAt.c5 F2) (by kernel_rfl) ?_ | refine q0a rfl 26 _ rfl rfl (DAt.c6 F2) (by kernel_rfl) ?_ | refine q0a rfl 27 _ rfl rfl (DAt.c7 F2) (by kernel_rfl) ?_) | (with_reducible refine w8g ?_; first | refine q4t rfl _ _ rfl rfl rfl (E1.out ()) ?_ | refine q4t rfl _ _ rfl rfl rfl (E2.out ()) ?_ | refine q4t rfl _ _ rfl rfl rfl (E3.out ()) ?_) | (go_at_call 108; refine (R1.out _ b).mono ?_; rintro _ _ ⟨rfl, hc⟩; (try replace F1 := F1.later hc); (try replace F2 := F2.later hc); (try replace b := later b hc); clear hc) | (go_at_call 109; refine (R2.out _ b).mono ?_; rintro _ _ ⟨rfl, hc⟩; (try replace F1 := F1.later hc); (try replace F2 := F2.later hc); (try replace b := later b hc); clear hc) | (go_at_call 110; refine (R3.out _ b).mono ?_; rintro _ _ ⟨rfl, hc⟩; (try replace F1 := F1.later hc); (try replace F2 := F2.later hc); (try replace b := later b hc); clear hc) | (go_at_call 111; refine (R4.out _ b).mono ?_; rintro _ _ ⟨rfl, hc⟩; (try replace F1 := F1.later hc); (try replace F2 := F2.later hc); (try replace b := later b hc); clear hc) | (go_at_call 112; refine (R5.out _ b).mono ?_; rintro _ _ ⟨rfl, hc⟩; (try replace F1 := F1.later hc); (try replace F2 := F2.later hc); (try replace b := later b hc); clear hc))
 all_goals
  go_ret
  refine ⟨?_, b⟩
  clear R1 R2 R3 R4 R5 E1 E2 E3 F1 F2 b
  simp_all
end Go.Proofs.YtbbfnpfkbbpjgaaGreat
