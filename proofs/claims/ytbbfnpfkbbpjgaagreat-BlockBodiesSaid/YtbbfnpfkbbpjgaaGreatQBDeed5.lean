/- deed.may, May. -/
import Derived.Test.YtbbfnpfkbbpjgaaGreatQBElWit
import Derived.Test.YtbbfnpfkbbpjgaaGreatQBDeed1
import Derived.Test.YtbbfnpfkbbpjgaaGreatQBDeed1c
import Derived.Test.YtbbfnpfkbbpjgaaGreatQBDeed1w
import Derived.Test.YtbbfnpfkbbpjgaaGreatQBDeed2p
import Derived.Test.YtbbfnpfkbbpjgaaGreatQBDeed3
import Derived.Test.YtbbfnpfkbbpjgaaGreatQBDeed4
namespace Go.Proofs.YtbbfnpfkbbpjgaaGreat
open Go.RowKit Go.Lib
set_option linter.unusedVariables false
set_option linter.unusedSimpArgs false
set_option maxRecDepth 100000
set_option maxHeartbeats 4000000
/-- Not too many parts to go through. -/
structure Deed.Fit (d : Deed) : Prop where
  ins : d.ins.length ≤ 9223372036854775807
  outs : d.outs.length ≤ 9223372036854775807
  certs : d.certs.length ≤ 9223372036854775807
  pays : d.pays.length ≤ 9223372036854775807
  wits : d.wits.length ≤ 9223372036854775807
theorem j1g (v : Value) (d : Deed) (w : World) (h : DeedIs w v d) (hf : d.Fit) :
    Calls Tryz.prog 58 #[v] w fun e w' => e = .returned (.bool (mayD d)) ∧ Below w.heap.size w w' := by
  obtain ⟨v1, v2, v3, v4, v5, rfl, h1, h2, h3, h4, h5, ok⟩ := h
  obtain ⟨a1, c1, rfl, _⟩ := h1.shape
  obtain ⟨a2, c2, rfl, _⟩ := h2.shape
  obtain ⟨a3, c3, rfl, _⟩ := h3.shape
  obtain ⟨a4, c4, rfl, _⟩ := h4.shape
  obtain ⟨a5, c5, rfl, _⟩ := h5.shape
  have R1 := hide (fun (w' : World) (hb : Below w.heap.size w w') => x2q spotL (fun x w hx => x6h x w hx) _ d.ins w' 8 (h1.later hb) ok.ins hf.ins (by decide))
  have R2 := hide (fun (w' : World) (hb : Below w.heap.size w w') => x9l (fun x => decide (x.index < 8)) (fun x w hx => x7c x w hx) _ d.ins w' (h1.later hb) ok.ins hf.ins)
  have R3 := hide (fun (w' : World) (hb : Below w.heap.size w w') => x7r (fun x => amountB x.amount) (fun x w hx => x7o x w hx) _ d.outs w' (h2.later hb) ok.outs hf.outs)
  have R4 := hide (fun (w' : World) (hb : Below w.heap.size w w') => x5c certB (fun x w hx => x6i x w hx) _ d.certs w' (h3.later hb) ok.certs hf.certs)
  have R5 := hide (fun (w' : World) (hb : Below w.heap.size w w') => x0j PayT.key (fun x w hx => x7m x w hx) _ d.pays w' 4 (h4.later hb) ok.pays hf.pays (by decide))
  have R6 := hide (fun (w' : World) (hb : Below w.heap.size w w') => x8m (fun x => amountB x.amount) (fun x w hx => x7g x w hx) _ d.pays w' (h4.later hb) ok.pays hf.pays)
  have R7 := hide (fun (w' : World) (hb : Below w.heap.size w w') => x0p WitT.key (fun x w hx => x8y x w hx) _ d.wits w' 8 (h5.later hb) ok.wits hf.wits (by decide))
  have R8 := hide (fun (w' : World) (hb : Below w.heap.size w w') => x8h (fun x => decide (x.sig.size = 1024)) (fun x w hx => x6p x w hx) _ d.wits w' (h5.later hb) ok.wits hf.wits)
  have hR : mayD d = (decide (0 < d.ins.length) && ((risesB spotL d.ins && decide (d.ins.length ≤ 8)) && ((d.ins.all fun x => decide (x.index < 8)) && (decide (d.outs.length ≤ 8) && ((d.outs.all fun x => amountB x.amount) && (decide (d.fee < 9223372036854775808) && (decide (d.frm ≤ d.til) && (decide (d.certs.length ≤ 4) && (d.certs.all certB && ((risesB PayT.key d.pays && decide (d.pays.length ≤ 4)) && ((d.pays.all fun x => amountB x.amount) && ((risesB WitT.key d.wits && decide (d.wits.length ≤ 8)) && (d.wits.all fun x => decide (x.sig.size = 1024)))))))))))))) := by
    unfold mayD mayI mayO mayC mayP mayW
    simp only [Bool.and_assoc, Bool.and_comm, Bool.and_left_comm]
  rw [hR]
  have b := Below.refl w.heap.size w
  have e1 : decide ((0 : Int) < (d.ins.length : Int)) = decide (0 < d.ins.length) := decide_eq_decide.2 (by omega)
  have e2 : decide ((d.outs.length : Int) ≤ 8) = decide (d.outs.length ≤ 8) := decide_eq_decide.2 (by omega)
  have e3 : decide ((d.fee : Int) < 9223372036854775808) = decide (d.fee < 9223372036854775808) := decide_eq_decide.2 (by omega)
  have e4 : decide ((d.frm : Int) ≤ (d.til : Int)) = decide (d.frm ≤ d.til) := decide_eq_decide.2 (by omega)
  have e5 : decide ((d.certs.length : Int) ≤ 4) = decide (d.certs.length ≤ 4) := decide_eq_decide.2 (by omega)
  have E1 := hide (fun _ : Unit => e1)
  have E2 := hide (fun _ : Unit => e2)
  have E3 := hide (fun _ : Unit => e3)
  have E4 := hide (fun _ : Unit => e4)
  have E5 := hide (fun _ : Unit => e5)
  clear e1 e2 e3 e4 e5 hR hf ok h1 h2 h3 h4 h5
  generalize decide (0 < d.ins.length) = A1 at *
  generalize (risesB spotL d.ins && decide (d.ins.length ≤ 8)) = A2 at *
  generalize (d.ins.all fun x => decide (x.index < 8)) = A3 at *
  generalize decide (d.outs.length ≤ 8) = A4 at *
  generalize (d.outs.all fun x => amountB x.amount) = A5 at *
  generalize decide (d.fee < 9223372036854775808) = A6 at *
  generalize decide (d.frm ≤ d.til) = A7 at *
  generalize decide (d.certs.length ≤ 4) = A8 at *
  generalize d.certs.all certB = A9 at *
  generalize (risesB PayT.key d.pays && decide (d.pays.length ≤ 4)) = AA at *
  generalize (d.pays.all fun x => amountB x.amount) = AB at *
  generalize (risesB WitT.key d.wits && decide (d.wits.length ≤ 8)) = AC at *
  generalize (d.wits.all fun x => decide (x.sig.size = 1024)) = AD at *
  generalize d.ins.length = n1 at *
  generalize d.outs.length = n2 at *
  generalize d.certs.length = n3 at *
  generalize d.pays.length = n4 at *
  generalize d.wits.length = n5 at *
  generalize d.fee = f at *
  generalize d.frm = s at *
  generalize d.til = t at *
  have mF1 := True.intro
  go_enter Tryz.func58, Tryz.ntmps58
  simp only [List.append_eq, List.cons_append, List.nil_append]
  go_wp2_with (first | (with_reducible refine w4g ?_; clear mF1; refine q1h rfl _ rfl rfl rfl rfl rfl rfl rfl ?_; intro _ g1 hg1 F1 hb; (try replace F1 := F1.later hb); (try replace b := later b hb); clear hb) | (with_reducible refine w0g ?_; first | ((with_reducible refine w2g ?_); first | refine q0a rfl 24 _ rfl rfl (DAt.c2 F1) (by kernel_rfl) ?_ | refine q0a rfl 24 _ rfl rfl (DAt.c3 F1) (by kernel_rfl) ?_ | refine q0a rfl 24 _ rfl rfl (DAt.c4 F1) (by kernel_rfl) ?_) | refine q0a rfl 22 _ rfl rfl (DAt.c0 F1) (by kernel_rfl) ?_ | refine q0a rfl 23 _ rfl rfl (DAt.c1 F1) (by kernel_rfl) ?_ | refine q0a rfl 25 _ rfl rfl (DAt.c5 F1) (by kernel_rfl) ?_ | refine q0a rfl 26 _ rfl rfl (DAt.c6 F1) (by kernel_rfl) ?_ | refine q0a rfl 27 _ rfl rfl (DAt.c7 F1) (by kernel_rfl) ?_ | refine q0f rfl _ rfl rfl F1 ?_) | (with_reducible refine w9g ?_; first | refine q4j rfl _ _ rfl rfl rfl (E1.out ()) ?_ | refine q2p rfl _ _ rfl rfl rfl (E2.out ()) ?_ | refine j1x rfl _ _ rfl rfl rfl (E3.out ()) ?_ | refine q2p rfl _ _ rfl rfl rfl (E4.out ()) ?_ | refine q2p rfl _ _ rfl rfl rfl (E5.out ()) ?_) | (go_at_call 115; refine (R1.out _ b).mono ?_; rintro _ _ ⟨rfl, hc⟩; (try replace F1 := F1.later hc); (try replace b := later b hc); clear hc) | (go_at_call 117; refine (R2.out _ b).mono ?_; rintro _ _ ⟨rfl, hc⟩; (try replace F1 := F1.later hc); (try replace b := later b hc); clear hc) | (go_at_call 119; refine (R3.out _ b).mono ?_; rintro _ _ ⟨rfl, hc⟩; (try replace F1 := F1.later hc); (try replace b := later b hc); clear hc) | (go_at_call 122; refine (R4.out _ b).mono ?_; rintro _ _ ⟨rfl, hc⟩; (try replace F1 := F1.later hc); (try replace b := later b hc); clear hc) | (go_at_call 124; refine (R5.out _ b).mono ?_; rintro _ _ ⟨rfl, hc⟩; (try replace F1 := F1.later hc); (try replace b := later b hc); clear hc) | (go_at_call 127; refine (R6.out _ b).mono ?_; rintro _ _ ⟨rfl, hc⟩; (try replace F1 := F1.later hc); (try replace b := later b hc); clear hc) | (go_at_call 129; refine (R7.out _ b).mono ?_; rintro _ _ ⟨rfl, hc⟩; (try replace F1 := F1.later hc); (try replace b := later b hc); clear hc) | (go_at_call 131; refine (R8.out _ b).mono ?_; rintro _ _ ⟨rfl, hc⟩; (try replace F1 := F1.later hc); (try replace b := later b hc); clear hc) | (with_reducible show wpList _ _ _ (⟨_, Op.binOp BinOp.lss _ _ _ _, _, _, _, _⟩ :: _) _ _; generalize hstop : wpList _ _ _ _ _ _ = Gstop))
  all_goals
    go_ret
    refine ⟨?_, b⟩
    clear R1 R2 R3 R4 R5 R6 R7 R8 E1 E2 E3 E4 E5 F1 b
    simp_all
end Go.Proofs.YtbbfnpfkbbpjgaaGreat
