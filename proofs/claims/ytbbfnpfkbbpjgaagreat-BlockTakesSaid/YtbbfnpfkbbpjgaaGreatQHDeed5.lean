/- deed.may, May. -/
import Derived.Test.YtbbfnpfkbbpjgaaGreatQHElCert
import Derived.Test.YtbbfnpfkbbpjgaaGreatQHDeed1
import Derived.Test.YtbbfnpfkbbpjgaaGreatQHDeed1w
import Derived.Test.YtbbfnpfkbbpjgaaGreatQHDeed3
import Derived.Test.YtbbfnpfkbbpjgaaGreatQHDeed4
import Derived.Test.YtbbfnpfkbbpjgaaGreatQHDeed7
import Derived.Test.YtbbfnpfkbbpjgaaGreatQHHd7
import Derived.Test.YtbbfnpfkbbpjgaaGreatQHMCells
import Derived.Test.YtbbfnpfkbbpjgaaGreatQHTakeL
namespace Go.Proofs.YtbbfnpfkbbpjgaaGreat
open Go.RowKit Go.Lib
set_option linter.unusedVariables false
set_option linter.unusedSimpArgs false
set_option maxRecDepth 100000
set_option maxHeartbeats 4000000
/-- Not too many parts to go through. -/
structure Deed.Fit (d : Deed) : Prop where
 ins : d.ins.length ≤ 9223372036854775807
 outs : d.outs.length ≤ 9223372036854775807
 certs : d.certs.length ≤ 9223372036854775807
 pays : d.pays.length ≤ 9223372036854775807
 wits : d.wits.length ≤ 9223372036854775807
theorem j2g (v : Value) (d : Deed) (w : World) (h : DeedIs w v d) (hf : d.Fit) :
  Calls Tryz.prog 58 #[v] w fun e w' => e = .returned (.bool (mayD d)) ∧ Below w.heap.size w w' := by
 obtain ⟨v1, v2, v3, v4, v5, rfl, h1, h2, h3, h4, h5, ok⟩ := h
 obtain ⟨a1, c1, rfl, _⟩ := h1.shape
 obtain ⟨a2, c2, rfl, _⟩ := h2.shape
 obtain ⟨a3, c3, rfl, _⟩ := h3.shape
 obtain ⟨a4, c4, rfl, _⟩ := h4.shape
 obtain ⟨a5, c5, rfl, _⟩ := h5.shape
 have R1 := hide (fun (w' : World) (hb : Below w.heap.size w w') => x4o spotL (fun x w hx => z0c x w hx) _ d.ins w' 8 (h1.later hb) ok.ins hf.ins (by decide))
 have R2 := hide (fun (w' : World) (hb : Below w.heap.size w w') => z1w (fun x => decide (x.index < 8)) (fun x w hx => x8u x w hx) _ d.ins w' (h1.later hb) ok.ins hf.ins)
 have R3 := hide (fun (w' : World) (hb : Below w.heap.size w w') => x9q (fun x => amountB x.amount) (fun x w hx => x8z x w hx) _ d.outs w' (h2.later hb) ok.outs hf.outs)
 have R4 := hide (fun (w' : World) (hb : Below w.heap.size w w') => x7j certB (fun x w hx => x8l x w hx) _ d.certs w' (h3.later hb) ok.certs hf.certs)
 have R5 := hide (fun (w' : World) (hb : Below w.heap.size w w') => x3l PayT.key (fun x w hx => x8y x w hx) _ d.pays w' 4 (h4.later hb) ok.pays hf.pays (by decide))
 have R6 := hide (fun (w' : World) (hb : Below w.heap.size w w') => x9a (fun x => amountB x.amount) (fun x w hx => z0j x w hx) _ d.pays w' (h4.later hb) ok.pays hf.pays)
 have R7 := hide (fun (w' : World) (hb : Below w.heap.size w w') => x4f WitT.key (fun x w hx => x9e x w hx) _ d.wits w' 8 (h5.later hb) ok.wits hf.wits (by decide))
 have R8 := hide (fun (w' : World) (hb : Below w.heap.size w w') => x9j (fun x => decide (x.sig.size = 1024)) (fun x w hx => z0q x w hx) _ d.wits w' (h5.later hb) ok.wits hf.wits)
 have hR : mayD d = (decide (0 < d.ins.length) && ((risesB spotL d.ins && decide (d.ins.length ≤ 8)) && ((d.ins.all fun x => decide (x.index < 8)) && (decide (d.outs.length ≤ 8) && ((d.outs.all fun x => amountB x.amount) && (decide (d.fee < 9223372036854775808) && (decide (d.frm ≤ d.til) && (decide (d.certs.length ≤ 4) && (d.certs.all certB && ((risesB PayT.key d.pays && decide (d.pays.length ≤ 4)) && ((d.pays.all fun x => amountB x.amount) && ((risesB WitT.key d.wits && decide (d.wits.length ≤ 8)) && (d.wits.all fun x => decide (x.sig.size = 1024)))))))))))))) := by
  unfold mayD mayI mayO mayC mayP mayW
  simp only [Bool.and_assoc, Bool.and_comm, Bool.and_left_comm]
 rw [hR]
 have b := Below.refl w.heap.size w
 have e1 : decide ((0 : Int) < (d.ins.length : Int)) = decide (0 < d.ins.length) := decide_eq_decide.2 (by omega)
 have e2 : decide ((d.outs.length : Int) ≤ 8) = decide (d.outs.length ≤ 8) := decide_eq_decide.2 (by omega)
 have e3 : decide ((d.fee : Int) < 9223372036854775808) = decide (d.fee < 9223372036854775808) := decide_eq_decide.2 (by omega)
 have e4 : decide ((d.frm : Int) ≤ (d.til : Int)) = decide (d.frm ≤ d.til) := decide_eq_decide.2 (by omega)
 have e5 : decide ((d.certs.length : Int) ≤ 4) = decide (d.certs.length ≤ 4) := decide_eq_decide.2 (by omega)
 have E1 := hide (fun _ : Unit => e1)
 have E2 := hide (fun _ : Unit => e2)
 have E3 := hide (fun _ : Unit => e3)
 have E4 := hide (fun _ : Unit => e4)
 have E5 := hide (fun _ : Unit => e5)
 clear e1 e2 e3 e4 e5 hR hf ok h1 h2 h3 h4 h5
 generalize decide (0 < d.ins.length) = A1 at *
 generalize (risesB spotL d.ins && decide (d.ins.length ≤ 8)) = A2 at *
 generalize (d.ins.all fun x => decide (x.index < 8)) = A3 at *
 generalize decide (d.outs.length ≤ 8) = A4 at *
 generalize (d.outs.all fun x => amountB x.amount) = A5 at *
 generalize decide (d.fee < 9223372036854775808) = A6 at *
 generalize decide (d.frm ≤ d.til) = A7 at *
 generalize decide (d.certs.length ≤ 4) = A8 at *
 generalize d.certs.all certB = A9 at *
 generalize (risesB PayT.key d.pays && decide (d.pays.length ≤ 4)) = AA at *
 generalize (d.pays.all fun x => amountB x.amount) = AB at *
 generalize (risesB WitT.key d.wits && decide (d.wits.length ≤ 8)) = AC at *
 generalize (d.wits.all fun x => decide (x.sig.size = 1024)) = AD at *
 generalize d.ins.length = n1 at *
 generalize d.outs.length = n2 at *
 generalize d.certs.length = n3 at *
 generalize d.pays.length = n4 at *
 generalize d.wits.length = n5 at *
 generalize d.fee = f at *
 generalize d.frm = s at *
 generalize d.til = t at *
 have mF1 := True.intro
 go_enter Tryz.func58, Tryz.ntmps58
 simp only [List.append_eq, List.cons_append, List.nil_append]
 go_wp2_with (first | (with_reducible refine w2g ?_; clear mF1; refine q0x rfl _ rfl rfl rfl rfl rfl rfl rfl ?_; intro _ g1 hg1 F1 hb; (try replace b := later b hb); clear hb) | (with_reducible refine w0g ?_; first | ((with_reducible refine w6g ?_); first | refine q0a rfl 24 _ rfl rfl (DAt.c2 F1) (by kernel_rfl) ?_ | refine q0a rfl 24 _ rfl rfl (DAt.c3 F1) (by kernel_rfl) ?_ | refine q0a rfl 24 _ rfl rfl (DAt.c4 F1) (by kernel_rfl) ?_) | refine q0a rfl 22 _ rfl rfl (DAt.c0 F1) (by kernel_rfl) ?_ | refine q0a rfl 23 _ rfl rfl (DAt.c1 F1) (by kernel_rfl) ?_ | refine q0a rfl 25 _ rfl rfl (DAt.c5 F1) (by kernel_rfl) ?_ | refine q0a rfl 26 _ rfl rfl (DAt.c6 F1) (by kernel_rfl) ?_ | refine q0a rfl 27 _ rfl rfl (DAt.c7 F1) (by kernel_rfl) ?_) | (with_reducible refine w8g ?_; first | refine q4v rfl _ _ rfl rfl rfl (E1.out ()) ?_ | refine q9e rfl _ _ rfl rfl rfl (E2.out ()) ?_ | refine j4a rfl _ _ rfl rfl rfl (E3.out ()) ?_ | refine q9e rfl _ _ rfl rfl rfl (E4.out ()) ?_ | refine q9e rfl _ _ rfl rfl rfl (E5.out ()) ?_) | (go_at_call 115; refine (R1.out _ b).mono ?_; rintro _ _ ⟨rfl, hc⟩; (try replace F1 := F1.later hc); (try replace b := later b hc); clear hc) | (go_at_call 117; refine (R2.out _ b).mono ?_; rintro _ _ ⟨rfl, hc⟩; (try replace F1 := F1.later hc); (try replace b := later b hc); clear hc) | (go_at_call 119; refine (R3.out _ b).mono ?_; rintro _ _ ⟨rfl, hc⟩; (try replace F1 := F1.later hc); (try replace b := later b hc); clear hc) | (go_at_call 122; refine (R4.out _ b).mono ?_; rintro _ _ ⟨rfl, hc⟩; (try replace F1 := F1.later hc); (try replace b := later b hc); clear hc) | (go_at_call 124; refine (R5.out _ b).mono ?_; rintro _ _ ⟨rfl, hc⟩; (try replace F1 := F1.later hc); (try replace b := later b hc); clear hc) | (go_at_call 127; refine (R6.out _ b).mono ?_; rintro _ _ ⟨rfl, hc⟩; (try replace F1 := F1.later hc); (try replace b := later b hc); clear hc) | (go_at_call 129; refine (R7.out _ b).mono ?_; rintro _ _ ⟨rfl, hc⟩; (try replace F1 := F1.later hc); (try replace b := later b hc); clear hc) | (go_at_call 131; refine (R8.out _ b).mono ?_; rintro _ _ ⟨rfl, hc⟩; (try replace F1 := F1.later hc); (try replace b := later b hc); clear hc))
 all_goals
  go_ret
  refine ⟨?_, b⟩
  clear R1 R2 R3 R4 R5 R6 R7 R8 E1 E2 E3 E4 E5 F1 b
  simp_all
theorem q9v {o : Oper} {a : Act} {K : Act → Prop} {w0 : World} {v1 v2 v3 v4 v5 : Value} {f s t : Nat} (x : Operand) (ho : o.op = .load 29 x) {g : Nat} (hx : a.eval x = .pointer (some ⟨g, 0, none⟩)) (h : DAt w0 g v1 v2 v3 v4 v5 f s t) (hk : K (a.put o.dst (deedV v1 v2 v3 v4 v5 f s t))) :
  o.quiet Tryz.prog a (fun w' => ∃ s : Since w0, w' = s.w) K := q2h 29 x ho hx h.cells _ Tryz.underlying29 rfl deedSize hk
theorem x6h (x : WitT) (h : x.Ok) (hs : x.sig.size = 1024) : (witL x).length ≤ 1100 := by
 have hk : x.key.length = 32 := h
 unfold witL
 rw [List.length_append, hk, Array.length_toList]
 have : x.sig.data.size = x.sig.size := rfl
 omega
theorem j6h {d : Deed} (h : d.Few) : (bodyL d).length ≤ 5300 := by
 have h1 := q3g inL d.ins 160 (fun y hy => Nat.le_trans (z1p y (h.ok.ins y hy)) (by decide))
 have h2 := q3g outtL d.outs 160 (fun y hy => Nat.le_trans (x7v y (h.ok.outs y hy)) (by decide))
 have h3 := q3g certL d.certs 160 (fun y hy => j6d y (h.ok.certs y hy))
 have h4 := q3g payL d.pays 160 (fun y hy => Nat.le_trans (x5b y (h.ok.pays y hy)) (by decide))
 have i1 := h.ins
 have i2 := h.outs
 have i3 := h.certs
 have i4 := h.pays
 have p1 := q0g d.ins.length
 have p2 := q0g d.outs.length
 have p3 := q0g d.certs.length
 have p4 := q0g d.pays.length
 have p5 := q0g d.fee
 have p6 := q0g d.frm
 have p7 := q0g d.til
 unfold bodyL listL
 simp only [List.length_append]
 omega
theorem j5y {d : Deed} (h : d.FewW) : (fullL d).length ≤ 14400 := by
 have h0 := j6h h.few
 have h1 := q3g witL d.wits 1100 (fun y hy => x6h y (h.few.ok.wits y hy) (h.sigs y hy))
 have h2 := h.wits
 have p := q0g d.wits.length
 unfold fullL listL
 simp only [List.length_append]
 omega
theorem x0x (v : Value) (d : Deed) (w : World) (h : DeedIs w v d) (hf : d.FewW) :
  Calls Tryz.prog 60 #[v] w fun e w' => e = .returned (.string ⟨(fullL d).toArray⟩) ∧ Below w.heap.size w w' := by
 have HB := hide (fun (w' : World) (hb : Below w.heap.size w w') => x9u v d w' (h.later hb) hf.few)
 have hbl := j6h hf.few
 obtain ⟨v1, v2, v3, v4, v5, rfl, h1, h2, h3, h4, h5, ok⟩ := h
 obtain ⟨a1, c1, rfl, _⟩ := h1.shape
 obtain ⟨a2, c2, rfl, _⟩ := h2.shape
 obtain ⟨a3, c3, rfl, _⟩ := h3.shape
 obtain ⟨a4, c4, rfl, _⟩ := h4.shape
 obtain ⟨a5, c5, rfl, _⟩ := h5.shape
 have h5o := hide ok.wits
 have h5z := hide hf.sigs
 obtain ⟨n1, hn1⟩ : ∃ n, n = d.ins.length := ⟨_, rfl⟩
 obtain ⟨n2, hn2⟩ : ∃ n, n = d.outs.length := ⟨_, rfl⟩
 obtain ⟨n3, hn3⟩ : ∃ n, n = d.certs.length := ⟨_, rfl⟩
 obtain ⟨n4, hn4⟩ : ∃ n, n = d.pays.length := ⟨_, rfl⟩
 obtain ⟨n5, hn5⟩ : ∃ n, n = d.wits.length := ⟨_, rfl⟩
 have h5n := hide hn5
 have l5 := hf.wits
 rw [← hn5] at h5 l5
 rw [← hn1, ← hn2, ← hn3, ← hn4, ← hn5] at HB
 rw [← hn1, ← hn2, ← hn3, ← hn4, ← hn5]
 generalize hR : fullL d = R at *
 have HBODY := hide (fun _ : Unit => hR)
 unfold fullL listL at HBODY
 generalize d.fee = f at *
 generalize d.frm = s at *
 generalize d.til = t at *
 have b := Below.refl w.heap.size w
 clear ok hf h1 h2 h3 h4 hn1 hn2 hn3 hn4 hn5 hR
 have w1 : IntKind.u64.wrap (n5 : Int) = (n5 : Int) := by rw [IntKind.wrap_u64]; omega
 have hYB : (⟨(bodyL d).toArray⟩ : ByteArray).data.toList = bodyL d := rfl
 have HYB := hide hYB
 have hYZ : (⟨(bodyL d).toArray⟩ : ByteArray).size = (bodyL d).length := rfl
 rw [← hYZ] at hbl
 clear hYB hYZ
 generalize (⟨(bodyL d).toArray⟩ : ByteArray) = sb at *
 have mF1 := True.intro
 have mF2 := True.intro
 go_enter Tryz.func60, Tryz.ntmps60
 go_wp2_with (first | (with_reducible refine w2g ?_; clear mF2; refine q0x rfl _ rfl rfl rfl rfl rfl rfl rfl ?_; intro _ g1 hg1 F2 hb; (try replace b := later b hb); clear hb) | ((with_reducible refine w5g ?_); refine q0q rfl 170 rfl (cs := [.pointer none, .slice none 0 0]) wrtBuilt ?_) | (with_reducible refine w2g ?_; clear mF1; refine j3e rfl _ rfl rfl ?_; intro _ g hg F1 hb; have q2 := F2.lt; have hgw : w.heap.size ≤ g := Nat.le_trans b.size hg; (try replace F2 := F2.later hb); (try replace b := later b hb); clear hb) | (with_reducible show Code.wp _ (Code.region _ _ true) _ _ _; refine q0n 5 (by kernel_rfl) (by kernel_rfl) ?_; simp only [List.take_succ_cons, List.take_zero]; (repeat ((go_big_quiet_want; first | ((with_reducible refine w28g ?_); first | (refine q9v _ rfl rfl F2 ?_; simp only [pS]; go_big_quiet_on)) | (go_big_quiet_op; first | go_big_quiet_on | (refine ⟨_, fun s => q0f (HB.out _ (later b s.ok)), ?_⟩; go_big_quiet_on))))); refine wpQuiet_nil ?_; intro _ hq; (try replace F1 := F1.later hq); (try replace F2 := F2.later hq); (try replace b := later b hq); clear hq; simp only [List.drop_succ_cons, List.drop_zero]) | (go_at_call 75; refine (j0e g _ _ _ F1 (by simp only [List.length_nil]; omega)).mono ?_; rintro _ _ ⟨rfl, h1, hc, hk⟩; clear F1; have F1 := h1; clear h1; replace F2 := F2.keep hk (by omega); replace b := q0u b hc hgw; clear hc hk) | (with_reducible refine w0g ?_; first | refine q0a rfl 27 _ rfl rfl (DAt.c7 F2) (by kernel_rfl) ?_) | (go_at_call 133; refine (q4q g _ _ _ F1 (by first | omega) (by first | (simp only [List.length_append, List.length_nil]; have := Array.length_toList (xs := sb.data); have : sb.data.size = sb.size := rfl; omega))).mono ?_; rintro _ _ ⟨rfl, h1, hc, hk⟩; clear F1; have F1 := h1; clear h1; replace F2 := F2.keep hk (by omega); replace b := q0u b hc hgw; clear hc hk))
 rw [List.nil_append, HYB.out] at F1
 have p5 := q0g n5
 obtain ⟨Y, eY⟩ : ∃ Y, Y = bodyL d ++ putL n5 := ⟨_, rfl⟩
 have hY : Y.length ≤ 6000 := by
  rw [eY, List.length_append, ← HYB.out, Array.length_toList]
  have : sb.data.size = sb.size := rfl
  omega
 rw [← eY] at F1
 have EY := hide eY
 clear eY HB hbl
 go_loopw [23] (fun i wr => ∃ k : Nat, i = .int .i64 k ∧ k ≤ n5 ∧ Wrt wr g (Y ++ (d.wits.take k).flatMap witL) ∧ DAt wr g1 (.slice a1 n1 c1) (.slice a2 n2 c2) (.slice a3 n3 c3) (.slice a4 n4 c4) (.slice a5 n5 c5) f s t ∧ Below w.heap.size w wr) (fun i _ => n5 - (RowKit.intOf i).toNat)
 case atStart => exact ⟨0, rfl, by omega, by simpa using F1, F2, b⟩
 clear F1 F2 b
 obtain ⟨k, rfl, hk, F1, F2, b⟩ := hrel
 rcases Nat.lt_or_ge k n5 with hlt | hge
 case inl =>
  obtain ⟨x, hx, okx⟩ := q1i h5o.out (k := k) (by rw [← h5n.out]; exact hlt)
  obtain ⟨bb, k0, c', he, _, hcs⟩ := (h5.later b).block (by rw [← h5n.out]; omega)
  have d1 := hcs k x hx
  have okz := h5z.out x (List.mem_of_getElem? hx)
  have HNX := hide (q3m witL d.wits k x hx)
  have hX : (Y ++ (d.wits.take k).flatMap witL).length ≤ 20000 := by
   have h1 := q3g witL (d.wits.take k) 1100 (fun y hy => x6h y (h5o.out y (List.mem_of_mem_take hy)) (h5z.out y (List.mem_of_mem_take hy)))
   have h2 : (d.wits.take k).length ≤ 8 := by rw [List.length_take]; omega
   have h3 : (d.wits.take k).length * 1100 ≤ 8 * 1100 := Nat.mul_le_mul_right _ h2
   rw [List.length_append]
   omega
  have OX := hide okx
  have OXK : Hid (x.key.length = 32) := okx
  simp only [Value.slice.injEq] at he
  obtain ⟨rfl, -, rfl⟩ := he
  clear hcs hx okx
  generalize hXe : (Y ++ (d.wits.take k).flatMap witL) = X at *
  have HXE := hide hXe
  clear hXe
  have OXS := hide (show (⟨x.sig.data.toList.toArray⟩ : ByteArray) = x.sig by cases x.sig; simp)
  have HSZ : Hid (x.sig.size = 1024) := okz
  clear okz
  go_wp2_with (first | (with_reducible refine w0g ?_; refine q7c rfl _ rfl rfl d1 OX.out ?_) | (with_reducible refine w3g ?_; refine j0t rfl rfl ?_; intro _ g5 hg5 F3 ha) | (with_reducible refine w4g ?_; refine q8v rfl _ _ rfl rfl rfl OX.out F3 ?_; intro _ t1 ht; have hb := q0b ha ht hg5 (Nat.le_refl _); clear F3; have F3 := t1; clear t1 ha ht; have q1 := F1.lt; have q2 := F2.lt; (try replace F1 := F1.later hb); (try replace F2 := F2.later hb); (try replace b := later b hb); clear hb) | (with_reducible refine w0g ?_; refine q0h rfl _ rfl rfl (WitAt.key F3) OXK.out ?_) | (with_reducible show Code.wp _ (Code.region _ _ true) _ _ _; refine q0n 5 (by kernel_rfl) (by kernel_rfl) ?_; simp only [List.take_succ_cons, List.take_zero]; (repeat ((go_big_quiet_want; first | ((with_reducible refine w28g ?_); first | (refine q0d 9 _ rfl rfl (WitAt.sig F3) (by kernel_rfl) ?_; simp only [pS]; go_big_quiet_on)) | (go_big_quiet_op; first | go_big_quiet_on)))); refine wpQuiet_nil ?_; intro _ hq; (try replace F1 := F1.later hq); (try replace F2 := F2.later hq); (try replace F3 := F3.later hq); (try replace b := later b hq); clear hq; simp only [List.drop_succ_cons, List.drop_zero]) | (go_at_call 134; refine (q9s g _ _ _ F1 OXK.out (by omega)).mono ?_; rintro _ _ ⟨rfl, h1, hc, hk⟩; clear F1; have F1 := h1; clear h1; replace F2 := F2.keep hk (by omega); (try replace F3 := F3.keep hk (by omega)); replace b := q0u b hc hgw; clear hc hk) | (go_at_call 75; refine (j0e g _ _ _ F1 (by have q1 := OXK.out; have q2 := HSZ.out; simp only [List.length_append]; omega)).mono ?_; rintro _ _ ⟨rfl, h1, hc, hk⟩; clear F1; have F1 := h1; clear h1; replace F2 := F2.keep hk (by omega); (try replace F3 := F3.keep hk (by omega)); replace b := q0u b hc hgw; clear hc hk))
  go_roundw
  case rel => exact ⟨k + 1, by simp, by omega, by rw [HNX.out, ← List.append_assoc, HXE.out]; unfold witL; rw [← List.append_assoc]; exact F1, F2, b⟩
  case measure => simp [RowKit.intOf]; omega
 obtain rfl : n5 = k := by omega
 rw [List.take_of_length_le (by rw [← h5n.out]; exact Nat.le_refl _)] at F1
 have HF : Hid (Y ++ d.wits.flatMap witL = R) := by
  rw [EY.out, ← HBODY.out (), ← h5n.out]
  exact hide (by simp [List.append_assoc])
 have HNE : Hid (Y ++ d.wits.flatMap witL ≠ []) := by
  intro h0
  have := congrArg List.length h0
  rw [EY.out] at this
  have p := x1h n5
  simp only [List.length_append, List.length_nil] at this
  omega
 rw [HF.out] at F1 HNE
 go_wp2_with (go_at_call 78; refine (j5p g _ _ F1 HNE.out).mono ?_; rintro _ _ ⟨rfl, hc⟩; replace b := q0u b hc hgw; clear hc)
 go_ret
 exact ⟨rfl, b⟩
theorem x9s (v : Value) (d : Deed) (w : World) (h : DeedIs w v d) (hf : d.Fit) :
  Calls Tryz.prog 19 #[v] w fun e w' => e = .returned (.tuple #[.string ⟨(if mayD d = true then fullL d else []).toArray⟩, .int .i64 (if mayD d = true then 0 else 2)]) ∧ Below w.heap.size w w' := by
 have HM := hide (fun (w' : World) (hb : Below w.heap.size w w') => j2g v d w' (h.later hb) hf)
 have hF : mayD d = true → d.FewW := fun hm => q7k (by obtain ⟨_, _, _, _, _, _, _, _, _, _, _, ok⟩ := h; exact ok) hm
 have HP := hide (fun (hm : mayD d = true) (w' : World) (hb : Below w.heap.size w w') => x0x v d w' (h.later hb) (hF hm))
 obtain ⟨v1, v2, v3, v4, v5, rfl, h1, h2, h3, h4, h5, ok⟩ := h
 have o1 := h1.one'
 have o2 := h2.one'
 have o3 := h3.one'
 have o4 := h4.one'
 have o5 := h5.one'
 have b := Below.refl w.heap.size w
 clear h1 h2 h3 h4 h5 ok hf hF
 generalize d.fee = f at *
 generalize d.frm = s at *
 generalize d.til = t at *
 by_cases hm : mayD d = true
 ·have HP2 := hide (HP.out hm)
  rw [hm] at HM
  rw [if_pos hm, if_pos hm]
  clear HP hm
  generalize (⟨(fullL d).toArray⟩ : ByteArray) = sb at *
  have mF1 := True.intro
  go_enter Tryz.func19, Tryz.ntmps19
  go_wp2_with (first | (with_reducible refine w2g ?_; clear mF1; refine q0x rfl _ rfl rfl o1 o2 o3 o4 o5 ?_; intro _ g1 hg1 F1 hb; (try replace b := later b hb); clear hb) | (with_reducible refine w0g ?_; refine q1g rfl _ rfl rfl F1 ?_) | (go_at_call 58; refine (HM.out _ b).mono ?_; rintro _ _ ⟨rfl, hc⟩; (try replace F1 := F1.later hc); (try replace b := later b hc); clear hc) | (go_at_call 60; refine (HP2.out _ b).mono ?_; rintro _ _ ⟨rfl, hc⟩; (try replace F1 := F1.later hc); (try replace b := later b hc); clear hc))
  go_ret2
  exact ⟨rfl, b⟩
 ·have hm' : mayD d = false := by simpa using hm
  rw [hm'] at HM
  rw [if_neg hm, if_neg hm]
  clear HP hm hm'
  have mF1 := True.intro
  go_enter Tryz.func19, Tryz.ntmps19
  go_wp2_with (first | (with_reducible refine w2g ?_; clear mF1; refine q0x rfl _ rfl rfl o1 o2 o3 o4 o5 ?_; intro _ g1 hg1 F1 hb; (try replace b := later b hb); clear hb) | (with_reducible refine w0g ?_; refine q1g rfl _ rfl rfl F1 ?_) | (go_at_call 58; refine (HM.out _ b).mono ?_; rintro _ _ ⟨rfl, hc⟩; (try replace F1 := F1.later hc); (try replace b := later b hc); clear hc))
  go_ret2
  exact ⟨rfl, b⟩
def tagFull : List UInt8 := [102, 117, 108, 108]
def fullD (d : Deed) : List UInt8 × Int := if mayD d = true then (ofX tagFull [fullL d], 0) else (zero32, 2)
theorem j9c (v : Value) (d : Deed) (w : World) (h : DeedIs w v d) (hf : d.Fit) :
  Calls Tryz.prog 21 #[v] w fun e w' => e = .returned (.tuple #[hv (fullD d).1, .int .i64 (fullD d).2]) ∧ Below w.heap.size w w' := by
 have HM := hide (fun (w' : World) (hb : Below w.heap.size w w') => j2g v d w' (h.later hb) hf)
 have hF : mayD d = true → d.FewW := fun hm => q7k (by obtain ⟨_, _, _, _, _, _, _, _, _, _, _, ok⟩ := h; exact ok) hm
 have HP := hide (fun (hm : mayD d = true) (w' : World) (hb : Below w.heap.size w w') => x0x v d w' (h.later hb) (hF hm))
 have HBL := hide (fun (hm : mayD d = true) => j5y (hF hm))
 obtain ⟨v1, v2, v3, v4, v5, rfl, h1, h2, h3, h4, h5, ok⟩ := h
 have o1 := h1.one'
 have o2 := h2.one'
 have o3 := h3.one'
 have o4 := h4.one'
 have o5 := h5.one'
 have b := Below.refl w.heap.size w
 clear h1 h2 h3 h4 h5 ok hf hF
 generalize d.fee = f at *
 generalize d.frm = s at *
 generalize d.til = t at *
 unfold fullD
 by_cases hm : mayD d = true
 ·have HP2 := hide (HP.out hm)
  have hbl := HBL.out hm
  rw [hm] at HM
  rw [if_pos hm]
  have HO : Hid (∀ w, Calls Tryz.prog 61 #[.string ⟨#[102, 117, 108, 108]⟩, .slice (some ⟨w.heap.size, 0, none⟩) 1 1] (w.alloc (.cells #[.string ⟨(fullL d).toArray⟩] 9)) fun e w' => e = .returned (hv (ofX tagFull [fullL d])) ∧ Below w.heap.size w w') := fun w => of1 tagFull _ w (by decide) (by omega)
  have HL := hide (q1z tagFull [fullL d])
  clear HP hm HBL hbl
  generalize ofX tagFull [fullL d] = R at *
  generalize (⟨(fullL d).toArray⟩ : ByteArray) = sb at *
  have mF1 := True.intro
  have mF2 := True.intro
  go_enter Tryz.func21, Tryz.ntmps21
  go_wp2_with (first | (with_reducible refine w2g ?_; clear mF1; refine q0x rfl _ rfl rfl o1 o2 o3 o4 o5 ?_; intro _ g1 hg1 F1 hb; (try replace b := later b hb); clear hb) | (with_reducible refine w3g ?_; clear mF2; refine q0r rfl rfl ?_; intro _ g2 hg2 F2 hb; (try have := F1.lt); (try have := F2.lt); (try have := b.size); (try replace F1 := F1.later hb); (try replace b := later b hb); clear hb) | (with_reducible refine w0g ?_; refine q1g rfl _ rfl rfl F1 ?_) | (go_at_call 58; refine (HM.out _ b).mono ?_; rintro _ _ ⟨rfl, hc⟩; (try replace F1 := F1.later hc); (try replace F2 := F2.later hc); (try replace b := later b hc); clear hc) | (go_at_call 60; refine (HP2.out _ b).mono ?_; rintro _ _ ⟨rfl, hc⟩; (try replace F1 := F1.later hc); (try replace F2 := F2.later hc); (try replace b := later b hc); clear hc) | (go_at_call 61; refine (HO.out _).mono ?_; rintro _ _ ⟨rfl, hc⟩; (try replace F1 := F1.later hc); (try replace F2 := F2.later hc); (try replace b := later b hc); clear hc) | (with_reducible refine w4g ?_; refine q0k rfl _ _ rfl rfl rfl HL.out F2 ?_; intro _ t1 ht; (try replace F1 := F1.tt ht); (try replace b := q0b b ht (by omega) (by omega)); replace F2 := t1; clear ht))
  exact bodyPost_ret (j1w rfl _ _ _ rfl rfl F2) rfl ⟨rfl, b⟩
 ·have hm' : mayD d = false := by simpa using hm
  rw [hm'] at HM
  rw [if_neg hm]
  clear HP hm hm' HBL
  have mF1 := True.intro
  have mF2 := True.intro
  go_enter Tryz.func21, Tryz.ntmps21
  go_wp2_with (first | (with_reducible refine w2g ?_; clear mF1; refine q0x rfl _ rfl rfl o1 o2 o3 o4 o5 ?_; intro _ g1 hg1 F1 hb; (try replace b := later b hb); clear hb) | (with_reducible refine w3g ?_; clear mF2; refine q0r rfl rfl ?_; intro _ g2 hg2 F2 hb; (try have := F1.lt); (try have := F2.lt); (try have := b.size); (try replace F1 := F1.later hb); (try replace b := later b hb); clear hb) | (with_reducible refine w0g ?_; refine q1g rfl _ rfl rfl F1 ?_) | (go_at_call 58; refine (HM.out _ b).mono ?_; rintro _ _ ⟨rfl, hc⟩; (try replace F1 := F1.later hc); (try replace F2 := F2.later hc); (try replace b := later b hc); clear hc) | (with_reducible refine w5g ?_; refine q2n rfl rfl ?_) | (with_reducible refine w4g ?_; refine q0k rfl _ _ rfl rfl rfl rfl F2 ?_; intro _ t1 ht; (try replace F1 := F1.tt ht); (try replace b := q0b b ht (by omega) (by omega)); replace F2 := t1; clear ht))
  exact bodyPost_ret (j1w rfl _ _ _ rfl rfl F2) rfl ⟨rfl, b⟩
structure Blk where
 head : Hd
 deeds : List Deed
structure Blk.Ok (b : Blk) : Prop where
 head : b.head.Ok
 deeds : ∀ d ∈ b.deeds, d.Ok
def fulB (d : Deed) : List UInt8 := ofX tagFull [fullL d]
def fulsB (l : List Deed) : List (List UInt8) := l.map fulB
theorem q9k (d : Deed) : (fulB d).length = 32 := q1z _ _
def sizB (l : List Deed) : Nat := (l.map fun d => (fullL d).length).sum
def bodB (l : List Deed) : (List UInt8 × Nat) × (Nat × Int) :=
 if l.all mayD = true then (if l.length ≤ 16 ∧ sizB l ≤ 32768 then ((treeL (fulsB l), sizB l), (l.length, 0)) else ((zero32, 0), (0, 3))) else ((zero32, 0), (0, 2))
def fewB (l : List Deed) : Bool := l.all mayD && (decide (l.length ≤ 16) && decide (sizB l ≤ 32768))
theorem x8f {l : List Deed} (h : fewB l = true) : bodB l = ((treeL (fulsB l), sizB l), (l.length, 0)) := by
 simp only [fewB, Bool.and_eq_true, decide_eq_true_eq] at h
 unfold bodB
 rw [if_pos h.1, if_pos h.2]
theorem j7h (l : List Deed) : (bodB l).2.2 = 0 ↔ fewB l = true := by
 unfold bodB fewB
 by_cases h1 : l.all mayD = true
 ·rw [if_pos h1, h1]
  by_cases h2 : l.length ≤ 16 ∧ sizB l ≤ 32768
  ·rw [if_pos h2]
   simp [h2.1, h2.2]
  ·rw [if_neg h2]
   simp only [Bool.true_and, Bool.and_eq_true, decide_eq_true_eq]
   exact ⟨fun h => by simp at h, fun h => absurd h h2⟩
 ·rw [if_neg h1]
  simp [h1]
theorem j2r (l : List Deed) : (bodB l).1.1.length = 32 := by
 unfold bodB
 split
 ·split
  ·exact q5a _ _
  ·rfl
 ·rfl
def mayB (b : Blk) : Bool := mayH b.head && fewB b.deeds
def putB (b : Blk) : List UInt8 := putH b.head ++ (putL b.deeds.length ++ b.deeds.flatMap fun d => putText (fullL d))
def fitB (b : Blk) : Bool := mayB b && (decide (b.head.body = treeL (fulsB b.deeds)) && (decide (b.head.size = sizB b.deeds) && decide (b.head.many = b.deeds.length)))
def blk0 : Blk := ⟨hd0, []⟩
/-! ### Texts that are told -/
def takeT (most : Nat) (s : List UInt8) : Option (List UInt8 × Nat) := match takeO s with
 | none => none
 | some (n, k) => if n ≤ most ∧ n ≤ s.length - k then some ((s.drop k).take n, k + n) else none
theorem x7i (most : Nat) (t rest : List UInt8) (h : t.length ≤ most) (hm : most < 18446744073709551616) : takeT most (putText t ++ rest) = some (t, (putText t).length) := by
 have h1 := j2v t.length (by omega) (t ++ rest)
 have e : putText t ++ rest = putL t.length ++ (t ++ rest) := by unfold putText; rw [List.append_assoc]
 rw [e]
 unfold takeT
 rw [h1]
 simp only
 rw [if_pos ⟨h, by simp only [List.length_append]; omega⟩, List.drop_left, List.take_left]
 simp [putText]
theorem j5z {most : Nat} {s t : List UInt8} {k : Nat} (h : takeT most s = some (t, k)) : s = putText t ++ s.drop k ∧ k = (putText t).length ∧ t.length ≤ most ∧ k ≤ s.length := by
 unfold takeT at h
 cases hq : takeO s with
 | none => rw [hq] at h; cases h
 | some x =>
  obtain ⟨n, j⟩ := x
  rw [hq] at h
  simp only at h
  obtain ⟨h1, h2, h3, h4⟩ := q6n hq
  split at h
  ·rename_i hc
   simp only [Option.some.injEq, Prod.mk.injEq] at h
   obtain ⟨rfl, rfl⟩ := h
   have hl : ((s.drop j).take n).length = n := by rw [List.length_take, List.length_drop]; omega
   refine ⟨?_, ?_, by rw [hl]; exact hc.1, by omega⟩
   ·unfold putText
    rw [hl, List.append_assoc]
    have : (s.drop j).take n ++ s.drop (j + n) = s.drop j := by rw [← List.drop_drop, List.take_append_drop]
    rw [this]
    exact h3
   ·unfold putText
    rw [List.length_append, hl, h2]
  ·cases h
/-- So many deeds, one text each. -/
def dsP : Nat → List UInt8 → Option (List Deed × List UInt8)
 | 0, s => some ([], s)
 | n + 1, s => match takeT 32768 s with
  | none => none
  | some (t, k) => if (takeD t).2 = 0 then (match dsP n (s.drop k) with
   | none => none
   | some (l, r) => some ((takeD t).1 :: l, r)) else none
theorem x5a : ∀ (l : List Deed) (rest : List UInt8), (∀ d ∈ l, d.Ok) → l.all mayD = true → (∀ d ∈ l, (fullL d).length ≤ 32768) → dsP l.length (l.flatMap (fun d => putText (fullL d)) ++ rest) = some (l, rest)
 | [], _, _, _, _ => rfl
 | d :: l, rest, ok, hm, hs => by
  simp only [List.all_cons, Bool.and_eq_true] at hm
  rw [List.flatMap_cons, List.append_assoc]
  show dsP (l.length + 1) _ = _
  unfold dsP
  rw [x7i 32768 (fullL d) _ (hs d (by simp)) (by decide)]
  simp only
  rw [x4n (ok d (by simp)) hm.1, List.drop_left, x5a l rest (fun x hx => ok x (by simp [hx])) hm.2 (fun x hx => hs x (by simp [hx]))]
  rfl
def takB (s : List UInt8) : Blk × Int :=
 if s.length < 2320 then (blk0, 6) else match takeO (s.drop 2320) with
  | none => (blk0, 6)
  | some (n, k) => if 16 < n then (blk0, 6) else match dsP n ((s.drop 2320).drop k) with
   | some (l, []) => if mayB ⟨hdOf (s.take 2320), l⟩ = true then (⟨hdOf (s.take 2320), l⟩, 0) else (blk0, 6)
   | _ => (blk0, 6)
theorem x1n : ∀ {l : List Deed} {d : Deed}, d ∈ l → (fullL d).length ≤ sizB l
 | x :: l, d, h => by
  unfold sizB
  rw [List.map_cons, List.sum_cons]
  rcases List.mem_cons.1 h with rfl | h
  ·omega
  ·have := x1n h
   unfold sizB at this
   omega
theorem x9c {b : Blk} (ok : b.Ok) (h : mayB b = true) : takB (putB b) = (b, 0) := by
 have hm := h
 simp only [mayB, fewB, Bool.and_eq_true, decide_eq_true_eq] at h
 obtain ⟨h1, h2, h3, h4⟩ := h
 have hl := q8w ok.head h1
 have e1 : (putB b).drop 2320 = putL b.deeds.length ++ b.deeds.flatMap fun d => putText (fullL d) := by unfold putB; rw [← hl, List.drop_left]
 have e2 : (putB b).take 2320 = putH b.head := by unfold putB; rw [← hl, List.take_left]
 have hn : ¬ (putB b).length < 2320 := by unfold putB; rw [List.length_append, hl]; omega
 unfold takB
 rw [if_neg hn, e1, e2, j2v _ (by omega)]
 simp only
 rw [if_neg (by omega), List.drop_left]
 have := x5a b.deeds [] ok.deeds h2 (fun d hd => Nat.le_trans (x1n hd) h4)
 rw [List.append_nil] at this
 rw [this, x8r _ ok.head h1]
 exact if_pos hm
/-- One with another. -/
def samRt (a b : Rt) : Bool := decide (a.hot = b.hot) && (decide (a.counter = b.counter) && (decide (a.start = b.start) && decide (a.sig = b.sig)))
def samHd (a b : Hd) : Bool := decide (a.slot = b.slot) && (decide (a.number = b.number) && (decide (a.prev = b.prev) && (decide (a.pool = b.pool) && (decide (a.body = b.body) && (decide (a.size = b.size) && (decide (a.many = b.many) && (samRt a.right b.right && decide (a.sig = b.sig))))))))
theorem x8v (a b : Rt) : samRt a b = true ↔ a = b := by cases a; cases b; simp [samRt]
theorem x8q (a b : Hd) : samHd a b = true ↔ a = b := by cases a; cases b; simp [samHd, x8v]
def samB (a b : Blk) : Bool := samHd a.head b.head && sameL sameD a.deeds b.deeds
theorem z2o (a b : Blk) : samB a b = true ↔ a = b := by cases a; cases b; simp [samB, x8q, q7j x1y]
end Go.Proofs.YtbbfnpfkbbpjgaaGreat
