/- The reference of layer 16: May, Total. Printed by gen_orefmay.py. -/
import Derived.Test.YtbbfnpfkbbpjgaaOBOrigD
import Derived.Test.YtbbfnpfkbbpjgaaOBTkL
namespace Go.Proofs.Ytbbfnpfkbbpjgaa
open Go.RowKit Go.Lib
set_option linter.unusedVariables false
set_option linter.unusedSimpArgs false

theorem quiet_gtr {P : Program} {C : World → Prop} {o : Oper} {a : Act} {K : Act → Prop} {t u : TypeId} (x y : Operand) (ho : o.op = .binOp .gtr t x y u) {k : IntKind} {m n : Int} (hx : a.eval x = .int k m) (hy : a.eval y = .int k n) {B : Bool} (hB : decide (n < m) = B) (hk : K (a.put o.dst (.bool B))) : o.quiet P a C K :=
  quiet_value _ (fun w _ => by
    unfold execOp
    simp only [ho, hx, hy, Sem.run_bind]
    subst hB
    simp [eqGuard, binOp, Op.intCmp]) hk
theorem quiet_neB {C : World → Prop} {o : Oper} {a : Act} {K : Act → Prop} (x y : Operand) (ho : o.op = .binOp .neq 27 x y 27) {l g : List UInt8} (hx : a.eval x = hv l) (hy : a.eval y = hv g) (hl : l.length = 32) (hg : g.length = 32) {B : Bool} (hB : (!decide (l = g)) = B)
    (hk : K (a.put o.dst (.bool B))) : o.quiet Try.prog a C K := quiet_ne x y ho hx hy hl hg (by rw [hB]; exact hk)
theorem seat_split2 (x : SeatT) : (seatB x = true ∧ decide ((9223372036854775807 : Int) < (x.pledge : Int)) = false ∧ decide ((9223372036854775807 : Int) < (x.cost : Int)) = false ∧ decide ((1000 : Int) < (x.margin : Int)) = false) ∨
    (seatB x = false ∧ (decide ((9223372036854775807 : Int) < (x.pledge : Int)) = true ∨ (decide ((9223372036854775807 : Int) < (x.pledge : Int)) = false ∧ decide ((9223372036854775807 : Int) < (x.cost : Int)) = true) ∨ (decide ((9223372036854775807 : Int) < (x.pledge : Int)) = false ∧ decide ((9223372036854775807 : Int) < (x.cost : Int)) = false ∧ decide ((1000 : Int) < (x.margin : Int)) = true))) := by
  simp only [seatB, Bool.and_eq_true, Bool.and_eq_false_iff, decide_eq_true_eq, decide_eq_false_iff_not]
  omega
theorem mayOr_parts (o : Orig) : mayOr o = (headB o && (parsB 0 o.params && (decide (totalN o < 9223372036854775808) && (sizesB o && ((o.coins.all fun x => decide (0 < x.amount)) && (riseAll SeatT.pool seatB o.seats && riseAll TrustT.key (trustB o.seats) o.trusts)))))) := by
  unfold mayOr listsB riseAll
  simp only [Bool.and_assoc, Bool.and_comm, Bool.and_left_comm]
theorem nums_par {ns A ps B : List Nat} {k n : Nat} (h : ns = A ++ (ps ++ B)) (hA : A.length = 5) (hn : ps[k]? = some n) : ns[5 + k]? = some n := by
  rw [h, List.getElem?_append_right (by omega), hA, show 5 + k - 5 = k by omega, List.getElem?_append_left (List.getElem?_eq_some_iff.1 hn).1, hn]

set_option maxRecDepth 100000 in
set_option maxHeartbeats 3200000 in
theorem orefMay_no (v : Value) (o : Orig) (w : World) (h : OrigIs w v o) (hs : headB o = false) :
    Calls Try.prog 43 #[v] w fun e w' => e = .returned (.bool (mayOr o)) ∧ Below w.heap.size w w' := by
  rw [mayOr_parts, hs, Bool.false_and]
  have HAT := origNs_at h.ok
  have hl15 := origNs_length h.ok
  obtain ⟨v1, v2, v3, rfl, h1, h2, h3, ok⟩ := h
  have o1 := h1.one'
  have o2 := h2.one'
  have o3 := h3.one'
  have hnl := ok.nonce
  have h0 := hide HAT.1
  have h1' := hide HAT.2.1
  have h2' := hide HAT.2.2.1
  have h3' := hide HAT.2.2.2.1
  have h4' := hide HAT.2.2.2.2.1
  have b := Below.refl w.heap.size w
  clear h1 h2 h3 ok HAT
  have hn2 : decide ((o.k : Int) < 1) = false → decide ((4096 : Int) < (o.k : Int)) = false → decide ((o.epoch : Int) < 1) = false → decide ((1048576 : Int) < (o.epoch : Int)) = false → decide ((o.period : Int) < 1) = false → decide ((1048576 : Int) < (o.period : Int)) = false → decide ((o.rateB : Int) < 1) = false → decide ((65536 : Int) < (o.rateB : Int)) = false → decide ((o.rateA : Int) < 1) = false → decide ((o.rateB : Int) < (o.rateA : Int)) = false → False := by
    intro q0 q1 q2 q3 q4 q5 q6 q7 q8 q9
    simp only [decide_eq_false_iff_not] at q0 q1 q2 q3 q4 q5 q6 q7 q8 q9
    have : headB o = true := by
      simp only [headB, Bool.and_eq_true, decide_eq_true_eq]
      omega
    rw [this] at hs
    cases hs
  have HN := hide hn2
  clear hs hn2
  obtain ⟨A0, hA0⟩ : ∃ A, decide ((o.k : Int) < 1) = A := ⟨_, rfl⟩
  rw [hA0] at HN
  have E0 : Hid (∀ _ : Unit, decide ((o.k : Int) < 1) = A0) := fun _ => hA0
  clear hA0
  obtain ⟨A1, hA1⟩ : ∃ A, decide ((4096 : Int) < (o.k : Int)) = A := ⟨_, rfl⟩
  rw [hA1] at HN
  have E1 : Hid (∀ _ : Unit, decide ((4096 : Int) < (o.k : Int)) = A1) := fun _ => hA1
  clear hA1
  obtain ⟨A2, hA2⟩ : ∃ A, decide ((o.epoch : Int) < 1) = A := ⟨_, rfl⟩
  rw [hA2] at HN
  have E2 : Hid (∀ _ : Unit, decide ((o.epoch : Int) < 1) = A2) := fun _ => hA2
  clear hA2
  obtain ⟨A3, hA3⟩ : ∃ A, decide ((1048576 : Int) < (o.epoch : Int)) = A := ⟨_, rfl⟩
  rw [hA3] at HN
  have E3 : Hid (∀ _ : Unit, decide ((1048576 : Int) < (o.epoch : Int)) = A3) := fun _ => hA3
  clear hA3
  obtain ⟨A4, hA4⟩ : ∃ A, decide ((o.period : Int) < 1) = A := ⟨_, rfl⟩
  rw [hA4] at HN
  have E4 : Hid (∀ _ : Unit, decide ((o.period : Int) < 1) = A4) := fun _ => hA4
  clear hA4
  obtain ⟨A5, hA5⟩ : ∃ A, decide ((1048576 : Int) < (o.period : Int)) = A := ⟨_, rfl⟩
  rw [hA5] at HN
  have E5 : Hid (∀ _ : Unit, decide ((1048576 : Int) < (o.period : Int)) = A5) := fun _ => hA5
  clear hA5
  obtain ⟨A6, hA6⟩ : ∃ A, decide ((o.rateB : Int) < 1) = A := ⟨_, rfl⟩
  rw [hA6] at HN
  have E6 : Hid (∀ _ : Unit, decide ((o.rateB : Int) < 1) = A6) := fun _ => hA6
  clear hA6
  obtain ⟨A7, hA7⟩ : ∃ A, decide ((65536 : Int) < (o.rateB : Int)) = A := ⟨_, rfl⟩
  rw [hA7] at HN
  have E7 : Hid (∀ _ : Unit, decide ((65536 : Int) < (o.rateB : Int)) = A7) := fun _ => hA7
  clear hA7
  obtain ⟨A8, hA8⟩ : ∃ A, decide ((o.rateA : Int) < 1) = A := ⟨_, rfl⟩
  rw [hA8] at HN
  have E8 : Hid (∀ _ : Unit, decide ((o.rateA : Int) < 1) = A8) := fun _ => hA8
  clear hA8
  obtain ⟨A9, hA9⟩ : ∃ A, decide ((o.rateB : Int) < (o.rateA : Int)) = A := ⟨_, rfl⟩
  rw [hA9] at HN
  have E9 : Hid (∀ _ : Unit, decide ((o.rateB : Int) < (o.rateA : Int)) = A9) := fun _ => hA9
  clear hA9
  generalize origNs o = ns at *
  generalize o.nonce = nc at *
  generalize o.k = k' at *
  generalize o.epoch = e' at *
  generalize o.period = p' at *
  generalize o.rateA = ra at *
  generalize o.rateB = rb at *
  have mF1 := True.intro
  go_enter Try.func43, Try.ntmps43
  go_wp2_with (first | (with_reducible show wpList _ _ _ (⟨_, Op.box _ _, _, _, _, _⟩ :: _) _ _; clear mF1; refine wpl_box_orig rfl _ rfl rfl hl15 hnl o1 o2 o3 ?_; intro _ g1 hg1 F1 hb; (try replace F1 := F1.later hb); (try replace F2 := F2.later hb); (try replace F3 := F3.later hb); (try replace F4 := F4.later hb); (try replace F5 := F5.later hb); (try replace F6 := F6.later hb); (try replace F7 := F7.later hb); (try replace F8 := F8.later hb); (try replace F9 := F9.later hb); (try replace G1 := G1.later hb); (try replace G2 := G2.later hb); (try replace G3 := G3.later hb); (try replace z := z.later hb); (try replace b := later b hb); (try replace bB := mixed hB bB hb); clear hb) | (with_reducible show wpList _ _ _ (⟨_, Op.load 23 _, _, _, _, _⟩ :: _) _ _; first | refine wpl_load_one rfl 23 _ rfl rfl (OAt.num F1 h0.out) (by kernel_rfl) ?_ | refine wpl_load_one rfl 23 _ rfl rfl (OAt.num F1 h1'.out) (by kernel_rfl) ?_ | refine wpl_load_one rfl 23 _ rfl rfl (OAt.num F1 h2'.out) (by kernel_rfl) ?_ | refine wpl_load_one rfl 23 _ rfl rfl (OAt.num F1 h3'.out) (by kernel_rfl) ?_ | refine wpl_load_one rfl 23 _ rfl rfl (OAt.num F1 h4'.out) (by kernel_rfl) ?_) | (with_reducible show wpList _ _ _ (⟨_, Op.binOp _ _ _ _ _, _, _, _, _⟩ :: _) _ _; first | refine wpl_lss rfl _ _ rfl rfl rfl (E0.out ()) ?_ | refine wpl_gtr rfl _ _ rfl rfl rfl (E1.out ()) ?_ | refine wpl_lss rfl _ _ rfl rfl rfl (E2.out ()) ?_ | refine wpl_gtr rfl _ _ rfl rfl rfl (E3.out ()) ?_ | refine wpl_lss rfl _ _ rfl rfl rfl (E4.out ()) ?_ | refine wpl_gtr rfl _ _ rfl rfl rfl (E5.out ()) ?_ | refine wpl_lss rfl _ _ rfl rfl rfl (E6.out ()) ?_ | refine wpl_gtr rfl _ _ rfl rfl rfl (E7.out ()) ?_ | refine wpl_lss rfl _ _ rfl rfl rfl (E8.out ()) ?_ | refine wpl_gtr rfl _ _ rfl rfl rfl (E9.out ()) ?_ ))
  all_goals first
    | (exact (HN.out (by first | assumption | exact Bool.eq_false_iff.2 (by assumption)) (by first | assumption | exact Bool.eq_false_iff.2 (by assumption)) (by first | assumption | exact Bool.eq_false_iff.2 (by assumption)) (by first | assumption | exact Bool.eq_false_iff.2 (by assumption)) (by first | assumption | exact Bool.eq_false_iff.2 (by assumption)) (by first | assumption | exact Bool.eq_false_iff.2 (by assumption)) (by first | assumption | exact Bool.eq_false_iff.2 (by assumption)) (by first | assumption | exact Bool.eq_false_iff.2 (by assumption)) (by first | assumption | exact Bool.eq_false_iff.2 (by assumption)) (by first | assumption | exact Bool.eq_false_iff.2 (by assumption))).elim)
    | (go_ret
       exact ⟨rfl, b⟩)
set_option maxRecDepth 100000 in
set_option maxHeartbeats 12800000 in
theorem orefMay_yes (v : Value) (o : Orig) (w : World) (h : OrigIs w v o) (hf : o.Fit) (hs : headB o = true) :
    Calls Try.prog 43 #[v] w fun e w' => e = .returned (.bool (mayOr o)) ∧ Below w.heap.size w w' := by
  have HSUM := hide (fun (w' : World) (hb : Below w.heap.size w w') => rsum16_any v o w' (h.later hb) hf.coins)
  have hR : mayOr o = (parsB 0 o.params && (decide (totalN o < 9223372036854775808) && ((decide (o.coins.length ≤ 32) && (decide (o.seats.length ≤ 16) && decide (o.trusts.length ≤ 32))) && ((o.coins.all fun x => decide (0 < x.amount)) && (riseAll SeatT.pool seatB o.seats && riseAll TrustT.key (trustB o.seats) o.trusts))))) := by rw [mayOr_parts, hs, Bool.true_and]; rfl
  rw [hR]
  clear hR
  simp only [headB, Bool.and_eq_true, decide_eq_true_eq] at hs
  have HAT := origNs_at h.ok
  have hl15 := origNs_length h.ok
  obtain ⟨v1, v2, v3, rfl, h1, h2, h3, ok⟩ := h
  have o1 := h1.one'
  have o2 := h2.one'
  have o3 := h3.one'
  have hnl := ok.nonce
  have h0 := hide HAT.1
  have h1' := hide HAT.2.1
  have h2' := hide HAT.2.2.1
  have h3' := hide HAT.2.2.2.1
  have h4' := hide HAT.2.2.2.2.1
  have HP8 := hide ok.plen
  have HNS : Hid (origNs o = [o.k, o.epoch, o.period, o.rateA, o.rateB] ++ (o.params ++ [o.reserves, o.treasury])) := rfl
  have HPA := hide (fun (k n : Nat) (w : World) => refParam_any k n w)
  have HL1 := hide ok.coins
  have HL2 := hide ok.seats
  have HL3 := hide ok.trusts
  have hm1 := hf.coins
  have hm2 := hf.seats
  have hm3 := hf.trusts
  obtain ⟨a1, c1, rfl, -⟩ := h1.shape
  obtain ⟨a2, c2, rfl, -⟩ := h2.shape
  obtain ⟨a3, c3, rfl, -⟩ := h3.shape
  have b := Below.refl w.heap.size w
  clear ok HAT hf
  have E0 : Hid (∀ _ : Unit, decide ((o.k : Int) < 1) = false) := fun _ => decide_eq_false (by omega)
  have E1 : Hid (∀ _ : Unit, decide ((4096 : Int) < (o.k : Int)) = false) := fun _ => decide_eq_false (by omega)
  have E2 : Hid (∀ _ : Unit, decide ((o.epoch : Int) < 1) = false) := fun _ => decide_eq_false (by omega)
  have E3 : Hid (∀ _ : Unit, decide ((1048576 : Int) < (o.epoch : Int)) = false) := fun _ => decide_eq_false (by omega)
  have E4 : Hid (∀ _ : Unit, decide ((o.period : Int) < 1) = false) := fun _ => decide_eq_false (by omega)
  have E5 : Hid (∀ _ : Unit, decide ((1048576 : Int) < (o.period : Int)) = false) := fun _ => decide_eq_false (by omega)
  have E6 : Hid (∀ _ : Unit, decide ((o.rateB : Int) < 1) = false) := fun _ => decide_eq_false (by omega)
  have E7 : Hid (∀ _ : Unit, decide ((65536 : Int) < (o.rateB : Int)) = false) := fun _ => decide_eq_false (by omega)
  have E8 : Hid (∀ _ : Unit, decide ((o.rateA : Int) < 1) = false) := fun _ => decide_eq_false (by omega)
  have E9 : Hid (∀ _ : Unit, decide ((o.rateB : Int) < (o.rateA : Int)) = false) := fun _ => decide_eq_false (by omega)
  clear hs
  generalize origNs o = ns at *
  generalize o.nonce = nc at *
  generalize totalN o = T at *
  generalize o.params = ps at *
  generalize o.k = k' at *
  generalize o.epoch = e' at *
  generalize o.period = p' at *
  generalize o.rateA = ra at *
  generalize o.rateB = rb at *
  generalize o.reserves = rs at *
  generalize o.treasury = tr at *
  generalize o.coins = l1 at *
  generalize o.seats = l2 at *
  generalize o.trusts = l3 at *
  clear o
  have HHS := hide (fun (p : List UInt8) (w' : World) (hp : p.length = 32) (hb : Below w.heap.size w w') => has16_any _ l2 p w' (h2.later hb) HL2.out hp (by omega))
  obtain ⟨n1, hn1⟩ : ∃ n, n = l1.length := ⟨_, rfl⟩
  obtain ⟨n2, hn2⟩ : ∃ n, n = l2.length := ⟨_, rfl⟩
  obtain ⟨n3, hn3⟩ : ∃ n, n = l3.length := ⟨_, rfl⟩
  have HN1 := hide hn1
  have HN2 := hide hn2
  have HN3 := hide hn3
  rw [← hn2] at HHS
  rw [← hn1, ← hn2, ← hn3] at HSUM
  rw [← hn1] at h1 hm1 ⊢
  rw [← hn2] at h2 hm2 ⊢
  rw [← hn3] at h3 hm3 ⊢
  have HS3 := hide (fun _ : Unit => three_sizes n1 n2 n3)
  clear hn1 hn2 hn3 o1 o2 o3
  have o1 : (Value.slice a1 n1 c1).oneCell' = true := rfl
  have o2 : (Value.slice a2 n2 c2).oneCell' = true := rfl
  have o3 : (Value.slice a3 n3 c3).oneCell' = true := rfl
  obtain ⟨RES, hRES⟩ : ∃ R, R = (parsB 0 ps && (decide (T < 9223372036854775808) && ((decide (n1 ≤ 32) && (decide (n2 ≤ 16) && decide (n3 ≤ 32))) && ((l1.all fun x => decide (0 < x.amount)) && (riseAll SeatT.pool seatB l2 && riseAll TrustT.key (trustB l2) l3))))) := ⟨_, rfl⟩
  rw [← hRES]
  have HRES := hide hRES
  clear hRES
  have mF1 := True.intro
  go_enter Try.func43, Try.ntmps43
  go_wp2_with (first | (with_reducible show wpList _ _ _ (⟨_, Op.box _ _, _, _, _, _⟩ :: _) _ _; clear mF1; refine wpl_box_orig rfl _ rfl rfl hl15 hnl o1 o2 o3 ?_; intro _ g1 hg1 F1 hb; (try replace F1 := F1.later hb); (try replace F2 := F2.later hb); (try replace F3 := F3.later hb); (try replace F4 := F4.later hb); (try replace F5 := F5.later hb); (try replace F6 := F6.later hb); (try replace F7 := F7.later hb); (try replace F8 := F8.later hb); (try replace F9 := F9.later hb); (try replace G1 := G1.later hb); (try replace G2 := G2.later hb); (try replace G3 := G3.later hb); (try replace z := z.later hb); (try replace b := later b hb); (try replace bB := mixed hB bB hb); clear hb) | (with_reducible show wpList _ _ _ (⟨_, Op.load 23 _, _, _, _, _⟩ :: _) _ _; first | refine wpl_load_one rfl 23 _ rfl rfl (OAt.num F1 h0.out) (by kernel_rfl) ?_ | refine wpl_load_one rfl 23 _ rfl rfl (OAt.num F1 h1'.out) (by kernel_rfl) ?_ | refine wpl_load_one rfl 23 _ rfl rfl (OAt.num F1 h2'.out) (by kernel_rfl) ?_ | refine wpl_load_one rfl 23 _ rfl rfl (OAt.num F1 h3'.out) (by kernel_rfl) ?_ | refine wpl_load_one rfl 23 _ rfl rfl (OAt.num F1 h4'.out) (by kernel_rfl) ?_) | (with_reducible show wpList _ _ _ (⟨_, Op.binOp _ _ _ _ _, _, _, _, _⟩ :: _) _ _; first | refine wpl_lss rfl _ _ rfl rfl rfl (E0.out ()) ?_ | refine wpl_gtr rfl _ _ rfl rfl rfl (E1.out ()) ?_ | refine wpl_lss rfl _ _ rfl rfl rfl (E2.out ()) ?_ | refine wpl_gtr rfl _ _ rfl rfl rfl (E3.out ()) ?_ | refine wpl_lss rfl _ _ rfl rfl rfl (E4.out ()) ?_ | refine wpl_gtr rfl _ _ rfl rfl rfl (E5.out ()) ?_ | refine wpl_lss rfl _ _ rfl rfl rfl (E6.out ()) ?_ | refine wpl_gtr rfl _ _ rfl rfl rfl (E7.out ()) ?_ | refine wpl_lss rfl _ _ rfl rfl rfl (E8.out ()) ?_ | refine wpl_gtr rfl _ _ rfl rfl rfl (E9.out ()) ?_ ))
  clear h0 h1' h2' h3' h4' E0 E1 E2 E3 E4 E5 E6 E7 E8 E9
  go_loopw [3] (fun i wr => ∃ k : Nat, i = .int .i64 k ∧ k ≤ 8 ∧ Hid (parsB 0 (ps.take k) = true) ∧ OAt wr g1 ns nc (.slice a1 n1 c1) (.slice a2 n2 c2) (.slice a3 n3 c3) ∧ Below w.heap.size w wr) (fun i _ => 8 - (RowKit.intOf i).toNat)
  case atStart => exact ⟨0, rfl, by omega, hide rfl, F1, b⟩
  clear b F1
  obtain ⟨k, rfl, hk, HA, F1, b⟩ := hrel
  by_cases hlt : k < 8
  case pos =>
    obtain ⟨n, hn⟩ : ∃ n, ps[k]? = some n := ⟨_, List.getElem?_eq_getElem (by rw [HP8.out]; exact hlt)⟩
    have HN := hide (nums_par HNS.out rfl hn)
    have HPC := hide (fun w => HPA.out k n w)
    have HX := hide (pars_next HA.out hn)
    have kw : IntKind.u64.wrap (k : Int) = (k : Int) := by rw [IntKind.wrap_u64]; omega
    clear hn HSUM HPA HHS
    by_cases hq : parE k n = 0
    · have HA2 : Hid (parsB 0 (ps.take (k + 1)) = true) := by rw [HX.out]; exact hide (decide_eq_true hq)
      rw [hq] at HPC
      clear hq HX HA
      go_wp2_with (first | (with_reducible show wpList _ _ _ (⟨_, Op.load 23 _, _, _, _, _⟩ :: _) _ _; refine wpl_load_one rfl 23 _ rfl rfl (OAt.num F1 HN.out) (by kernel_rfl) ?_) | (go_at_call 39; refine (HPC.out _).mono ?_; rintro _ _ ⟨rfl, hc⟩; (try replace F1 := F1.later hc); (try replace F2 := F2.later hc); (try replace F3 := F3.later hc); (try replace F4 := F4.later hc); (try replace F5 := F5.later hc); (try replace F6 := F6.later hc); (try replace F7 := F7.later hc); (try replace F8 := F8.later hc); (try replace F9 := F9.later hc); (try replace G1 := G1.later hc); (try replace G2 := G2.later hc); (try replace G3 := G3.later hc); (try replace z := z.later hc); (try replace b := later b hc); (try replace bB := mixed hB bB hc); clear hc))
      go_roundw
      case rel => exact ⟨k + 1, by simp, by omega, HA2, F1, b⟩
      case measure => simp [RowKit.intOf]; omega
    · have HA2 : Hid (parsB 0 ps = false) := hide (pars_stop (k := k + 1) (by rw [HX.out]; exact decide_eq_false hq))
      obtain ⟨E, hE⟩ : ∃ E, E = parE k n := ⟨_, rfl⟩
      rw [← hE] at hq HPC
      have c4 : (E != 0) = true := by rw [bne_iff_ne]; exact hq
      clear hq hE HX HA
      go_wp2_with (first | (with_reducible show wpList _ _ _ (⟨_, Op.load 23 _, _, _, _, _⟩ :: _) _ _; refine wpl_load_one rfl 23 _ rfl rfl (OAt.num F1 HN.out) (by kernel_rfl) ?_) | (go_at_call 39; refine (HPC.out _).mono ?_; rintro _ _ ⟨rfl, hc⟩; (try replace F1 := F1.later hc); (try replace F2 := F2.later hc); (try replace F3 := F3.later hc); (try replace F4 := F4.later hc); (try replace F5 := F5.later hc); (try replace F6 := F6.later hc); (try replace F7 := F7.later hc); (try replace F8 := F8.later hc); (try replace F9 := F9.later hc); (try replace G1 := G1.later hc); (try replace G2 := G2.later hc); (try replace G3 := G3.later hc); (try replace z := z.later hc); (try replace b := later b hc); (try replace bB := mixed hB bB hc); clear hc))
      go_ret
      exact ⟨by rw [HRES.out, HA2.out]; rfl, b⟩
  obtain rfl : k = 8 := by omega
  have hS1 := HA.out
  rw [List.take_of_length_le (by rw [HP8.out]; exact Nat.le_refl _)] at hS1
  have S1 := hide hS1
  clear hS1 HA hlt hk HPA
  by_cases hq : T < 9223372036854775808
  case neg =>
    have S2 : Hid (decide (T < 9223372036854775808) = false) := decide_eq_false hq
    have E5 : Hid (∀ _ : Unit, decide ((9223372036854775807 : Int) < (T : Int)) = true) := fun _ => decide_eq_true (by omega)
    by_cases hq2 : T < 18446744073709551616
    · rw [if_pos hq2, decide_eq_true hq2] at HSUM
      clear hq hq2 HHS
      go_wp2_with (first | (with_reducible show wpList _ _ _ (⟨_, Op.load 32 _, _, _, _, _⟩ :: _) _ _; refine wpl_ld_orig rfl _ rfl rfl F1 ?_) | (go_at_call 110; refine (HSUM.out _ b).mono ?_; rintro _ _ ⟨rfl, hc⟩; (try replace F1 := F1.later hc); (try replace F2 := F2.later hc); (try replace F3 := F3.later hc); (try replace F4 := F4.later hc); (try replace F5 := F5.later hc); (try replace F6 := F6.later hc); (try replace F7 := F7.later hc); (try replace F8 := F8.later hc); (try replace F9 := F9.later hc); (try replace G1 := G1.later hc); (try replace G2 := G2.later hc); (try replace G3 := G3.later hc); (try replace z := z.later hc); (try replace b := later b hc); (try replace bB := mixed hB bB hc); clear hc) | (with_reducible show wpList _ _ _ (⟨_, Op.binOp _ _ _ _ _, _, _, _, _⟩ :: _) _ _; refine wpl_gtr rfl _ _ rfl rfl rfl (E5.out ()) ?_))
      go_ret
      exact ⟨by rw [HRES.out, S1.out, S2.out]; rfl, b⟩
    · rw [if_neg hq2, decide_eq_false hq2] at HSUM
      clear hq hq2 HHS
      go_wp2_with (first | (with_reducible show wpList _ _ _ (⟨_, Op.load 32 _, _, _, _, _⟩ :: _) _ _; refine wpl_ld_orig rfl _ rfl rfl F1 ?_) | (go_at_call 110; refine (HSUM.out _ b).mono ?_; rintro _ _ ⟨rfl, hc⟩; (try replace F1 := F1.later hc); (try replace F2 := F2.later hc); (try replace F3 := F3.later hc); (try replace F4 := F4.later hc); (try replace F5 := F5.later hc); (try replace F6 := F6.later hc); (try replace F7 := F7.later hc); (try replace F8 := F8.later hc); (try replace F9 := F9.later hc); (try replace G1 := G1.later hc); (try replace G2 := G2.later hc); (try replace G3 := G3.later hc); (try replace z := z.later hc); (try replace b := later b hc); (try replace bB := mixed hB bB hc); clear hc))
      go_ret
      exact ⟨by rw [HRES.out, S1.out, S2.out]; rfl, b⟩
  have S2 : Hid (decide (T < 9223372036854775808) = true) := decide_eq_true hq
  have E5 : Hid (∀ _ : Unit, decide ((9223372036854775807 : Int) < (T : Int)) = false) := fun _ => decide_eq_false (by omega)
  have hq2 : T < 18446744073709551616 := by omega
  rw [if_pos hq2, decide_eq_true hq2] at HSUM
  clear hq hq2
  rcases HS3.out () with ⟨hs, hh⟩ | ⟨hs, hh⟩
  case inr =>
    have S3 := hide hs
    clear hs HS3 HHS
    rcases hh with hh | hh | hh
    · have E1 := hide (fun _ : Unit => hh)
      clear hh
      go_wp2_with (first | (with_reducible show wpList _ _ _ (⟨_, Op.load 32 _, _, _, _, _⟩ :: _) _ _; refine wpl_ld_orig rfl _ rfl rfl F1 ?_) | (with_reducible show wpList _ _ _ (⟨_, Op.load _ _, _, _, _, _⟩ :: _) _ _; first | refine wpl_load_one rfl 28 _ rfl rfl (OAt.s1 F1) (by kernel_rfl) ?_ | refine wpl_load_one rfl 29 _ rfl rfl (OAt.s2 F1) (by kernel_rfl) ?_ | refine wpl_load_one rfl 30 _ rfl rfl (OAt.s3 F1) (by kernel_rfl) ?_) | (go_at_call 110; refine (HSUM.out _ b).mono ?_; rintro _ _ ⟨rfl, hc⟩; (try replace F1 := F1.later hc); (try replace F2 := F2.later hc); (try replace F3 := F3.later hc); (try replace F4 := F4.later hc); (try replace F5 := F5.later hc); (try replace F6 := F6.later hc); (try replace F7 := F7.later hc); (try replace F8 := F8.later hc); (try replace F9 := F9.later hc); (try replace G1 := G1.later hc); (try replace G2 := G2.later hc); (try replace G3 := G3.later hc); (try replace z := z.later hc); (try replace b := later b hc); (try replace bB := mixed hB bB hc); clear hc) | (with_reducible show wpList _ _ _ (⟨_, Op.binOp _ _ _ _ _, _, _, _, _⟩ :: _) _ _; first | refine wpl_gtr rfl _ _ rfl rfl rfl (E5.out ()) ?_ | refine wpl_gtr rfl _ _ rfl rfl rfl (E1.out ()) ?_ | refine wpl_gtr rfl _ _ rfl rfl rfl (E2.out ()) ?_ | refine wpl_gtr rfl _ _ rfl rfl rfl (E3.out ()) ?_))
      go_ret
      exact ⟨by rw [HRES.out, S1.out, S2.out, S3.out]; rfl, b⟩
    · have E1 := hide (fun _ : Unit => hh.1)
      have E2 := hide (fun _ : Unit => hh.2)
      clear hh
      go_wp2_with (first | (with_reducible show wpList _ _ _ (⟨_, Op.load 32 _, _, _, _, _⟩ :: _) _ _; refine wpl_ld_orig rfl _ rfl rfl F1 ?_) | (with_reducible show wpList _ _ _ (⟨_, Op.load _ _, _, _, _, _⟩ :: _) _ _; first | refine wpl_load_one rfl 28 _ rfl rfl (OAt.s1 F1) (by kernel_rfl) ?_ | refine wpl_load_one rfl 29 _ rfl rfl (OAt.s2 F1) (by kernel_rfl) ?_ | refine wpl_load_one rfl 30 _ rfl rfl (OAt.s3 F1) (by kernel_rfl) ?_) | (go_at_call 110; refine (HSUM.out _ b).mono ?_; rintro _ _ ⟨rfl, hc⟩; (try replace F1 := F1.later hc); (try replace F2 := F2.later hc); (try replace F3 := F3.later hc); (try replace F4 := F4.later hc); (try replace F5 := F5.later hc); (try replace F6 := F6.later hc); (try replace F7 := F7.later hc); (try replace F8 := F8.later hc); (try replace F9 := F9.later hc); (try replace G1 := G1.later hc); (try replace G2 := G2.later hc); (try replace G3 := G3.later hc); (try replace z := z.later hc); (try replace b := later b hc); (try replace bB := mixed hB bB hc); clear hc) | (with_reducible show wpList _ _ _ (⟨_, Op.binOp _ _ _ _ _, _, _, _, _⟩ :: _) _ _; first | refine wpl_gtr rfl _ _ rfl rfl rfl (E5.out ()) ?_ | refine wpl_gtr rfl _ _ rfl rfl rfl (E1.out ()) ?_ | refine wpl_gtr rfl _ _ rfl rfl rfl (E2.out ()) ?_ | refine wpl_gtr rfl _ _ rfl rfl rfl (E3.out ()) ?_))
      go_ret
      exact ⟨by rw [HRES.out, S1.out, S2.out, S3.out]; rfl, b⟩
    · have E1 := hide (fun _ : Unit => hh.1)
      have E2 := hide (fun _ : Unit => hh.2.1)
      have E3 := hide (fun _ : Unit => hh.2.2)
      clear hh
      go_wp2_with (first | (with_reducible show wpList _ _ _ (⟨_, Op.load 32 _, _, _, _, _⟩ :: _) _ _; refine wpl_ld_orig rfl _ rfl rfl F1 ?_) | (with_reducible show wpList _ _ _ (⟨_, Op.load _ _, _, _, _, _⟩ :: _) _ _; first | refine wpl_load_one rfl 28 _ rfl rfl (OAt.s1 F1) (by kernel_rfl) ?_ | refine wpl_load_one rfl 29 _ rfl rfl (OAt.s2 F1) (by kernel_rfl) ?_ | refine wpl_load_one rfl 30 _ rfl rfl (OAt.s3 F1) (by kernel_rfl) ?_) | (go_at_call 110; refine (HSUM.out _ b).mono ?_; rintro _ _ ⟨rfl, hc⟩; (try replace F1 := F1.later hc); (try replace F2 := F2.later hc); (try replace F3 := F3.later hc); (try replace F4 := F4.later hc); (try replace F5 := F5.later hc); (try replace F6 := F6.later hc); (try replace F7 := F7.later hc); (try replace F8 := F8.later hc); (try replace F9 := F9.later hc); (try replace G1 := G1.later hc); (try replace G2 := G2.later hc); (try replace G3 := G3.later hc); (try replace z := z.later hc); (try replace b := later b hc); (try replace bB := mixed hB bB hc); clear hc) | (with_reducible show wpList _ _ _ (⟨_, Op.binOp _ _ _ _ _, _, _, _, _⟩ :: _) _ _; first | refine wpl_gtr rfl _ _ rfl rfl rfl (E5.out ()) ?_ | refine wpl_gtr rfl _ _ rfl rfl rfl (E1.out ()) ?_ | refine wpl_gtr rfl _ _ rfl rfl rfl (E2.out ()) ?_ | refine wpl_gtr rfl _ _ rfl rfl rfl (E3.out ()) ?_))
      go_ret
      exact ⟨by rw [HRES.out, S1.out, S2.out, S3.out]; rfl, b⟩
  have S3 := hide hs
  have E1 := hide (fun _ : Unit => hh.1)
  have E2 := hide (fun _ : Unit => hh.2.1)
  have E3 := hide (fun _ : Unit => hh.2.2)
  clear hs hh HS3
  go_wp2_with (first | (with_reducible show wpList _ _ _ (⟨_, Op.load 32 _, _, _, _, _⟩ :: _) _ _; refine wpl_ld_orig rfl _ rfl rfl F1 ?_) | (with_reducible show wpList _ _ _ (⟨_, Op.load _ _, _, _, _, _⟩ :: _) _ _; first | refine wpl_load_one rfl 28 _ rfl rfl (OAt.s1 F1) (by kernel_rfl) ?_ | refine wpl_load_one rfl 29 _ rfl rfl (OAt.s2 F1) (by kernel_rfl) ?_ | refine wpl_load_one rfl 30 _ rfl rfl (OAt.s3 F1) (by kernel_rfl) ?_) | (go_at_call 110; refine (HSUM.out _ b).mono ?_; rintro _ _ ⟨rfl, hc⟩; (try replace F1 := F1.later hc); (try replace F2 := F2.later hc); (try replace F3 := F3.later hc); (try replace F4 := F4.later hc); (try replace F5 := F5.later hc); (try replace F6 := F6.later hc); (try replace F7 := F7.later hc); (try replace F8 := F8.later hc); (try replace F9 := F9.later hc); (try replace G1 := G1.later hc); (try replace G2 := G2.later hc); (try replace G3 := G3.later hc); (try replace z := z.later hc); (try replace b := later b hc); (try replace bB := mixed hB bB hc); clear hc) | (with_reducible show wpList _ _ _ (⟨_, Op.binOp _ _ _ _ _, _, _, _, _⟩ :: _) _ _; first | refine wpl_gtr rfl _ _ rfl rfl rfl (E5.out ()) ?_ | refine wpl_gtr rfl _ _ rfl rfl rfl (E1.out ()) ?_ | refine wpl_gtr rfl _ _ rfl rfl rfl (E2.out ()) ?_ | refine wpl_gtr rfl _ _ rfl rfl rfl (E3.out ()) ?_))
  clear E1 E2 E3 E5 HSUM
  go_loopw [6] (fun i wr => ∃ k : Nat, i = .int .i64 k ∧ k ≤ n1 ∧ Hid (((l1.take k).all fun x => decide (0 < x.amount)) = true) ∧ OAt wr g1 ns nc (.slice a1 n1 c1) (.slice a2 n2 c2) (.slice a3 n3 c3) ∧ Below w.heap.size w wr) (fun i _ => n1 - (RowKit.intOf i).toNat)
  case atStart => exact ⟨0, rfl, by omega, hide rfl, F1, b⟩
  clear b F1
  obtain ⟨k, rfl, hk, HA, F1, b⟩ := hrel
  by_cases hlt : k < n1
  case pos =>
    obtain ⟨x, hx, okx⟩ := get_ok HL1.out (k := k) (by rw [← HN1.out]; exact hlt)
    obtain ⟨bb, k0, c', he, _, hcs⟩ := (h1.later b).block (by rw [← HN1.out]; omega)
    simp only [Value.slice.injEq] at he
    obtain ⟨rfl, -, rfl⟩ := he
    have d1 := hcs k x hx
    have OX := hide okx
    clear hcs okx
    have d2 := (outR2 d1 OX.out).one
    clear HHS
    by_cases hq : 0 < x.amount
    · have HA2 : Hid (((l1.take (k + 1)).all fun x => decide (0 < x.amount)) = true) := by rw [al_next HA.out hx]; exact hide (decide_eq_true hq)
      have E4 : Hid (∀ _ : Unit, decide ((x.amount : Int) < 1) = false) := fun _ => decide_eq_false (by omega)
      clear hx HA hq
      go_wp2_with (first | (with_reducible show wpList _ _ _ (⟨_, Op.load _ _, _, _, _, _⟩ :: _) _ _; first | refine wpl_load_one rfl 28 _ rfl rfl (OAt.s1 F1) (by kernel_rfl) ?_ | refine wpl_load_one rfl 29 _ rfl rfl (OAt.s2 F1) (by kernel_rfl) ?_ | refine wpl_load_one rfl 30 _ rfl rfl (OAt.s3 F1) (by kernel_rfl) ?_) | (with_reducible show wpList _ _ _ (⟨_, Op.load _ _, _, _, _, _⟩ :: _) _ _; refine wpl_load_one rfl 23 _ rfl rfl d2 (by kernel_rfl) ?_) | (with_reducible show wpList _ _ _ (⟨_, Op.binOp _ _ _ _ _, _, _, _, _⟩ :: _) _ _; refine wpl_lss rfl _ _ rfl rfl rfl (E4.out ()) ?_))
      go_roundw
      case rel => exact ⟨k + 1, by simp, by omega, HA2, F1, b⟩
      case measure => simp [RowKit.intOf]; omega
    · have HA2 := hide (al_no (g := fun x => decide (0 < x.amount)) hx (decide_eq_false hq))
      have E4 : Hid (∀ _ : Unit, decide ((x.amount : Int) < 1) = true) := fun _ => decide_eq_true (by omega)
      clear hx HA hq
      go_wp2_with (first | (with_reducible show wpList _ _ _ (⟨_, Op.load _ _, _, _, _, _⟩ :: _) _ _; first | refine wpl_load_one rfl 28 _ rfl rfl (OAt.s1 F1) (by kernel_rfl) ?_ | refine wpl_load_one rfl 29 _ rfl rfl (OAt.s2 F1) (by kernel_rfl) ?_ | refine wpl_load_one rfl 30 _ rfl rfl (OAt.s3 F1) (by kernel_rfl) ?_) | (with_reducible show wpList _ _ _ (⟨_, Op.load _ _, _, _, _, _⟩ :: _) _ _; refine wpl_load_one rfl 23 _ rfl rfl d2 (by kernel_rfl) ?_) | (with_reducible show wpList _ _ _ (⟨_, Op.binOp _ _ _ _ _, _, _, _, _⟩ :: _) _ _; refine wpl_lss rfl _ _ rfl rfl rfl (E4.out ()) ?_))
      go_ret
      exact ⟨by rw [HRES.out, S1.out, S2.out, S3.out, HA2.out]; rfl, b⟩
  obtain rfl : n1 = k := by omega
  have hS4 := HA.out
  rw [List.take_of_length_le (by rw [← HN1.out]; exact Nat.le_refl _)] at hS4
  have S4 := hide hS4
  clear HA hS4 hlt hk
  go_wp2_with (with_reducible show wpList _ _ _ (⟨_, Op.load _ _, _, _, _, _⟩ :: _) _ _; first | refine wpl_load_one rfl 28 _ rfl rfl (OAt.s1 F1) (by kernel_rfl) ?_ | refine wpl_load_one rfl 29 _ rfl rfl (OAt.s2 F1) (by kernel_rfl) ?_ | refine wpl_load_one rfl 30 _ rfl rfl (OAt.s3 F1) (by kernel_rfl) ?_)

  go_loopw [7] (fun i wr => ∃ k : Nat, i = .int .i64 k ∧ k ≤ n2 ∧ Hid (riseAll SeatT.pool seatB (l2.take k) = true) ∧ OAt wr g1 ns nc (.slice a1 n1 c1) (.slice a2 n2 c2) (.slice a3 n3 c3) ∧ Below w.heap.size w wr) (fun i _ => n2 - (RowKit.intOf i).toNat)
  case atStart => exact ⟨0, rfl, by omega, hide (by simp [riseAll, risesB]), F1, b⟩
  clear b F1
  obtain ⟨k, rfl, hk, HA, F1, b⟩ := hrel
  by_cases hlt : k < n2
  case pos =>
    obtain ⟨x, hx, okx⟩ := get_ok HL2.out (k := k) (by rw [← HN2.out]; exact hlt)
    obtain ⟨bb, k0, c', he, _, hcs⟩ := h2.block (by rw [← HN2.out]; omega)
    simp only [Value.slice.injEq] at he
    obtain ⟨rfl, -, rfl⟩ := he
    have d1 := (hcs k x hx).later b
    have OX := hide okx
    have HK1 : Hid ((SeatT.pool x).length = 32) := okx.1
    clear HHS
    rcases seat_split2 x with ⟨hq, hh⟩ | ⟨hq, hh⟩
    case inr =>
      have HA2 := hide (ra_no (f := SeatT.pool) (g := seatB) hx hq)
      clear hcs hx okx HA hq
      rcases hh with hh | hh | hh
      · have E1 := hide (fun _ : Unit => hh)
        clear hh
        go_wp2_with (first | (with_reducible show wpList _ _ _ (⟨_, Op.load _ _, _, _, _, _⟩ :: _) _ _; first | refine wpl_load_one rfl 28 _ rfl rfl (OAt.s1 F1) (by kernel_rfl) ?_ | refine wpl_load_one rfl 29 _ rfl rfl (OAt.s2 F1) (by kernel_rfl) ?_ | refine wpl_load_one rfl 30 _ rfl rfl (OAt.s3 F1) (by kernel_rfl) ?_) | (with_reducible show wpList _ _ _ (⟨_, Op.load _ _, _, _, _, _⟩ :: _) _ _; refine wpl_ld_seat rfl _ rfl rfl d1 OX.out ?_) | (with_reducible show wpList _ _ _ (⟨_, Op.alloc _, _, _, _, _⟩ :: _) _ _; refine wpl_mk_seat rfl rfl ?_; intro _ g5 hg5 F3 hb; have q5 := F1.lt; replace F1 := F1.later hb; replace b := later b hb; clear hb) | (with_reducible show wpList _ _ _ (⟨_, Op.store _ _ _, _, _, _, _⟩ :: _) _ _; refine wpl_set_seat rfl _ _ rfl rfl rfl OX.out F3 ?_; intro _ t1 ht1; clear F3; replace F1 := F1.tt ht1; replace b := below_touch b ht1 (by omega) (Nat.le_refl _); have F3 := t1; clear t1 ht1) | (with_reducible show Code.wp _ (Code.region _ _ true) _ _ _; (try simp only [Act.put, List.setIfInBounds_toArray, List.set_cons_succ, List.set_cons_zero]); fail))
        (try have K2 := Cells.later K0.out b)
        (try simp only [Act.put, List.setIfInBounds_toArray, List.set_cons_succ, List.set_cons_zero])
        refine region_since (by kernel_rfl) (by kernel_rfl) ?_
        repeat (first | go_big_quiet_skip | (go_big_quiet_want; first | ((with_reducible show Oper.quiet _ ⟨_, Op.load _ _, _, _, _, _⟩ _ _ _); first | (refine since_load_one 23 _ rfl rfl (SeatAt.pledge F3) (by kernel_rfl) ?_; simp only [Act.put, List.setIfInBounds_toArray, List.set_cons_succ, List.set_cons_zero]; go_big_quiet_on) | (refine since_load_one 23 _ rfl rfl (SeatAt.cost F3) (by kernel_rfl) ?_; simp only [Act.put, List.setIfInBounds_toArray, List.set_cons_succ, List.set_cons_zero]; go_big_quiet_on) | (refine since_load_one 23 _ rfl rfl (SeatAt.margin F3) (by kernel_rfl) ?_; simp only [Act.put, List.setIfInBounds_toArray, List.set_cons_succ, List.set_cons_zero]; go_big_quiet_on) | (refine since_load_one 29 _ rfl rfl (OAt.s2 F1) (by kernel_rfl) ?_; simp only [Act.put, List.setIfInBounds_toArray, List.set_cons_succ, List.set_cons_zero]; go_big_quiet_on) | (refine since_load_elem _ rfl rfl (K2) (HK2.out) ?_; simp only [Act.put, List.setIfInBounds_toArray, List.set_cons_succ, List.set_cons_zero]; go_big_quiet_on) | (refine since_load_elem _ rfl rfl (SeatAt.pool F3) (HK1.out) ?_; simp only [Act.put, List.setIfInBounds_toArray, List.set_cons_succ, List.set_cons_zero]; go_big_quiet_on)) | ((with_reducible show Oper.quiet _ ⟨_, Op.binOp BinOp.gtr _ _ _ _, _, _, _, _⟩ _ _ _); first | (refine quiet_gtr _ _ rfl rfl rfl (E1.out ()) ?_; simp only [Act.put, List.setIfInBounds_toArray, List.set_cons_succ, List.set_cons_zero]; go_big_quiet_on) | (refine quiet_gtr _ _ rfl rfl rfl (E2.out ()) ?_; simp only [Act.put, List.setIfInBounds_toArray, List.set_cons_succ, List.set_cons_zero]; go_big_quiet_on) | (refine quiet_gtr _ _ rfl rfl rfl (E3.out ()) ?_; simp only [Act.put, List.setIfInBounds_toArray, List.set_cons_succ, List.set_cons_zero]; go_big_quiet_on)) | (go_big_quiet_op; first | go_big_quiet_on | (refine ⟨_, fun _ => since_of (HLS.out _), ?_⟩; go_big_quiet_on))))
        refine wpQuiet_nil ?_
        intro _ hq
        (try replace F1 := F1.later hq); (try replace F2 := F2.later hq); (try replace F3 := F3.later hq); (try replace F4 := F4.later hq); (try replace F5 := F5.later hq); (try replace F6 := F6.later hq); (try replace F7 := F7.later hq); (try replace F8 := F8.later hq); (try replace F9 := F9.later hq); (try replace G1 := G1.later hq); (try replace G2 := G2.later hq); (try replace G3 := G3.later hq); (try replace z := z.later hq); (try replace b := later b hq); (try replace bB := mixed hB bB hq)
        clear hq
        go_wp2_with fail
        go_ret
        exact ⟨by rw [HRES.out, S1.out, S2.out, S3.out, S4.out, HA2.out]; rfl, b⟩
      · have E1 := hide (fun _ : Unit => hh.1)
        have E2 := hide (fun _ : Unit => hh.2)
        clear hh
        go_wp2_with (first | (with_reducible show wpList _ _ _ (⟨_, Op.load _ _, _, _, _, _⟩ :: _) _ _; first | refine wpl_load_one rfl 28 _ rfl rfl (OAt.s1 F1) (by kernel_rfl) ?_ | refine wpl_load_one rfl 29 _ rfl rfl (OAt.s2 F1) (by kernel_rfl) ?_ | refine wpl_load_one rfl 30 _ rfl rfl (OAt.s3 F1) (by kernel_rfl) ?_) | (with_reducible show wpList _ _ _ (⟨_, Op.load _ _, _, _, _, _⟩ :: _) _ _; refine wpl_ld_seat rfl _ rfl rfl d1 OX.out ?_) | (with_reducible show wpList _ _ _ (⟨_, Op.alloc _, _, _, _, _⟩ :: _) _ _; refine wpl_mk_seat rfl rfl ?_; intro _ g5 hg5 F3 hb; have q5 := F1.lt; replace F1 := F1.later hb; replace b := later b hb; clear hb) | (with_reducible show wpList _ _ _ (⟨_, Op.store _ _ _, _, _, _, _⟩ :: _) _ _; refine wpl_set_seat rfl _ _ rfl rfl rfl OX.out F3 ?_; intro _ t1 ht1; clear F3; replace F1 := F1.tt ht1; replace b := below_touch b ht1 (by omega) (Nat.le_refl _); have F3 := t1; clear t1 ht1) | (with_reducible show Code.wp _ (Code.region _ _ true) _ _ _; (try simp only [Act.put, List.setIfInBounds_toArray, List.set_cons_succ, List.set_cons_zero]); fail))
        (try have K2 := Cells.later K0.out b)
        (try simp only [Act.put, List.setIfInBounds_toArray, List.set_cons_succ, List.set_cons_zero])
        refine region_since (by kernel_rfl) (by kernel_rfl) ?_
        repeat (first | go_big_quiet_skip | (go_big_quiet_want; first | ((with_reducible show Oper.quiet _ ⟨_, Op.load _ _, _, _, _, _⟩ _ _ _); first | (refine since_load_one 23 _ rfl rfl (SeatAt.pledge F3) (by kernel_rfl) ?_; simp only [Act.put, List.setIfInBounds_toArray, List.set_cons_succ, List.set_cons_zero]; go_big_quiet_on) | (refine since_load_one 23 _ rfl rfl (SeatAt.cost F3) (by kernel_rfl) ?_; simp only [Act.put, List.setIfInBounds_toArray, List.set_cons_succ, List.set_cons_zero]; go_big_quiet_on) | (refine since_load_one 23 _ rfl rfl (SeatAt.margin F3) (by kernel_rfl) ?_; simp only [Act.put, List.setIfInBounds_toArray, List.set_cons_succ, List.set_cons_zero]; go_big_quiet_on) | (refine since_load_one 29 _ rfl rfl (OAt.s2 F1) (by kernel_rfl) ?_; simp only [Act.put, List.setIfInBounds_toArray, List.set_cons_succ, List.set_cons_zero]; go_big_quiet_on) | (refine since_load_elem _ rfl rfl (K2) (HK2.out) ?_; simp only [Act.put, List.setIfInBounds_toArray, List.set_cons_succ, List.set_cons_zero]; go_big_quiet_on) | (refine since_load_elem _ rfl rfl (SeatAt.pool F3) (HK1.out) ?_; simp only [Act.put, List.setIfInBounds_toArray, List.set_cons_succ, List.set_cons_zero]; go_big_quiet_on)) | ((with_reducible show Oper.quiet _ ⟨_, Op.binOp BinOp.gtr _ _ _ _, _, _, _, _⟩ _ _ _); first | (refine quiet_gtr _ _ rfl rfl rfl (E1.out ()) ?_; simp only [Act.put, List.setIfInBounds_toArray, List.set_cons_succ, List.set_cons_zero]; go_big_quiet_on) | (refine quiet_gtr _ _ rfl rfl rfl (E2.out ()) ?_; simp only [Act.put, List.setIfInBounds_toArray, List.set_cons_succ, List.set_cons_zero]; go_big_quiet_on) | (refine quiet_gtr _ _ rfl rfl rfl (E3.out ()) ?_; simp only [Act.put, List.setIfInBounds_toArray, List.set_cons_succ, List.set_cons_zero]; go_big_quiet_on)) | (go_big_quiet_op; first | go_big_quiet_on | (refine ⟨_, fun _ => since_of (HLS.out _), ?_⟩; go_big_quiet_on))))
        refine wpQuiet_nil ?_
        intro _ hq
        (try replace F1 := F1.later hq); (try replace F2 := F2.later hq); (try replace F3 := F3.later hq); (try replace F4 := F4.later hq); (try replace F5 := F5.later hq); (try replace F6 := F6.later hq); (try replace F7 := F7.later hq); (try replace F8 := F8.later hq); (try replace F9 := F9.later hq); (try replace G1 := G1.later hq); (try replace G2 := G2.later hq); (try replace G3 := G3.later hq); (try replace z := z.later hq); (try replace b := later b hq); (try replace bB := mixed hB bB hq)
        clear hq
        go_wp2_with fail
        go_ret
        exact ⟨by rw [HRES.out, S1.out, S2.out, S3.out, S4.out, HA2.out]; rfl, b⟩
      · have E1 := hide (fun _ : Unit => hh.1)
        have E2 := hide (fun _ : Unit => hh.2.1)
        have E3 := hide (fun _ : Unit => hh.2.2)
        clear hh
        go_wp2_with (first | (with_reducible show wpList _ _ _ (⟨_, Op.load _ _, _, _, _, _⟩ :: _) _ _; first | refine wpl_load_one rfl 28 _ rfl rfl (OAt.s1 F1) (by kernel_rfl) ?_ | refine wpl_load_one rfl 29 _ rfl rfl (OAt.s2 F1) (by kernel_rfl) ?_ | refine wpl_load_one rfl 30 _ rfl rfl (OAt.s3 F1) (by kernel_rfl) ?_) | (with_reducible show wpList _ _ _ (⟨_, Op.load _ _, _, _, _, _⟩ :: _) _ _; refine wpl_ld_seat rfl _ rfl rfl d1 OX.out ?_) | (with_reducible show wpList _ _ _ (⟨_, Op.alloc _, _, _, _, _⟩ :: _) _ _; refine wpl_mk_seat rfl rfl ?_; intro _ g5 hg5 F3 hb; have q5 := F1.lt; replace F1 := F1.later hb; replace b := later b hb; clear hb) | (with_reducible show wpList _ _ _ (⟨_, Op.store _ _ _, _, _, _, _⟩ :: _) _ _; refine wpl_set_seat rfl _ _ rfl rfl rfl OX.out F3 ?_; intro _ t1 ht1; clear F3; replace F1 := F1.tt ht1; replace b := below_touch b ht1 (by omega) (Nat.le_refl _); have F3 := t1; clear t1 ht1) | (with_reducible show Code.wp _ (Code.region _ _ true) _ _ _; (try simp only [Act.put, List.setIfInBounds_toArray, List.set_cons_succ, List.set_cons_zero]); fail))
        (try have K2 := Cells.later K0.out b)
        (try simp only [Act.put, List.setIfInBounds_toArray, List.set_cons_succ, List.set_cons_zero])
        refine region_since (by kernel_rfl) (by kernel_rfl) ?_
        repeat (first | go_big_quiet_skip | (go_big_quiet_want; first | ((with_reducible show Oper.quiet _ ⟨_, Op.load _ _, _, _, _, _⟩ _ _ _); first | (refine since_load_one 23 _ rfl rfl (SeatAt.pledge F3) (by kernel_rfl) ?_; simp only [Act.put, List.setIfInBounds_toArray, List.set_cons_succ, List.set_cons_zero]; go_big_quiet_on) | (refine since_load_one 23 _ rfl rfl (SeatAt.cost F3) (by kernel_rfl) ?_; simp only [Act.put, List.setIfInBounds_toArray, List.set_cons_succ, List.set_cons_zero]; go_big_quiet_on) | (refine since_load_one 23 _ rfl rfl (SeatAt.margin F3) (by kernel_rfl) ?_; simp only [Act.put, List.setIfInBounds_toArray, List.set_cons_succ, List.set_cons_zero]; go_big_quiet_on) | (refine since_load_one 29 _ rfl rfl (OAt.s2 F1) (by kernel_rfl) ?_; simp only [Act.put, List.setIfInBounds_toArray, List.set_cons_succ, List.set_cons_zero]; go_big_quiet_on) | (refine since_load_elem _ rfl rfl (K2) (HK2.out) ?_; simp only [Act.put, List.setIfInBounds_toArray, List.set_cons_succ, List.set_cons_zero]; go_big_quiet_on) | (refine since_load_elem _ rfl rfl (SeatAt.pool F3) (HK1.out) ?_; simp only [Act.put, List.setIfInBounds_toArray, List.set_cons_succ, List.set_cons_zero]; go_big_quiet_on)) | ((with_reducible show Oper.quiet _ ⟨_, Op.binOp BinOp.gtr _ _ _ _, _, _, _, _⟩ _ _ _); first | (refine quiet_gtr _ _ rfl rfl rfl (E1.out ()) ?_; simp only [Act.put, List.setIfInBounds_toArray, List.set_cons_succ, List.set_cons_zero]; go_big_quiet_on) | (refine quiet_gtr _ _ rfl rfl rfl (E2.out ()) ?_; simp only [Act.put, List.setIfInBounds_toArray, List.set_cons_succ, List.set_cons_zero]; go_big_quiet_on) | (refine quiet_gtr _ _ rfl rfl rfl (E3.out ()) ?_; simp only [Act.put, List.setIfInBounds_toArray, List.set_cons_succ, List.set_cons_zero]; go_big_quiet_on)) | (go_big_quiet_op; first | go_big_quiet_on | (refine ⟨_, fun _ => since_of (HLS.out _), ?_⟩; go_big_quiet_on))))
        refine wpQuiet_nil ?_
        intro _ hq
        (try replace F1 := F1.later hq); (try replace F2 := F2.later hq); (try replace F3 := F3.later hq); (try replace F4 := F4.later hq); (try replace F5 := F5.later hq); (try replace F6 := F6.later hq); (try replace F7 := F7.later hq); (try replace F8 := F8.later hq); (try replace F9 := F9.later hq); (try replace G1 := G1.later hq); (try replace G2 := G2.later hq); (try replace G3 := G3.later hq); (try replace z := z.later hq); (try replace b := later b hq); (try replace bB := mixed hB bB hq)
        clear hq
        go_wp2_with fail
        go_ret
        exact ⟨by rw [HRES.out, S1.out, S2.out, S3.out, S4.out, HA2.out]; rfl, b⟩
    have E1 := hide (fun _ : Unit => hh.1)
    have E2 := hide (fun _ : Unit => hh.2.1)
    have E3 := hide (fun _ : Unit => hh.2.2)
    clear hh
    by_cases h0 : 0 < k
    · obtain ⟨j, hj⟩ : ∃ j, j = k - 1 := ⟨_, rfl⟩
      obtain ⟨y, hy, oky⟩ := get_ok HL2.out (k := j) (by rw [← HN2.out]; omega)
      have K0 := hide (Cells.left (seatR0 (hcs j y hy)))
      have HK2 : Hid ((SeatT.pool y).length = 32) := oky.1
      have HLS := hide (fun w => less16_any (SeatT.pool y) (SeatT.pool x) w oky.1 okx.1)
      have HR := hide (ra_next (f := SeatT.pool) (g := seatB) HA.out h0 (by rw [← hj]; exact hy) hx hq)
      have HS := hide (fun h => ra_stop (f := SeatT.pool) (g := seatB) (l := l2) (k := k + 1) h)
      have z1 := decide_eq_true (show (0 : Int) < (k : Int) by omega)
      have z2 : (k : Int) - 1 = (j : Int) := by omega
      have hkn : j < n2 := by omega
      clear hcs hx okx HA hq hy oky hj
      by_cases hB : Op.bytesLess (SeatT.pool y) (SeatT.pool x) = true
      · have HA2 : Hid (riseAll SeatT.pool seatB (l2.take (k + 1)) = true) := by rw [HR.out]; exact hide hB
        rw [hB] at HLS
        clear HR HS hB
        go_wp2_with (first | (with_reducible show wpList _ _ _ (⟨_, Op.load _ _, _, _, _, _⟩ :: _) _ _; first | refine wpl_load_one rfl 28 _ rfl rfl (OAt.s1 F1) (by kernel_rfl) ?_ | refine wpl_load_one rfl 29 _ rfl rfl (OAt.s2 F1) (by kernel_rfl) ?_ | refine wpl_load_one rfl 30 _ rfl rfl (OAt.s3 F1) (by kernel_rfl) ?_) | (with_reducible show wpList _ _ _ (⟨_, Op.load _ _, _, _, _, _⟩ :: _) _ _; refine wpl_ld_seat rfl _ rfl rfl d1 OX.out ?_) | (with_reducible show wpList _ _ _ (⟨_, Op.alloc _, _, _, _, _⟩ :: _) _ _; refine wpl_mk_seat rfl rfl ?_; intro _ g5 hg5 F3 hb; have q5 := F1.lt; replace F1 := F1.later hb; replace b := later b hb; clear hb) | (with_reducible show wpList _ _ _ (⟨_, Op.store _ _ _, _, _, _, _⟩ :: _) _ _; refine wpl_set_seat rfl _ _ rfl rfl rfl OX.out F3 ?_; intro _ t1 ht1; clear F3; replace F1 := F1.tt ht1; replace b := below_touch b ht1 (by omega) (Nat.le_refl _); have F3 := t1; clear t1 ht1) | (with_reducible show Code.wp _ (Code.region _ _ true) _ _ _; (try simp only [Act.put, List.setIfInBounds_toArray, List.set_cons_succ, List.set_cons_zero]); fail))
        (try have K2 := Cells.later K0.out b)
        (try simp only [Act.put, List.setIfInBounds_toArray, List.set_cons_succ, List.set_cons_zero])
        refine region_since (by kernel_rfl) (by kernel_rfl) ?_
        repeat (first | go_big_quiet_skip | (go_big_quiet_want; first | ((with_reducible show Oper.quiet _ ⟨_, Op.load _ _, _, _, _, _⟩ _ _ _); first | (refine since_load_one 23 _ rfl rfl (SeatAt.pledge F3) (by kernel_rfl) ?_; simp only [Act.put, List.setIfInBounds_toArray, List.set_cons_succ, List.set_cons_zero]; go_big_quiet_on) | (refine since_load_one 23 _ rfl rfl (SeatAt.cost F3) (by kernel_rfl) ?_; simp only [Act.put, List.setIfInBounds_toArray, List.set_cons_succ, List.set_cons_zero]; go_big_quiet_on) | (refine since_load_one 23 _ rfl rfl (SeatAt.margin F3) (by kernel_rfl) ?_; simp only [Act.put, List.setIfInBounds_toArray, List.set_cons_succ, List.set_cons_zero]; go_big_quiet_on) | (refine since_load_one 29 _ rfl rfl (OAt.s2 F1) (by kernel_rfl) ?_; simp only [Act.put, List.setIfInBounds_toArray, List.set_cons_succ, List.set_cons_zero]; go_big_quiet_on) | (refine since_load_elem _ rfl rfl (K2) (HK2.out) ?_; simp only [Act.put, List.setIfInBounds_toArray, List.set_cons_succ, List.set_cons_zero]; go_big_quiet_on) | (refine since_load_elem _ rfl rfl (SeatAt.pool F3) (HK1.out) ?_; simp only [Act.put, List.setIfInBounds_toArray, List.set_cons_succ, List.set_cons_zero]; go_big_quiet_on)) | ((with_reducible show Oper.quiet _ ⟨_, Op.binOp BinOp.gtr _ _ _ _, _, _, _, _⟩ _ _ _); first | (refine quiet_gtr _ _ rfl rfl rfl (E1.out ()) ?_; simp only [Act.put, List.setIfInBounds_toArray, List.set_cons_succ, List.set_cons_zero]; go_big_quiet_on) | (refine quiet_gtr _ _ rfl rfl rfl (E2.out ()) ?_; simp only [Act.put, List.setIfInBounds_toArray, List.set_cons_succ, List.set_cons_zero]; go_big_quiet_on) | (refine quiet_gtr _ _ rfl rfl rfl (E3.out ()) ?_; simp only [Act.put, List.setIfInBounds_toArray, List.set_cons_succ, List.set_cons_zero]; go_big_quiet_on)) | (go_big_quiet_op; first | go_big_quiet_on | (refine ⟨_, fun _ => since_of (HLS.out _), ?_⟩; go_big_quiet_on))))
        refine wpQuiet_nil ?_
        intro _ hq
        (try replace F1 := F1.later hq); (try replace F2 := F2.later hq); (try replace F3 := F3.later hq); (try replace F4 := F4.later hq); (try replace F5 := F5.later hq); (try replace F6 := F6.later hq); (try replace F7 := F7.later hq); (try replace F8 := F8.later hq); (try replace F9 := F9.later hq); (try replace G1 := G1.later hq); (try replace G2 := G2.later hq); (try replace G3 := G3.later hq); (try replace z := z.later hq); (try replace b := later b hq); (try replace bB := mixed hB bB hq)
        clear hq
        go_wp2_with fail
        go_roundw
        case rel => exact ⟨k + 1, by simp, by omega, HA2, F1, b⟩
        case measure => simp [RowKit.intOf]; omega
      · replace hB : Op.bytesLess (SeatT.pool y) (SeatT.pool x) = false := by simpa using hB
        have HA2 : Hid (riseAll SeatT.pool seatB l2 = false) := HS.out (by rw [HR.out]; exact hB)
        rw [hB] at HLS
        clear HR HS hB
        go_wp2_with (first | (with_reducible show wpList _ _ _ (⟨_, Op.load _ _, _, _, _, _⟩ :: _) _ _; first | refine wpl_load_one rfl 28 _ rfl rfl (OAt.s1 F1) (by kernel_rfl) ?_ | refine wpl_load_one rfl 29 _ rfl rfl (OAt.s2 F1) (by kernel_rfl) ?_ | refine wpl_load_one rfl 30 _ rfl rfl (OAt.s3 F1) (by kernel_rfl) ?_) | (with_reducible show wpList _ _ _ (⟨_, Op.load _ _, _, _, _, _⟩ :: _) _ _; refine wpl_ld_seat rfl _ rfl rfl d1 OX.out ?_) | (with_reducible show wpList _ _ _ (⟨_, Op.alloc _, _, _, _, _⟩ :: _) _ _; refine wpl_mk_seat rfl rfl ?_; intro _ g5 hg5 F3 hb; have q5 := F1.lt; replace F1 := F1.later hb; replace b := later b hb; clear hb) | (with_reducible show wpList _ _ _ (⟨_, Op.store _ _ _, _, _, _, _⟩ :: _) _ _; refine wpl_set_seat rfl _ _ rfl rfl rfl OX.out F3 ?_; intro _ t1 ht1; clear F3; replace F1 := F1.tt ht1; replace b := below_touch b ht1 (by omega) (Nat.le_refl _); have F3 := t1; clear t1 ht1) | (with_reducible show Code.wp _ (Code.region _ _ true) _ _ _; (try simp only [Act.put, List.setIfInBounds_toArray, List.set_cons_succ, List.set_cons_zero]); fail))
        (try have K2 := Cells.later K0.out b)
        (try simp only [Act.put, List.setIfInBounds_toArray, List.set_cons_succ, List.set_cons_zero])
        refine region_since (by kernel_rfl) (by kernel_rfl) ?_
        repeat (first | go_big_quiet_skip | (go_big_quiet_want; first | ((with_reducible show Oper.quiet _ ⟨_, Op.load _ _, _, _, _, _⟩ _ _ _); first | (refine since_load_one 23 _ rfl rfl (SeatAt.pledge F3) (by kernel_rfl) ?_; simp only [Act.put, List.setIfInBounds_toArray, List.set_cons_succ, List.set_cons_zero]; go_big_quiet_on) | (refine since_load_one 23 _ rfl rfl (SeatAt.cost F3) (by kernel_rfl) ?_; simp only [Act.put, List.setIfInBounds_toArray, List.set_cons_succ, List.set_cons_zero]; go_big_quiet_on) | (refine since_load_one 23 _ rfl rfl (SeatAt.margin F3) (by kernel_rfl) ?_; simp only [Act.put, List.setIfInBounds_toArray, List.set_cons_succ, List.set_cons_zero]; go_big_quiet_on) | (refine since_load_one 29 _ rfl rfl (OAt.s2 F1) (by kernel_rfl) ?_; simp only [Act.put, List.setIfInBounds_toArray, List.set_cons_succ, List.set_cons_zero]; go_big_quiet_on) | (refine since_load_elem _ rfl rfl (K2) (HK2.out) ?_; simp only [Act.put, List.setIfInBounds_toArray, List.set_cons_succ, List.set_cons_zero]; go_big_quiet_on) | (refine since_load_elem _ rfl rfl (SeatAt.pool F3) (HK1.out) ?_; simp only [Act.put, List.setIfInBounds_toArray, List.set_cons_succ, List.set_cons_zero]; go_big_quiet_on)) | ((with_reducible show Oper.quiet _ ⟨_, Op.binOp BinOp.gtr _ _ _ _, _, _, _, _⟩ _ _ _); first | (refine quiet_gtr _ _ rfl rfl rfl (E1.out ()) ?_; simp only [Act.put, List.setIfInBounds_toArray, List.set_cons_succ, List.set_cons_zero]; go_big_quiet_on) | (refine quiet_gtr _ _ rfl rfl rfl (E2.out ()) ?_; simp only [Act.put, List.setIfInBounds_toArray, List.set_cons_succ, List.set_cons_zero]; go_big_quiet_on) | (refine quiet_gtr _ _ rfl rfl rfl (E3.out ()) ?_; simp only [Act.put, List.setIfInBounds_toArray, List.set_cons_succ, List.set_cons_zero]; go_big_quiet_on)) | (go_big_quiet_op; first | go_big_quiet_on | (refine ⟨_, fun _ => since_of (HLS.out _), ?_⟩; go_big_quiet_on))))
        refine wpQuiet_nil ?_
        intro _ hq
        (try replace F1 := F1.later hq); (try replace F2 := F2.later hq); (try replace F3 := F3.later hq); (try replace F4 := F4.later hq); (try replace F5 := F5.later hq); (try replace F6 := F6.later hq); (try replace F7 := F7.later hq); (try replace F8 := F8.later hq); (try replace F9 := F9.later hq); (try replace G1 := G1.later hq); (try replace G2 := G2.later hq); (try replace G3 := G3.later hq); (try replace z := z.later hq); (try replace b := later b hq); (try replace bB := mixed hB bB hq)
        clear hq
        go_wp2_with fail
        go_ret
        exact ⟨by rw [HRES.out, S1.out, S2.out, S3.out, S4.out, HA2.out]; rfl, b⟩
    · obtain rfl : k = 0 := by omega
      have HA2 : Hid (riseAll SeatT.pool seatB (l2.take (0 + 1)) = true) := by rw [ra_first hx]; exact hide hq
      clear hcs hx okx HA hq h0
      go_wp2_with (first | (with_reducible show wpList _ _ _ (⟨_, Op.load _ _, _, _, _, _⟩ :: _) _ _; first | refine wpl_load_one rfl 28 _ rfl rfl (OAt.s1 F1) (by kernel_rfl) ?_ | refine wpl_load_one rfl 29 _ rfl rfl (OAt.s2 F1) (by kernel_rfl) ?_ | refine wpl_load_one rfl 30 _ rfl rfl (OAt.s3 F1) (by kernel_rfl) ?_) | (with_reducible show wpList _ _ _ (⟨_, Op.load _ _, _, _, _, _⟩ :: _) _ _; refine wpl_ld_seat rfl _ rfl rfl d1 OX.out ?_) | (with_reducible show wpList _ _ _ (⟨_, Op.alloc _, _, _, _, _⟩ :: _) _ _; refine wpl_mk_seat rfl rfl ?_; intro _ g5 hg5 F3 hb; have q5 := F1.lt; replace F1 := F1.later hb; replace b := later b hb; clear hb) | (with_reducible show wpList _ _ _ (⟨_, Op.store _ _ _, _, _, _, _⟩ :: _) _ _; refine wpl_set_seat rfl _ _ rfl rfl rfl OX.out F3 ?_; intro _ t1 ht1; clear F3; replace F1 := F1.tt ht1; replace b := below_touch b ht1 (by omega) (Nat.le_refl _); have F3 := t1; clear t1 ht1) | (with_reducible show Code.wp _ (Code.region _ _ true) _ _ _; (try simp only [Act.put, List.setIfInBounds_toArray, List.set_cons_succ, List.set_cons_zero]); fail))
      (try have K2 := Cells.later K0.out b)
      (try simp only [Act.put, List.setIfInBounds_toArray, List.set_cons_succ, List.set_cons_zero])
      refine region_since (by kernel_rfl) (by kernel_rfl) ?_
      repeat (first | go_big_quiet_skip | (go_big_quiet_want; first | ((with_reducible show Oper.quiet _ ⟨_, Op.load _ _, _, _, _, _⟩ _ _ _); first | (refine since_load_one 23 _ rfl rfl (SeatAt.pledge F3) (by kernel_rfl) ?_; simp only [Act.put, List.setIfInBounds_toArray, List.set_cons_succ, List.set_cons_zero]; go_big_quiet_on) | (refine since_load_one 23 _ rfl rfl (SeatAt.cost F3) (by kernel_rfl) ?_; simp only [Act.put, List.setIfInBounds_toArray, List.set_cons_succ, List.set_cons_zero]; go_big_quiet_on) | (refine since_load_one 23 _ rfl rfl (SeatAt.margin F3) (by kernel_rfl) ?_; simp only [Act.put, List.setIfInBounds_toArray, List.set_cons_succ, List.set_cons_zero]; go_big_quiet_on) | (refine since_load_one 29 _ rfl rfl (OAt.s2 F1) (by kernel_rfl) ?_; simp only [Act.put, List.setIfInBounds_toArray, List.set_cons_succ, List.set_cons_zero]; go_big_quiet_on) | (refine since_load_elem _ rfl rfl (K2) (HK2.out) ?_; simp only [Act.put, List.setIfInBounds_toArray, List.set_cons_succ, List.set_cons_zero]; go_big_quiet_on) | (refine since_load_elem _ rfl rfl (SeatAt.pool F3) (HK1.out) ?_; simp only [Act.put, List.setIfInBounds_toArray, List.set_cons_succ, List.set_cons_zero]; go_big_quiet_on)) | ((with_reducible show Oper.quiet _ ⟨_, Op.binOp BinOp.gtr _ _ _ _, _, _, _, _⟩ _ _ _); first | (refine quiet_gtr _ _ rfl rfl rfl (E1.out ()) ?_; simp only [Act.put, List.setIfInBounds_toArray, List.set_cons_succ, List.set_cons_zero]; go_big_quiet_on) | (refine quiet_gtr _ _ rfl rfl rfl (E2.out ()) ?_; simp only [Act.put, List.setIfInBounds_toArray, List.set_cons_succ, List.set_cons_zero]; go_big_quiet_on) | (refine quiet_gtr _ _ rfl rfl rfl (E3.out ()) ?_; simp only [Act.put, List.setIfInBounds_toArray, List.set_cons_succ, List.set_cons_zero]; go_big_quiet_on)) | (go_big_quiet_op; first | go_big_quiet_on | (refine ⟨_, fun _ => since_of (HLS.out _), ?_⟩; go_big_quiet_on))))
      refine wpQuiet_nil ?_
      intro _ hq
      (try replace F1 := F1.later hq); (try replace F2 := F2.later hq); (try replace F3 := F3.later hq); (try replace F4 := F4.later hq); (try replace F5 := F5.later hq); (try replace F6 := F6.later hq); (try replace F7 := F7.later hq); (try replace F8 := F8.later hq); (try replace F9 := F9.later hq); (try replace G1 := G1.later hq); (try replace G2 := G2.later hq); (try replace G3 := G3.later hq); (try replace z := z.later hq); (try replace b := later b hq); (try replace bB := mixed hB bB hq)
      clear hq
      go_wp2_with fail
      go_roundw
      case rel => exact ⟨1, by simp, by omega, HA2, F1, b⟩
      case measure => simp [RowKit.intOf]; omega
  obtain rfl : n2 = k := by omega
  have hT := HA.out
  rw [List.take_of_length_le (by rw [← HN2.out]; exact Nat.le_refl _)] at hT
  have S5 := hide hT
  clear HA hT hlt hk
  go_wp2_with (with_reducible show wpList _ _ _ (⟨_, Op.load _ _, _, _, _, _⟩ :: _) _ _; first | refine wpl_load_one rfl 28 _ rfl rfl (OAt.s1 F1) (by kernel_rfl) ?_ | refine wpl_load_one rfl 29 _ rfl rfl (OAt.s2 F1) (by kernel_rfl) ?_ | refine wpl_load_one rfl 30 _ rfl rfl (OAt.s3 F1) (by kernel_rfl) ?_)
  go_loopw [9] (fun i wr => ∃ k : Nat, i = .int .i64 k ∧ k ≤ n3 ∧ Hid (riseAll TrustT.key (trustB l2) (l3.take k) = true) ∧ OAt wr g1 ns nc (.slice a1 n1 c1) (.slice a2 n2 c2) (.slice a3 n3 c3) ∧ Below w.heap.size w wr) (fun i _ => n3 - (RowKit.intOf i).toNat)
  case atStart => exact ⟨0, rfl, by omega, hide (by simp [riseAll, risesB]), F1, b⟩
  clear b F1
  obtain ⟨k, rfl, hk, HA, F1, b⟩ := hrel
  by_cases hlt : k < n3
  case pos =>
    obtain ⟨x, hx, okx⟩ := get_ok HL3.out (k := k) (by rw [← HN3.out]; exact hlt)
    obtain ⟨bb, k0, c', he, _, hcs⟩ := h3.block (by rw [← HN3.out]; omega)
    simp only [Value.slice.injEq] at he
    obtain ⟨rfl, -, rfl⟩ := he
    have d1 := (hcs k x hx).later b
    have OX := hide okx
    have HK1 : Hid ((TrustT.key x).length = 32) := okx.1
    have HX2 : Hid (x.pool.length = 32) := okx.2
    have HH := hide (fun w' hb => HHS.out x.pool w' okx.2 hb)
    by_cases hz : x.pool = zero32
    · have hq : trustB l2 x = true := by unfold trustB; rw [decide_eq_true hz]; rfl
      have E4 : Hid (∀ _ : Unit, (!decide (x.pool = zero32)) = false) := fun _ => by rw [decide_eq_true hz]; rfl
      clear hz HH HHS
      by_cases h0 : 0 < k
      · obtain ⟨j, hj⟩ : ∃ j, j = k - 1 := ⟨_, rfl⟩
        obtain ⟨y, hy, oky⟩ := get_ok HL3.out (k := j) (by rw [← HN3.out]; omega)
        have K0 := hide (Cells.left (trustR0 (hcs j y hy)))
        have HK2 : Hid ((TrustT.key y).length = 32) := oky.1
        have HLS := hide (fun w => less16_any (TrustT.key y) (TrustT.key x) w oky.1 okx.1)
        have HR := hide (ra_next (f := TrustT.key) (g := (trustB l2)) HA.out h0 (by rw [← hj]; exact hy) hx hq)
        have HS := hide (fun h => ra_stop (f := TrustT.key) (g := (trustB l2)) (l := l3) (k := k + 1) h)
        have z1 := decide_eq_true (show (0 : Int) < (k : Int) by omega)
        have z2 : (k : Int) - 1 = (j : Int) := by omega
        have hkn : j < n3 := by omega
        clear hcs hx okx HA hq hy oky hj
        by_cases hB : Op.bytesLess (TrustT.key y) (TrustT.key x) = true
        · have HA2 : Hid (riseAll TrustT.key (trustB l2) (l3.take (k + 1)) = true) := by rw [HR.out]; exact hide hB
          rw [hB] at HLS
          clear HR HS hB
          go_wp2_with (first | (with_reducible show wpList _ _ _ (⟨_, Op.load _ _, _, _, _, _⟩ :: _) _ _; first | refine wpl_load_one rfl 28 _ rfl rfl (OAt.s1 F1) (by kernel_rfl) ?_ | refine wpl_load_one rfl 29 _ rfl rfl (OAt.s2 F1) (by kernel_rfl) ?_ | refine wpl_load_one rfl 30 _ rfl rfl (OAt.s3 F1) (by kernel_rfl) ?_) | (with_reducible show wpList _ _ _ (⟨_, Op.load _ _, _, _, _, _⟩ :: _) _ _; refine wpl_ld_trust rfl _ rfl rfl d1 OX.out ?_) | (with_reducible show wpList _ _ _ (⟨_, Op.alloc _, _, _, _, _⟩ :: _) _ _; refine wpl_mk_trust rfl rfl ?_; intro _ g5 hg5 F3 hb; have q5 := F1.lt; replace F1 := F1.later hb; replace b := later b hb; clear hb) | (with_reducible show wpList _ _ _ (⟨_, Op.store _ _ _, _, _, _, _⟩ :: _) _ _; refine wpl_set_trust rfl _ _ rfl rfl rfl OX.out F3 ?_; intro _ t1 ht1; clear F3; replace F1 := F1.tt ht1; replace b := below_touch b ht1 (by omega) (Nat.le_refl _); have F3 := t1; clear t1 ht1) | (with_reducible show Code.wp _ (Code.region _ _ true) _ _ _; (try simp only [Act.put, List.setIfInBounds_toArray, List.set_cons_succ, List.set_cons_zero]); fail))
          (try have K2 := Cells.later K0.out b)
          (try simp only [Act.put, List.setIfInBounds_toArray, List.set_cons_succ, List.set_cons_zero])
          refine region_since (by kernel_rfl) (by kernel_rfl) ?_
          repeat (first | go_big_quiet_skip | (go_big_quiet_want; first | ((with_reducible show Oper.quiet _ ⟨_, Op.load _ _, _, _, _, _⟩ _ _ _); first | (refine since_load_one 29 _ rfl rfl (OAt.s2 F1) (by kernel_rfl) ?_; simp only [Act.put, List.setIfInBounds_toArray, List.set_cons_succ, List.set_cons_zero]; go_big_quiet_on) | (refine since_load_one 30 _ rfl rfl (OAt.s3 F1) (by kernel_rfl) ?_; simp only [Act.put, List.setIfInBounds_toArray, List.set_cons_succ, List.set_cons_zero]; go_big_quiet_on) | (refine since_load_elem _ rfl rfl (TrustAt.pool F3) (HX2.out) ?_; simp only [Act.put, List.setIfInBounds_toArray, List.set_cons_succ, List.set_cons_zero]; go_big_quiet_on) | (refine since_load_elem _ rfl rfl (K2) (HK2.out) ?_; simp only [Act.put, List.setIfInBounds_toArray, List.set_cons_succ, List.set_cons_zero]; go_big_quiet_on) | (refine since_load_elem _ rfl rfl (TrustAt.key F3) (HK1.out) ?_; simp only [Act.put, List.setIfInBounds_toArray, List.set_cons_succ, List.set_cons_zero]; go_big_quiet_on)) | ((with_reducible show Oper.quiet _ ⟨_, Op.binOp BinOp.neq 27 _ _ _, _, _, _, _⟩ _ _ _); refine quiet_neB _ _ rfl rfl rfl HX2.out rfl (E4.out ()) ?_; simp only [Act.put, List.setIfInBounds_toArray, List.set_cons_succ, List.set_cons_zero]; go_big_quiet_on) | ((with_reducible show Oper.quiet _ ⟨_, Op.build _ _, _, _, _, _⟩ _ _ _); refine quiet_build _ _ rfl (bvs zero32).toArray (by kernel_rfl) ?_; simp only [Act.put, List.setIfInBounds_toArray, List.set_cons_succ, List.set_cons_zero]; go_big_quiet_on) | (go_big_quiet_op; first | go_big_quiet_on | (refine ⟨_, fun s => since_of (HH.out _ (later b s.ok)), ?_⟩; go_big_quiet_on) | (refine ⟨_, fun _ => since_of (HLS.out _), ?_⟩; go_big_quiet_on))))
          refine wpQuiet_nil ?_
          intro _ hq
          (try replace F1 := F1.later hq); (try replace F2 := F2.later hq); (try replace F3 := F3.later hq); (try replace F4 := F4.later hq); (try replace F5 := F5.later hq); (try replace F6 := F6.later hq); (try replace F7 := F7.later hq); (try replace F8 := F8.later hq); (try replace F9 := F9.later hq); (try replace G1 := G1.later hq); (try replace G2 := G2.later hq); (try replace G3 := G3.later hq); (try replace z := z.later hq); (try replace b := later b hq); (try replace bB := mixed hB bB hq)
          clear hq
          go_wp2_with fail
          go_roundw
          case rel => exact ⟨k + 1, by simp, by omega, HA2, F1, b⟩
          case measure => simp [RowKit.intOf]; omega
        · replace hB : Op.bytesLess (TrustT.key y) (TrustT.key x) = false := by simpa using hB
          have HA2 : Hid (riseAll TrustT.key (trustB l2) l3 = false) := HS.out (by rw [HR.out]; exact hB)
          rw [hB] at HLS
          clear HR HS hB
          go_wp2_with (first | (with_reducible show wpList _ _ _ (⟨_, Op.load _ _, _, _, _, _⟩ :: _) _ _; first | refine wpl_load_one rfl 28 _ rfl rfl (OAt.s1 F1) (by kernel_rfl) ?_ | refine wpl_load_one rfl 29 _ rfl rfl (OAt.s2 F1) (by kernel_rfl) ?_ | refine wpl_load_one rfl 30 _ rfl rfl (OAt.s3 F1) (by kernel_rfl) ?_) | (with_reducible show wpList _ _ _ (⟨_, Op.load _ _, _, _, _, _⟩ :: _) _ _; refine wpl_ld_trust rfl _ rfl rfl d1 OX.out ?_) | (with_reducible show wpList _ _ _ (⟨_, Op.alloc _, _, _, _, _⟩ :: _) _ _; refine wpl_mk_trust rfl rfl ?_; intro _ g5 hg5 F3 hb; have q5 := F1.lt; replace F1 := F1.later hb; replace b := later b hb; clear hb) | (with_reducible show wpList _ _ _ (⟨_, Op.store _ _ _, _, _, _, _⟩ :: _) _ _; refine wpl_set_trust rfl _ _ rfl rfl rfl OX.out F3 ?_; intro _ t1 ht1; clear F3; replace F1 := F1.tt ht1; replace b := below_touch b ht1 (by omega) (Nat.le_refl _); have F3 := t1; clear t1 ht1) | (with_reducible show Code.wp _ (Code.region _ _ true) _ _ _; (try simp only [Act.put, List.setIfInBounds_toArray, List.set_cons_succ, List.set_cons_zero]); fail))
          (try have K2 := Cells.later K0.out b)
          (try simp only [Act.put, List.setIfInBounds_toArray, List.set_cons_succ, List.set_cons_zero])
          refine region_since (by kernel_rfl) (by kernel_rfl) ?_
          repeat (first | go_big_quiet_skip | (go_big_quiet_want; first | ((with_reducible show Oper.quiet _ ⟨_, Op.load _ _, _, _, _, _⟩ _ _ _); first | (refine since_load_one 29 _ rfl rfl (OAt.s2 F1) (by kernel_rfl) ?_; simp only [Act.put, List.setIfInBounds_toArray, List.set_cons_succ, List.set_cons_zero]; go_big_quiet_on) | (refine since_load_one 30 _ rfl rfl (OAt.s3 F1) (by kernel_rfl) ?_; simp only [Act.put, List.setIfInBounds_toArray, List.set_cons_succ, List.set_cons_zero]; go_big_quiet_on) | (refine since_load_elem _ rfl rfl (TrustAt.pool F3) (HX2.out) ?_; simp only [Act.put, List.setIfInBounds_toArray, List.set_cons_succ, List.set_cons_zero]; go_big_quiet_on) | (refine since_load_elem _ rfl rfl (K2) (HK2.out) ?_; simp only [Act.put, List.setIfInBounds_toArray, List.set_cons_succ, List.set_cons_zero]; go_big_quiet_on) | (refine since_load_elem _ rfl rfl (TrustAt.key F3) (HK1.out) ?_; simp only [Act.put, List.setIfInBounds_toArray, List.set_cons_succ, List.set_cons_zero]; go_big_quiet_on)) | ((with_reducible show Oper.quiet _ ⟨_, Op.binOp BinOp.neq 27 _ _ _, _, _, _, _⟩ _ _ _); refine quiet_neB _ _ rfl rfl rfl HX2.out rfl (E4.out ()) ?_; simp only [Act.put, List.setIfInBounds_toArray, List.set_cons_succ, List.set_cons_zero]; go_big_quiet_on) | ((with_reducible show Oper.quiet _ ⟨_, Op.build _ _, _, _, _, _⟩ _ _ _); refine quiet_build _ _ rfl (bvs zero32).toArray (by kernel_rfl) ?_; simp only [Act.put, List.setIfInBounds_toArray, List.set_cons_succ, List.set_cons_zero]; go_big_quiet_on) | (go_big_quiet_op; first | go_big_quiet_on | (refine ⟨_, fun s => since_of (HH.out _ (later b s.ok)), ?_⟩; go_big_quiet_on) | (refine ⟨_, fun _ => since_of (HLS.out _), ?_⟩; go_big_quiet_on))))
          refine wpQuiet_nil ?_
          intro _ hq
          (try replace F1 := F1.later hq); (try replace F2 := F2.later hq); (try replace F3 := F3.later hq); (try replace F4 := F4.later hq); (try replace F5 := F5.later hq); (try replace F6 := F6.later hq); (try replace F7 := F7.later hq); (try replace F8 := F8.later hq); (try replace F9 := F9.later hq); (try replace G1 := G1.later hq); (try replace G2 := G2.later hq); (try replace G3 := G3.later hq); (try replace z := z.later hq); (try replace b := later b hq); (try replace bB := mixed hB bB hq)
          clear hq
          go_wp2_with fail
          go_ret
          exact ⟨by rw [HRES.out, S1.out, S2.out, S3.out, S4.out, S5.out, HA2.out]; rfl, b⟩
      · obtain rfl : k = 0 := by omega
        have HA2 : Hid (riseAll TrustT.key (trustB l2) (l3.take (0 + 1)) = true) := by rw [ra_first hx]; exact hide hq
        clear hcs hx okx HA hq h0
        go_wp2_with (first | (with_reducible show wpList _ _ _ (⟨_, Op.load _ _, _, _, _, _⟩ :: _) _ _; first | refine wpl_load_one rfl 28 _ rfl rfl (OAt.s1 F1) (by kernel_rfl) ?_ | refine wpl_load_one rfl 29 _ rfl rfl (OAt.s2 F1) (by kernel_rfl) ?_ | refine wpl_load_one rfl 30 _ rfl rfl (OAt.s3 F1) (by kernel_rfl) ?_) | (with_reducible show wpList _ _ _ (⟨_, Op.load _ _, _, _, _, _⟩ :: _) _ _; refine wpl_ld_trust rfl _ rfl rfl d1 OX.out ?_) | (with_reducible show wpList _ _ _ (⟨_, Op.alloc _, _, _, _, _⟩ :: _) _ _; refine wpl_mk_trust rfl rfl ?_; intro _ g5 hg5 F3 hb; have q5 := F1.lt; replace F1 := F1.later hb; replace b := later b hb; clear hb) | (with_reducible show wpList _ _ _ (⟨_, Op.store _ _ _, _, _, _, _⟩ :: _) _ _; refine wpl_set_trust rfl _ _ rfl rfl rfl OX.out F3 ?_; intro _ t1 ht1; clear F3; replace F1 := F1.tt ht1; replace b := below_touch b ht1 (by omega) (Nat.le_refl _); have F3 := t1; clear t1 ht1) | (with_reducible show Code.wp _ (Code.region _ _ true) _ _ _; (try simp only [Act.put, List.setIfInBounds_toArray, List.set_cons_succ, List.set_cons_zero]); fail))
        (try have K2 := Cells.later K0.out b)
        (try simp only [Act.put, List.setIfInBounds_toArray, List.set_cons_succ, List.set_cons_zero])
        refine region_since (by kernel_rfl) (by kernel_rfl) ?_
        repeat (first | go_big_quiet_skip | (go_big_quiet_want; first | ((with_reducible show Oper.quiet _ ⟨_, Op.load _ _, _, _, _, _⟩ _ _ _); first | (refine since_load_one 29 _ rfl rfl (OAt.s2 F1) (by kernel_rfl) ?_; simp only [Act.put, List.setIfInBounds_toArray, List.set_cons_succ, List.set_cons_zero]; go_big_quiet_on) | (refine since_load_one 30 _ rfl rfl (OAt.s3 F1) (by kernel_rfl) ?_; simp only [Act.put, List.setIfInBounds_toArray, List.set_cons_succ, List.set_cons_zero]; go_big_quiet_on) | (refine since_load_elem _ rfl rfl (TrustAt.pool F3) (HX2.out) ?_; simp only [Act.put, List.setIfInBounds_toArray, List.set_cons_succ, List.set_cons_zero]; go_big_quiet_on) | (refine since_load_elem _ rfl rfl (K2) (HK2.out) ?_; simp only [Act.put, List.setIfInBounds_toArray, List.set_cons_succ, List.set_cons_zero]; go_big_quiet_on) | (refine since_load_elem _ rfl rfl (TrustAt.key F3) (HK1.out) ?_; simp only [Act.put, List.setIfInBounds_toArray, List.set_cons_succ, List.set_cons_zero]; go_big_quiet_on)) | ((with_reducible show Oper.quiet _ ⟨_, Op.binOp BinOp.neq 27 _ _ _, _, _, _, _⟩ _ _ _); refine quiet_neB _ _ rfl rfl rfl HX2.out rfl (E4.out ()) ?_; simp only [Act.put, List.setIfInBounds_toArray, List.set_cons_succ, List.set_cons_zero]; go_big_quiet_on) | ((with_reducible show Oper.quiet _ ⟨_, Op.build _ _, _, _, _, _⟩ _ _ _); refine quiet_build _ _ rfl (bvs zero32).toArray (by kernel_rfl) ?_; simp only [Act.put, List.setIfInBounds_toArray, List.set_cons_succ, List.set_cons_zero]; go_big_quiet_on) | (go_big_quiet_op; first | go_big_quiet_on | (refine ⟨_, fun s => since_of (HH.out _ (later b s.ok)), ?_⟩; go_big_quiet_on) | (refine ⟨_, fun _ => since_of (HLS.out _), ?_⟩; go_big_quiet_on))))
        refine wpQuiet_nil ?_
        intro _ hq
        (try replace F1 := F1.later hq); (try replace F2 := F2.later hq); (try replace F3 := F3.later hq); (try replace F4 := F4.later hq); (try replace F5 := F5.later hq); (try replace F6 := F6.later hq); (try replace F7 := F7.later hq); (try replace F8 := F8.later hq); (try replace F9 := F9.later hq); (try replace G1 := G1.later hq); (try replace G2 := G2.later hq); (try replace G3 := G3.later hq); (try replace z := z.later hq); (try replace b := later b hq); (try replace bB := mixed hB bB hq)
        clear hq
        go_wp2_with fail
        go_roundw
        case rel => exact ⟨1, by simp, by omega, HA2, F1, b⟩
        case measure => simp [RowKit.intOf]; omega
    · have E4 : Hid (∀ _ : Unit, (!decide (x.pool = zero32)) = true) := fun _ => by rw [decide_eq_false hz]; rfl
      clear HHS
      by_cases hp : (l2.any fun s => decide (s.pool = x.pool)) = true
      · have hq : trustB l2 x = true := by unfold trustB; rw [hp, Bool.or_true]
        rw [hp] at HH
        clear hz hp
        by_cases h0 : 0 < k
        · obtain ⟨j, hj⟩ : ∃ j, j = k - 1 := ⟨_, rfl⟩
          obtain ⟨y, hy, oky⟩ := get_ok HL3.out (k := j) (by rw [← HN3.out]; omega)
          have K0 := hide (Cells.left (trustR0 (hcs j y hy)))
          have HK2 : Hid ((TrustT.key y).length = 32) := oky.1
          have HLS := hide (fun w => less16_any (TrustT.key y) (TrustT.key x) w oky.1 okx.1)
          have HR := hide (ra_next (f := TrustT.key) (g := (trustB l2)) HA.out h0 (by rw [← hj]; exact hy) hx hq)
          have HS := hide (fun h => ra_stop (f := TrustT.key) (g := (trustB l2)) (l := l3) (k := k + 1) h)
          have z1 := decide_eq_true (show (0 : Int) < (k : Int) by omega)
          have z2 : (k : Int) - 1 = (j : Int) := by omega
          have hkn : j < n3 := by omega
          clear hcs hx okx HA hq hy oky hj
          by_cases hB : Op.bytesLess (TrustT.key y) (TrustT.key x) = true
          · have HA2 : Hid (riseAll TrustT.key (trustB l2) (l3.take (k + 1)) = true) := by rw [HR.out]; exact hide hB
            rw [hB] at HLS
            clear HR HS hB
            go_wp2_with (first | (with_reducible show wpList _ _ _ (⟨_, Op.load _ _, _, _, _, _⟩ :: _) _ _; first | refine wpl_load_one rfl 28 _ rfl rfl (OAt.s1 F1) (by kernel_rfl) ?_ | refine wpl_load_one rfl 29 _ rfl rfl (OAt.s2 F1) (by kernel_rfl) ?_ | refine wpl_load_one rfl 30 _ rfl rfl (OAt.s3 F1) (by kernel_rfl) ?_) | (with_reducible show wpList _ _ _ (⟨_, Op.load _ _, _, _, _, _⟩ :: _) _ _; refine wpl_ld_trust rfl _ rfl rfl d1 OX.out ?_) | (with_reducible show wpList _ _ _ (⟨_, Op.alloc _, _, _, _, _⟩ :: _) _ _; refine wpl_mk_trust rfl rfl ?_; intro _ g5 hg5 F3 hb; have q5 := F1.lt; replace F1 := F1.later hb; replace b := later b hb; clear hb) | (with_reducible show wpList _ _ _ (⟨_, Op.store _ _ _, _, _, _, _⟩ :: _) _ _; refine wpl_set_trust rfl _ _ rfl rfl rfl OX.out F3 ?_; intro _ t1 ht1; clear F3; replace F1 := F1.tt ht1; replace b := below_touch b ht1 (by omega) (Nat.le_refl _); have F3 := t1; clear t1 ht1) | (with_reducible show Code.wp _ (Code.region _ _ true) _ _ _; (try simp only [Act.put, List.setIfInBounds_toArray, List.set_cons_succ, List.set_cons_zero]); fail))
            (try have K2 := Cells.later K0.out b)
            (try simp only [Act.put, List.setIfInBounds_toArray, List.set_cons_succ, List.set_cons_zero])
            refine region_since (by kernel_rfl) (by kernel_rfl) ?_
            repeat (first | go_big_quiet_skip | (go_big_quiet_want; first | ((with_reducible show Oper.quiet _ ⟨_, Op.load _ _, _, _, _, _⟩ _ _ _); first | (refine since_load_one 29 _ rfl rfl (OAt.s2 F1) (by kernel_rfl) ?_; simp only [Act.put, List.setIfInBounds_toArray, List.set_cons_succ, List.set_cons_zero]; go_big_quiet_on) | (refine since_load_one 30 _ rfl rfl (OAt.s3 F1) (by kernel_rfl) ?_; simp only [Act.put, List.setIfInBounds_toArray, List.set_cons_succ, List.set_cons_zero]; go_big_quiet_on) | (refine since_load_elem _ rfl rfl (TrustAt.pool F3) (HX2.out) ?_; simp only [Act.put, List.setIfInBounds_toArray, List.set_cons_succ, List.set_cons_zero]; go_big_quiet_on) | (refine since_load_elem _ rfl rfl (K2) (HK2.out) ?_; simp only [Act.put, List.setIfInBounds_toArray, List.set_cons_succ, List.set_cons_zero]; go_big_quiet_on) | (refine since_load_elem _ rfl rfl (TrustAt.key F3) (HK1.out) ?_; simp only [Act.put, List.setIfInBounds_toArray, List.set_cons_succ, List.set_cons_zero]; go_big_quiet_on)) | ((with_reducible show Oper.quiet _ ⟨_, Op.binOp BinOp.neq 27 _ _ _, _, _, _, _⟩ _ _ _); refine quiet_neB _ _ rfl rfl rfl HX2.out rfl (E4.out ()) ?_; simp only [Act.put, List.setIfInBounds_toArray, List.set_cons_succ, List.set_cons_zero]; go_big_quiet_on) | ((with_reducible show Oper.quiet _ ⟨_, Op.build _ _, _, _, _, _⟩ _ _ _); refine quiet_build _ _ rfl (bvs zero32).toArray (by kernel_rfl) ?_; simp only [Act.put, List.setIfInBounds_toArray, List.set_cons_succ, List.set_cons_zero]; go_big_quiet_on) | (go_big_quiet_op; first | go_big_quiet_on | (refine ⟨_, fun s => since_of (HH.out _ (later b s.ok)), ?_⟩; go_big_quiet_on) | (refine ⟨_, fun _ => since_of (HLS.out _), ?_⟩; go_big_quiet_on))))
            refine wpQuiet_nil ?_
            intro _ hq
            (try replace F1 := F1.later hq); (try replace F2 := F2.later hq); (try replace F3 := F3.later hq); (try replace F4 := F4.later hq); (try replace F5 := F5.later hq); (try replace F6 := F6.later hq); (try replace F7 := F7.later hq); (try replace F8 := F8.later hq); (try replace F9 := F9.later hq); (try replace G1 := G1.later hq); (try replace G2 := G2.later hq); (try replace G3 := G3.later hq); (try replace z := z.later hq); (try replace b := later b hq); (try replace bB := mixed hB bB hq)
            clear hq
            go_wp2_with fail
            go_roundw
            case rel => exact ⟨k + 1, by simp, by omega, HA2, F1, b⟩
            case measure => simp [RowKit.intOf]; omega
          · replace hB : Op.bytesLess (TrustT.key y) (TrustT.key x) = false := by simpa using hB
            have HA2 : Hid (riseAll TrustT.key (trustB l2) l3 = false) := HS.out (by rw [HR.out]; exact hB)
            rw [hB] at HLS
            clear HR HS hB
            go_wp2_with (first | (with_reducible show wpList _ _ _ (⟨_, Op.load _ _, _, _, _, _⟩ :: _) _ _; first | refine wpl_load_one rfl 28 _ rfl rfl (OAt.s1 F1) (by kernel_rfl) ?_ | refine wpl_load_one rfl 29 _ rfl rfl (OAt.s2 F1) (by kernel_rfl) ?_ | refine wpl_load_one rfl 30 _ rfl rfl (OAt.s3 F1) (by kernel_rfl) ?_) | (with_reducible show wpList _ _ _ (⟨_, Op.load _ _, _, _, _, _⟩ :: _) _ _; refine wpl_ld_trust rfl _ rfl rfl d1 OX.out ?_) | (with_reducible show wpList _ _ _ (⟨_, Op.alloc _, _, _, _, _⟩ :: _) _ _; refine wpl_mk_trust rfl rfl ?_; intro _ g5 hg5 F3 hb; have q5 := F1.lt; replace F1 := F1.later hb; replace b := later b hb; clear hb) | (with_reducible show wpList _ _ _ (⟨_, Op.store _ _ _, _, _, _, _⟩ :: _) _ _; refine wpl_set_trust rfl _ _ rfl rfl rfl OX.out F3 ?_; intro _ t1 ht1; clear F3; replace F1 := F1.tt ht1; replace b := below_touch b ht1 (by omega) (Nat.le_refl _); have F3 := t1; clear t1 ht1) | (with_reducible show Code.wp _ (Code.region _ _ true) _ _ _; (try simp only [Act.put, List.setIfInBounds_toArray, List.set_cons_succ, List.set_cons_zero]); fail))
            (try have K2 := Cells.later K0.out b)
            (try simp only [Act.put, List.setIfInBounds_toArray, List.set_cons_succ, List.set_cons_zero])
            refine region_since (by kernel_rfl) (by kernel_rfl) ?_
            repeat (first | go_big_quiet_skip | (go_big_quiet_want; first | ((with_reducible show Oper.quiet _ ⟨_, Op.load _ _, _, _, _, _⟩ _ _ _); first | (refine since_load_one 29 _ rfl rfl (OAt.s2 F1) (by kernel_rfl) ?_; simp only [Act.put, List.setIfInBounds_toArray, List.set_cons_succ, List.set_cons_zero]; go_big_quiet_on) | (refine since_load_one 30 _ rfl rfl (OAt.s3 F1) (by kernel_rfl) ?_; simp only [Act.put, List.setIfInBounds_toArray, List.set_cons_succ, List.set_cons_zero]; go_big_quiet_on) | (refine since_load_elem _ rfl rfl (TrustAt.pool F3) (HX2.out) ?_; simp only [Act.put, List.setIfInBounds_toArray, List.set_cons_succ, List.set_cons_zero]; go_big_quiet_on) | (refine since_load_elem _ rfl rfl (K2) (HK2.out) ?_; simp only [Act.put, List.setIfInBounds_toArray, List.set_cons_succ, List.set_cons_zero]; go_big_quiet_on) | (refine since_load_elem _ rfl rfl (TrustAt.key F3) (HK1.out) ?_; simp only [Act.put, List.setIfInBounds_toArray, List.set_cons_succ, List.set_cons_zero]; go_big_quiet_on)) | ((with_reducible show Oper.quiet _ ⟨_, Op.binOp BinOp.neq 27 _ _ _, _, _, _, _⟩ _ _ _); refine quiet_neB _ _ rfl rfl rfl HX2.out rfl (E4.out ()) ?_; simp only [Act.put, List.setIfInBounds_toArray, List.set_cons_succ, List.set_cons_zero]; go_big_quiet_on) | ((with_reducible show Oper.quiet _ ⟨_, Op.build _ _, _, _, _, _⟩ _ _ _); refine quiet_build _ _ rfl (bvs zero32).toArray (by kernel_rfl) ?_; simp only [Act.put, List.setIfInBounds_toArray, List.set_cons_succ, List.set_cons_zero]; go_big_quiet_on) | (go_big_quiet_op; first | go_big_quiet_on | (refine ⟨_, fun s => since_of (HH.out _ (later b s.ok)), ?_⟩; go_big_quiet_on) | (refine ⟨_, fun _ => since_of (HLS.out _), ?_⟩; go_big_quiet_on))))
            refine wpQuiet_nil ?_
            intro _ hq
            (try replace F1 := F1.later hq); (try replace F2 := F2.later hq); (try replace F3 := F3.later hq); (try replace F4 := F4.later hq); (try replace F5 := F5.later hq); (try replace F6 := F6.later hq); (try replace F7 := F7.later hq); (try replace F8 := F8.later hq); (try replace F9 := F9.later hq); (try replace G1 := G1.later hq); (try replace G2 := G2.later hq); (try replace G3 := G3.later hq); (try replace z := z.later hq); (try replace b := later b hq); (try replace bB := mixed hB bB hq)
            clear hq
            go_wp2_with fail
            go_ret
            exact ⟨by rw [HRES.out, S1.out, S2.out, S3.out, S4.out, S5.out, HA2.out]; rfl, b⟩
        · obtain rfl : k = 0 := by omega
          have HA2 : Hid (riseAll TrustT.key (trustB l2) (l3.take (0 + 1)) = true) := by rw [ra_first hx]; exact hide hq
          clear hcs hx okx HA hq h0
          go_wp2_with (first | (with_reducible show wpList _ _ _ (⟨_, Op.load _ _, _, _, _, _⟩ :: _) _ _; first | refine wpl_load_one rfl 28 _ rfl rfl (OAt.s1 F1) (by kernel_rfl) ?_ | refine wpl_load_one rfl 29 _ rfl rfl (OAt.s2 F1) (by kernel_rfl) ?_ | refine wpl_load_one rfl 30 _ rfl rfl (OAt.s3 F1) (by kernel_rfl) ?_) | (with_reducible show wpList _ _ _ (⟨_, Op.load _ _, _, _, _, _⟩ :: _) _ _; refine wpl_ld_trust rfl _ rfl rfl d1 OX.out ?_) | (with_reducible show wpList _ _ _ (⟨_, Op.alloc _, _, _, _, _⟩ :: _) _ _; refine wpl_mk_trust rfl rfl ?_; intro _ g5 hg5 F3 hb; have q5 := F1.lt; replace F1 := F1.later hb; replace b := later b hb; clear hb) | (with_reducible show wpList _ _ _ (⟨_, Op.store _ _ _, _, _, _, _⟩ :: _) _ _; refine wpl_set_trust rfl _ _ rfl rfl rfl OX.out F3 ?_; intro _ t1 ht1; clear F3; replace F1 := F1.tt ht1; replace b := below_touch b ht1 (by omega) (Nat.le_refl _); have F3 := t1; clear t1 ht1) | (with_reducible show Code.wp _ (Code.region _ _ true) _ _ _; (try simp only [Act.put, List.setIfInBounds_toArray, List.set_cons_succ, List.set_cons_zero]); fail))
          (try have K2 := Cells.later K0.out b)
          (try simp only [Act.put, List.setIfInBounds_toArray, List.set_cons_succ, List.set_cons_zero])
          refine region_since (by kernel_rfl) (by kernel_rfl) ?_
          repeat (first | go_big_quiet_skip | (go_big_quiet_want; first | ((with_reducible show Oper.quiet _ ⟨_, Op.load _ _, _, _, _, _⟩ _ _ _); first | (refine since_load_one 29 _ rfl rfl (OAt.s2 F1) (by kernel_rfl) ?_; simp only [Act.put, List.setIfInBounds_toArray, List.set_cons_succ, List.set_cons_zero]; go_big_quiet_on) | (refine since_load_one 30 _ rfl rfl (OAt.s3 F1) (by kernel_rfl) ?_; simp only [Act.put, List.setIfInBounds_toArray, List.set_cons_succ, List.set_cons_zero]; go_big_quiet_on) | (refine since_load_elem _ rfl rfl (TrustAt.pool F3) (HX2.out) ?_; simp only [Act.put, List.setIfInBounds_toArray, List.set_cons_succ, List.set_cons_zero]; go_big_quiet_on) | (refine since_load_elem _ rfl rfl (K2) (HK2.out) ?_; simp only [Act.put, List.setIfInBounds_toArray, List.set_cons_succ, List.set_cons_zero]; go_big_quiet_on) | (refine since_load_elem _ rfl rfl (TrustAt.key F3) (HK1.out) ?_; simp only [Act.put, List.setIfInBounds_toArray, List.set_cons_succ, List.set_cons_zero]; go_big_quiet_on)) | ((with_reducible show Oper.quiet _ ⟨_, Op.binOp BinOp.neq 27 _ _ _, _, _, _, _⟩ _ _ _); refine quiet_neB _ _ rfl rfl rfl HX2.out rfl (E4.out ()) ?_; simp only [Act.put, List.setIfInBounds_toArray, List.set_cons_succ, List.set_cons_zero]; go_big_quiet_on) | ((with_reducible show Oper.quiet _ ⟨_, Op.build _ _, _, _, _, _⟩ _ _ _); refine quiet_build _ _ rfl (bvs zero32).toArray (by kernel_rfl) ?_; simp only [Act.put, List.setIfInBounds_toArray, List.set_cons_succ, List.set_cons_zero]; go_big_quiet_on) | (go_big_quiet_op; first | go_big_quiet_on | (refine ⟨_, fun s => since_of (HH.out _ (later b s.ok)), ?_⟩; go_big_quiet_on) | (refine ⟨_, fun _ => since_of (HLS.out _), ?_⟩; go_big_quiet_on))))
          refine wpQuiet_nil ?_
          intro _ hq
          (try replace F1 := F1.later hq); (try replace F2 := F2.later hq); (try replace F3 := F3.later hq); (try replace F4 := F4.later hq); (try replace F5 := F5.later hq); (try replace F6 := F6.later hq); (try replace F7 := F7.later hq); (try replace F8 := F8.later hq); (try replace F9 := F9.later hq); (try replace G1 := G1.later hq); (try replace G2 := G2.later hq); (try replace G3 := G3.later hq); (try replace z := z.later hq); (try replace b := later b hq); (try replace bB := mixed hB bB hq)
          clear hq
          go_wp2_with fail
          go_roundw
          case rel => exact ⟨1, by simp, by omega, HA2, F1, b⟩
          case measure => simp [RowKit.intOf]; omega
      · replace hp : (l2.any fun s => decide (s.pool = x.pool)) = false := by simpa using hp
        have hq : trustB l2 x = false := by unfold trustB; rw [hp, decide_eq_false hz]; rfl
        have HA2 := hide (ra_no (f := TrustT.key) (g := trustB l2) hx hq)
        rw [hp] at HH
        clear hcs hx okx HA hq hz hp
        go_wp2_with (first | (with_reducible show wpList _ _ _ (⟨_, Op.load _ _, _, _, _, _⟩ :: _) _ _; first | refine wpl_load_one rfl 28 _ rfl rfl (OAt.s1 F1) (by kernel_rfl) ?_ | refine wpl_load_one rfl 29 _ rfl rfl (OAt.s2 F1) (by kernel_rfl) ?_ | refine wpl_load_one rfl 30 _ rfl rfl (OAt.s3 F1) (by kernel_rfl) ?_) | (with_reducible show wpList _ _ _ (⟨_, Op.load _ _, _, _, _, _⟩ :: _) _ _; refine wpl_ld_trust rfl _ rfl rfl d1 OX.out ?_) | (with_reducible show wpList _ _ _ (⟨_, Op.alloc _, _, _, _, _⟩ :: _) _ _; refine wpl_mk_trust rfl rfl ?_; intro _ g5 hg5 F3 hb; have q5 := F1.lt; replace F1 := F1.later hb; replace b := later b hb; clear hb) | (with_reducible show wpList _ _ _ (⟨_, Op.store _ _ _, _, _, _, _⟩ :: _) _ _; refine wpl_set_trust rfl _ _ rfl rfl rfl OX.out F3 ?_; intro _ t1 ht1; clear F3; replace F1 := F1.tt ht1; replace b := below_touch b ht1 (by omega) (Nat.le_refl _); have F3 := t1; clear t1 ht1) | (with_reducible show Code.wp _ (Code.region _ _ true) _ _ _; (try simp only [Act.put, List.setIfInBounds_toArray, List.set_cons_succ, List.set_cons_zero]); fail))
        (try have K2 := Cells.later K0.out b)
        (try simp only [Act.put, List.setIfInBounds_toArray, List.set_cons_succ, List.set_cons_zero])
        refine region_since (by kernel_rfl) (by kernel_rfl) ?_
        repeat (first | go_big_quiet_skip | (go_big_quiet_want; first | ((with_reducible show Oper.quiet _ ⟨_, Op.load _ _, _, _, _, _⟩ _ _ _); first | (refine since_load_one 29 _ rfl rfl (OAt.s2 F1) (by kernel_rfl) ?_; simp only [Act.put, List.setIfInBounds_toArray, List.set_cons_succ, List.set_cons_zero]; go_big_quiet_on) | (refine since_load_one 30 _ rfl rfl (OAt.s3 F1) (by kernel_rfl) ?_; simp only [Act.put, List.setIfInBounds_toArray, List.set_cons_succ, List.set_cons_zero]; go_big_quiet_on) | (refine since_load_elem _ rfl rfl (TrustAt.pool F3) (HX2.out) ?_; simp only [Act.put, List.setIfInBounds_toArray, List.set_cons_succ, List.set_cons_zero]; go_big_quiet_on) | (refine since_load_elem _ rfl rfl (K2) (HK2.out) ?_; simp only [Act.put, List.setIfInBounds_toArray, List.set_cons_succ, List.set_cons_zero]; go_big_quiet_on) | (refine since_load_elem _ rfl rfl (TrustAt.key F3) (HK1.out) ?_; simp only [Act.put, List.setIfInBounds_toArray, List.set_cons_succ, List.set_cons_zero]; go_big_quiet_on)) | ((with_reducible show Oper.quiet _ ⟨_, Op.binOp BinOp.neq 27 _ _ _, _, _, _, _⟩ _ _ _); refine quiet_neB _ _ rfl rfl rfl HX2.out rfl (E4.out ()) ?_; simp only [Act.put, List.setIfInBounds_toArray, List.set_cons_succ, List.set_cons_zero]; go_big_quiet_on) | ((with_reducible show Oper.quiet _ ⟨_, Op.build _ _, _, _, _, _⟩ _ _ _); refine quiet_build _ _ rfl (bvs zero32).toArray (by kernel_rfl) ?_; simp only [Act.put, List.setIfInBounds_toArray, List.set_cons_succ, List.set_cons_zero]; go_big_quiet_on) | (go_big_quiet_op; first | go_big_quiet_on | (refine ⟨_, fun s => since_of (HH.out _ (later b s.ok)), ?_⟩; go_big_quiet_on) | (refine ⟨_, fun _ => since_of (HLS.out _), ?_⟩; go_big_quiet_on))))
        refine wpQuiet_nil ?_
        intro _ hq
        (try replace F1 := F1.later hq); (try replace F2 := F2.later hq); (try replace F3 := F3.later hq); (try replace F4 := F4.later hq); (try replace F5 := F5.later hq); (try replace F6 := F6.later hq); (try replace F7 := F7.later hq); (try replace F8 := F8.later hq); (try replace F9 := F9.later hq); (try replace G1 := G1.later hq); (try replace G2 := G2.later hq); (try replace G3 := G3.later hq); (try replace z := z.later hq); (try replace b := later b hq); (try replace bB := mixed hB bB hq)
        clear hq
        go_wp2_with fail
        go_ret
        exact ⟨by rw [HRES.out, S1.out, S2.out, S3.out, S4.out, S5.out, HA2.out]; rfl, b⟩
  obtain rfl : n3 = k := by omega
  have hT := HA.out
  rw [List.take_of_length_le (by rw [← HN3.out]; exact Nat.le_refl _)] at hT
  have S6 := hide hT
  clear HA hT hlt hk
  go_wp2_with (with_reducible show wpList _ _ _ (⟨_, Op.load _ _, _, _, _, _⟩ :: _) _ _; first | refine wpl_load_one rfl 28 _ rfl rfl (OAt.s1 F1) (by kernel_rfl) ?_ | refine wpl_load_one rfl 29 _ rfl rfl (OAt.s2 F1) (by kernel_rfl) ?_ | refine wpl_load_one rfl 30 _ rfl rfl (OAt.s3 F1) (by kernel_rfl) ?_)
  go_ret
  exact ⟨by rw [HRES.out, S1.out, S2.out, S3.out, S4.out, S5.out, S6.out]; rfl, b⟩
theorem orefMay_any (v : Value) (o : Orig) (w : World) (h : OrigIs w v o) (hf : o.Fit) :
    Calls Try.prog 43 #[v] w fun e w' => e = .returned (.bool (mayOr o)) ∧ Below w.heap.size w w' := by
  cases hs : headB o
  · exact orefMay_no v o w h hs
  · exact orefMay_yes v o w h hf hs
end Go.Proofs.Ytbbfnpfkbbpjgaa
