/- Package origin: lists, May. -/
import Derived.Test.YtbbfnpfkbbpjgaaOBOrigA
import Derived.Test.YtbbfnpfkbbpjgaaOBOrigB
import Derived.Test.YtbbfnpfkbbpjgaaOBOrig2
import Derived.Test.YtbbfnpfkbbpjgaaOBStSeat
namespace Go.Proofs.Ytbbfnpfkbbpjgaa
open Go.RowKit Go.Lib
set_option linter.unusedVariables false
set_option linter.unusedSimpArgs false

theorem wpl_geq {P : Program} {ops : Array Oper} {rest : List Oper} {o : Oper} {a : Act} {w : World} {Q : Exit → Act → World → Prop} (hw : Region.wanted o (yielded ops a.tmps) = true) {t u : TypeId} (x y : Operand) (ho : o.op = .binOp .geq t x y u) {k : IntKind} {m n : Int} (hx : a.eval x = .int k m) (hy : a.eval y = .int k n) {B : Bool} (hB : decide (n ≤ m) = B) (hk : wpList P ops Q rest (a.put o.dst (.bool B)) w) : wpList P ops Q (o :: rest) a w :=
  wpl_value hw _ (by
    unfold execOp
    simp only [ho, hx, hy, Sem.run_bind]
    subst hB
    simp [eqGuard, binOp, Op.intCmp]) hk
theorem wpl_nehh {ops : Array Oper} {rest : List Oper} {o : Oper} {a : Act} {w : World} {Q : Exit → Act → World → Prop} (hw : Region.wanted o (yielded ops a.tmps) = true) (x y : Operand) (ho : o.op = .binOp .neq 27 x y 27) {k l : List UInt8} (hx : a.eval x = hv k) (hy : a.eval y = hv l) (h1 : k.length = 32) (h2 : l.length = 32) {B : Bool} (hB : (!decide (k = l)) = B) (hk : wpList Try.prog ops Q rest (a.put o.dst (.bool B)) w) : wpList Try.prog ops Q (o :: rest) a w :=
  wpl_value hw _ (by
    rw [← hB]
    exact exec_ne 27 x y ho hx hy (by kernel_rfl) (fun w => run_two_hash 9998 k l h1 h2 w) w) hk
theorem three_sizes (n1 n2 n3 : Nat) : ((decide (n1 ≤ 32) && (decide (n2 ≤ 16) && decide (n3 ≤ 32))) = true ∧ decide ((32 : Int) < (n1 : Int)) = false ∧ decide ((16 : Int) < (n2 : Int)) = false ∧ decide ((32 : Int) < (n3 : Int)) = false) ∨
    ((decide (n1 ≤ 32) && (decide (n2 ≤ 16) && decide (n3 ≤ 32))) = false ∧ (decide ((32 : Int) < (n1 : Int)) = true ∨ (decide ((32 : Int) < (n1 : Int)) = false ∧ decide ((16 : Int) < (n2 : Int)) = true) ∨ (decide ((32 : Int) < (n1 : Int)) = false ∧ decide ((16 : Int) < (n2 : Int)) = false ∧ decide ((32 : Int) < (n3 : Int)) = true))) := by
  simp only [Bool.and_eq_true, Bool.and_eq_false_iff, decide_eq_true_eq, decide_eq_false_iff_not]
  omega
theorem seat_split (x : SeatT) : (seatB x = true ∧ decide ((9223372036854775808 : Int) ≤ (x.pledge : Int)) = false ∧ decide ((9223372036854775808 : Int) ≤ (x.cost : Int)) = false ∧ decide ((1000 : Int) < (x.margin : Int)) = false) ∨
    (seatB x = false ∧ (decide ((9223372036854775808 : Int) ≤ (x.pledge : Int)) = true ∨ (decide ((9223372036854775808 : Int) ≤ (x.pledge : Int)) = false ∧ decide ((9223372036854775808 : Int) ≤ (x.cost : Int)) = true) ∨ (decide ((9223372036854775808 : Int) ≤ (x.pledge : Int)) = false ∧ decide ((9223372036854775808 : Int) ≤ (x.cost : Int)) = false ∧ decide ((1000 : Int) < (x.margin : Int)) = true))) := by
  simp only [seatB, Bool.and_eq_true, Bool.and_eq_false_iff, decide_eq_true_eq, decide_eq_false_iff_not]
  omega
set_option maxRecDepth 100000 in
set_option maxHeartbeats 3200000 in
theorem lists_any (v : Value) (o : Orig) (w : World) (h : OrigIs w v o) (hm1 : o.coins.length ≤ 100000) (hm2 : o.seats.length ≤ 100000) (hm3 : o.trusts.length ≤ 100000) :
    Calls Try.prog 77 #[v] w fun e w' => e = .returned (.bool (listsB o)) ∧ Below w.heap.size w w' := by
  have hl15 := origNs_length h.ok
  obtain ⟨v1, v2, v3, rfl, h1, h2, h3, ok⟩ := h
  obtain ⟨a1, c1, rfl, -⟩ := h1.shape
  obtain ⟨a2, c2, rfl, -⟩ := h2.shape
  obtain ⟨a3, c3, rfl, -⟩ := h3.shape
  have hnl := ok.nonce
  have HL1 := hide ok.coins
  have HL2 := hide ok.seats
  have HL3 := hide ok.trusts
  have hR : listsB o = ((decide (o.coins.length ≤ 32) && (decide (o.seats.length ≤ 16) && decide (o.trusts.length ≤ 32))) && (risesB SeatT.pool o.seats && (risesB TrustT.key o.trusts && ((o.coins.all fun x => decide (0 < x.amount)) && (o.seats.all seatB && o.trusts.all (trustB o.seats)))))) := rfl
  rw [hR]
  clear hR ok
  generalize origNs o = ns at *
  generalize o.nonce = nc at *
  generalize o.coins = l1 at *
  generalize o.seats = l2 at *
  generalize o.trusts = l3 at *
  clear o
  obtain ⟨n1, hn1⟩ : ∃ n, n = l1.length := ⟨_, rfl⟩
  obtain ⟨n2, hn2⟩ : ∃ n, n = l2.length := ⟨_, rfl⟩
  obtain ⟨n3, hn3⟩ : ∃ n, n = l3.length := ⟨_, rfl⟩
  have HN1 := hide hn1
  have HN2 := hide hn2
  have HN3 := hide hn3
  have HR1 := hide (fun (g : Nat) (w' : World) (F : OAt w' g ns nc (.slice a1 l1.length c1) (.slice a2 l2.length c2) (.slice a3 l3.length c3)) (hb : Below w.heap.size w w') => orises_seat (.pointer (some ⟨g, 0, none⟩)) l2 (fun w' => OAt w' g ns nc (.slice a1 l1.length c1) (.slice a2 l2.length c2) (.slice a3 l3.length c3) ∧ Below w.heap.size w w') (fun _ _ hp hb => ⟨hp.1.later hb, later hp.2 hb⟩) (fun k x w' hx hp => keySeat_any g k x l2 w' ns nc _ _ _ hp.1 (h2.later hp.2) hm2 hx (HL2.out x (List.mem_of_getElem? hx))) (fun x hx => (HL2.out x hx).1) hm2 w' ⟨F, hb⟩)
  have HR2 := hide (fun (g : Nat) (w' : World) (F : OAt w' g ns nc (.slice a1 l1.length c1) (.slice a2 l2.length c2) (.slice a3 l3.length c3)) (hb : Below w.heap.size w w') => orises_trust (.pointer (some ⟨g, 0, none⟩)) l3 (fun w' => OAt w' g ns nc (.slice a1 l1.length c1) (.slice a2 l2.length c2) (.slice a3 l3.length c3) ∧ Below w.heap.size w w') (fun _ _ hp hb => ⟨hp.1.later hb, later hp.2 hb⟩) (fun k x w' hx hp => keyTrust_any g k x l3 w' ns nc _ _ _ hp.1 (h3.later hp.2) hm3 hx (HL3.out x (List.mem_of_getElem? hx))) (fun x hx => (HL3.out x hx).1) hm3 w' ⟨F, hb⟩)
  have HC := hide (fun (g : Nat) (x : TrustT) (w' : World) (hp : TrustAt w' g x) (hb : Below w.heap.size w w') => contf_seat g x _ l2 w' (h2.later hb) HL2.out (by omega) hp)
  rw [← hn1, ← hn2, ← hn3] at HR1 HR2
  rw [← hn2] at HC
  rw [← hn1] at h1 hm1 ⊢
  rw [← hn2] at h2 hm2 ⊢
  rw [← hn3] at h3 hm3 ⊢
  have b := Below.refl w.heap.size w
  have HS := hide (fun _ : Unit => three_sizes n1 n2 n3)
  clear hn1 hn2 hn3
  rcases HS.out () with ⟨hs, hh⟩ | ⟨hs, hh⟩
  · rw [hs, Bool.true_and]
    clear hs HS
    have E1 := hide (fun _ : Unit => hh.1)
    have E2 := hide (fun _ : Unit => hh.2.1)
    have E3 := hide (fun _ : Unit => hh.2.2)
    clear hh
    by_cases hA : risesB SeatT.pool l2 = true
    case neg =>
      replace hA : risesB SeatT.pool l2 = false := by simpa using hA
      rw [hA] at HR1
      rw [hA]
      clear hA HR2 HC
      have mF1 := True.intro
      go_enter Try.func77, Try.ntmps77
      go_wp2_with (first | (with_reducible show wpList _ _ _ (⟨_, Op.box _ _, _, _, _, _⟩ :: _) _ _; clear mF1; refine wpl_box_orig rfl _ rfl rfl hl15 hnl rfl rfl rfl ?_; intro _ g1 hg1 F1 hb; (try replace F1 := F1.later hb); (try replace F2 := F2.later hb); (try replace F3 := F3.later hb); (try replace F4 := F4.later hb); (try replace F5 := F5.later hb); (try replace F6 := F6.later hb); (try replace F7 := F7.later hb); (try replace F8 := F8.later hb); (try replace F9 := F9.later hb); (try replace G1 := G1.later hb); (try replace G2 := G2.later hb); (try replace G3 := G3.later hb); (try replace z := z.later hb); (try replace b := later b hb); (try replace bB := mixed hB bB hb); clear hb) | (with_reducible show wpList _ _ _ (⟨_, Op.load _ _, _, _, _, _⟩ :: _) _ _; first | refine wpl_load_one rfl 28 _ rfl rfl (OAt.s1 F1) (by kernel_rfl) ?_ | refine wpl_load_one rfl 29 _ rfl rfl (OAt.s2 F1) (by kernel_rfl) ?_ | refine wpl_load_one rfl 30 _ rfl rfl (OAt.s3 F1) (by kernel_rfl) ?_) | (with_reducible show wpList _ _ _ (⟨_, Op.binOp _ _ _ _ _, _, _, _, _⟩ :: _) _ _; first | refine wpl_gtr rfl _ _ rfl rfl rfl (E1.out ()) ?_ | refine wpl_gtr rfl _ _ rfl rfl rfl (E2.out ()) ?_ | refine wpl_gtr rfl _ _ rfl rfl rfl (E3.out ()) ?_) | (go_at_call 127; (first | (refine (HR1.out _ _ F1 b).mono ?_; clear HR1) | refine (HR2.out _ _ F1 b).mono ?_); rintro _ _ ⟨rfl, hc⟩; (try replace F1 := F1.later hc); (try replace F2 := F2.later hc); (try replace F3 := F3.later hc); (try replace F4 := F4.later hc); (try replace F5 := F5.later hc); (try replace F6 := F6.later hc); (try replace F7 := F7.later hc); (try replace F8 := F8.later hc); (try replace F9 := F9.later hc); (try replace G1 := G1.later hc); (try replace G2 := G2.later hc); (try replace G3 := G3.later hc); (try replace z := z.later hc); (try replace b := later b hc); (try replace bB := mixed hB bB hc); clear hc))
      go_ret
      exact ⟨rfl, b⟩
    rw [hA] at HR1
    rw [hA, Bool.true_and]
    clear hA
    by_cases hB : risesB TrustT.key l3 = true
    case neg =>
      replace hB : risesB TrustT.key l3 = false := by simpa using hB
      rw [hB] at HR2
      rw [hB]
      clear hB HC
      have mF1 := True.intro
      go_enter Try.func77, Try.ntmps77
      go_wp2_with (first | (with_reducible show wpList _ _ _ (⟨_, Op.box _ _, _, _, _, _⟩ :: _) _ _; clear mF1; refine wpl_box_orig rfl _ rfl rfl hl15 hnl rfl rfl rfl ?_; intro _ g1 hg1 F1 hb; (try replace F1 := F1.later hb); (try replace F2 := F2.later hb); (try replace F3 := F3.later hb); (try replace F4 := F4.later hb); (try replace F5 := F5.later hb); (try replace F6 := F6.later hb); (try replace F7 := F7.later hb); (try replace F8 := F8.later hb); (try replace F9 := F9.later hb); (try replace G1 := G1.later hb); (try replace G2 := G2.later hb); (try replace G3 := G3.later hb); (try replace z := z.later hb); (try replace b := later b hb); (try replace bB := mixed hB bB hb); clear hb) | (with_reducible show wpList _ _ _ (⟨_, Op.load _ _, _, _, _, _⟩ :: _) _ _; first | refine wpl_load_one rfl 28 _ rfl rfl (OAt.s1 F1) (by kernel_rfl) ?_ | refine wpl_load_one rfl 29 _ rfl rfl (OAt.s2 F1) (by kernel_rfl) ?_ | refine wpl_load_one rfl 30 _ rfl rfl (OAt.s3 F1) (by kernel_rfl) ?_) | (with_reducible show wpList _ _ _ (⟨_, Op.binOp _ _ _ _ _, _, _, _, _⟩ :: _) _ _; first | refine wpl_gtr rfl _ _ rfl rfl rfl (E1.out ()) ?_ | refine wpl_gtr rfl _ _ rfl rfl rfl (E2.out ()) ?_ | refine wpl_gtr rfl _ _ rfl rfl rfl (E3.out ()) ?_) | (go_at_call 127; (first | (refine (HR1.out _ _ F1 b).mono ?_; clear HR1) | refine (HR2.out _ _ F1 b).mono ?_); rintro _ _ ⟨rfl, hc⟩; (try replace F1 := F1.later hc); (try replace F2 := F2.later hc); (try replace F3 := F3.later hc); (try replace F4 := F4.later hc); (try replace F5 := F5.later hc); (try replace F6 := F6.later hc); (try replace F7 := F7.later hc); (try replace F8 := F8.later hc); (try replace F9 := F9.later hc); (try replace G1 := G1.later hc); (try replace G2 := G2.later hc); (try replace G3 := G3.later hc); (try replace z := z.later hc); (try replace b := later b hc); (try replace bB := mixed hB bB hc); clear hc))
      go_ret
      exact ⟨rfl, b⟩
    rw [hB] at HR2
    rw [hB, Bool.true_and]
    clear hB
    obtain ⟨RES, hRES⟩ : ∃ R, R = ((l1.all fun x => decide (0 < x.amount)) && (l2.all seatB && l3.all (trustB l2))) := ⟨_, rfl⟩
    rw [← hRES]
    have HRES := hide hRES
    clear hRES
    have mF1 := True.intro
    go_enter Try.func77, Try.ntmps77
    go_wp2_with (first | (with_reducible show wpList _ _ _ (⟨_, Op.box _ _, _, _, _, _⟩ :: _) _ _; clear mF1; refine wpl_box_orig rfl _ rfl rfl hl15 hnl rfl rfl rfl ?_; intro _ g1 hg1 F1 hb; (try replace F1 := F1.later hb); (try replace F2 := F2.later hb); (try replace F3 := F3.later hb); (try replace F4 := F4.later hb); (try replace F5 := F5.later hb); (try replace F6 := F6.later hb); (try replace F7 := F7.later hb); (try replace F8 := F8.later hb); (try replace F9 := F9.later hb); (try replace G1 := G1.later hb); (try replace G2 := G2.later hb); (try replace G3 := G3.later hb); (try replace z := z.later hb); (try replace b := later b hb); (try replace bB := mixed hB bB hb); clear hb) | (with_reducible show wpList _ _ _ (⟨_, Op.load _ _, _, _, _, _⟩ :: _) _ _; first | refine wpl_load_one rfl 28 _ rfl rfl (OAt.s1 F1) (by kernel_rfl) ?_ | refine wpl_load_one rfl 29 _ rfl rfl (OAt.s2 F1) (by kernel_rfl) ?_ | refine wpl_load_one rfl 30 _ rfl rfl (OAt.s3 F1) (by kernel_rfl) ?_) | (with_reducible show wpList _ _ _ (⟨_, Op.binOp _ _ _ _ _, _, _, _, _⟩ :: _) _ _; first | refine wpl_gtr rfl _ _ rfl rfl rfl (E1.out ()) ?_ | refine wpl_gtr rfl _ _ rfl rfl rfl (E2.out ()) ?_ | refine wpl_gtr rfl _ _ rfl rfl rfl (E3.out ()) ?_) | (go_at_call 127; (first | (refine (HR1.out _ _ F1 b).mono ?_; clear HR1) | refine (HR2.out _ _ F1 b).mono ?_); rintro _ _ ⟨rfl, hc⟩; (try replace F1 := F1.later hc); (try replace F2 := F2.later hc); (try replace F3 := F3.later hc); (try replace F4 := F4.later hc); (try replace F5 := F5.later hc); (try replace F6 := F6.later hc); (try replace F7 := F7.later hc); (try replace F8 := F8.later hc); (try replace F9 := F9.later hc); (try replace G1 := G1.later hc); (try replace G2 := G2.later hc); (try replace G3 := G3.later hc); (try replace z := z.later hc); (try replace b := later b hc); (try replace bB := mixed hB bB hc); clear hc))
    clear HR2 E1 E2 E3
    go_loopw [42] (fun i wr => ∃ k : Nat, i = .int .i64 k ∧ k ≤ n1 ∧ Hid (((l1.take k).all fun x => decide (0 < x.amount)) = true) ∧ OAt wr g1 ns nc (.slice a1 n1 c1) (.slice a2 n2 c2) (.slice a3 n3 c3) ∧ Below w.heap.size w wr) (fun i _ => n1 - (RowKit.intOf i).toNat)
    case atStart => exact ⟨0, rfl, by omega, hide rfl, F1, b⟩
    clear b F1
    obtain ⟨k, rfl, hk, HA, F1, b⟩ := hrel
    by_cases hlt : k < n1
    case pos =>
      obtain ⟨x, hx, okx⟩ := get_ok HL1.out (k := k) (by rw [← HN1.out]; exact hlt)
      obtain ⟨bb, k0, c', he, _, hcs⟩ := (h1.later b).block (by rw [← HN1.out]; omega)
      simp only [Value.slice.injEq] at he
      obtain ⟨rfl, -, rfl⟩ := he
      have d1 := hcs k x hx
      have OX := hide okx
      clear hcs okx
      by_cases hq : 0 < x.amount
      · have HA2 : Hid (((l1.take (k + 1)).all fun x => decide (0 < x.amount)) = true) := by rw [al_next HA.out hx]; exact hide (decide_eq_true hq)
        have E4 : Hid (∀ _ : Unit, ((x.amount : Int) == 0) = false) := fun _ => beq_eq_false_iff_ne.2 (by omega)
        clear hx HA hq
        go_wp2_with (first | (with_reducible show wpList _ _ _ (⟨_, Op.load _ _, _, _, _, _⟩ :: _) _ _; refine wpl_ld_out rfl _ rfl rfl d1 OX.out ?_) | (with_reducible show wpList _ _ _ (⟨_, Op.alloc _, _, _, _, _⟩ :: _) _ _; refine wpl_mk_out rfl rfl ?_; intro _ g5 hg5 F3 hb; have q5 := F1.lt; replace F1 := F1.later hb; replace b := later b hb; clear hb) | (with_reducible show wpList _ _ _ (⟨_, Op.store _ _ _, _, _, _, _⟩ :: _) _ _; refine wpl_set_out rfl _ _ rfl rfl rfl OX.out F3 ?_; intro _ t1 ht1; clear F3; replace F1 := F1.tt ht1; replace b := below_touch b ht1 (by omega) (Nat.le_refl _); have F3 := t1; clear t1 ht1) | (with_reducible show wpList _ _ _ (⟨_, Op.load _ _, _, _, _, _⟩ :: _) _ _; refine wpl_load_one rfl 23 _ rfl rfl (OutAt.amount F3) (by kernel_rfl) ?_) | (with_reducible show wpList _ _ _ (⟨_, Op.binOp _ _ _ _ _, _, _, _, _⟩ :: _) _ _; refine wpl_eqi rfl _ _ rfl rfl rfl (E4.out ()) ?_))
        go_roundw
        case rel => exact ⟨k + 1, by simp, by omega, HA2, F1, b⟩
        case measure => simp [RowKit.intOf]; omega
      · have HA2 := hide (al_no (g := fun x => decide (0 < x.amount)) hx (decide_eq_false hq))
        have E4 : Hid (∀ _ : Unit, ((x.amount : Int) == 0) = true) := fun _ => beq_iff_eq.2 (by omega)
        clear hx HA hq
        go_wp2_with (first | (with_reducible show wpList _ _ _ (⟨_, Op.load _ _, _, _, _, _⟩ :: _) _ _; refine wpl_ld_out rfl _ rfl rfl d1 OX.out ?_) | (with_reducible show wpList _ _ _ (⟨_, Op.alloc _, _, _, _, _⟩ :: _) _ _; refine wpl_mk_out rfl rfl ?_; intro _ g5 hg5 F3 hb; have q5 := F1.lt; replace F1 := F1.later hb; replace b := later b hb; clear hb) | (with_reducible show wpList _ _ _ (⟨_, Op.store _ _ _, _, _, _, _⟩ :: _) _ _; refine wpl_set_out rfl _ _ rfl rfl rfl OX.out F3 ?_; intro _ t1 ht1; clear F3; replace F1 := F1.tt ht1; replace b := below_touch b ht1 (by omega) (Nat.le_refl _); have F3 := t1; clear t1 ht1) | (with_reducible show wpList _ _ _ (⟨_, Op.load _ _, _, _, _, _⟩ :: _) _ _; refine wpl_load_one rfl 23 _ rfl rfl (OutAt.amount F3) (by kernel_rfl) ?_) | (with_reducible show wpList _ _ _ (⟨_, Op.binOp _ _ _ _ _, _, _, _, _⟩ :: _) _ _; refine wpl_eqi rfl _ _ rfl rfl rfl (E4.out ()) ?_))
        go_ret
        exact ⟨by rw [HRES.out, HA2.out]; rfl, b⟩
    obtain rfl : n1 = k := by omega
    have R1 := HA.out
    rw [List.take_of_length_le (by rw [← HN1.out]; exact Nat.le_refl _)] at R1
    have S1 := hide R1
    clear HA R1 hlt hk
    go_wp2_with (with_reducible show wpList _ _ _ (⟨_, Op.load _ _, _, _, _, _⟩ :: _) _ _; refine wpl_load_one rfl 29 _ rfl rfl (OAt.s2 F1) (by kernel_rfl) ?_)
    go_loopw [53] (fun i wr => ∃ k : Nat, i = .int .i64 k ∧ k ≤ n2 ∧ Hid ((l2.take k).all seatB = true) ∧ OAt wr g1 ns nc (.slice a1 n1 c1) (.slice a2 n2 c2) (.slice a3 n3 c3) ∧ Below w.heap.size w wr) (fun i _ => n2 - (RowKit.intOf i).toNat)
    case atStart => exact ⟨0, rfl, by omega, hide rfl, F1, b⟩
    clear b F1
    obtain ⟨k, rfl, hk, HA, F1, b⟩ := hrel
    by_cases hlt : k < n2
    case pos =>
      obtain ⟨x, hx, okx⟩ := get_ok HL2.out (k := k) (by rw [← HN2.out]; exact hlt)
      obtain ⟨bb, k0, c', he, _, hcs⟩ := (h2.later b).block (by rw [← HN2.out]; omega)
      simp only [Value.slice.injEq] at he
      obtain ⟨rfl, -, rfl⟩ := he
      have d1 := hcs k x hx
      have OX := hide okx
      clear hcs okx
      rcases seat_split x with ⟨hq, hh⟩ | ⟨hq, hh⟩
      · have HA2 : Hid ((l2.take (k + 1)).all seatB = true) := by rw [al_next HA.out hx]; exact hide hq
        have E1 := hide (fun _ : Unit => hh.1)
        have E2 := hide (fun _ : Unit => hh.2.1)
        have E3 := hide (fun _ : Unit => hh.2.2)
        clear hx HA hq hh
        go_wp2_with (first | (with_reducible show wpList _ _ _ (⟨_, Op.load _ _, _, _, _, _⟩ :: _) _ _; refine wpl_ld_seat rfl _ rfl rfl d1 OX.out ?_) | (with_reducible show wpList _ _ _ (⟨_, Op.alloc _, _, _, _, _⟩ :: _) _ _; refine wpl_mk_seat rfl rfl ?_; intro _ g5 hg5 F3 hb; have q5 := F1.lt; replace F1 := F1.later hb; replace b := later b hb; clear hb) | (with_reducible show wpList _ _ _ (⟨_, Op.store _ _ _, _, _, _, _⟩ :: _) _ _; refine wpl_set_seat rfl _ _ rfl rfl rfl OX.out F3 ?_; intro _ t1 ht1; clear F3; replace F1 := F1.tt ht1; replace b := below_touch b ht1 (by omega) (Nat.le_refl _); have F3 := t1; clear t1 ht1) | (with_reducible show wpList _ _ _ (⟨_, Op.load 23 _, _, _, _, _⟩ :: _) _ _; first | refine wpl_load_one rfl 23 _ rfl rfl (SeatAt.pledge F3) (by kernel_rfl) ?_ | refine wpl_load_one rfl 23 _ rfl rfl (SeatAt.cost F3) (by kernel_rfl) ?_ | refine wpl_load_one rfl 23 _ rfl rfl (SeatAt.margin F3) (by kernel_rfl) ?_) | (with_reducible show wpList _ _ _ (⟨_, Op.binOp _ _ _ _ _, _, _, _, _⟩ :: _) _ _; first | refine wpl_geq rfl _ _ rfl rfl rfl (E1.out ()) ?_ | refine wpl_geq rfl _ _ rfl rfl rfl (E2.out ()) ?_ | refine wpl_gtr rfl _ _ rfl rfl rfl (E3.out ()) ?_))
        go_roundw
        case rel => exact ⟨k + 1, by simp, by omega, HA2, F1, b⟩
        case measure => simp [RowKit.intOf]; omega
      · have HA2 := hide (al_no (g := seatB) hx hq)
        clear hx HA hq
        rcases hh with hh | hh | hh
        · have E1 := hide (fun _ : Unit => hh)
          clear hh
          go_wp2_with (first | (with_reducible show wpList _ _ _ (⟨_, Op.load _ _, _, _, _, _⟩ :: _) _ _; refine wpl_ld_seat rfl _ rfl rfl d1 OX.out ?_) | (with_reducible show wpList _ _ _ (⟨_, Op.alloc _, _, _, _, _⟩ :: _) _ _; refine wpl_mk_seat rfl rfl ?_; intro _ g5 hg5 F3 hb; have q5 := F1.lt; replace F1 := F1.later hb; replace b := later b hb; clear hb) | (with_reducible show wpList _ _ _ (⟨_, Op.store _ _ _, _, _, _, _⟩ :: _) _ _; refine wpl_set_seat rfl _ _ rfl rfl rfl OX.out F3 ?_; intro _ t1 ht1; clear F3; replace F1 := F1.tt ht1; replace b := below_touch b ht1 (by omega) (Nat.le_refl _); have F3 := t1; clear t1 ht1) | (with_reducible show wpList _ _ _ (⟨_, Op.load 23 _, _, _, _, _⟩ :: _) _ _; first | refine wpl_load_one rfl 23 _ rfl rfl (SeatAt.pledge F3) (by kernel_rfl) ?_ | refine wpl_load_one rfl 23 _ rfl rfl (SeatAt.cost F3) (by kernel_rfl) ?_ | refine wpl_load_one rfl 23 _ rfl rfl (SeatAt.margin F3) (by kernel_rfl) ?_) | (with_reducible show wpList _ _ _ (⟨_, Op.binOp _ _ _ _ _, _, _, _, _⟩ :: _) _ _; first | refine wpl_geq rfl _ _ rfl rfl rfl (E1.out ()) ?_ | refine wpl_geq rfl _ _ rfl rfl rfl (E2.out ()) ?_ | refine wpl_gtr rfl _ _ rfl rfl rfl (E3.out ()) ?_))
          go_ret
          exact ⟨by rw [HRES.out, S1.out, HA2.out]; rfl, b⟩
        · have E1 := hide (fun _ : Unit => hh.1)
          have E2 := hide (fun _ : Unit => hh.2)
          clear hh
          go_wp2_with (first | (with_reducible show wpList _ _ _ (⟨_, Op.load _ _, _, _, _, _⟩ :: _) _ _; refine wpl_ld_seat rfl _ rfl rfl d1 OX.out ?_) | (with_reducible show wpList _ _ _ (⟨_, Op.alloc _, _, _, _, _⟩ :: _) _ _; refine wpl_mk_seat rfl rfl ?_; intro _ g5 hg5 F3 hb; have q5 := F1.lt; replace F1 := F1.later hb; replace b := later b hb; clear hb) | (with_reducible show wpList _ _ _ (⟨_, Op.store _ _ _, _, _, _, _⟩ :: _) _ _; refine wpl_set_seat rfl _ _ rfl rfl rfl OX.out F3 ?_; intro _ t1 ht1; clear F3; replace F1 := F1.tt ht1; replace b := below_touch b ht1 (by omega) (Nat.le_refl _); have F3 := t1; clear t1 ht1) | (with_reducible show wpList _ _ _ (⟨_, Op.load 23 _, _, _, _, _⟩ :: _) _ _; first | refine wpl_load_one rfl 23 _ rfl rfl (SeatAt.pledge F3) (by kernel_rfl) ?_ | refine wpl_load_one rfl 23 _ rfl rfl (SeatAt.cost F3) (by kernel_rfl) ?_ | refine wpl_load_one rfl 23 _ rfl rfl (SeatAt.margin F3) (by kernel_rfl) ?_) | (with_reducible show wpList _ _ _ (⟨_, Op.binOp _ _ _ _ _, _, _, _, _⟩ :: _) _ _; first | refine wpl_geq rfl _ _ rfl rfl rfl (E1.out ()) ?_ | refine wpl_geq rfl _ _ rfl rfl rfl (E2.out ()) ?_ | refine wpl_gtr rfl _ _ rfl rfl rfl (E3.out ()) ?_))
          go_ret
          exact ⟨by rw [HRES.out, S1.out, HA2.out]; rfl, b⟩
        · have E1 := hide (fun _ : Unit => hh.1)
          have E2 := hide (fun _ : Unit => hh.2.1)
          have E3 := hide (fun _ : Unit => hh.2.2)
          clear hh
          go_wp2_with (first | (with_reducible show wpList _ _ _ (⟨_, Op.load _ _, _, _, _, _⟩ :: _) _ _; refine wpl_ld_seat rfl _ rfl rfl d1 OX.out ?_) | (with_reducible show wpList _ _ _ (⟨_, Op.alloc _, _, _, _, _⟩ :: _) _ _; refine wpl_mk_seat rfl rfl ?_; intro _ g5 hg5 F3 hb; have q5 := F1.lt; replace F1 := F1.later hb; replace b := later b hb; clear hb) | (with_reducible show wpList _ _ _ (⟨_, Op.store _ _ _, _, _, _, _⟩ :: _) _ _; refine wpl_set_seat rfl _ _ rfl rfl rfl OX.out F3 ?_; intro _ t1 ht1; clear F3; replace F1 := F1.tt ht1; replace b := below_touch b ht1 (by omega) (Nat.le_refl _); have F3 := t1; clear t1 ht1) | (with_reducible show wpList _ _ _ (⟨_, Op.load 23 _, _, _, _, _⟩ :: _) _ _; first | refine wpl_load_one rfl 23 _ rfl rfl (SeatAt.pledge F3) (by kernel_rfl) ?_ | refine wpl_load_one rfl 23 _ rfl rfl (SeatAt.cost F3) (by kernel_rfl) ?_ | refine wpl_load_one rfl 23 _ rfl rfl (SeatAt.margin F3) (by kernel_rfl) ?_) | (with_reducible show wpList _ _ _ (⟨_, Op.binOp _ _ _ _ _, _, _, _, _⟩ :: _) _ _; first | refine wpl_geq rfl _ _ rfl rfl rfl (E1.out ()) ?_ | refine wpl_geq rfl _ _ rfl rfl rfl (E2.out ()) ?_ | refine wpl_gtr rfl _ _ rfl rfl rfl (E3.out ()) ?_))
          go_ret
          exact ⟨by rw [HRES.out, S1.out, HA2.out]; rfl, b⟩
    obtain rfl : n2 = k := by omega
    have R1 := HA.out
    rw [List.take_of_length_le (by rw [← HN2.out]; exact Nat.le_refl _)] at R1
    have S2 := hide R1
    clear HA R1 hlt hk
    go_wp2_with (with_reducible show wpList _ _ _ (⟨_, Op.load _ _, _, _, _, _⟩ :: _) _ _; refine wpl_load_one rfl 30 _ rfl rfl (OAt.s3 F1) (by kernel_rfl) ?_)
    go_loopw [74] (fun i wr => ∃ k : Nat, i = .int .i64 k ∧ k ≤ n3 ∧ Hid ((l3.take k).all (trustB l2) = true) ∧ OAt wr g1 ns nc (.slice a1 n1 c1) (.slice a2 n2 c2) (.slice a3 n3 c3) ∧ Below w.heap.size w wr) (fun i _ => n3 - (RowKit.intOf i).toNat)
    case atStart => exact ⟨0, rfl, by omega, hide rfl, F1, b⟩
    clear b F1
    obtain ⟨k, rfl, hk, HA, F1, b⟩ := hrel
    by_cases hlt : k < n3
    case pos =>
      obtain ⟨x, hx, okx⟩ := get_ok HL3.out (k := k) (by rw [← HN3.out]; exact hlt)
      obtain ⟨bb, k0, c', he, _, hcs⟩ := (h3.later b).block (by rw [← HN3.out]; omega)
      simp only [Value.slice.injEq] at he
      obtain ⟨rfl, -, rfl⟩ := he
      have d1 := hcs k x hx
      have OX := hide okx
      clear hcs okx
      have HX2 : Hid (x.pool.length = 32) := OX.out.2
      have HCX := hide (HC.out)
      by_cases hz : x.pool = zero32
      · have HA2 : Hid ((l3.take (k + 1)).all (trustB l2) = true) := by rw [al_next HA.out hx]; unfold trustB; rw [decide_eq_true hz]; exact hide rfl
        have E4 : Hid (∀ _ : Unit, (!decide (x.pool = zero32)) = false) := fun _ => by rw [decide_eq_true hz]; rfl
        clear hx HA hz HCX
        go_wp2_with (first | (with_reducible show wpList _ _ _ (⟨_, Op.load _ _, _, _, _, _⟩ :: _) _ _; refine wpl_ld_trust rfl _ rfl rfl d1 OX.out ?_) | (with_reducible show wpList _ _ _ (⟨_, Op.alloc _, _, _, _, _⟩ :: _) _ _; refine wpl_mk_trust rfl rfl ?_; intro _ g5 hg5 F3 hb; have q5 := F1.lt; replace F1 := F1.later hb; replace b := later b hb; clear hb) | (with_reducible show wpList _ _ _ (⟨_, Op.store _ _ _, _, _, _, _⟩ :: _) _ _; refine wpl_set_trust rfl _ _ rfl rfl rfl OX.out F3 ?_; intro _ t1 ht1; clear F3; replace F1 := F1.tt ht1; replace b := below_touch b ht1 (by omega) (Nat.le_refl _); have F3 := t1; clear t1 ht1) | (with_reducible show wpList _ _ _ (⟨_, Op.load 27 _, _, _, _, _⟩ :: _) _ _; refine wpl_load_elem rfl _ rfl rfl (TrustAt.pool F3) HX2.out ?_) | (with_reducible show wpList _ _ _ (⟨_, Op.load _ _, _, _, _, _⟩ :: _) _ _; first | refine wpl_load_one rfl 28 _ rfl rfl (OAt.s1 F1) (by kernel_rfl) ?_ | refine wpl_load_one rfl 29 _ rfl rfl (OAt.s2 F1) (by kernel_rfl) ?_ | refine wpl_load_one rfl 30 _ rfl rfl (OAt.s3 F1) (by kernel_rfl) ?_) | (with_reducible show wpList _ _ _ (⟨_, Op.build _ _, _, _, _, _⟩ :: _) _ _; refine wpl_zero_hash rfl rfl ?_) | (with_reducible show wpList _ _ _ (⟨_, Op.binOp _ _ _ _ _, _, _, _, _⟩ :: _) _ _; refine wpl_nehh rfl _ _ rfl rfl rfl HX2.out rfl (E4.out ()) ?_) | (go_at_call 130; refine (HCY.out _ _ F3 b).mono ?_; rintro _ _ ⟨rfl, hc⟩; (try replace F1 := F1.later hc); (try replace F2 := F2.later hc); (try replace F3 := F3.later hc); (try replace F4 := F4.later hc); (try replace F5 := F5.later hc); (try replace F6 := F6.later hc); (try replace F7 := F7.later hc); (try replace F8 := F8.later hc); (try replace F9 := F9.later hc); (try replace G1 := G1.later hc); (try replace G2 := G2.later hc); (try replace G3 := G3.later hc); (try replace z := z.later hc); (try replace b := later b hc); (try replace bB := mixed hB bB hc); clear hc))
        go_roundw
        case rel => exact ⟨k + 1, by simp, by omega, HA2, F1, b⟩
        case measure => simp [RowKit.intOf]; omega
      · have E4 : Hid (∀ _ : Unit, (!decide (x.pool = zero32)) = true) := fun _ => by rw [decide_eq_false hz]; rfl
        have HCY := hide (fun g w' hp hb => HCX.out g x w' hp hb)
        clear HCX
        by_cases hq : (l2.any fun s => decide (s.pool = x.pool)) = true
        · have HA2 : Hid ((l3.take (k + 1)).all (trustB l2) = true) := by rw [al_next HA.out hx]; unfold trustB; rw [hq, Bool.or_true]; exact hide rfl
          rw [hq] at HCY
          clear hx HA hz hq
          go_wp2_with (first | (with_reducible show wpList _ _ _ (⟨_, Op.load _ _, _, _, _, _⟩ :: _) _ _; refine wpl_ld_trust rfl _ rfl rfl d1 OX.out ?_) | (with_reducible show wpList _ _ _ (⟨_, Op.alloc _, _, _, _, _⟩ :: _) _ _; refine wpl_mk_trust rfl rfl ?_; intro _ g5 hg5 F3 hb; have q5 := F1.lt; replace F1 := F1.later hb; replace b := later b hb; clear hb) | (with_reducible show wpList _ _ _ (⟨_, Op.store _ _ _, _, _, _, _⟩ :: _) _ _; refine wpl_set_trust rfl _ _ rfl rfl rfl OX.out F3 ?_; intro _ t1 ht1; clear F3; replace F1 := F1.tt ht1; replace b := below_touch b ht1 (by omega) (Nat.le_refl _); have F3 := t1; clear t1 ht1) | (with_reducible show wpList _ _ _ (⟨_, Op.load 27 _, _, _, _, _⟩ :: _) _ _; refine wpl_load_elem rfl _ rfl rfl (TrustAt.pool F3) HX2.out ?_) | (with_reducible show wpList _ _ _ (⟨_, Op.load _ _, _, _, _, _⟩ :: _) _ _; first | refine wpl_load_one rfl 28 _ rfl rfl (OAt.s1 F1) (by kernel_rfl) ?_ | refine wpl_load_one rfl 29 _ rfl rfl (OAt.s2 F1) (by kernel_rfl) ?_ | refine wpl_load_one rfl 30 _ rfl rfl (OAt.s3 F1) (by kernel_rfl) ?_) | (with_reducible show wpList _ _ _ (⟨_, Op.build _ _, _, _, _, _⟩ :: _) _ _; refine wpl_zero_hash rfl rfl ?_) | (with_reducible show wpList _ _ _ (⟨_, Op.binOp _ _ _ _ _, _, _, _, _⟩ :: _) _ _; refine wpl_nehh rfl _ _ rfl rfl rfl HX2.out rfl (E4.out ()) ?_) | (go_at_call 130; refine (HCY.out _ _ F3 b).mono ?_; rintro _ _ ⟨rfl, hc⟩; (try replace F1 := F1.later hc); (try replace F2 := F2.later hc); (try replace F3 := F3.later hc); (try replace F4 := F4.later hc); (try replace F5 := F5.later hc); (try replace F6 := F6.later hc); (try replace F7 := F7.later hc); (try replace F8 := F8.later hc); (try replace F9 := F9.later hc); (try replace G1 := G1.later hc); (try replace G2 := G2.later hc); (try replace G3 := G3.later hc); (try replace z := z.later hc); (try replace b := later b hc); (try replace bB := mixed hB bB hc); clear hc))
          go_roundw
          case rel => exact ⟨k + 1, by simp, by omega, HA2, F1, b⟩
          case measure => simp [RowKit.intOf]; omega
        · replace hq : (l2.any fun s => decide (s.pool = x.pool)) = false := by simpa using hq
          have HA2 := hide (al_no (g := trustB l2) hx (by unfold trustB; rw [hq, decide_eq_false hz]; rfl))
          rw [hq] at HCY
          clear hx HA hz hq
          go_wp2_with (first | (with_reducible show wpList _ _ _ (⟨_, Op.load _ _, _, _, _, _⟩ :: _) _ _; refine wpl_ld_trust rfl _ rfl rfl d1 OX.out ?_) | (with_reducible show wpList _ _ _ (⟨_, Op.alloc _, _, _, _, _⟩ :: _) _ _; refine wpl_mk_trust rfl rfl ?_; intro _ g5 hg5 F3 hb; have q5 := F1.lt; replace F1 := F1.later hb; replace b := later b hb; clear hb) | (with_reducible show wpList _ _ _ (⟨_, Op.store _ _ _, _, _, _, _⟩ :: _) _ _; refine wpl_set_trust rfl _ _ rfl rfl rfl OX.out F3 ?_; intro _ t1 ht1; clear F3; replace F1 := F1.tt ht1; replace b := below_touch b ht1 (by omega) (Nat.le_refl _); have F3 := t1; clear t1 ht1) | (with_reducible show wpList _ _ _ (⟨_, Op.load 27 _, _, _, _, _⟩ :: _) _ _; refine wpl_load_elem rfl _ rfl rfl (TrustAt.pool F3) HX2.out ?_) | (with_reducible show wpList _ _ _ (⟨_, Op.load _ _, _, _, _, _⟩ :: _) _ _; first | refine wpl_load_one rfl 28 _ rfl rfl (OAt.s1 F1) (by kernel_rfl) ?_ | refine wpl_load_one rfl 29 _ rfl rfl (OAt.s2 F1) (by kernel_rfl) ?_ | refine wpl_load_one rfl 30 _ rfl rfl (OAt.s3 F1) (by kernel_rfl) ?_) | (with_reducible show wpList _ _ _ (⟨_, Op.build _ _, _, _, _, _⟩ :: _) _ _; refine wpl_zero_hash rfl rfl ?_) | (with_reducible show wpList _ _ _ (⟨_, Op.binOp _ _ _ _ _, _, _, _, _⟩ :: _) _ _; refine wpl_nehh rfl _ _ rfl rfl rfl HX2.out rfl (E4.out ()) ?_) | (go_at_call 130; refine (HCY.out _ _ F3 b).mono ?_; rintro _ _ ⟨rfl, hc⟩; (try replace F1 := F1.later hc); (try replace F2 := F2.later hc); (try replace F3 := F3.later hc); (try replace F4 := F4.later hc); (try replace F5 := F5.later hc); (try replace F6 := F6.later hc); (try replace F7 := F7.later hc); (try replace F8 := F8.later hc); (try replace F9 := F9.later hc); (try replace G1 := G1.later hc); (try replace G2 := G2.later hc); (try replace G3 := G3.later hc); (try replace z := z.later hc); (try replace b := later b hc); (try replace bB := mixed hB bB hc); clear hc))
          go_ret
          exact ⟨by rw [HRES.out, S1.out, S2.out, HA2.out]; rfl, b⟩
    obtain rfl : n3 = k := by omega
    have R1 := HA.out
    rw [List.take_of_length_le (by rw [← HN3.out]; exact Nat.le_refl _)] at R1
    have S3 := hide R1
    clear HA R1 hlt hk
    go_wp2_with fail
    go_ret
    exact ⟨by rw [HRES.out, S1.out, S2.out, S3.out]; rfl, b⟩
  · rw [hs, Bool.false_and]
    clear hs HS HR1 HR2 HC
    rcases hh with hh | hh | hh
    · have E1 := hide (fun _ : Unit => hh)
      clear hh
      have mF1 := True.intro
      go_enter Try.func77, Try.ntmps77
      go_wp2_with (first | (with_reducible show wpList _ _ _ (⟨_, Op.box _ _, _, _, _, _⟩ :: _) _ _; clear mF1; refine wpl_box_orig rfl _ rfl rfl hl15 hnl rfl rfl rfl ?_; intro _ g1 hg1 F1 hb; (try replace F1 := F1.later hb); (try replace F2 := F2.later hb); (try replace F3 := F3.later hb); (try replace F4 := F4.later hb); (try replace F5 := F5.later hb); (try replace F6 := F6.later hb); (try replace F7 := F7.later hb); (try replace F8 := F8.later hb); (try replace F9 := F9.later hb); (try replace G1 := G1.later hb); (try replace G2 := G2.later hb); (try replace G3 := G3.later hb); (try replace z := z.later hb); (try replace b := later b hb); (try replace bB := mixed hB bB hb); clear hb) | (with_reducible show wpList _ _ _ (⟨_, Op.load _ _, _, _, _, _⟩ :: _) _ _; first | refine wpl_load_one rfl 28 _ rfl rfl (OAt.s1 F1) (by kernel_rfl) ?_ | refine wpl_load_one rfl 29 _ rfl rfl (OAt.s2 F1) (by kernel_rfl) ?_ | refine wpl_load_one rfl 30 _ rfl rfl (OAt.s3 F1) (by kernel_rfl) ?_) | (with_reducible show wpList _ _ _ (⟨_, Op.binOp _ _ _ _ _, _, _, _, _⟩ :: _) _ _; first | refine wpl_gtr rfl _ _ rfl rfl rfl (E1.out ()) ?_ | refine wpl_gtr rfl _ _ rfl rfl rfl (E2.out ()) ?_ | refine wpl_gtr rfl _ _ rfl rfl rfl (E3.out ()) ?_) | (go_at_call 127; (first | (refine (HR1.out _ _ F1 b).mono ?_; clear HR1) | refine (HR2.out _ _ F1 b).mono ?_); rintro _ _ ⟨rfl, hc⟩; (try replace F1 := F1.later hc); (try replace F2 := F2.later hc); (try replace F3 := F3.later hc); (try replace F4 := F4.later hc); (try replace F5 := F5.later hc); (try replace F6 := F6.later hc); (try replace F7 := F7.later hc); (try replace F8 := F8.later hc); (try replace F9 := F9.later hc); (try replace G1 := G1.later hc); (try replace G2 := G2.later hc); (try replace G3 := G3.later hc); (try replace z := z.later hc); (try replace b := later b hc); (try replace bB := mixed hB bB hc); clear hc))
      go_ret
      exact ⟨rfl, b⟩
    · have E1 := hide (fun _ : Unit => hh.1)
      have E2 := hide (fun _ : Unit => hh.2)
      clear hh
      have mF1 := True.intro
      go_enter Try.func77, Try.ntmps77
      go_wp2_with (first | (with_reducible show wpList _ _ _ (⟨_, Op.box _ _, _, _, _, _⟩ :: _) _ _; clear mF1; refine wpl_box_orig rfl _ rfl rfl hl15 hnl rfl rfl rfl ?_; intro _ g1 hg1 F1 hb; (try replace F1 := F1.later hb); (try replace F2 := F2.later hb); (try replace F3 := F3.later hb); (try replace F4 := F4.later hb); (try replace F5 := F5.later hb); (try replace F6 := F6.later hb); (try replace F7 := F7.later hb); (try replace F8 := F8.later hb); (try replace F9 := F9.later hb); (try replace G1 := G1.later hb); (try replace G2 := G2.later hb); (try replace G3 := G3.later hb); (try replace z := z.later hb); (try replace b := later b hb); (try replace bB := mixed hB bB hb); clear hb) | (with_reducible show wpList _ _ _ (⟨_, Op.load _ _, _, _, _, _⟩ :: _) _ _; first | refine wpl_load_one rfl 28 _ rfl rfl (OAt.s1 F1) (by kernel_rfl) ?_ | refine wpl_load_one rfl 29 _ rfl rfl (OAt.s2 F1) (by kernel_rfl) ?_ | refine wpl_load_one rfl 30 _ rfl rfl (OAt.s3 F1) (by kernel_rfl) ?_) | (with_reducible show wpList _ _ _ (⟨_, Op.binOp _ _ _ _ _, _, _, _, _⟩ :: _) _ _; first | refine wpl_gtr rfl _ _ rfl rfl rfl (E1.out ()) ?_ | refine wpl_gtr rfl _ _ rfl rfl rfl (E2.out ()) ?_ | refine wpl_gtr rfl _ _ rfl rfl rfl (E3.out ()) ?_) | (go_at_call 127; (first | (refine (HR1.out _ _ F1 b).mono ?_; clear HR1) | refine (HR2.out _ _ F1 b).mono ?_); rintro _ _ ⟨rfl, hc⟩; (try replace F1 := F1.later hc); (try replace F2 := F2.later hc); (try replace F3 := F3.later hc); (try replace F4 := F4.later hc); (try replace F5 := F5.later hc); (try replace F6 := F6.later hc); (try replace F7 := F7.later hc); (try replace F8 := F8.later hc); (try replace F9 := F9.later hc); (try replace G1 := G1.later hc); (try replace G2 := G2.later hc); (try replace G3 := G3.later hc); (try replace z := z.later hc); (try replace b := later b hc); (try replace bB := mixed hB bB hc); clear hc))
      go_ret
      exact ⟨rfl, b⟩
    · have E1 := hide (fun _ : Unit => hh.1)
      have E2 := hide (fun _ : Unit => hh.2.1)
      have E3 := hide (fun _ : Unit => hh.2.2)
      clear hh
      have mF1 := True.intro
      go_enter Try.func77, Try.ntmps77
      go_wp2_with (first | (with_reducible show wpList _ _ _ (⟨_, Op.box _ _, _, _, _, _⟩ :: _) _ _; clear mF1; refine wpl_box_orig rfl _ rfl rfl hl15 hnl rfl rfl rfl ?_; intro _ g1 hg1 F1 hb; (try replace F1 := F1.later hb); (try replace F2 := F2.later hb); (try replace F3 := F3.later hb); (try replace F4 := F4.later hb); (try replace F5 := F5.later hb); (try replace F6 := F6.later hb); (try replace F7 := F7.later hb); (try replace F8 := F8.later hb); (try replace F9 := F9.later hb); (try replace G1 := G1.later hb); (try replace G2 := G2.later hb); (try replace G3 := G3.later hb); (try replace z := z.later hb); (try replace b := later b hb); (try replace bB := mixed hB bB hb); clear hb) | (with_reducible show wpList _ _ _ (⟨_, Op.load _ _, _, _, _, _⟩ :: _) _ _; first | refine wpl_load_one rfl 28 _ rfl rfl (OAt.s1 F1) (by kernel_rfl) ?_ | refine wpl_load_one rfl 29 _ rfl rfl (OAt.s2 F1) (by kernel_rfl) ?_ | refine wpl_load_one rfl 30 _ rfl rfl (OAt.s3 F1) (by kernel_rfl) ?_) | (with_reducible show wpList _ _ _ (⟨_, Op.binOp _ _ _ _ _, _, _, _, _⟩ :: _) _ _; first | refine wpl_gtr rfl _ _ rfl rfl rfl (E1.out ()) ?_ | refine wpl_gtr rfl _ _ rfl rfl rfl (E2.out ()) ?_ | refine wpl_gtr rfl _ _ rfl rfl rfl (E3.out ()) ?_) | (go_at_call 127; (first | (refine (HR1.out _ _ F1 b).mono ?_; clear HR1) | refine (HR2.out _ _ F1 b).mono ?_); rintro _ _ ⟨rfl, hc⟩; (try replace F1 := F1.later hc); (try replace F2 := F2.later hc); (try replace F3 := F3.later hc); (try replace F4 := F4.later hc); (try replace F5 := F5.later hc); (try replace F6 := F6.later hc); (try replace F7 := F7.later hc); (try replace F8 := F8.later hc); (try replace F9 := F9.later hc); (try replace G1 := G1.later hc); (try replace G2 := G2.later hc); (try replace G3 := G3.later hc); (try replace z := z.later hc); (try replace b := later b hc); (try replace bB := mixed hB bB hc); clear hc))
      go_ret
      exact ⟨rfl, b⟩
end Go.Proofs.Ytbbfnpfkbbpjgaa
