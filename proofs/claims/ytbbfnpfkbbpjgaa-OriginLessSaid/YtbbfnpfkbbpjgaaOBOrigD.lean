/- Package origin: May, Total. -/
import Derived.Test.YtbbfnpfkbbpjgaaOBOrigC
namespace Go.Proofs.Ytbbfnpfkbbpjgaa
open Go.RowKit Go.Lib
set_option linter.unusedVariables false
set_option linter.unusedSimpArgs false

theorem part_num (L : List Nat) (i n : Nat) (h : L[i]? = some n) (w : World) : (Go.part 23 (numCs L).toArray i).run Try.prog w = .ok (.int .u64 (n : Int)) w := by
  have h2 : (numCs L)[i]? = some (.int .u64 (n : Int)) := by unfold numCs; rw [List.getElem?_map, h]; rfl
  unfold Go.part
  simp only [Sem.run_bind, Try.isAgg23, Result.andThen_ok]
  simp [h2]
theorem run_index_num (L : List Nat) (k n : Nat) (hL : L.length = 8) (h : L[k]? = some n) (w : World) : (Instr.index 25 (.agg (numCs L).toArray) (.int .i64 (k : Int))).run Try.prog w = .ok (.int .u64 (n : Int)) w := by
  have hk : k < 8 := by rw [← hL]; exact (List.getElem?_eq_some_iff.1 h).1
  obtain ⟨i, hi, hs⟩ := Option.map_eq_some_iff.1 u64Sz
  have hp := part_num L k n h w
  simp only [Instr.index, asIntOf, Sem.run_bind, Sem.run_pure, Result.andThen_ok, run_underlying Try.underlying25]
  rw [if_pos ⟨by omega, by omega⟩]
  simp [sizeOf, typeInfo, hi, hs, hp]
theorem wpl_index_num {ops : Array Oper} {rest : List Oper} {o : Oper} {a : Act} {w : World} {Q : Exit → Act → World → Prop} (hw : Region.wanted o (yielded ops a.tmps) = true) (x y : Operand) (ho : o.op = .index 25 x y) {L : List Nat} {k n : Nat} (hx : a.eval x = .agg (numCs L).toArray) (hy : a.eval y = .int .i64 (k : Int)) (hL : L.length = 8) (h : L[k]? = some n)
    (hk : wpList Try.prog ops Q rest (a.put o.dst (.int .u64 (n : Int))) w) : wpList Try.prog ops Q (o :: rest) a w :=
  wpl_value hw _ (by
    unfold execOp
    simp only [ho, hx, hy, Sem.run_bind, run_index_num L k n hL h w, Result.andThen_ok]
    rfl) hk
theorem OAt.pars {w : World} {g : Nat} {ns : List Nat} {nc : List UInt8} {v1 v2 v3 : Value} (h : OAt w g ns nc v1 v2 v3) {A B L : List Nat} (hn : ns = A ++ (L ++ B)) (hA : A.length = 5) : Cells w g 5 (numCs L) := by
  have h1 := h.nums
  have e : numCs ns = numCs A ++ (numCs L ++ numCs B) := by rw [hn]; unfold numCs; rw [List.map_append, List.map_append]
  rw [e] at h1
  have := Cells.right (n := 5) h1 (by rw [numCs_length, hA])
  rw [Nat.zero_add] at this
  exact Cells.left this
theorem paramsSz {L : List Nat} (h : L.length = 8) : (Try.prog.info? 25).map (·.size) = some (numCs L).length := by rw [numCs_length, h]; kernel_rfl
theorem parsB_app : ∀ (l m : List Nat) (i : Nat), parsB i (l ++ m) = (parsB i l && parsB (i + l.length) m)
  | [], m, i => by simp [parsB]
  | x :: l, m, i => by
    simp only [List.cons_append, parsB, List.length_cons]
    rw [parsB_app l m (i + 1), Bool.and_assoc, show i + 1 + l.length = i + (l.length + 1) by omega]
theorem pars_next {l : List Nat} {k n : Nat} (h : parsB 0 (l.take k) = true) (hn : l[k]? = some n) : parsB 0 (l.take (k + 1)) = decide (parE k n = 0) := by
  obtain ⟨hk, rfl⟩ := List.getElem?_eq_some_iff.1 hn
  rw [List.take_succ_eq_append_getElem hk, parsB_app, h, Bool.true_and, List.length_take, Nat.min_eq_left (Nat.le_of_lt hk), Nat.zero_add]
  simp [parsB]
theorem pars_stop {l : List Nat} {k : Nat} (h : parsB 0 (l.take k) = false) : parsB 0 l = false := by
  rw [← List.take_append_drop k l, parsB_app, h, Bool.false_and]
/-- Not too many parts to go through. -/
structure Orig.Fit (o : Orig) : Prop where
  coins : o.coins.length ≤ 100000
  seats : o.seats.length ≤ 100000
  trusts : o.trusts.length ≤ 100000
theorem Orig.Few.fit {o : Orig} (h : o.Few) : o.Fit := ⟨by have := h.coins; omega, by have := h.seats; omega, by have := h.trusts; omega⟩
theorem five_bools (B1 B2 B3 B4 B5 : Bool) : (B1 = true ∧ B2 = true ∧ B3 = true ∧ B4 = true ∧ B5 = true) ∨ ((B1 && (B2 && (B3 && (B4 && B5)))) = false ∧ (B1 = false ∨ (B1 = true ∧ B2 = false) ∨ (B1 = true ∧ B2 = true ∧ B3 = false) ∨ (B1 = true ∧ B2 = true ∧ B3 = true ∧ B4 = false) ∨ (B1 = true ∧ B2 = true ∧ B3 = true ∧ B4 = true ∧ B5 = false))) := by
  cases B1 <;> cases B2 <;> cases B3 <;> cases B4 <;> cases B5 <;> simp
set_option maxRecDepth 100000 in
set_option maxHeartbeats 3200000 in
theorem oMay_any (v : Value) (o : Orig) (w : World) (h : OrigIs w v o) (hf : o.Fit) :
    Calls Try.prog 25 #[v] w fun e w' => e = .returned (.int .i64 (if mayOr o = true then 0 else 2)) ∧ Below w.heap.size w w' := by
  have HT := hide (fun (w' : World) (hb : Below w.heap.size w w') => total_any v o w' (h.later hb) hf.coins)
  have HL := hide (fun (w' : World) (hb : Below w.heap.size w w') => lists_any v o w' (h.later hb) hf.coins hf.seats hf.trusts)
  have HAT := origNs_at h.ok
  have hl15 := origNs_length h.ok
  obtain ⟨v1, v2, v3, rfl, h1, h2, h3, ok⟩ := h
  have o1 := h1.one'
  have o2 := h2.one'
  have o3 := h3.one'
  have hnl := ok.nonce
  have hpl := ok.plen
  have HP8 := hide hpl
  have hns : origNs o = [o.k, o.epoch, o.period, o.rateA, o.rateB] ++ (o.params ++ [o.reserves, o.treasury]) := rfl
  have HNS := hide hns
  have h0 := hide HAT.1
  have h1' := hide HAT.2.1
  have h2' := hide HAT.2.2.1
  have h3' := hide HAT.2.2.2.1
  have h4' := hide HAT.2.2.2.2.1
  have HPA := hide (fun (k n : Nat) (w : World) => param_any k n w)
  have HPU := hide ok.params
  have HW1 := hide (fun w => within_any o.k 1 4096 w)
  have HW2 := hide (fun w => within_any o.epoch 1 1048576 w)
  have HW3 := hide (fun w => within_any o.period 1 1048576 w)
  have HW4 := hide (fun w => within_any o.rateB 1 65536 w)
  have HW5 := hide (fun w => within_any o.rateA 1 o.rateB w)
  have hR : mayOr o = (((decide (1 ≤ o.k) && decide (o.k ≤ 4096)) && ((decide (1 ≤ o.epoch) && decide (o.epoch ≤ 1048576)) && ((decide (1 ≤ o.period) && decide (o.period ≤ 1048576)) && ((decide (1 ≤ o.rateB) && decide (o.rateB ≤ 65536)) && (decide (1 ≤ o.rateA) && decide (o.rateA ≤ o.rateB)))))) && (parsB 0 o.params && (decide (totalN o < 9223372036854775808) && listsB o))) := rfl
  rw [hR]
  clear hR ok h1 h2 h3 HAT hpl hns hf
  generalize (decide (1 ≤ o.k) && decide (o.k ≤ 4096)) = B1 at *
  generalize (decide (1 ≤ o.epoch) && decide (o.epoch ≤ 1048576)) = B2 at *
  generalize (decide (1 ≤ o.period) && decide (o.period ≤ 1048576)) = B3 at *
  generalize (decide (1 ≤ o.rateB) && decide (o.rateB ≤ 65536)) = B4 at *
  generalize (decide (1 ≤ o.rateA) && decide (o.rateA ≤ o.rateB)) = B5 at *
  generalize origNs o = ns at *
  generalize o.nonce = nc at *
  generalize totalN o = T at *
  generalize listsB o = LB at *
  generalize o.params = ps at *
  generalize o.k = k' at *
  generalize o.epoch = e' at *
  generalize o.period = p' at *
  generalize o.rateA = ra at *
  generalize o.rateB = rb at *
  generalize o.reserves = rs at *
  generalize o.treasury = tr at *
  clear o
  have b := Below.refl w.heap.size w
  rcases five_bools B1 B2 B3 B4 B5 with ⟨rfl, rfl, rfl, rfl, rfl⟩ | ⟨hB, hh⟩
  case inr =>
    rw [hB, Bool.false_and]
    clear hB HT HL HPA
    rcases hh with rfl | ⟨rfl, rfl⟩ | ⟨rfl, rfl, rfl⟩ | ⟨rfl, rfl, rfl, rfl⟩ | ⟨rfl, rfl, rfl, rfl, rfl⟩
    all_goals
      have mF1 := True.intro
      go_enter Try.func25, Try.ntmps25
      go_wp2_with (first | (with_reducible show wpList _ _ _ (⟨_, Op.box _ _, _, _, _, _⟩ :: _) _ _; clear mF1; refine wpl_box_orig rfl _ rfl rfl hl15 hnl o1 o2 o3 ?_; intro _ g1 hg1 F1 hb; (try replace F1 := F1.later hb); (try replace F2 := F2.later hb); (try replace F3 := F3.later hb); (try replace F4 := F4.later hb); (try replace F5 := F5.later hb); (try replace F6 := F6.later hb); (try replace F7 := F7.later hb); (try replace F8 := F8.later hb); (try replace F9 := F9.later hb); (try replace G1 := G1.later hb); (try replace G2 := G2.later hb); (try replace G3 := G3.later hb); (try replace z := z.later hb); (try replace b := later b hb); (try replace bB := mixed hB bB hb); clear hb) | (with_reducible show wpList _ _ _ (⟨_, Op.load 23 _, _, _, _, _⟩ :: _) _ _; first | refine wpl_load_one rfl 23 _ rfl rfl (OAt.num F1 h0.out) (by kernel_rfl) ?_ | refine wpl_load_one rfl 23 _ rfl rfl (OAt.num F1 h1'.out) (by kernel_rfl) ?_ | refine wpl_load_one rfl 23 _ rfl rfl (OAt.num F1 h2'.out) (by kernel_rfl) ?_ | refine wpl_load_one rfl 23 _ rfl rfl (OAt.num F1 h3'.out) (by kernel_rfl) ?_ | refine wpl_load_one rfl 23 _ rfl rfl (OAt.num F1 h4'.out) (by kernel_rfl) ?_) | (go_at_call 76; (first | (refine (HW1.out _).mono ?_; clear HW1) | (refine (HW2.out _).mono ?_; clear HW2) | (refine (HW3.out _).mono ?_; clear HW3) | (refine (HW4.out _).mono ?_; clear HW4) | refine (HW5.out _).mono ?_); rintro _ _ ⟨rfl, hc⟩; (try replace F1 := F1.later hc); (try replace F2 := F2.later hc); (try replace F3 := F3.later hc); (try replace F4 := F4.later hc); (try replace F5 := F5.later hc); (try replace F6 := F6.later hc); (try replace F7 := F7.later hc); (try replace F8 := F8.later hc); (try replace F9 := F9.later hc); (try replace G1 := G1.later hc); (try replace G2 := G2.later hc); (try replace G3 := G3.later hc); (try replace z := z.later hc); (try replace b := later b hc); (try replace bB := mixed hB bB hc); clear hc) | (with_reducible show wpList _ _ _ (⟨_, Op.load 25 _, _, _, _, _⟩ :: _) _ _; refine wpl_load_cells rfl 25 _ rfl rfl (OAt.pars F1 HNS.out rfl) _ Try.underlying25 rfl (paramsSz HP8.out) ?_))
      go_ret
      exact ⟨rfl, b⟩
  simp only [Bool.true_and]
  obtain ⟨RES, hRES⟩ : ∃ R : Int, R = (if (parsB 0 ps && (decide (T < 9223372036854775808) && LB)) = true then 0 else 2) := ⟨_, rfl⟩
  rw [← hRES]
  have HRES := hide hRES
  clear hRES
  have mF1 := True.intro
  go_enter Try.func25, Try.ntmps25
  go_wp2_with (first | (with_reducible show wpList _ _ _ (⟨_, Op.box _ _, _, _, _, _⟩ :: _) _ _; clear mF1; refine wpl_box_orig rfl _ rfl rfl hl15 hnl o1 o2 o3 ?_; intro _ g1 hg1 F1 hb; (try replace F1 := F1.later hb); (try replace F2 := F2.later hb); (try replace F3 := F3.later hb); (try replace F4 := F4.later hb); (try replace F5 := F5.later hb); (try replace F6 := F6.later hb); (try replace F7 := F7.later hb); (try replace F8 := F8.later hb); (try replace F9 := F9.later hb); (try replace G1 := G1.later hb); (try replace G2 := G2.later hb); (try replace G3 := G3.later hb); (try replace z := z.later hb); (try replace b := later b hb); (try replace bB := mixed hB bB hb); clear hb) | (with_reducible show wpList _ _ _ (⟨_, Op.load 23 _, _, _, _, _⟩ :: _) _ _; first | refine wpl_load_one rfl 23 _ rfl rfl (OAt.num F1 h0.out) (by kernel_rfl) ?_ | refine wpl_load_one rfl 23 _ rfl rfl (OAt.num F1 h1'.out) (by kernel_rfl) ?_ | refine wpl_load_one rfl 23 _ rfl rfl (OAt.num F1 h2'.out) (by kernel_rfl) ?_ | refine wpl_load_one rfl 23 _ rfl rfl (OAt.num F1 h3'.out) (by kernel_rfl) ?_ | refine wpl_load_one rfl 23 _ rfl rfl (OAt.num F1 h4'.out) (by kernel_rfl) ?_) | (go_at_call 76; (first | (refine (HW1.out _).mono ?_; clear HW1) | (refine (HW2.out _).mono ?_; clear HW2) | (refine (HW3.out _).mono ?_; clear HW3) | (refine (HW4.out _).mono ?_; clear HW4) | refine (HW5.out _).mono ?_); rintro _ _ ⟨rfl, hc⟩; (try replace F1 := F1.later hc); (try replace F2 := F2.later hc); (try replace F3 := F3.later hc); (try replace F4 := F4.later hc); (try replace F5 := F5.later hc); (try replace F6 := F6.later hc); (try replace F7 := F7.later hc); (try replace F8 := F8.later hc); (try replace F9 := F9.later hc); (try replace G1 := G1.later hc); (try replace G2 := G2.later hc); (try replace G3 := G3.later hc); (try replace z := z.later hc); (try replace b := later b hc); (try replace bB := mixed hB bB hc); clear hc) | (with_reducible show wpList _ _ _ (⟨_, Op.load 25 _, _, _, _, _⟩ :: _) _ _; refine wpl_load_cells rfl 25 _ rfl rfl (OAt.pars F1 HNS.out rfl) _ Try.underlying25 rfl (paramsSz HP8.out) ?_))
  clear h0 h1' h2' h3' h4' HW5
  go_loopw [39] (fun i wr => ∃ k : Nat, i = .int .i64 k ∧ k ≤ 8 ∧ Hid (parsB 0 (ps.take k) = true) ∧ OAt wr g1 ns nc v1 v2 v3 ∧ Below w.heap.size w wr) (fun i _ => 8 - (RowKit.intOf i).toNat)
  case atStart => exact ⟨0, rfl, by omega, hide rfl, F1, b⟩
  clear b F1
  obtain ⟨k, rfl, hk, HA, F1, b⟩ := hrel
  by_cases hlt : k < 8
  case pos =>
    obtain ⟨n, hn⟩ : ∃ n, ps[k]? = some n := ⟨_, List.getElem?_eq_getElem (by rw [HP8.out]; exact hlt)⟩
    have HN := hide hn
    have HPC := hide (fun w => HPA.out k n w)
    have HX := hide (pars_next HA.out hn)
    have kw : IntKind.u64.wrap (k : Int) = (k : Int) := by rw [IntKind.wrap_u64]; omega
    clear hn HT HL HPA HPU
    by_cases hq : parE k n = 0
    · have HA2 : Hid (parsB 0 (ps.take (k + 1)) = true) := by rw [HX.out]; exact hide (decide_eq_true hq)
      rw [hq] at HPC
      clear hq HX HA
      go_wp2_with (first | (with_reducible show wpList _ _ _ (⟨_, Op.index _ _ _, _, _, _, _⟩ :: _) _ _; refine wpl_index_num rfl _ _ rfl rfl rfl HP8.out HN.out ?_) | (go_at_call 24; refine (HPC.out _).mono ?_; rintro _ _ ⟨rfl, hc⟩; (try replace F1 := F1.later hc); (try replace F2 := F2.later hc); (try replace F3 := F3.later hc); (try replace F4 := F4.later hc); (try replace F5 := F5.later hc); (try replace F6 := F6.later hc); (try replace F7 := F7.later hc); (try replace F8 := F8.later hc); (try replace F9 := F9.later hc); (try replace G1 := G1.later hc); (try replace G2 := G2.later hc); (try replace G3 := G3.later hc); (try replace z := z.later hc); (try replace b := later b hc); (try replace bB := mixed hB bB hc); clear hc))
      go_roundw
      case rel => exact ⟨k + 1, by simp, by omega, HA2, F1, b⟩
      case measure => simp [RowKit.intOf]; omega
    · have HA2 : Hid (parsB 0 ps = false) := hide (pars_stop (k := k + 1) (by rw [HX.out]; exact decide_eq_false hq))
      obtain ⟨E, hE⟩ : ∃ E, E = parE k n := ⟨_, rfl⟩
      rw [← hE] at hq HPC
      have c4 : (E != 0) = true := by rw [bne_iff_ne]; exact hq
      clear hq hE HX HA
      go_wp2_with (first | (with_reducible show wpList _ _ _ (⟨_, Op.index _ _ _, _, _, _, _⟩ :: _) _ _; refine wpl_index_num rfl _ _ rfl rfl rfl HP8.out HN.out ?_) | (go_at_call 24; refine (HPC.out _).mono ?_; rintro _ _ ⟨rfl, hc⟩; (try replace F1 := F1.later hc); (try replace F2 := F2.later hc); (try replace F3 := F3.later hc); (try replace F4 := F4.later hc); (try replace F5 := F5.later hc); (try replace F6 := F6.later hc); (try replace F7 := F7.later hc); (try replace F8 := F8.later hc); (try replace F9 := F9.later hc); (try replace G1 := G1.later hc); (try replace G2 := G2.later hc); (try replace G3 := G3.later hc); (try replace z := z.later hc); (try replace b := later b hc); (try replace bB := mixed hB bB hc); clear hc))
      go_ret
      exact ⟨by rw [HRES.out, HA2.out]; rfl, b⟩
  obtain rfl : k = 8 := by omega
  have S1 := HA.out
  rw [List.take_of_length_le (by rw [HP8.out]; exact Nat.le_refl _)] at S1
  have HS1 := hide S1
  clear S1 HA hlt hk HPA HPU
  by_cases hq : T < 9223372036854775808
  · have hq2 : T < 18446744073709551616 := by omega
    rw [if_pos hq2, if_pos hq2] at HT
    have HQ : Hid (decide (T < 9223372036854775808) = true) := decide_eq_true hq
    have E5 : Hid (∀ _ : Unit, decide ((9223372036854775808 : Int) ≤ (T : Int)) = false) := fun _ => decide_eq_false (by omega)
    clear hq hq2
    cases LB
    all_goals
      go_wp2_with (first | (with_reducible show wpList _ _ _ (⟨_, Op.load _ _, _, _, _, _⟩ :: _) _ _; refine wpl_ld_orig rfl _ rfl rfl F1 ?_) | (go_at_call 74; refine (HT.out _ b).mono ?_; rintro _ _ ⟨rfl, hc⟩; (try replace F1 := F1.later hc); (try replace F2 := F2.later hc); (try replace F3 := F3.later hc); (try replace F4 := F4.later hc); (try replace F5 := F5.later hc); (try replace F6 := F6.later hc); (try replace F7 := F7.later hc); (try replace F8 := F8.later hc); (try replace F9 := F9.later hc); (try replace G1 := G1.later hc); (try replace G2 := G2.later hc); (try replace G3 := G3.later hc); (try replace z := z.later hc); (try replace b := later b hc); (try replace bB := mixed hB bB hc); clear hc) | (go_at_call 77; refine (HL.out _ b).mono ?_; rintro _ _ ⟨rfl, hc⟩; (try replace F1 := F1.later hc); (try replace F2 := F2.later hc); (try replace F3 := F3.later hc); (try replace F4 := F4.later hc); (try replace F5 := F5.later hc); (try replace F6 := F6.later hc); (try replace F7 := F7.later hc); (try replace F8 := F8.later hc); (try replace F9 := F9.later hc); (try replace G1 := G1.later hc); (try replace G2 := G2.later hc); (try replace G3 := G3.later hc); (try replace z := z.later hc); (try replace b := later b hc); (try replace bB := mixed hB bB hc); clear hc) | (with_reducible show wpList _ _ _ (⟨_, Op.binOp _ _ _ _ _, _, _, _, _⟩ :: _) _ _; refine wpl_geq rfl _ _ rfl rfl rfl (E5.out ()) ?_))
      go_ret
      exact ⟨by rw [HRES.out, HS1.out, HQ.out]; rfl, b⟩
  · have HQ : Hid (decide (T < 9223372036854775808) = false) := decide_eq_false hq
    have E5 : Hid (∀ _ : Unit, decide ((9223372036854775808 : Int) ≤ (T : Int)) = true) := fun _ => decide_eq_true (by omega)
    by_cases hq2 : T < 18446744073709551616
    · rw [if_pos hq2, if_pos hq2] at HT
      clear hq hq2 HL
      go_wp2_with (first | (with_reducible show wpList _ _ _ (⟨_, Op.load _ _, _, _, _, _⟩ :: _) _ _; refine wpl_ld_orig rfl _ rfl rfl F1 ?_) | (go_at_call 74; refine (HT.out _ b).mono ?_; rintro _ _ ⟨rfl, hc⟩; (try replace F1 := F1.later hc); (try replace F2 := F2.later hc); (try replace F3 := F3.later hc); (try replace F4 := F4.later hc); (try replace F5 := F5.later hc); (try replace F6 := F6.later hc); (try replace F7 := F7.later hc); (try replace F8 := F8.later hc); (try replace F9 := F9.later hc); (try replace G1 := G1.later hc); (try replace G2 := G2.later hc); (try replace G3 := G3.later hc); (try replace z := z.later hc); (try replace b := later b hc); (try replace bB := mixed hB bB hc); clear hc) | (with_reducible show wpList _ _ _ (⟨_, Op.binOp _ _ _ _ _, _, _, _, _⟩ :: _) _ _; refine wpl_geq rfl _ _ rfl rfl rfl (E5.out ()) ?_))
      go_ret
      exact ⟨by rw [HRES.out, HS1.out, HQ.out]; rfl, b⟩
    · rw [if_neg hq2, if_neg hq2] at HT
      clear hq hq2 HL
      go_wp2_with (first | (with_reducible show wpList _ _ _ (⟨_, Op.load _ _, _, _, _, _⟩ :: _) _ _; refine wpl_ld_orig rfl _ rfl rfl F1 ?_) | (go_at_call 74; refine (HT.out _ b).mono ?_; rintro _ _ ⟨rfl, hc⟩; (try replace F1 := F1.later hc); (try replace F2 := F2.later hc); (try replace F3 := F3.later hc); (try replace F4 := F4.later hc); (try replace F5 := F5.later hc); (try replace F6 := F6.later hc); (try replace F7 := F7.later hc); (try replace F8 := F8.later hc); (try replace F9 := F9.later hc); (try replace G1 := G1.later hc); (try replace G2 := G2.later hc); (try replace G3 := G3.later hc); (try replace z := z.later hc); (try replace b := later b hc); (try replace bB := mixed hB bB hc); clear hc))
      go_ret
      exact ⟨by rw [HRES.out, HS1.out, HQ.out]; rfl, b⟩
set_option maxRecDepth 100000 in
set_option maxHeartbeats 1600000 in
theorem oTotal_any (v : Value) (o : Orig) (w : World) (h : OrigIs w v o) (hf : o.Fit) :
    Calls Try.prog 22 #[v] w fun e w' => e = .returned (.tuple #[.int .u64 ((if mayOr o = true then totalN o else 0 : Nat) : Int), .int .i64 (if mayOr o = true then 0 else 2)]) ∧ Below w.heap.size w w' := by
  have HT := hide (fun (w' : World) (hb : Below w.heap.size w w') => total_any v o w' (h.later hb) hf.coins)
  have HM := hide (fun (w' : World) (hb : Below w.heap.size w w') => oMay_any v o w' (h.later hb) hf)
  have hl15 := origNs_length h.ok
  have hTL : mayOr o = true → totalN o < 18446744073709551616 := fun hm => by
    simp only [mayOr, Bool.and_eq_true, decide_eq_true_eq] at hm
    have := hm.2.2.1
    omega
  obtain ⟨v1, v2, v3, rfl, h1, h2, h3, ok⟩ := h
  have o1 := h1.one'
  have o2 := h2.one'
  have o3 := h3.one'
  have hnl := ok.nonce
  have b := Below.refl w.heap.size w
  clear ok h1 h2 h3 hf
  generalize origNs o = ns at *
  generalize o.nonce = nc at *
  generalize totalN o = T at *
  by_cases hm : mayOr o = true
  · have hq := hTL hm
    rw [if_pos hq, if_pos hq] at HT
    rw [if_pos hm] at HM
    rw [if_pos hm, if_pos hm]
    clear hm hq hTL
    have mF1 := True.intro
    go_enter Try.func22, Try.ntmps22
    go_wp2_with (first | (with_reducible show wpList _ _ _ (⟨_, Op.box _ _, _, _, _, _⟩ :: _) _ _; clear mF1; refine wpl_box_orig rfl _ rfl rfl hl15 hnl o1 o2 o3 ?_; intro _ g1 hg1 F1 hb; (try replace F1 := F1.later hb); (try replace F2 := F2.later hb); (try replace F3 := F3.later hb); (try replace F4 := F4.later hb); (try replace F5 := F5.later hb); (try replace F6 := F6.later hb); (try replace F7 := F7.later hb); (try replace F8 := F8.later hb); (try replace F9 := F9.later hb); (try replace G1 := G1.later hb); (try replace G2 := G2.later hb); (try replace G3 := G3.later hb); (try replace z := z.later hb); (try replace b := later b hb); (try replace bB := mixed hB bB hb); clear hb) | (with_reducible show wpList _ _ _ (⟨_, Op.load _ _, _, _, _, _⟩ :: _) _ _; refine wpl_ld_orig rfl _ rfl rfl F1 ?_) | (go_at_call 25; refine (HM.out _ b).mono ?_; rintro _ _ ⟨rfl, hc⟩; (try replace F1 := F1.later hc); (try replace F2 := F2.later hc); (try replace F3 := F3.later hc); (try replace F4 := F4.later hc); (try replace F5 := F5.later hc); (try replace F6 := F6.later hc); (try replace F7 := F7.later hc); (try replace F8 := F8.later hc); (try replace F9 := F9.later hc); (try replace G1 := G1.later hc); (try replace G2 := G2.later hc); (try replace G3 := G3.later hc); (try replace z := z.later hc); (try replace b := later b hc); (try replace bB := mixed hB bB hc); clear hc) | (go_at_call 74; refine (HT.out _ b).mono ?_; rintro _ _ ⟨rfl, hc⟩; (try replace F1 := F1.later hc); (try replace F2 := F2.later hc); (try replace F3 := F3.later hc); (try replace F4 := F4.later hc); (try replace F5 := F5.later hc); (try replace F6 := F6.later hc); (try replace F7 := F7.later hc); (try replace F8 := F8.later hc); (try replace F9 := F9.later hc); (try replace G1 := G1.later hc); (try replace G2 := G2.later hc); (try replace G3 := G3.later hc); (try replace z := z.later hc); (try replace b := later b hc); (try replace bB := mixed hB bB hc); clear hc))
    go_ret2
    exact ⟨rfl, b⟩
  · rw [if_neg hm] at HM
    rw [if_neg hm, if_neg hm]
    clear hm hTL HT
    have mF1 := True.intro
    go_enter Try.func22, Try.ntmps22
    go_wp2_with (first | (with_reducible show wpList _ _ _ (⟨_, Op.box _ _, _, _, _, _⟩ :: _) _ _; clear mF1; refine wpl_box_orig rfl _ rfl rfl hl15 hnl o1 o2 o3 ?_; intro _ g1 hg1 F1 hb; (try replace F1 := F1.later hb); (try replace F2 := F2.later hb); (try replace F3 := F3.later hb); (try replace F4 := F4.later hb); (try replace F5 := F5.later hb); (try replace F6 := F6.later hb); (try replace F7 := F7.later hb); (try replace F8 := F8.later hb); (try replace F9 := F9.later hb); (try replace G1 := G1.later hb); (try replace G2 := G2.later hb); (try replace G3 := G3.later hb); (try replace z := z.later hb); (try replace b := later b hb); (try replace bB := mixed hB bB hb); clear hb) | (with_reducible show wpList _ _ _ (⟨_, Op.load _ _, _, _, _, _⟩ :: _) _ _; refine wpl_ld_orig rfl _ rfl rfl F1 ?_) | (go_at_call 25; refine (HM.out _ b).mono ?_; rintro _ _ ⟨rfl, hc⟩; (try replace F1 := F1.later hc); (try replace F2 := F2.later hc); (try replace F3 := F3.later hc); (try replace F4 := F4.later hc); (try replace F5 := F5.later hc); (try replace F6 := F6.later hc); (try replace F7 := F7.later hc); (try replace F8 := F8.later hc); (try replace F9 := F9.later hc); (try replace G1 := G1.later hc); (try replace G2 := G2.later hc); (try replace G3 := G3.later hc); (try replace z := z.later hc); (try replace b := later b hc); (try replace bB := mixed hB bB hc); clear hc))
    go_ret2
    exact ⟨rfl, b⟩
end Go.Proofs.Ytbbfnpfkbbpjgaa
