/- What an origin has together: origin.total, mintageref16.sum. -/
import Derived.Test.YtbbfnpfkbbpjgaaOBOrigM
import Derived.Test.YtbbfnpfkbbpjgaaOBOrig7
import Derived.Test.YtbbfnpfkbbpjgaaOBSlEl
import Derived.Test.YtbbfnpfkbbpjgaaOBHdAt
namespace Go.Proofs.Ytbbfnpfkbbpjgaa
open Go.RowKit Go.Lib
set_option linter.unusedVariables false
set_option linter.unusedSimpArgs false

theorem numCs_flat (L : List Nat) : (numsC L).flatten = numCs L := by
  rw [numsC_flat]; unfold numCs; rw [List.map_map]; rfl
theorem numsC_length (L : List Nat) : (numsC L).length = L.length := List.length_map ..
theorem numsC_app (L M : List Nat) : numsC (L ++ M) = numsC L ++ numsC M := List.map_append ..
/-- A literal of numbers, one's own. -/
theorem wpl_numsR {ops : Array Oper} {rest : List Oper} {o : Oper} {a : Act} {w : World} {Q : Exit → Act → World → Prop} (hw : Region.wanted o (yielded ops a.tmps) = true) (n : Nat) (parts : Array (Nat × Operand)) (ho : o.op = .buildSlice 111 n parts) (L : List Nat) (hn : L.length = n)
    (hp : (parts.map fun (i, x) => (i, a.eval x)).toList = (numCs L).zipIdx.map fun x => (x.2, x.1)) (h0 : 0 < n) (h1 : n ≤ 1000)
    (hk : ∀ w2 g B, w.heap.size = B → B ≤ g → OwnR w2 B 23 1 (.slice (some ⟨g, 0, none⟩) n n) (numsC L) [] → Below w.heap.size w w2 → wpList Try.prog ops Q rest (a.put o.dst (.slice (some ⟨g, 0, none⟩) n n)) w2) : wpList Try.prog ops Q (o :: rest) a w := by
  subst hn
  obtain ⟨i, z, hi, hs, hz, hzs⟩ := u64Info
  refine BigFrame.wpList_want hw fun _ hK => ?_
  have hlen : (numCs L).length = L.length := by simp [numCs]
  have hr := run_dense (P := Try.prog) w 111 23 1 (numCs L) _ hp i Try.underlying111 hi hs z hz (by intro v hv; obtain ⟨x, hx, rfl⟩ := List.mem_map.1 hv; rfl) (by rw [hlen]; omega) (by rw [hlen]; omega)
  have ef := nums_flat L
  rw [ef, hlen] at hr
  unfold Oper.wp execOp
  simp only [ho, Sem.run_bind, hr, Result.andThen_ok]
  have hlit := World.ownsRow_lit (base := w.heap.size) (e := 23) (size := 1) w (numCs L).toArray L.length (Nat.le_refl _) (by unfold maxLen; omega) (by rw [List.size_toArray, hlen, Nat.mul_one])
  refine hK _ _ (hk _ _ _ rfl (Nat.le_refl _) ⟨?_, numsC_els L, by simp⟩ (below1 _ _))
  rw [numsC_length, numCs_flat]
  simpa using hlit
theorem amounts_next {l : List OutT} {k : Nat} {x : OutT} {A : List Nat} (h : l[k]? = some x) : numsC (A ++ (l.take (k + 1)).map OutT.amount) = numsC (A ++ (l.take k).map OutT.amount) ++ [numC x.amount] := by
  obtain ⟨hk, rfl⟩ := List.getElem?_eq_some_iff.1 h
  rw [List.take_succ_eq_append_getElem hk, List.map_append, ← List.append_assoc, numsC_app]
  rfl
theorem amounts_length {l : List OutT} {k r t : Nat} (h : k ≤ l.length) : (numsC ([r, t] ++ (l.take k).map OutT.amount)).length = k + 2 := by
  rw [numsC_length, List.length_append, List.length_map, List.length_take, Nat.min_eq_left h]
  simp; omega
/-- All that an origin has. -/
def allN (o : Orig) : List Nat := [o.reserves, o.treasury] ++ o.coins.map OutT.amount
theorem allN_sum (o : Orig) : (allN o).sum = totalN o := by unfold allN totalN; simp only [List.sum_append, List.sum_cons, List.sum_nil]; omega
theorem allN_u64 {o : Orig} (h : o.Ok) : ∀ x ∈ allN o, U64 x := by
  intro x hx
  unfold allN at hx
  simp only [List.mem_append, List.mem_cons, List.not_mem_nil, or_false, List.mem_map] at hx
  rcases hx with (rfl | rfl) | ⟨y, hy, rfl⟩
  · exact h.reserves
  · exact h.treasury
  · exact (h.coins y hy).2.2
theorem origNs_at {o : Orig} (h : o.Ok) : (origNs o)[0]? = some o.k ∧ (origNs o)[1]? = some o.epoch ∧ (origNs o)[2]? = some o.period ∧ (origNs o)[3]? = some o.rateA ∧ (origNs o)[4]? = some o.rateB ∧ (origNs o)[13]? = some o.reserves ∧ (origNs o)[14]? = some o.treasury := by
  have hp := h.plen
  unfold origNs
  refine ⟨rfl, rfl, rfl, rfl, rfl, ?_, ?_⟩
  · simp only [List.getElem?_cons_succ]
    rw [List.getElem?_append_right (by omega), hp]
    rfl
  · simp only [List.getElem?_cons_succ]
    rw [List.getElem?_append_right (by omega), hp]
    rfl
set_option maxRecDepth 100000 in
set_option maxHeartbeats 1600000 in
theorem total_any (v : Value) (o : Orig) (w : World) (h : OrigIs w v o) (hm : o.coins.length ≤ 100000) :
    Calls Try.prog 74 #[v] w fun e w' => e = .returned (.tuple #[.int .u64 ((if totalN o < 18446744073709551616 then totalN o else 0 : Nat) : Int), .int .i64 (if totalN o < 18446744073709551616 then 0 else 9)]) ∧ Below w.heap.size w w' := by
  have HS := hide (fun v w (hv : Sl w v 1 (numsC (allN o))) => wsum_any v (allN o) w hv (allN_u64 h.ok))
  have HAT := origNs_at h.ok
  have hl15 := origNs_length h.ok
  obtain ⟨v1, v2, v3, rfl, h1, h2, h3, ok⟩ := h
  rw [allN_sum] at HS
  obtain ⟨a1, c1, rfl, -⟩ := h1.shape
  have o2 := h2.one'
  have o3 := h3.one'
  have h13 := hide HAT.2.2.2.2.2.1
  have h14 := hide HAT.2.2.2.2.2.2
  have hnl := ok.nonce
  have HL := hide ok.coins
  obtain ⟨R, hR⟩ : ∃ R : Nat, R = (if totalN o < 18446744073709551616 then totalN o else 0) := ⟨_, rfl⟩
  obtain ⟨E, hE⟩ : ∃ E : Int, E = (if totalN o < 18446744073709551616 then 0 else 9) := ⟨_, rfl⟩
  rw [← hR, ← hE] at HS
  rw [← hR, ← hE]
  have hAL : allN o = [o.reserves, o.treasury] ++ o.coins.map OutT.amount := rfl
  have HAL := hide hAL
  obtain ⟨m, hmm⟩ : ∃ m, m = o.coins.length := ⟨_, rfl⟩
  have HM := hide hmm
  rw [← hmm] at hm ⊢
  clear hR hE HAT ok h2 h3 hAL hmm
  generalize origNs o = ns at *
  generalize o.nonce = nc at *
  generalize allN o = AL at *
  generalize o.reserves = r at *
  generalize o.treasury = t at *
  generalize o.coins = l at *
  have HP0 : Hid ([(0, Value.int .u64 (r : Int)), (1, .int .u64 (t : Int))] = (numCs [r, t]).zipIdx.map fun x => (x.2, x.1)) := rfl
  have b := Below.refl w.heap.size w
  clear o
  have mF1 := True.intro
  have mO1 := True.intro
  go_enter Try.func74, Try.ntmps74
  go_wp2_with (first | (with_reducible show wpList _ _ _ (⟨_, Op.box _ _, _, _, _, _⟩ :: _) _ _; clear mF1; refine wpl_box_orig rfl _ rfl rfl hl15 hnl rfl o2 o3 ?_; intro _ g1 hg1 F1 hb; (try replace F1 := F1.later hb); (try replace F2 := F2.later hb); (try replace F3 := F3.later hb); (try replace F4 := F4.later hb); (try replace F5 := F5.later hb); (try replace F6 := F6.later hb); (try replace F7 := F7.later hb); (try replace F8 := F8.later hb); (try replace F9 := F9.later hb); (try replace G1 := G1.later hb); (try replace G2 := G2.later hb); (try replace G3 := G3.later hb); (try replace z := z.later hb); (try replace b := later b hb); (try replace bB := mixed hB bB hb); clear hb) | (with_reducible show wpList _ _ _ (⟨_, Op.load 23 _, _, _, _, _⟩ :: _) _ _; first | refine wpl_load_one rfl 23 _ rfl rfl (OAt.num F1 h13.out) (by kernel_rfl) ?_ | refine wpl_load_one rfl 23 _ rfl rfl (OAt.num F1 h14.out) (by kernel_rfl) ?_) | ((with_reducible show wpList _ _ _ (⟨_, Op.buildSlice _ _ _, _, _, _, _⟩ :: _) _ _); clear mO1; refine wpl_numsR rfl 2 _ rfl [r, t] rfl (by simp only [List.map_toArray, List.map_cons, List.map_nil]; exact HP0.out) (by decide) (by decide) ?_; intro _ g9 B hBB hg9 O1 hb; have q1 : g1 < B := (by have := F1.lt; omega); have qw : w.heap.size ≤ B := (by have := b.size; omega); have qB := hb.size; rw [hBB] at qB; clear hBB; replace F1 := F1.later hb; replace b := later b hb; clear hb) | (with_reducible show wpList _ _ _ (⟨_, Op.load _ _, _, _, _, _⟩ :: _) _ _; refine wpl_load_one rfl 28 _ rfl rfl (OAt.s1 F1) (by kernel_rfl) ?_))
  go_loopw [4, 15] (fun s i wr => ∃ k : Nat, i = .int .i64 k ∧ k ≤ m ∧ OwnR wr B 23 1 s (numsC ([r, t] ++ (l.take k).map OutT.amount)) [] ∧ OAt wr g1 ns nc (.slice a1 m c1) v2 v3 ∧ Below w.heap.size w wr ∧ B ≤ wr.heap.size) (fun _ i _ => m - (RowKit.intOf i).toNat)
  case atStart => exact ⟨0, rfl, by omega, by simpa using O1, F1, b, qB⟩
  case round =>
    clear b O1 F1 qB
    obtain ⟨k, rfl, hk, O1, F1, b, qB⟩ := hrel
    by_cases hlt : k < m
    · obtain ⟨x, hx, okx⟩ := get_ok HL.out (k := k) (by rw [← HM.out]; exact hlt)
      obtain ⟨bb, k0, c', he, _, hcs⟩ := (h1.later b).block (by rw [← HM.out]; omega)
      simp only [Value.slice.injEq] at he
      obtain ⟨rfl, -, rfl⟩ := he
      have d1 := hcs k x hx
      have OX := hide okx
      have HN := hide (amounts_next (A := [r, t]) hx)
      have HP := hide (amounts_length (l := l) (k := k) (r := r) (t := t) (by rw [← HM.out]; omega))
      obtain ⟨aS, cS, rfl⟩ := O1.shape
      rw [HP.out] at O1 ⊢
      clear hcs hx okx
      go_wp2_with (first | (with_reducible show wpList _ _ _ (⟨_, Op.load _ _, _, _, _, _⟩ :: _) _ _; refine wpl_ld_out rfl _ rfl rfl d1 OX.out ?_) | (with_reducible show wpList _ _ _ (⟨_, Op.alloc _, _, _, _, _⟩ :: _) _ _; refine wpl_mk_out rfl rfl ?_; intro _ g5 hg5 F3 hb; replace O1 := O1.more O1.lt hg5; have q5 := F1.lt; replace O1 := O1.later hb; replace F1 := F1.later hb; replace qB := Nat.le_trans qB hb.size; replace b := later b hb; clear hb) | (with_reducible show wpList _ _ _ (⟨_, Op.store _ _ _, _, _, _, _⟩ :: _) _ _; refine wpl_set_out rfl _ _ rfl rfl rfl OX.out F3 ?_; intro _ t1 ht1; clear F3; replace O1 := O1.tt ht1; replace F1 := F1.tt ht1; replace qB := Nat.le_trans qB ht1.size; replace b := below_touch b ht1 (by omega) (Nat.le_refl _); have F3 := t1; clear t1 ht1) | (with_reducible show wpList _ _ _ (⟨_, Op.load _ _, _, _, _, _⟩ :: _) _ _; refine wpl_load_one rfl 23 _ rfl rfl (OutAt.amount F3) (by kernel_rfl) ?_) | ((with_reducible show wpList _ _ _ (⟨_, Op.buildSlice _ _ _, _, _, _, _⟩ :: _) _ _); refine wpl_row1 rfl numElem (by decide) _ rfl (v := .int .u64 ((x.amount : Nat) : Int)) (el := numC x.amount) rfl rfl rfl (numC_one _) ?_; intro _ g9 h9 O9 hb; clear F3; replace O1 := O1.later hb; replace F1 := F1.later hb; replace qB := Nat.le_trans qB hb.size; replace b := later b hb; clear hb) | ((with_reducible show wpList _ _ _ (⟨_, Op.call _, _, _, _, _⟩ :: _) _ _); refine wpl_append_row rfl _ _ numElem rfl rfl O1 rfl O9.sl O9.2.1 (k + 3) (by rw [HP.out]; rfl) (by omega) (by omega) qB ?_; intro a2 c2 w2 O2 ht2 _; replace F1 := F1.touch ht2 (O1.off q1); replace b := b.trans (ht2.below (B := w.heap.size) b.size (fun y hy => Nat.le_trans qw (O1.ge y hy))); replace qB := Nat.le_trans qB ht2.size; clear O1 O9 ht2))
      go_roundw
      case rel => exact ⟨k + 1, by simp, by omega, by rw [HN.out]; exact O2, F1, b, qB⟩
      case measure => simp [RowKit.intOf]; omega
    · obtain rfl : m = k := by omega
      have hT : l.take m = l := List.take_of_length_le (by rw [← HM.out]; exact Nat.le_refl _)
      rw [hT, ← HAL.out] at O1
      have HS2 := hide (HS.out _ _ O1.sl)
      clear hT HS hlt hk O1
      go_wp2_with (go_at_call 126; refine (HS2.out).mono ?_; rintro _ _ ⟨rfl, hc⟩; (try replace F1 := F1.later hc); (try replace F2 := F2.later hc); (try replace F3 := F3.later hc); (try replace F4 := F4.later hc); (try replace F5 := F5.later hc); (try replace F6 := F6.later hc); (try replace F7 := F7.later hc); (try replace F8 := F8.later hc); (try replace F9 := F9.later hc); (try replace G1 := G1.later hc); (try replace G2 := G2.later hc); (try replace G3 := G3.later hc); (try replace z := z.later hc); (try replace b := later b hc); (try replace bB := mixed hB bB hc); clear hc)
      go_ret2
      exact ⟨rfl, b⟩
set_option maxRecDepth 100000 in
set_option maxHeartbeats 1600000 in
theorem rsum16_any (v : Value) (o : Orig) (w : World) (h : OrigIs w v o) (hm : o.coins.length ≤ 100000) :
    Calls Try.prog 110 #[v] w fun e w' => e = .returned (.tuple #[.int .u64 ((if totalN o < 18446744073709551616 then totalN o else 0 : Nat) : Int), .bool (decide (totalN o < 18446744073709551616))]) ∧ Below w.heap.size w w' := by
  have HS := hide (fun v w (hv : Sl w v 1 (numsC (allN o))) => rsum_any v (allN o) w hv (allN_u64 h.ok) (by unfold allN; rw [List.length_append, List.length_map]; simp; omega))
  have HAT := origNs_at h.ok
  have hl15 := origNs_length h.ok
  obtain ⟨v1, v2, v3, rfl, h1, h2, h3, ok⟩ := h
  rw [allN_sum] at HS
  obtain ⟨a1, c1, rfl, -⟩ := h1.shape
  have o2 := h2.one'
  have o3 := h3.one'
  have h13 := hide HAT.2.2.2.2.2.1
  have h14 := hide HAT.2.2.2.2.2.2
  have hnl := ok.nonce
  have HL := hide ok.coins
  obtain ⟨R, hR⟩ : ∃ R : Nat, R = (if totalN o < 18446744073709551616 then totalN o else 0) := ⟨_, rfl⟩
  obtain ⟨E, hE⟩ : ∃ E : Int, E = (if totalN o < 18446744073709551616 then 0 else 9) := ⟨_, rfl⟩
  have hB : (E == 0) = decide (totalN o < 18446744073709551616) := by
    rw [hE]
    by_cases hq : totalN o < 18446744073709551616
    · rw [if_pos hq, decide_eq_true hq]; rfl
    · rw [if_neg hq, decide_eq_false hq]; rfl
  rw [← hR, ← hE] at HS
  rw [← hR, ← hB]
  have hAL : allN o = [o.reserves, o.treasury] ++ o.coins.map OutT.amount := rfl
  have HAL := hide hAL
  obtain ⟨m, hmm⟩ : ∃ m, m = o.coins.length := ⟨_, rfl⟩
  have HM := hide hmm
  rw [← hmm] at hm ⊢
  clear hR hE HAT ok h2 h3 hAL hmm hB
  generalize origNs o = ns at *
  generalize o.nonce = nc at *
  generalize allN o = AL at *
  generalize o.reserves = r at *
  generalize o.treasury = t at *
  generalize o.coins = l at *
  have HP0 : Hid ([(0, Value.int .u64 (r : Int)), (1, .int .u64 (t : Int))] = (numCs [r, t]).zipIdx.map fun x => (x.2, x.1)) := rfl
  have b := Below.refl w.heap.size w
  clear o
  have mF1 := True.intro
  have mO1 := True.intro
  go_enter Try.func110, Try.ntmps110
  go_wp2_with (first | (with_reducible show wpList _ _ _ (⟨_, Op.box _ _, _, _, _, _⟩ :: _) _ _; clear mF1; refine wpl_box_orig rfl _ rfl rfl hl15 hnl rfl o2 o3 ?_; intro _ g1 hg1 F1 hb; (try replace F1 := F1.later hb); (try replace F2 := F2.later hb); (try replace F3 := F3.later hb); (try replace F4 := F4.later hb); (try replace F5 := F5.later hb); (try replace F6 := F6.later hb); (try replace F7 := F7.later hb); (try replace F8 := F8.later hb); (try replace F9 := F9.later hb); (try replace G1 := G1.later hb); (try replace G2 := G2.later hb); (try replace G3 := G3.later hb); (try replace z := z.later hb); (try replace b := later b hb); (try replace bB := mixed hB bB hb); clear hb) | (with_reducible show wpList _ _ _ (⟨_, Op.load 23 _, _, _, _, _⟩ :: _) _ _; first | refine wpl_load_one rfl 23 _ rfl rfl (OAt.num F1 h13.out) (by kernel_rfl) ?_ | refine wpl_load_one rfl 23 _ rfl rfl (OAt.num F1 h14.out) (by kernel_rfl) ?_) | ((with_reducible show wpList _ _ _ (⟨_, Op.buildSlice _ _ _, _, _, _, _⟩ :: _) _ _); clear mO1; refine wpl_numsR rfl 2 _ rfl [r, t] rfl (by simp only [List.map_toArray, List.map_cons, List.map_nil]; exact HP0.out) (by decide) (by decide) ?_; intro _ g9 B hBB hg9 O1 hb; have q1 : g1 < B := (by have := F1.lt; omega); have qw : w.heap.size ≤ B := (by have := b.size; omega); have qB := hb.size; rw [hBB] at qB; clear hBB; replace F1 := F1.later hb; replace b := later b hb; clear hb))
  go_loopw [4, 5] (fun s i wr => ∃ k : Nat, i = .int .i64 k ∧ k ≤ m ∧ OwnR wr B 23 1 s (numsC ([r, t] ++ (l.take k).map OutT.amount)) [] ∧ OAt wr g1 ns nc (.slice a1 m c1) v2 v3 ∧ Below w.heap.size w wr ∧ B ≤ wr.heap.size) (fun _ i _ => m - (RowKit.intOf i).toNat)
  case atStart => exact ⟨0, rfl, by omega, by simpa using O1, F1, b, qB⟩
  case round =>
    clear b O1 F1 qB
    obtain ⟨k, rfl, hk, O1, F1, b, qB⟩ := hrel
    by_cases hlt : k < m
    · obtain ⟨x, hx, okx⟩ := get_ok HL.out (k := k) (by rw [← HM.out]; exact hlt)
      obtain ⟨bb, k0, c', he, _, hcs⟩ := (h1.later b).block (by rw [← HM.out]; omega)
      simp only [Value.slice.injEq] at he
      obtain ⟨rfl, -, rfl⟩ := he
      have d2 := (outR2 (hcs k x hx) okx).one
      have HN := hide (amounts_next (A := [r, t]) hx)
      have HP := hide (amounts_length (l := l) (k := k) (r := r) (t := t) (by rw [← HM.out]; omega))
      obtain ⟨aS, cS, rfl⟩ := O1.shape
      rw [HP.out] at O1 ⊢
      clear hcs hx okx
      go_wp2_with (first | (with_reducible show wpList _ _ _ (⟨_, Op.load _ _, _, _, _, _⟩ :: _) _ _; refine wpl_load_one rfl 28 _ rfl rfl (OAt.s1 F1) (by kernel_rfl) ?_) | (with_reducible show wpList _ _ _ (⟨_, Op.load _ _, _, _, _, _⟩ :: _) _ _; refine wpl_load_one rfl 23 _ rfl rfl d2 (by kernel_rfl) ?_) | ((with_reducible show wpList _ _ _ (⟨_, Op.buildSlice _ _ _, _, _, _, _⟩ :: _) _ _); refine wpl_row1 rfl numElem (by decide) _ rfl (v := .int .u64 ((x.amount : Nat) : Int)) (el := numC x.amount) rfl rfl rfl (numC_one _) ?_; intro _ g9 h9 O9 hb; replace O1 := O1.later hb; replace F1 := F1.later hb; replace qB := Nat.le_trans qB hb.size; replace b := later b hb; clear hb) | ((with_reducible show wpList _ _ _ (⟨_, Op.call _, _, _, _, _⟩ :: _) _ _); refine wpl_append_row rfl _ _ numElem rfl rfl O1 rfl O9.sl O9.2.1 (k + 3) (by rw [HP.out]; rfl) (by omega) (by omega) qB ?_; intro a2 c2 w2 O2 ht2 _; replace F1 := F1.touch ht2 (O1.off q1); replace b := b.trans (ht2.below (B := w.heap.size) b.size (fun y hy => Nat.le_trans qw (O1.ge y hy))); replace qB := Nat.le_trans qB ht2.size; clear O1 O9 ht2))
      go_roundw
      case rel => exact ⟨k + 1, by simp, by omega, by rw [HN.out]; exact O2, F1, b, qB⟩
      case measure => simp [RowKit.intOf]; omega
    · obtain rfl : m = k := by omega
      have hT : l.take m = l := List.take_of_length_le (by rw [← HM.out]; exact Nat.le_refl _)
      rw [hT, ← HAL.out] at O1
      have HS2 := hide (HS.out _ _ O1.sl)
      clear hT HS hlt hk O1
      go_wp2_with (first | (with_reducible show wpList _ _ _ (⟨_, Op.load _ _, _, _, _, _⟩ :: _) _ _; refine wpl_load_one rfl 28 _ rfl rfl (OAt.s1 F1) (by kernel_rfl) ?_) | (go_at_call 158; refine (HS2.out).mono ?_; rintro _ _ ⟨rfl, hc⟩; (try replace F1 := F1.later hc); (try replace F2 := F2.later hc); (try replace F3 := F3.later hc); (try replace F4 := F4.later hc); (try replace F5 := F5.later hc); (try replace F6 := F6.later hc); (try replace F7 := F7.later hc); (try replace F8 := F8.later hc); (try replace F9 := F9.later hc); (try replace G1 := G1.later hc); (try replace G2 := G2.later hc); (try replace G3 := G3.later hc); (try replace z := z.later hc); (try replace b := later b hc); (try replace bB := mixed hB bB hc); clear hc))
      go_ret2
      exact ⟨rfl, b⟩
end Go.Proofs.Ytbbfnpfkbbpjgaa

/- Lists all of whose things are right, and rise: plain law. -/
namespace Go.Proofs.Ytbbfnpfkbbpjgaa
open Go.RowKit Go.Lib
set_option linter.unusedVariables false
set_option linter.unusedSimpArgs false

def riseAll {α : Type} (f : α → List UInt8) (g : α → Bool) (l : List α) : Bool := risesB f l && l.all g
theorem al_next {α : Type} {g : α → Bool} {l : List α} {k : Nat} {x : α} (h : (l.take k).all g = true) (hx : l[k]? = some x) : (l.take (k + 1)).all g = g x := by
  obtain ⟨hk, rfl⟩ := List.getElem?_eq_some_iff.1 hx
  rw [List.take_succ_eq_append_getElem hk, List.all_append, h]
  simp
theorem al_stop {α : Type} {g : α → Bool} {l : List α} {k : Nat} (h : (l.take k).all g = false) : l.all g = false := by
  rw [← List.take_append_drop k l, List.all_append, h, Bool.false_and]
theorem ra_first {α : Type} {f : α → List UInt8} {g : α → Bool} {l : List α} {x : α} (hx : l[0]? = some x) : riseAll f g (l.take 1) = g x := by
  unfold riseAll
  rw [rises_one, Bool.true_and]
  exact al_next (k := 0) rfl hx
theorem ra_next {α : Type} {f : α → List UInt8} {g : α → Bool} {l : List α} {k : Nat} {x y : α} (h : riseAll f g (l.take k) = true) (h0 : 0 < k) (hy : l[k - 1]? = some y) (hx : l[k]? = some x) (hg : g x = true) : riseAll f g (l.take (k + 1)) = Op.bytesLess (f y) (f x) := by
  unfold riseAll at h ⊢
  rw [Bool.and_eq_true] at h
  rw [rises_next f l k y x hy hx h0, al_next h.2 hx, h.1, hg, Bool.true_and, Bool.and_true]
theorem ra_no {α : Type} {f : α → List UInt8} {g : α → Bool} {l : List α} {k : Nat} {x : α} (hx : l[k]? = some x) (hg : g x = false) : riseAll f g l = false := by
  unfold riseAll
  have : l.all g = false := by
    rw [List.all_eq_false]
    exact ⟨x, List.mem_of_getElem? hx, by rw [hg]; decide⟩
  rw [this, Bool.and_false]
theorem al_no {α : Type} {g : α → Bool} {l : List α} {k : Nat} {x : α} (hx : l[k]? = some x) (hg : g x = false) : l.all g = false := by
  rw [List.all_eq_false]
  exact ⟨x, List.mem_of_getElem? hx, by rw [hg]; decide⟩
theorem ra_stop {α : Type} {f : α → List UInt8} {g : α → Bool} {l : List α} {k : Nat} (h : riseAll f g (l.take k) = false) : riseAll f g l = false := by
  unfold riseAll at h ⊢
  rw [Bool.and_eq_false_iff] at h ⊢
  rcases h with h | h
  · exact .inl (rises_stop f l k h)
  · exact .inr (al_stop h)
end Go.Proofs.Ytbbfnpfkbbpjgaa

/- deed.cert. -/
namespace Go.Proofs.Ytbbfnpfkbbpjgaa
open Go.RowKit Go.Lib
set_option linter.unusedVariables false
set_option linter.unusedSimpArgs false

section
variable {P : Program} {ops : Array Oper} {rest : List Oper} {o : Oper} {a : Act} {w : World} {Q : Exit → Act → World → Prop} {K : Act → Prop}
theorem wpl_lss (hw : Region.wanted o (yielded ops a.tmps) = true) {t u : TypeId} (x y : Operand) (ho : o.op = .binOp .lss t x y u) {k : IntKind} {m n : Int} (hx : a.eval x = .int k m) (hy : a.eval y = .int k n) {B : Bool} (hB : decide (m < n) = B) (hk : wpList P ops Q rest (a.put o.dst (.bool B)) w) : wpList P ops Q (o :: rest) a w :=
  wpl_value hw _ (by
    unfold execOp
    simp only [ho, hx, hy, Sem.run_bind]
    subst hB
    simp [eqGuard, binOp, Op.intCmp]) hk
end
end Go.Proofs.Ytbbfnpfkbbpjgaa

/- The reference's Cert. -/
namespace Go.Proofs.Ytbbfnpfkbbpjgaa
open Go.RowKit Go.Lib
set_option linter.unusedVariables false
set_option linter.unusedSimpArgs false

theorem wpl_eqi {P : Program} {ops : Array Oper} {rest : List Oper} {o : Oper} {a : Act} {w : World} {Q : Exit → Act → World → Prop} (hw : Region.wanted o (yielded ops a.tmps) = true) {t u : TypeId} (x y : Operand) (ho : o.op = .binOp .eql t x y u) {k : IntKind} {m n : Int} (hx : a.eval x = .int k m) (hy : a.eval y = .int k n) {B : Bool} (hB : (m == n) = B) (hk : wpList P ops Q rest (a.put o.dst (.bool B)) w) : wpList P ops Q (o :: rest) a w :=
  wpl_value hw _ (by
    unfold execOp
    simp only [ho, hx, hy, Sem.run_bind]
    subst hB
    simp [eqGuard, binOp, Op.intCmp]) hk
theorem wpl_eqhh {ops : Array Oper} {rest : List Oper} {o : Oper} {a : Act} {w : World} {Q : Exit → Act → World → Prop} (hw : Region.wanted o (yielded ops a.tmps) = true) (x y : Operand) (ho : o.op = .binOp .eql 27 x y 27) {k l : List UInt8} (hx : a.eval x = hv k) (hy : a.eval y = hv l) (h1 : k.length = 32) (h2 : l.length = 32) {B : Bool} (hB : decide (k = l) = B) (hk : wpList Try.prog ops Q rest (a.put o.dst (.bool B)) w) : wpList Try.prog ops Q (o :: rest) a w :=
  wpl_value hw _ (by
    rw [← hB]
    exact exec_eq 27 x y ho hx hy (by kernel_rfl) (fun w => run_two_hash 9998 k l h1 h2 w) w) hk
end Go.Proofs.Ytbbfnpfkbbpjgaa
