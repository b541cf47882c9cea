/- mintageref02.Sum as a contract. -/
import Derived.Test.YtbbfnpfkbbpjgaaOBOrig6
import Derived.Test.YtbbfnpfkbbpjgaaOBHdAt
namespace Go.Proofs.Ytbbfnpfkbbpjgaa
open Go.RowKit Go.Lib
set_option linter.unusedVariables false
set_option linter.unusedSimpArgs false

theorem wideZ0 : Try.prog.built 223 [] = some #[.int .u64 0, .int .u64 0] := by kernel_rfl
theorem wideOne (n : Nat) : Try.prog.built 223 [(1, .int .u64 n)] = some #[.int .u64 0, .int .u64 n] := by kernel_rfl
theorem sum_small {l : List Nat} (h : ∀ x ∈ l, U64 x) : ∀ k, (l.take k).sum ≤ k * 18446744073709551615
  | 0 => by simp
  | k + 1 => by
    have ih := sum_small h k
    cases hx : l[k]? with
    | none =>
      have : l.length ≤ k := List.getElem?_eq_none_iff.1 hx
      rw [List.take_of_length_le (by omega)]
      rw [List.take_of_length_le this] at ih
      exact Nat.le_trans ih (Nat.mul_le_mul_right _ (by omega))
    | some x =>
      rw [sum_next hx, Nat.add_mul]
      have := h x (List.mem_of_getElem? hx)
      unfold U64 at this
      omega
theorem sum_fit {S x : Nat} {k : Nat} (h : S ≤ k * 18446744073709551615) (hk : k ≤ 1000000) (hx : U64 x) : U64 (S / 18446744073709551616) ∧ U64 (S % 18446744073709551616) ∧ S / 18446744073709551616 + 0 + (S % 18446744073709551616 + x) / 18446744073709551616 < 18446744073709551616 ∧ S / 18446744073709551616 + 0 + (S % 18446744073709551616 + x) / 18446744073709551616 = (S + x) / 18446744073709551616 ∧ (S % 18446744073709551616 + x) % 18446744073709551616 = (S + x) % 18446744073709551616 := by
  unfold U64 at *
  have h2 : S / 18446744073709551616 ≤ k := by
    have : S ≤ k * 18446744073709551616 := Nat.le_trans h (Nat.mul_le_mul_left _ (by decide))
    exact Nat.div_le_of_le_mul (by rwa [Nat.mul_comm] at this)
  refine ⟨by omega, Nat.mod_lt _ (by decide), by omega, by omega, by omega⟩
end Go.Proofs.Ytbbfnpfkbbpjgaa

/- mintageref02.Sum as a contract. -/
namespace Go.Proofs.Ytbbfnpfkbbpjgaa
open Go.RowKit Go.Lib
set_option linter.unusedVariables false
set_option linter.unusedSimpArgs false

set_option maxRecDepth 100000 in
set_option maxHeartbeats 1600000 in
theorem rsum_any (v : Value) (l : List Nat) (w : World) (hv : Sl w v 1 (numsC l)) (hl : ∀ x ∈ l, U64 x) (hm6 : l.length ≤ 1000000) :
    Calls Try.prog 158 #[v] w fun e w' => e = .returned (.tuple #[.int .u64 ((if l.sum < 18446744073709551616 then l.sum else 0 : Nat) : Int), .int .i64 (if l.sum < 18446744073709551616 then 0 else 9)]) ∧ Below w.heap.size w w' := by
  obtain ⟨a, c, rfl, hc1, hc2, _⟩ := Sl.shape hv
  obtain ⟨m, hm⟩ : ∃ m, m = l.length := ⟨_, rfl⟩
  have HM := hide hm
  rw [← hm] at hm6 ⊢
  have HL := hide hl
  obtain ⟨R, hR⟩ : ∃ R : Nat, R = (if l.sum < 18446744073709551616 then l.sum else 0) := ⟨_, rfl⟩
  obtain ⟨E, hE⟩ : ∃ E : Int, E = (if l.sum < 18446744073709551616 then 0 else 9) := ⟨_, rfl⟩
  rw [← hR, ← hE]
  have HR := hide hR
  have HE := hide hE
  have HPL := hide (fun (ah al bh bl : Nat) (w : World) (h1 : U64 ah) (h2 : U64 al) (h3 : U64 bh) (h4 : U64 bl) (hf : ah + bh + (al + bl) / 18446744073709551616 < 18446744073709551616) => refPlus_any ah al bh bl w h1 h2 h3 h4 hf)
  have b := Below.refl w.heap.size w
  clear hc1 hc2 hm hl hR hE
  go_enter Try.func158, Try.ntmps158
  go_wp2_with (first | ((with_reducible show wpList _ _ _ (⟨_, Op.build 223 _, _, _, _, _⟩ :: _) _ _); refine wpl_built0 rfl 223 rfl (cs := [.int .u64 0, .int .u64 0]) wideZ0 ?_) | (with_reducible show wpList _ _ _ (⟨_, Op.alloc _, _, _, _, _⟩ :: _) _ _; refine wpl_mk rfl 223 rfl wideZero (cs := [.int .u64 0, .int .u64 0]) rfl ?_; intro _ g hg F1 hb; replace b := later b hb; clear hb) | ((with_reducible show wpList _ _ _ (⟨_, Op.store _ _ _, _, _, _, _⟩ :: _) _ _); refine wpl_fill rfl 223 _ _ rfl (cs := [.int .u64 0, .int .u64 0]) rfl rfl F1 wideSz rfl (by intro v hv; simp at hv; subst hv; rfl) ?_; intro _ t1 ht1; clear F1; replace b := below_touch b ht1 hg (Nat.le_refl _); have F1 := t1; clear t1 ht1))
  go_loopw [5] (fun i wr => ∃ k : Nat, i = .int .i64 k ∧ k ≤ m ∧ Arr wr g 223 [.int .u64 (((l.take k).sum / 18446744073709551616 : Nat) : Int), .int .u64 (((l.take k).sum % 18446744073709551616 : Nat) : Int)] ∧ Below w.heap.size w wr) (fun i _ => m - (RowKit.intOf i).toNat)
  case atStart => exact ⟨0, rfl, by omega, by simpa using F1, b⟩
  case round =>
    clear b F1
    obtain ⟨k, rfl, hk, F1, b⟩ := hrel
    by_cases hlt : k < m
    · obtain ⟨x, hx⟩ : ∃ x, l[k]? = some x := ⟨_, List.getElem?_eq_getElem (by rw [← HM.out]; exact hlt)⟩
      have hx64 := HL.out x (List.mem_of_getElem? hx)
      obtain ⟨bb, k0, c', he, hbb, hcs⟩ := Sl.block hv (by rw [← HM.out]; omega)
      simp only [Value.slice.injEq] at he
      obtain ⟨rfl, -, rfl⟩ := he
      have d0 := hide (hcs k x hx).num
      have d1 := (b.cell (p := ⟨bb, k0 + k, none⟩) hbb).trans d0.out
      have HN := hide (sum_next hx)
      obtain ⟨f1, f2, f3, f4, f5⟩ := sum_fit (sum_small HL.out k) (by omega) hx64
      have HP := hide (fun w => by have q := HPL.out ((l.take k).sum / 18446744073709551616) ((l.take k).sum % 18446744073709551616) 0 x w f1 f2 (by show U64 0; decide) hx64 f3; rw [f4, f5, ← HN.out] at q; exact q)
      have HB := hide (wideOne x)
      clear hcs hx hx64 f1 f2 f3 f4 f5 HPL
      generalize (l.take k).sum / 18446744073709551616 = hi at *
      generalize (l.take k).sum % 18446744073709551616 = lo at *
      obtain ⟨hi2, hhi2⟩ : ∃ q, q = (l.take (k + 1)).sum / 18446744073709551616 := ⟨_, rfl⟩
      obtain ⟨lo2, hlo2⟩ : ∃ q, q = (l.take (k + 1)).sum % 18446744073709551616 := ⟨_, rfl⟩
      rw [← hhi2, ← hlo2] at HP
      have HH := hide hhi2
      have HO := hide hlo2
      clear hhi2 hlo2
      go_wp2_with (with_reducible show Code.wp _ (Code.region _ _ true) _ _ _; (try simp only [Act.put, List.setIfInBounds_toArray, List.set_cons_succ, List.set_cons_zero]); fail)
      (try simp only [Act.put, List.setIfInBounds_toArray, List.set_cons_succ, List.set_cons_zero])
      have F2 := F1
      have b2 := b
      refine region_plan (fun q => q.cell? ⟨bb, k0 + k, none⟩ = some (.int .u64 (x : Int))) (.one [1, 2, 3, 4, 5] 0 (.fl [] 6 (.one [7, 8, 9] 10 (.stop [])))) (by kernel_rfl) (by kernel_rfl) (by kernel_rfl) (by decide) (fun _ _ h hb => (hb.cell (World.block_lt_of_cell? _ _ h)).trans h) d1 ?_
      intro _ hb0 _ k1
      replace F2 := Arr.later F2 hb0
      replace b2 := later b2 hb0
      clear hb0
      refine plan_one ?_
      simp only [pickOps, opAt, List.getElem?_cons_succ, List.getElem?_cons_zero, List.nil_append, List.cons_append]
      repeat (first | go_big_quiet_skip | (go_big_quiet_want; first | ((with_reducible show Oper.quiet _ ⟨_, Op.load _ _, _, _, _, _⟩ _ _ _); refine quiet_load_one 23 _ rfl rfl (fun w2 hw => Kl.out hw) (by kernel_rfl) ?_; simp only [Act.put, List.setIfInBounds_toArray, List.set_cons_succ, List.set_cons_zero]; go_big_quiet_on) | ((with_reducible show Oper.quiet _ ⟨_, Op.build _ _, _, _, _, _⟩ _ _ _); refine quiet_build _ _ rfl #[.int .u64 0, .int .u64 x] (by simp only [List.map_toArray, List.map_cons, List.map_nil]; exact HB.out) ?_; simp only [Act.put, List.setIfInBounds_toArray, List.set_cons_succ, List.set_cons_zero]; go_big_quiet_on) | (go_big_quiet_op; first | go_big_quiet_on | (refine ⟨_, fun _ => rfl, ?_⟩; go_big_quiet_on))))
      refine wpQuiet_nil ?_
      intro _ hb0 k1
      replace F2 := Arr.later F2 hb0
      replace b2 := later b2 hb0
      clear hb0
      refine wpl_load_cells (cs := [.int .u64 hi, .int .u64 lo]) rfl 223 _ rfl rfl (Cells.arr F2) _ Try.underlying223 rfl wideSz ?_
      refine goQ_same (fun _ _ h hb => (hb.cell (World.block_lt_of_cell? _ _ h)).trans h) k1 ?_
      (try simp only [Act.put, List.setIfInBounds_toArray, List.set_cons_succ, List.set_cons_zero])
      refine plan_fl ?_
      simp only [pickOps, opAt, List.getElem?_cons_succ, List.getElem?_cons_zero, List.nil_append, List.cons_append]
      refine wpQuiet_nil ?_
      refine fl_call (by rfl) rfl (by kernel_rfl) (by simp only [List.map_toArray, List.map_cons, List.map_nil] <;> rfl) (fun w' hC => HP.out w') ?_
      simp only [Act.put, List.setIfInBounds_toArray, List.set_cons_succ, List.set_cons_zero]
      refine plan_one ?_
      simp only [pickOps, opAt, List.getElem?_cons_succ, List.getElem?_cons_zero, List.nil_append, List.cons_append]
      repeat (first | go_big_quiet_skip | (go_big_quiet_want; first | ((with_reducible show Oper.quiet _ ⟨_, Op.load _ _, _, _, _, _⟩ _ _ _); first | fail) | (go_big_quiet_op; first | go_big_quiet_on | (refine ⟨_, fun _ => rfl, ?_⟩; go_big_quiet_on))))
      refine wpQuiet_nil ?_
      intro _ hb0 k2
      replace F2 := Arr.later F2 hb0
      replace b2 := later b2 hb0
      clear hb0 k1 k2
      refine wpl_fill rfl 223 _ _ rfl (cs := [.int .u64 hi2, .int .u64 lo2]) rfl rfl F2 wideSz rfl (by intro v hv; simp at hv; rcases hv with rfl | rfl <;> rfl) ?_
      intro _ t1 ht1
      clear F2
      replace b2 := below_touch b2 ht1 hg (Nat.le_refl _)
      have F2 := t1
      clear t1 ht1
      refine goQ_same (fun _ _ h hb => (hb.cell (World.block_lt_of_cell? _ _ h)).trans h) ((b2.cell (p := ⟨bb, k0 + k, none⟩) hbb).trans d0.out) ?_
      (try simp only [Act.put, List.setIfInBounds_toArray, List.set_cons_succ, List.set_cons_zero])
      refine plan_stop ?_
      simp only [pickOps, opAt, List.getElem?_cons_succ, List.getElem?_cons_zero, List.nil_append, List.cons_append]
      repeat (first | go_big_quiet_skip | (go_big_quiet_want; first | ((with_reducible show Oper.quiet _ ⟨_, Op.load _ _, _, _, _, _⟩ _ _ _); first | fail) | (go_big_quiet_op; first | go_big_quiet_on | (refine ⟨_, fun _ => rfl, ?_⟩; go_big_quiet_on))))
      refine wpQuiet_nil ?_
      intro _ hb4 _
      replace F2 := Arr.later F2 hb4
      replace b2 := later b2 hb4
      clear hb4 d1 F1 b
      go_wp2_with fail
      go_roundw
      case rel => exact ⟨k + 1, by simp, by omega, by rw [← HH.out, ← HO.out]; exact F2, b2⟩
      case measure => simp [RowKit.intOf]; omega
    · obtain rfl : m = k := by omega
      have hT : l.take m = l := List.take_of_length_le (by rw [← HM.out]; exact Nat.le_refl _)
      rw [hT] at F1
      clear hT
      have q0 := Cells.arr F1
      have d0 := q0.one
      have d1 := q0.tail.one
      obtain ⟨hi, hhi⟩ : ∃ q, q = l.sum / 18446744073709551616 := ⟨_, rfl⟩
      obtain ⟨lo, hlo⟩ : ∃ q, q = l.sum % 18446744073709551616 := ⟨_, rfl⟩
      rw [← hhi] at d0
      rw [← hlo] at d1
      clear q0 F1
      by_cases h0 : 0 < hi
      · have HQ : Hid (¬ l.sum < 18446744073709551616) := by unfold Hid; omega
        have c0 := decide_eq_true (show (0 : Int) < (hi : Int) by omega)
        clear hhi hlo
        go_wp2_with (first | (with_reducible show wpList _ _ _ (⟨_, Op.load _ _, _, _, _, _⟩ :: _) _ _; refine wpl_load_one rfl 23 _ rfl rfl d0 (by kernel_rfl) ?_) | (with_reducible show wpList _ _ _ (⟨_, Op.load _ _, _, _, _, _⟩ :: _) _ _; refine wpl_load_one rfl 23 _ rfl rfl d1 (by kernel_rfl) ?_))
        go_ret2
        exact ⟨by rw [HR.out, HE.out, if_neg HQ.out, if_neg HQ.out]; simp, b⟩
      · have HQ : Hid (l.sum < 18446744073709551616) := by unfold Hid; omega
        have HQ2 : Hid (lo = l.sum) := by unfold Hid; omega
        have c0 := decide_eq_false (show ¬ (0 : Int) < (hi : Int) by omega)
        have z0 : hi = 0 := by omega
        clear hhi hlo h0 c0
        subst z0
        go_wp2_with (first | (with_reducible show wpList _ _ _ (⟨_, Op.load _ _, _, _, _, _⟩ :: _) _ _; refine wpl_load_one rfl 23 _ rfl rfl d0 (by kernel_rfl) ?_) | (with_reducible show wpList _ _ _ (⟨_, Op.load _ _, _, _, _, _⟩ :: _) _ _; refine wpl_load_one rfl 23 _ rfl rfl d1 (by kernel_rfl) ?_))
        go_ret2
        exact ⟨by rw [HR.out, HE.out, if_pos HQ.out, if_pos HQ.out, ← HQ2.out]; simp, b⟩
end Go.Proofs.Ytbbfnpfkbbpjgaa

/- api.Out: one field stored. -/
namespace Go.Proofs.Ytbbfnpfkbbpjgaa
open Go.RowKit Go.Lib
set_option linter.unusedVariables false
set_option linter.unusedSimpArgs false

section
variable {ops : Array Oper} {rest : List Oper} {o : Oper} {a : Act} {w w0 : World} {Q : Exit → Act → World → Prop} {K : Act → Prop}
theorem wpl_set_out_dst (hgd : o.guard = none) (x y : Operand) (ho : o.op = .store 27 x y) {g : Nat} {d : OutT} {l : List UInt8} (hx : a.eval x = .pointer (some ⟨g, 0, none⟩)) (hy : a.eval y = hv l) (hl : l.length = 32) (h : OutAt w g d)
    (hk : ∀ w2, OutAt w2 g { d with dst := l } → Touch (fun b => b = g) w w2 → wpList Try.prog ops Q rest (a.put o.dst undef) w2) : wpList Try.prog ops Q (o :: rest) a w :=
  wpl_put_at hgd 27 x y ho hx hy h.arr (by rw [bvs_length, hl]; exact hashSz32) (by rw [outCs_length h.ok, bvs_length, hl]; omega) (fun v hv => List.all_eq_true.1 (bvs_one l) v hv) (outCs { d with dst := l }) (by
    rw [put_mid (A := ([] : List Value)) (X := bvs d.dst) (B := bvs d.stake ++ ([.int .u64 d.amount])) (by simp [outCs]) (by simp [bvs_length]) (by rw [bvs_length, bvs_length, hl, show d.dst.length = 32 from h.ok.1])]
    simp [outCs]) (fun w2 ha ht => hk w2 ⟨⟨hl, h.ok.2.1, h.ok.2.2⟩, ha⟩ ht)
theorem wpl_set_out_stake (hgd : o.guard = none) (x y : Operand) (ho : o.op = .store 27 x y) {g : Nat} {d : OutT} {l : List UInt8} (hx : a.eval x = .pointer (some ⟨g, 32, none⟩)) (hy : a.eval y = hv l) (hl : l.length = 32) (h : OutAt w g d)
    (hk : ∀ w2, OutAt w2 g { d with stake := l } → Touch (fun b => b = g) w w2 → wpList Try.prog ops Q rest (a.put o.dst undef) w2) : wpList Try.prog ops Q (o :: rest) a w :=
  wpl_put_at hgd 27 x y ho hx hy h.arr (by rw [bvs_length, hl]; exact hashSz32) (by rw [outCs_length h.ok, bvs_length, hl]; omega) (fun v hv => List.all_eq_true.1 (bvs_one l) v hv) (outCs { d with stake := l }) (by
    rw [put_mid (A := bvs d.dst) (X := bvs d.stake) (B := [.int .u64 d.amount]) (by simp [outCs]) (by simp [bvs_length, show d.dst.length = 32 from h.ok.1]) (by rw [bvs_length, bvs_length, hl, show d.stake.length = 32 from h.ok.2.1])]
    simp [outCs]) (fun w2 ha ht => hk w2 ⟨⟨h.ok.1, hl, h.ok.2.2⟩, ha⟩ ht)
theorem wpl_set_out_amount (hgd : o.guard = none) (x y : Operand) (ho : o.op = .store 23 x y) {g : Nat} {d : OutT} {n : Nat} (hx : a.eval x = .pointer (some ⟨g, 64, none⟩)) (hy : a.eval y = .int .u64 n) (hl : U64 n) (h : OutAt w g d)
    (hk : ∀ w2, OutAt w2 g { d with amount := n } → Touch (fun b => b = g) w w2 → wpList Try.prog ops Q rest (a.put o.dst undef) w2) : wpList Try.prog ops Q (o :: rest) a w :=
  wpl_set_one hgd 23 x y ho hx hy h.arr (by rw [outCs_length h.ok]; omega) u64Sz rfl rfl (fun w2 ha ht => hk w2 ⟨⟨h.ok.1, h.ok.2.1, hl⟩, by
    rw [set_mid (A := bvs d.dst ++ bvs d.stake) (B := []) (by simp [outCs] <;> rfl) (by simp [bvs_length, show d.dst.length = 32 from h.ok.1, show d.stake.length = 32 from h.ok.2.1])] at ha
    simpa [outCs] using ha⟩ ht)
end
end Go.Proofs.Ytbbfnpfkbbpjgaa
