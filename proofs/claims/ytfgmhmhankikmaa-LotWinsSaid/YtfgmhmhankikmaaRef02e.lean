/- The reference's comparison of wide numbers (mintageref02.Compare), as a contract for every pair. -/
import Derived.Test.YtfgmhmhankikmaaRef02d
namespace Go.Proofs.Ytfgmhmhankikmaa
open Go.RowKit Go.Lib

theorem ret_int {k : IntKind} {a b : Int} (h : a = b) : Ending.returned (.int k a) = .returned (.int k b) := by rw [h]

theorem ofL_cmp (ah al bh bl : Int) (h1 : Word ah) (h2 : Word al) (h3 : Word bh) (h4 : Word bl) (j : Nat) (hj : j < 4) (he : ∀ k, j < k → k < 4 → (ofL ah al).getD k 0 = (ofL bh bl).getD k 0) :
    ((ofL ah al).getD j 0 < (ofL bh bl).getD j 0 → cmpW ah al bh bl = -1) ∧ ((ofL bh bl).getD j 0 < (ofL ah al).getD j 0 → cmpW ah al bh bl = 1) := by
  obtain ⟨_, _⟩ := h1; obtain ⟨_, _⟩ := h2; obtain ⟨_, _⟩ := h3; obtain ⟨_, _⟩ := h4
  have e1 := he 1; have e2 := he 2; have e3 := he 3
  have : j = 0 ∨ j = 1 ∨ j = 2 ∨ j = 3 := by omega
  unfold cmpW
  rcases this with rfl | rfl | rfl | rfl <;> simp [ofL] at e1 e2 e3 <;> constructor <;> intro h <;> simp only [ofL, List.getD_cons_zero, List.getD_cons_succ] at h
  all_goals first
    | (rw [if_pos (by omega)])
    | (rw [if_neg (by omega), if_neg (by omega)])
theorem ofL_eq (ah al bh bl : Int) (h1 : Word ah) (h2 : Word al) (h3 : Word bh) (h4 : Word bl) (he : ∀ k, k < 4 → (ofL ah al).getD k 0 = (ofL bh bl).getD k 0) : cmpW ah al bh bl = 0 := by
  obtain ⟨_, _⟩ := h1; obtain ⟨_, _⟩ := h2; obtain ⟨_, _⟩ := h3; obtain ⟨_, _⟩ := h4
  have e0 := he 0; have e1 := he 1; have e2 := he 2; have e3 := he 3
  simp [ofL] at e0 e1 e2 e3
  unfold cmpW
  rw [if_neg (by omega), if_pos (by omega)]

set_option maxRecDepth 100000 in
set_option maxHeartbeats 3200000 in
theorem refCompare (ah al bh bl : Int) (w : World) (h1 : Word ah) (h2 : Word al) (h3 : Word bh) (h4 : Word bl) :
    Calls Try.prog 49 #[.agg #[.int .u64 ah, .int .u64 al], .agg #[.int .u64 bh, .int .u64 bl]] w fun e w' => e = .returned (.int .i64 (cmpW ah al bh bl)) ∧ Below w.heap.size w w' := by
  have hc1 := hide (ofL_cmp ah al bh bl h1 h2 h3 h4)
  have hc2 := hide (ofL_eq ah al bh bl h1 h2 h3 h4)
  generalize cmpW ah al bh bl = r at *
  have c1 : ((w.alloc (Obj.cells #[.int .u64 ah, .int .u64 al] 70)).alloc (Obj.cells #[.int .u64 bh, .int .u64 bl] 70)).cell? ⟨w.heap.size + 1, 0, none⟩ = some (.int .u64 bh) := by simp [go_sem]
  have c2 : ((w.alloc (Obj.cells #[.int .u64 ah, .int .u64 al] 70)).alloc (Obj.cells #[.int .u64 bh, .int .u64 bl] 70)).cell? ⟨w.heap.size + 1, 1, none⟩ = some (.int .u64 bl) := by simp [go_sem]
  go_enter Try.func49, Try.ntmps49
  go_wp2_with fail
  refine (of4 ah al _ h1 h2).mono ?_
  rintro e w1 ⟨g1, k1, rfl, hd1, hl1, hg1, hg1', hb1⟩
  replace c1 := cell_later hb1 c1
  replace c2 := cell_later hb1 c2
  have D1 := hide hd1
  clear hd1
  go_wp2_with fail
  refine (of4 bh bl _ h3 h4).mono ?_
  rintro e w2 ⟨g2, k2, rfl, hd2, hl2, hg2, hg2', hb2⟩
  have D1' := hide (ownsRow_later D1.out hb2)
  have D2 := hide hd2
  have HL1 := hide hl1
  have HL2 := hide hl2
  have HB := hide (later (below2 w (Obj.cells #[.int .u64 ah, .int .u64 al] 70) (Obj.cells #[.int .u64 bh, .int .u64 bl] 70)) (later hb1 hb2))
  have hg1w : g1 < w2.heap.size := Nat.lt_of_lt_of_le hg1' hb2.size
  clear D1 hd2 hl1 hl2 c1 c2 hb1 hb2
  generalize ofL ah al = xs at *
  generalize ofL bh bl = ys at *
  go_wp2_with fail
  go_loopw [7] (fun i wr => ∃ t : Int, i = .int .i64 t ∧ -1 ≤ t ∧ t ≤ 3 ∧ (∀ k : Nat, t < k → k < 4 → xs.getD k 0 = ys.getD k 0) ∧ Below w2.heap.size w2 wr) (fun i _ => (intOf i + 1).toNat)
  case atStart => exact ⟨3, rfl, by omega, by omega, fun k h1 h2 => by omega, Below.refl _ _⟩
  case round =>
    obtain ⟨t, rfl, ht0, ht3, heq, hbr⟩ := hrel
    have HE := hide heq
    clear heq
    by_cases hlt : 0 ≤ t
    · obtain ⟨j, rfl⟩ := Int.eq_ofNat_of_zero_le hlt
      have cx : wr.cell? ⟨g1, j, none⟩ = some (.int .u64 (xs.getD j 0)) := (hbr.cell (p := ⟨g1, j, none⟩) hg1w).trans (digs_cell D1'.out j (by omega) HL1.out)
      have cy : wr.cell? ⟨g2, j, none⟩ = some (.int .u64 (ys.getD j 0)) := (hbr.cell (p := ⟨g2, j, none⟩) hg2').trans (digs_cell D2.out j (by omega) HL2.out)
      obtain ⟨r1, r2⟩ := hc1.out j (by omega) (fun k h1 h2 => HE.out k (by omega) h2)
      have R1 := hide r1
      have R2 := hide r2
      clear r1 r2
      have HEQ : Hid (xs.getD j 0 = ys.getD j 0 → ∀ k : Nat, (j : Int) - 1 < k → k < 4 → xs.getD k 0 = ys.getD k 0) := fun h k h1 h2 => by
        by_cases e : k = j
        · subst e; exact h
        · exact HE.out k (by omega) h2
      generalize xs.getD j 0 = x at *
      generalize ys.getD j 0 = y at *
      have f1 := Since.cell cx
      have f2 := Since.cell cy
      have q1 : (j : Int) < 4 := by omega
      go_wp2_with fail
      refine region_since (by kernel_rfl) (by kernel_rfl) ?_
      repeat (first | go_big_quiet_skip | (go_big_quiet_want; go_big_quiet_op; go_big_quiet_on))
      refine wpQuiet_nil ?_
      intro w3 hw3
      clear f1 f2
      replace cx := cell_later hw3 cx
      replace cy := cell_later hw3 cy
      have f1 := Since.cell cx
      have f2 := Since.cell cy
      by_cases hxy : x < y
      · go_wp2_with fail
        go_ret
        exact ⟨ret_int (R1.out hxy).symm, HB.out.trans ((hbr.trans (hw3.mono hbr.size)).mono HB.out.size)⟩
      · go_wp2_with fail
        refine region_since (by kernel_rfl) (by kernel_rfl) ?_
        repeat (first | go_big_quiet_skip | (go_big_quiet_want; go_big_quiet_op; go_big_quiet_on))
        refine wpQuiet_nil ?_
        intro w4 hw4
        clear f1 f2 cx cy
        have hb4 := hbr.trans ((later hw3 hw4).mono hbr.size)
        by_cases hyx : y < x
        · go_wp2_with fail
          go_ret
          exact ⟨ret_int (R2.out hyx).symm, HB.out.trans (hb4.mono HB.out.size)⟩
        · go_wp2_with fail
          go_roundw
          case rel => exact ⟨_, rfl, by omega, by omega, HEQ.out (by omega), hb4⟩
          case measure => simp [intOf]
    · go_wp2_with fail
      go_ret
      exact ⟨ret_int (hc2.out (fun k hk => HE.out k (by omega) hk)).symm, HB.out.trans (hbr.mono HB.out.size)⟩
end Go.Proofs.Ytfgmhmhankikmaa
