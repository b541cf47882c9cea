/- The reference's arithmetic in digits of 32 bits (mintageref02): of, by, wide as contracts. -/
import Derived.Test.YtfgmhmhankikmaaRef02
import Derived.Test.YtfgmhmhankikmaaRegion
namespace Go.Proofs.Ytfgmhmhankikmaa
open Go.RowKit Go.Lib

/-- mintageref02.of -/
theorem of_any (hi lo : Int) (w : World) (h1 : Word hi) (h2 : Word lo) :
    Calls Try.prog 77 #[.agg #[.int .u64 hi, .int .u64 lo]] w fun e w' => ∃ v, e = .returned v ∧
      Digs w' w.heap.size v [lo % 4294967296, lo / 4294967296, hi % 4294967296, hi / 4294967296] ∧ Below w.heap.size w w' := by
  obtain ⟨a0, a1⟩ := h1; obtain ⟨b0, b1⟩ := h2
  go_enter Try.func77, Try.ntmps77
  go_wp2_with fail
  go_ret
  refine ⟨_, rfl, ?_, below2 _ _ _⟩
  have := World.ownsRow_lit (w := w.alloc (Obj.cells #[.int .u64 hi, .int .u64 lo] 70)) (base := w.heap.size) (e := 31) (size := 1) #[.int .u64 (lo % 4294967296), .int .u64 (lo / 4294967296), .int .u64 (hi % 4294967296), .int .u64 (hi / 4294967296)] 4 (by simp) (by unfold maxLen; omega) rfl
  unfold Digs
  simpa using this

/-! ### by -/
def byL : List Int → Int → Int → List Int
  | [], _, ov => [ov]
  | d :: ds, n, ov => (d * n + ov) % 4294967296 :: byL ds n ((d * n + ov) / 4294967296)
theorem byL_length (ds : List Int) (n : Int) : ∀ ov, (byL ds n ov).length = ds.length + 1 := by
  induction ds with
  | nil => intro ov; rfl
  | cons d ds ih => intro ov; simp [byL, ih]
theorem mul_half {d n : Int} (h1 : 0 ≤ d) (h2 : d < 4294967296) (h3 : 0 ≤ n) (h4 : n < 4294967296) : 0 ≤ d * n ∧ d * n ≤ 4294967295 * 4294967295 :=
  ⟨Int.mul_nonneg h1 h3, Int.mul_le_mul (by omega) (by omega) h3 (by omega)⟩

set_option maxHeartbeats 1000000 in
theorem by_any (g cap : Nat) (ds : List Int) (n : Int) (w : World) (hn : 0 < ds.length) (hn2 : ds.length ≤ 64) (hd : Digs w 0 (.slice (some ⟨g, 0, none⟩) ds.length cap) ds) (hb : ∀ d ∈ ds, 0 ≤ d ∧ d < 4294967296) (n0 : 0 ≤ n) (n1 : n < 4294967296) :
    Calls Try.prog 76 #[.slice (some ⟨g, 0, none⟩) ds.length cap, .int .u64 n] w fun e w' => ∃ v, e = .returned v ∧ Digs w' w.heap.size v (byL ds n 0) ∧ Below w.heap.size w w' := by
  obtain ⟨i0, hi, hz0, hz1, hz2⟩ := info_parts info64
  unfold Digs at hd
  have hgl : g < w.heap.size := by
    obtain ⟨g', cap', e, h, _⟩ := ownsRow_at hd hn
    simp only [Value.slice.injEq, Option.some.injEq, Addr.mk.injEq] at e
    obtain ⟨⟨rfl, _⟩, _⟩ := e
    exact h
  have HB := hide hb
  have HD := hide hd
  clear hb hd
  go_enter Try.func76, Try.ntmps76
  go_wp2_with fail
  go_loopw [5, 6] (fun out i wr => ∃ (k : Nat), k ≤ ds.length ∧ i = .int .i64 k ∧ wr.ownsRow w.heap.size 31 1 out k ((List.replicate k (0 : Int)).map (Value.int .u64)) ∧ Below w.heap.size w wr) (fun _ i _ => ds.length - (intOf i).toNat)
  case atStart => exact ⟨0, by omega, rfl, World.ownsRow_nil _ _ _ _, Below.refl _ _⟩
  case round =>
    obtain ⟨k, hk, rfl, hown, hbr⟩ := hrel
    by_cases hlt : k < ds.length
    · go_wp2_with (at_builtin; refine wpList_append_own _ rfl _ _ 100 rfl w.heap.size 31 i0 (.int .u64 0) 1 8 Try.underlying100 hi hz0 hz1 hz2 rfl (by decide) _ _ _ rfl (hown.alloc _) ⟨wr.heap.size, 0, none⟩ 1 1 [.int .u64 0] rfl rfl ?c1 ?c2 ?c3 ?c4 ?c5 ?_)
      case c1 => exact (cell_one_new _ _ _)
      case c2 => intro u hu; simp at hu; subst hu; rfl
      case c3 => unfold maxLen; omega
      case c4 => omega
      case c5 => have := hbr.size; simp; omega
      intro v' w1 hown' hgrow _
      have hb1 := hbr.trans (grown_below hown hgrow hbr.size)
      clear hgrow
      go_wp2
      go_roundw
      case rel => exact ⟨k + 1, by omega, by go_num, by rw [List.replicate_succ', List.map_append]; simpa using hown', hb1⟩
      case measure => simp [intOf]; omega
    · obtain rfl : k = ds.length := by omega
      obtain ⟨g5, cap5, rfl, hg5, hg5b, _⟩ := ownsRow_at hown hn
      go_wp2_with fail
      obtain ⟨wo, rfl⟩ : ∃ wo : World, wo = wr := ⟨_, rfl⟩
      go_loopw [7, 8] (fun ov i wr => ∃ (k : Nat) (o : Int) (pre : List Int), k ≤ ds.length ∧ i = .int .i64 k ∧ ov = .int .u64 o ∧ 0 ≤ o ∧ o ≤ 4294967295 ∧ pre.length = k ∧ byL ds n 0 = pre ++ byL (ds.drop k) n o ∧
        wr.ownsRow w.heap.size 31 1 (.slice (some ⟨g5, 0, none⟩) ds.length cap5) ds.length ((pre ++ List.replicate (ds.length - k) 0).map (Value.int .u64)) ∧ Below w.heap.size w wr) (fun _ i _ => ds.length - (intOf i).toNat)
      case atStart => exact ⟨0, 0, [], by omega, rfl, rfl, by omega, by omega, rfl, by simp, by simpa using hown, hbr⟩
      case round =>
        obtain ⟨k, o, pre, hk', rfl, rfl, ho0, ho1, hpl, hpre, hown2, hbr2⟩ := hrel
        have HP := hide hpre
        have HL := hide hpl
        clear hpre hpl hown
        by_cases hlt : k < ds.length
        · have hcell : wr.cell? ⟨g, k, none⟩ = some (.int .u64 (ds.getD k 0)) := (hbr2.cell (p := ⟨g, k, none⟩) hgl).trans (digs_cell HD.out k hlt rfl)
          have hdb := HB.out (ds.getD k 0) (getD_mem ds k 0 hlt)
          have hdrop := hide (drop_getD ds k 0 hlt)
          have hcell5 : wr.cell? ⟨g5, k, none⟩ = some (.int .u64 0) := by
            rw [hown2.cellAt k (by omega), List.getElem?_map, List.getElem?_append_right (by rw [HL.out]; exact Nat.le_refl _), HL.out, Nat.sub_self, List.getElem?_replicate, if_pos (by omega)]
            rfl
          have hfz5 : wr.frozen? ⟨g5, k, none⟩ = false := hown2.frozenAt k
          generalize ds.getD k 0 = d at *
          obtain ⟨d0, d1⟩ := hdb
          obtain ⟨m0, m1⟩ := mul_half d0 d1 n0 n1
          have hst := hown2.stored k (.int .u64 ((d * n + o) % 4294967296))
          have HST := hide hst
          clear hst hown2
          go_wp2_with fail
          go_roundw
          case rel =>
            refine ⟨k + 1, (d * n + o) / 4294967296, pre ++ [(d * n + o) % 4294967296], by omega, by go_num, rfl, by omega, by omega, by simp [HL.out], ?_, ?_, ?_⟩
            · rw [HP.out, hdrop.out]; simp [byL]
            · have := HST.out.1
              rw [← List.map_set, List.set_append_right _ _ (by rw [HL.out]; exact Nat.le_refl _), HL.out, Nat.sub_self] at this
              rw [show ds.length - k = (ds.length - (k + 1)) + 1 from by omega, List.replicate_succ, List.set_cons_zero] at this
              simpa using this
            · exact hbr2.setCell hg5b _
          case measure => simp [intOf]; omega
        · obtain rfl : k = ds.length := by omega
          have hown3 : wr.ownsRow w.heap.size 31 1 (.slice (some ⟨g5, 0, none⟩) ds.length cap5) ds.length (pre.map (Value.int .u64)) := by simpa using hown2
          clear hown2
          go_wp2_with (at_builtin; refine wpList_append_own _ rfl _ _ 100 rfl w.heap.size 31 i0 (.int .u64 0) 1 8 Try.underlying100 hi hz0 hz1 hz2 rfl (by decide) _ _ _ rfl (hown3.alloc _) ⟨wr.heap.size, 0, none⟩ 1 1 [.int .u64 o] rfl rfl ?c1 ?c2 ?c3 ?c4 ?c5 ?_)
          case c1 => exact (cell_one_new _ _ _)
          case c2 => intro u hu; simp at hu; subst hu; rfl
          case c3 => unfold maxLen; omega
          case c4 => omega
          case c5 => have := hbr2.size; simp; omega
          intro v' w1 hown' hgrow _
          have hb1 := hbr2.trans (grown_below hown3 hgrow hbr2.size)
          clear hgrow
          go_wp2
          go_ret
          refine ⟨v', rfl, ?_, hb1⟩
          unfold Digs
          rw [byL_length, HP.out, List.drop_length]
          simpa [byL] using hown'

/-! ### wide -/
set_option maxRecDepth 100000 in
set_option maxHeartbeats 1000000 in
/-- mintageref02.wide, where the digits from the fourth on are noughts. -/
theorem wide_any (g cap : Nat) (d0 d1 d2 d3 : Int) (k : Nat) (w : World) (hk : k ≤ 60) (hd : Digs w 0 (.slice (some ⟨g, 0, none⟩) (k + 4) cap) (d0 :: d1 :: d2 :: d3 :: List.replicate k 0))
    (a0 : 0 ≤ d0 ∧ d0 < 4294967296) (a1 : 0 ≤ d1 ∧ d1 < 4294967296) (a2 : 0 ≤ d2 ∧ d2 < 4294967296) (a3 : 0 ≤ d3 ∧ d3 < 4294967296) :
    Calls Try.prog 78 #[.slice (some ⟨g, 0, none⟩) (k + 4) cap] w fun e w' => e = .returned (.tuple #[.agg #[.int .u64 (d3 * 4294967296 + d2), .int .u64 (d1 * 4294967296 + d0)], .bool true]) ∧ Below w.heap.size w w' := by
  unfold Digs at hd
  have hl : (d0 :: d1 :: d2 :: d3 :: List.replicate k 0).length = k + 4 := by simp
  rw [hl] at hd
  have c0 : w.cell? ⟨g, 0, none⟩ = some (.int .u64 d0) := digs_cell hd 0 (by omega) hl
  have c1 : w.cell? ⟨g, 1, none⟩ = some (.int .u64 d1) := digs_cell hd 1 (by omega) hl
  have c2 : w.cell? ⟨g, 2, none⟩ = some (.int .u64 d2) := digs_cell hd 2 (by omega) hl
  have c3 : w.cell? ⟨g, 3, none⟩ = some (.int .u64 d3) := digs_cell hd 3 (by omega) hl
  have hz := hide (show ∀ j, 4 ≤ j → j < k + 4 → w.cell? ⟨g, j, none⟩ = some (.int .u64 0) from fun j h1 h2 => by
    rw [digs_cell hd j h2 hl]
    obtain ⟨i, rfl⟩ : ∃ i, j = i + 4 := ⟨j - 4, by omega⟩
    simp [List.getD, show i < k by omega])
  have hgl := World.block_lt_of_cell? w _ c0
  dsimp only at hgl
  clear hd hl
  obtain ⟨x0, y0⟩ := a0; obtain ⟨x1, y1⟩ := a1; obtain ⟨x2, y2⟩ := a2; obtain ⟨x3, y3⟩ := a3
  go_enter Try.func78, Try.ntmps78
  go_wp2_with fail
  go_loop [4] (fun i => ∃ j : Nat, 4 ≤ j ∧ j ≤ k + 4 ∧ i = .int .i64 j) (fun i => k + 4 - (intOf i).toNat)
  case atStart => exact ⟨4, by omega, by omega, rfl⟩
  case round =>
    obtain ⟨j, hj, hj2, rfl⟩ := hrel
    by_cases hlt : j < k + 4
    · have hc : (w.alloc (Obj.cells #[.int .u64 0, .int .u64 0] 70)).cell? ⟨g, j, none⟩ = some (.int .u64 0) := by
        rw [World.cell?_alloc_past _ _ _ hgl]; exact hz.out j hj hlt
      go_wp2_with fail
      go_round
      case rel => exact ⟨j + 1, by omega, by omega, by go_num⟩
      case measure => simp [intOf]; omega
    · go_wp2_with fail
      have f0 := Since.cell (w0 := w.alloc (Obj.cells #[.int .u64 0, .int .u64 0] 70)) (by rw [World.cell?_alloc_past _ _ _ hgl]; exact c0)
      have f1 := Since.cell (w0 := w.alloc (Obj.cells #[.int .u64 0, .int .u64 0] 70)) (by rw [World.cell?_alloc_past _ _ _ hgl]; exact c1)
      have f2 := Since.cell (w0 := w.alloc (Obj.cells #[.int .u64 0, .int .u64 0] 70)) (by rw [World.cell?_alloc_past _ _ _ hgl]; exact c2)
      have f3 := Since.cell (w0 := w.alloc (Obj.cells #[.int .u64 0, .int .u64 0] 70)) (by rw [World.cell?_alloc_past _ _ _ hgl]; exact c3)
      have i0 : (0 : Int) < (k : Int) + 4 := by omega
      have i1 : (1 : Int) < (k : Int) + 4 := by omega
      have i2 : (2 : Int) < (k : Int) + 4 := by omega
      have i3 : (3 : Int) < (k : Int) + 4 := by omega
      refine region_since_tail 17 (by kernel_rfl) (by kernel_rfl) ?_
      simp only [List.take_succ_cons, List.take_zero]
      repeat (first | go_big_quiet_skip | (go_big_quiet_want; go_big_quiet_op; go_big_quiet_on))
      refine wpQuiet_nil ?_
      intro w' hw'
      simp only [List.drop_succ_cons, List.drop_zero]
      clear f0 f1 f2 f3 c0 c1 c2 c3
      have hbc := bcell hw'; obtain ⟨hc, hf⟩ := hbc
      go_wp2_with fail
      simp [bodyPost, results, Try.results78, go_sem, hc]
      exact (((Below.refl w.heap.size w).alloc (Nat.le_refl _) _).trans (hw'.mono (by simp)) |>.setCell (Nat.le_refl _) _).setCell (Nat.le_refl _) _
end Go.Proofs.Ytfgmhmhankikmaa
