/- The law ShaBack: a hash is read from its digits, and told by them again. -/
import Derived.Test.YtfgmhmhankikmaaRead
import Derived.Test.YtfgmhmhankikmaaHashEq
namespace Go.Proofs.Ytfgmhmhankikmaa
open Go.RowKit Go.Lib

theorem digV_hexD (n : Nat) (h : n < 16) : digV (hexD n) = n := by
  have : ∀ n : Fin 16, digV (hexD n.1) = n.1 := by decide +kernel
  exact this ⟨n, h⟩
theorem hexL_even (l : List UInt8) : ∀ j, j < l.length → (hexL l).getD (2 * j) 0 = hexD ((l.getD j 0).toNat / 16) := by
  induction l with
  | nil => intro j h; simp at h
  | cons a l ih =>
    intro j h
    cases j with
    | zero => simp [hexL]
    | succ j =>
      have := ih j (by simpa using h)
      rw [show 2 * (j + 1) = 2 * j + 2 by omega]
      simpa [hexL] using this
theorem hexL_odd (l : List UInt8) : ∀ j, j < l.length → (hexL l).getD (2 * j + 1) 0 = hexD ((l.getD j 0).toNat % 16) := by
  induction l with
  | nil => intro j h; simp at h
  | cons a l ih =>
    intro j h
    cases j with
    | zero => simp [hexL]
    | succ j =>
      have := ih j (by simpa using h)
      rw [show 2 * (j + 1) + 1 = 2 * j + 1 + 2 by omega]
      simpa [hexL] using this
theorem bfill_getD (l : List UInt8) (j : Nat) (h : j < l.length) : (bfill l j).getD j 0 = 0 := by
  unfold bfill
  have hk : (l.take j).length = j := by simp; omega
  rw [List.getD_eq_getElem?_getD, List.getElem?_append_right (by omega), hk, Nat.sub_self]
  obtain ⟨m, hm⟩ : ∃ m, l.length - j = m + 1 := ⟨l.length - j - 1, by omega⟩
  rw [hm, List.replicate_succ]; rfl
theorem rd_hexL (l : List UInt8) (hl : l.length = 32) : ∀ j, j ≤ 32 → rd (hexL l) (2 * j) = bfill l j := by
  intro j
  induction j with
  | zero => intro _; simp [rd, bfill, hl, zero32]
  | succ j ih =>
    intro hj
    have h0 := ih (by omega)
    have hjl : j < l.length := by omega
    have hc := (l.getD j 0).toNat_lt
    have e1 : rd (hexL l) (2 * j + 1) = (bfill l j).set j (UInt8.ofNat ((l.getD j 0).toNat / 16)) := by
      simp only [rd]
      rw [h0, show 2 * j / 2 = j by omega, bfill_getD l j hjl, hexL_even l j hjl, digV_hexD _ (by omega)]
      generalize (l.getD j 0).toNat = c at *
      have : ((0 : UInt8).toNat * 16 + ((c / 16 : Nat) : Int).toNat) % 256 = c / 16 := by simp; omega
      rw [this]
    rw [show 2 * (j + 1) = 2 * j + 1 + 1 by omega]
    simp only [rd]
    have e2 := e1
    simp only [rd] at e2
    rw [e2, show (2 * j + 1) / 2 = j by omega, hexL_odd l j hjl, digV_hexD _ (by omega), List.set_set, ← bfill_next l j hjl]
    have hb : j < (bfill l j).length := by rw [bfill_length _ _ (by omega)]; omega
    have e3 : ((bfill l j).set j (UInt8.ofNat ((l.getD j 0).toNat / 16))).getD j 0 = UInt8.ofNat ((l.getD j 0).toNat / 16) := by simp [hb]
    rw [e3]
    congr 1
    apply UInt8.toNat_inj.1
    rw [UInt8.toNat_ofNat', UInt8.toNat_ofNat']
    generalize (l.getD j 0).toNat = c at *
    simp
    omega
theorem read_hex (l : List UInt8) (hl : l.length = 32) : readL (hexL l) = (l, 0) := by
  unfold readL
  rw [if_pos]
  · rw [show 64 = 2 * 32 by rfl, rd_hexL l hl 32 (by omega)]
    have := bfill_full l
    rw [hl] at this
    rw [this]
  · refine ⟨by rw [hexL_length, hl], ?_⟩
    rw [List.all_eq_true]
    intro c hc
    simp only [hexL, List.mem_flatMap] at hc
    obtain ⟨a, _, ha⟩ := hc
    have := a.toNat_lt
    simp only [List.mem_cons, List.not_mem_nil, or_false] at ha
    rcases ha with rfl | rfl <;> rw [digV_hexD _ (by omega)] <;> simp <;> omega
theorem hexL_inj (l g : List UInt8) (hl : l.length = 32) (hg : g.length = 32) (h : hexL l = hexL g) : l = g := by
  have h1 := read_hex l hl
  rw [h, read_hex g hg] at h1
  exact (Prod.mk.inj h1).1.symm

set_option maxRecDepth 100000 in
set_option maxHeartbeats 3200000 in
theorem shaBack_law (l g : List UInt8) (hl : l.length = 32) (hg : g.length = 32) (w : World) :
    Calls Try.prog 3 #[hv l, hv g] w fun e w' => e = .returned (.bool true) ∧ Below w.heap.size w w' := by
  have hrd := hide (read_hex l hl)
  have hil : Hid ((Try.prog.info? 23).map (·.size) = some (bvs l).toArray.size) := by rw [show (bvs l).toArray.size = 32 by simp [bvs, hl]]; unfold Hid; kernel_rfl
  have q0 := hide (Arr.alloc (Arr.new w (bvs l) 23) (.cells (bvs g).toArray 23))
  have q1 := hide (Arr.new2 w (.cells (bvs l).toArray 23) (bvs g) 23)
  have hb := hide (below2 w (.cells (bvs l).toArray 23) (.cells (bvs g).toArray 23))
  replace hl := hide hl
  replace hg := hide hg
  unfold hv
  go_enter Try.func3, Try.ntmps3
  go_wp2_with (refine wpList_load_row rfl 23 (.tmp 2) rfl w.heap.size rfl 23 (bvs l).toArray (0, 0) _ q0.out Try.underlying23 rfl hil.out ?_)
  generalize (w.alloc (.cells (bvs l).toArray 23)).alloc (.cells (bvs g).toArray 23) = W at *
  refine (hex_any l _ hl.out).mono ?_
  rintro _ w1 ⟨rfl, hb1⟩
  go_wp2_with fail
  refine (read_any _ _).mono ?_
  rintro _ w2 ⟨rfl, hb2⟩
  have e : (readL ((⟨(hexL l).toArray⟩ : ByteArray).data.toList)) = (l, 0) := hrd.out
  rw [e]
  clear e
  have hw2 := later hb1 hb2
  have p0 := Arr.later q0.out hw2
  have p1 := Arr.later q1.out hw2
  have pB := later hb.out hw2
  have l0 := Arr.lt p0
  have l1 := Arr.lt p1
  have q2 := hide (Arr.new w2 (bvs zero32) 23)
  have r2 := Arr.row q2.out (bvs l)
  have r0 := Arr.row_other (Arr.alloc p0 (.cells (bvs zero32).toArray 23)) w2.heap.size (bvs l).toArray (by omega)
  have r1 := Arr.row_other (Arr.alloc p1 (.cells (bvs zero32).toArray 23)) w2.heap.size (bvs l).toArray (by omega)
  have rB := below_setRow (pB.alloc pB.size (.cells (bvs zero32).toArray 23)) pB.size (bvs l).toArray
  have ho := hide (show (bvs l).toArray.all (·.oneCell') = true by simpa using bvs_one l)
  have hsz : Hid ((bvs zero32).toArray.size = (bvs l).toArray.size) := by unfold Hid; simp [bvs, hl.out, zero32]
  clear q0 q1 hb hb1 hb2 hw2 p0 p1 pB l0 l1
  replace r0 := hide r0
  replace r1 := hide r1
  replace r2 := hide r2
  replace rB := hide rB
  simp only [hv]
  go_wp2_with (refine wpList_store_row rfl 23 (.tmp 5) (.tmp 11) rfl w2.heap.size (bvs l).toArray rfl rfl 23 _ q2.out hil.out hsz.out ho.out ?_)
  show Code.wp _ _ _ _ ((w2.alloc (.cells (bvs zero32).toArray 23)).setRow w2.heap.size (bvs l).toArray)
  clear q2 ho hsz
  generalize (w2.alloc (.cells (bvs zero32).toArray 23)).setRow w2.heap.size (bvs l).toArray = W3 at *
  refine region_since (by kernel_rfl) (by kernel_rfl) ?_
  have hir : Hid ((Try.prog.info? 23).map (·.size) = some (bvs g).toArray.size) := by rw [show (bvs g).toArray.size = 32 by simp [bvs, hg.out]]; unfold Hid; kernel_rfl
  have hls := hide (show (⟨(hexL l).toArray⟩ : ByteArray).size = 64 from by show (hexL l).toArray.size = 64; simp [hexL_length, hl.out])
  have hls2 := hls.out
  have hcv : ∀ s : Since W3, (convert 28 9 (.slice (some ⟨w.heap.size, 0, none⟩) 32 32)).run Try.prog s.w = .ok (.string ⟨l.toArray⟩) s.w := fun s => Byts.text (Since.arr r0.out s : Byts _ _ _ l) 28 9 5 32 32 hl.out Try.underlying28 Try.underlying5 Try.underlying9
  by_cases hlg : l = g
  · subst hlg
    go_big_quiet_want
    refine quiet_load_row 23 (.tmp 5) rfl w2.heap.size rfl 23 (bvs l) _ r2.out Try.underlying23 rfl hil.out ?_
    simp only [Act.put, List.setIfInBounds_toArray, List.set_cons_succ, List.set_cons_zero]
    go_big_quiet_on
    go_big_quiet_want
    refine quiet_load_row 23 (.tmp 2) rfl w.heap.size rfl 23 (bvs l) _ r0.out Try.underlying23 rfl hil.out ?_
    simp only [Act.put, List.setIfInBounds_toArray, List.set_cons_succ, List.set_cons_zero]
    go_big_quiet_on
    go_big_quiet_want
    refine quiet_same_hash (.tmp 13) (.tmp 14) rfl l hl.out rfl rfl ?_
    simp only [Act.put, List.setIfInBounds_toArray, List.set_cons_succ, List.set_cons_zero]
    go_big_quiet_on
    iterate 5 (first | go_big_quiet_skip | (go_big_quiet_want; go_big_quiet_op; go_big_quiet_on))
    go_big_quiet_want
    refine quiet_load_row 23 (.tmp 2) rfl w.heap.size rfl 23 (bvs l) _ r0.out Try.underlying23 rfl hil.out ?_
    simp only [Act.put, List.setIfInBounds_toArray, List.set_cons_succ, List.set_cons_zero]
    go_big_quiet_on
    go_big_quiet_want; go_big_quiet_op
    refine ⟨_, fun _ => since_of (hex_any l _ hl.out), ?_⟩
    go_big_quiet_on
    go_big_quiet_want
    refine quiet_load_row 23 (.tmp 3) rfl (w.heap.size + 1) rfl 23 (bvs l) _ r1.out Try.underlying23 rfl hil.out ?_
    simp only [Act.put, List.setIfInBounds_toArray, List.set_cons_succ, List.set_cons_zero]
    go_big_quiet_on
    go_big_quiet_want; go_big_quiet_op
    refine ⟨_, fun _ => since_of (hex_any l _ hl.out), ?_⟩
    go_big_quiet_on
    iterate 1 (first | go_big_quiet_skip | (go_big_quiet_want; go_big_quiet_op; go_big_quiet_on))
    go_big_quiet_want
    refine quiet_load_row 23 (.tmp 2) rfl w.heap.size rfl 23 (bvs l) _ r0.out Try.underlying23 rfl hil.out ?_
    simp only [Act.put, List.setIfInBounds_toArray, List.set_cons_succ, List.set_cons_zero]
    go_big_quiet_on
    go_big_quiet_want
    refine quiet_load_row 23 (.tmp 3) rfl (w.heap.size + 1) rfl 23 (bvs l) _ r1.out Try.underlying23 rfl hil.out ?_
    simp only [Act.put, List.setIfInBounds_toArray, List.set_cons_succ, List.set_cons_zero]
    go_big_quiet_on
    go_big_quiet_want
    refine quiet_same_hash (.tmp 26) (.tmp 27) rfl l hl.out rfl rfl ?_
    simp only [Act.put, List.setIfInBounds_toArray, List.set_cons_succ, List.set_cons_zero]
    go_big_quiet_on
    iterate 3 (first | go_big_quiet_skip | (go_big_quiet_want; go_big_quiet_op; go_big_quiet_on))
    go_big_quiet_want
    refine quiet_load_row 23 (.tmp 2) rfl w.heap.size rfl 23 (bvs l) _ r0.out Try.underlying23 rfl hil.out ?_
    simp only [Act.put, List.setIfInBounds_toArray, List.set_cons_succ, List.set_cons_zero]
    go_big_quiet_on
    go_big_quiet_want; go_big_quiet_op
    refine ⟨_, fun _ => since_of (hex_any l _ hl.out), ?_⟩
    go_big_quiet_on
    iterate 4 (first | go_big_quiet_skip | (go_big_quiet_want; go_big_quiet_op; go_big_quiet_on))
    go_big_quiet_want
    refine quiet_load_row 23 (.tmp 2) rfl w.heap.size rfl 23 (bvs l) _ r0.out Try.underlying23 rfl hil.out ?_
    simp only [Act.put, List.setIfInBounds_toArray, List.set_cons_succ, List.set_cons_zero]
    go_big_quiet_on
    go_big_quiet_want; go_big_quiet_op
    refine ⟨_, fun _ => since_of (bytes_any l _ hl.out), ?_⟩
    go_big_quiet_on
    iterate 5 (first | go_big_quiet_skip | (go_big_quiet_want; go_big_quiet_op; go_big_quiet_on))
    refine wpQuiet_nil ?_
    intro w4 hw4
    go_wp2_with fail
    go_ret
    exact ⟨rfl, rB.out.trans (hw4.mono rB.out.size)⟩
  · have hne := hide hlg
    have hx1 : ¬ hexL l = hexL g := fun h => hlg (hexL_inj l g hl.out hg.out h)
    have hx2 : (hexL l == hexL g) = false := by simp [hx1]
    clear hlg
    go_big_quiet_want
    refine quiet_load_row 23 (.tmp 5) rfl w2.heap.size rfl 23 (bvs l) _ r2.out Try.underlying23 rfl hil.out ?_
    simp only [Act.put, List.setIfInBounds_toArray, List.set_cons_succ, List.set_cons_zero]
    go_big_quiet_on
    go_big_quiet_want
    refine quiet_load_row 23 (.tmp 2) rfl w.heap.size rfl 23 (bvs l) _ r0.out Try.underlying23 rfl hil.out ?_
    simp only [Act.put, List.setIfInBounds_toArray, List.set_cons_succ, List.set_cons_zero]
    go_big_quiet_on
    go_big_quiet_want
    refine quiet_same_hash (.tmp 13) (.tmp 14) rfl l hl.out rfl rfl ?_
    simp only [Act.put, List.setIfInBounds_toArray, List.set_cons_succ, List.set_cons_zero]
    go_big_quiet_on
    iterate 5 (first | go_big_quiet_skip | (go_big_quiet_want; go_big_quiet_op; go_big_quiet_on))
    go_big_quiet_want
    refine quiet_load_row 23 (.tmp 2) rfl w.heap.size rfl 23 (bvs l) _ r0.out Try.underlying23 rfl hil.out ?_
    simp only [Act.put, List.setIfInBounds_toArray, List.set_cons_succ, List.set_cons_zero]
    go_big_quiet_on
    go_big_quiet_want; go_big_quiet_op
    refine ⟨_, fun _ => since_of (hex_any l _ hl.out), ?_⟩
    go_big_quiet_on
    go_big_quiet_want
    refine quiet_load_row 23 (.tmp 3) rfl (w.heap.size + 1) rfl 23 (bvs g) _ r1.out Try.underlying23 rfl hir.out ?_
    simp only [Act.put, List.setIfInBounds_toArray, List.set_cons_succ, List.set_cons_zero]
    go_big_quiet_on
    go_big_quiet_want; go_big_quiet_op
    refine ⟨_, fun _ => since_of (hex_any g _ hg.out), ?_⟩
    go_big_quiet_on
    iterate 1 (first | go_big_quiet_skip | (go_big_quiet_want; go_big_quiet_op; go_big_quiet_on))
    go_big_quiet_want
    refine quiet_load_row 23 (.tmp 2) rfl w.heap.size rfl 23 (bvs l) _ r0.out Try.underlying23 rfl hil.out ?_
    simp only [Act.put, List.setIfInBounds_toArray, List.set_cons_succ, List.set_cons_zero]
    go_big_quiet_on
    go_big_quiet_want
    refine quiet_load_row 23 (.tmp 3) rfl (w.heap.size + 1) rfl 23 (bvs g) _ r1.out Try.underlying23 rfl hir.out ?_
    simp only [Act.put, List.setIfInBounds_toArray, List.set_cons_succ, List.set_cons_zero]
    go_big_quiet_on
    go_big_quiet_want
    refine quiet_eq_hash (.tmp 26) (.tmp 27) rfl l g hl.out hg.out rfl rfl ?_
    rw [decide_eq_false hne.out]
    simp only [Act.put, List.setIfInBounds_toArray, List.set_cons_succ, List.set_cons_zero]
    go_big_quiet_on
    iterate 3 (first | go_big_quiet_skip | (go_big_quiet_want; go_big_quiet_op; go_big_quiet_on))
    go_big_quiet_want
    refine quiet_load_row 23 (.tmp 2) rfl w.heap.size rfl 23 (bvs l) _ r0.out Try.underlying23 rfl hil.out ?_
    simp only [Act.put, List.setIfInBounds_toArray, List.set_cons_succ, List.set_cons_zero]
    go_big_quiet_on
    go_big_quiet_want; go_big_quiet_op
    refine ⟨_, fun _ => since_of (hex_any l _ hl.out), ?_⟩
    go_big_quiet_on
    iterate 4 (first | go_big_quiet_skip | (go_big_quiet_want; go_big_quiet_op; go_big_quiet_on))
    go_big_quiet_want
    refine quiet_load_row 23 (.tmp 2) rfl w.heap.size rfl 23 (bvs l) _ r0.out Try.underlying23 rfl hil.out ?_
    simp only [Act.put, List.setIfInBounds_toArray, List.set_cons_succ, List.set_cons_zero]
    go_big_quiet_on
    go_big_quiet_want; go_big_quiet_op
    refine ⟨_, fun _ => since_of (bytes_any l _ hl.out), ?_⟩
    go_big_quiet_on
    iterate 5 (first | go_big_quiet_skip | (go_big_quiet_want; go_big_quiet_op; go_big_quiet_on))
    refine wpQuiet_nil ?_
    intro w4 hw4
    go_wp2_with fail
    go_ret
    exact ⟨rfl, rB.out.trans (hw4.mono rB.out.size)⟩
theorem shaBack_row (l : List UInt8) (hl : l.length = 32) (g : List UInt8) (hg : g.length = 32) (w : World) :
    Calls Try.prog 3 #[hv l, hv g] w fun e w' => e = .returned (.bool true) ∧ Below w.heap.size w w' := shaBack_law l g hl hg w
end Go.Proofs.Ytfgmhmhankikmaa
