/- Package tree: leaf, pair, root; the reference's Leaf, Pair, Over. -/
import Derived.Test.YtikphhhkikdhaaaTreeL
import Derived.Test.YtikphhhkikdhaaaRefTwo
import Derived.Test.YtikphhhkikdhaaaOnce1
import Derived.Test.YtikphhhkikdhaaaPlan
import Derived.Test.YtikphhhkikdhaaaBuild
namespace Go.Proofs.Ytikphhhkikdhaaa
open Go.RowKit Go.Lib
set_option linter.unusedVariables false

set_option maxRecDepth 100000 in
set_option maxHeartbeats 800000 in
theorem leaf_any (h : List UInt8) (hl : h.length = 32) (w : World) :
    Calls Try.prog 56 #[hv h] w fun e w' => e = .returned (hv (leafL h)) ∧ Below w.heap.size w w' := by
  obtain ⟨R, hR⟩ : ∃ R, R = leafL h := ⟨_, rfl⟩
  have HO : Hid (∀ w, Calls Try.prog 26 #[.string ⟨#[108, 101, 97, 102]⟩, .slice (some ⟨w.heap.size, 0, none⟩) 1 1] (w.alloc (.cells #[.string ⟨h.toArray⟩] 9)) fun e w' => e = .returned (hv R) ∧ Below w.heap.size w w') := fun w => by rw [hR]; exact of1 tagLeaf h w (by decide) (by omega)
  have HB := hide (fun w => bytes_any h w hl)
  have HL : Hid (R.length = 32) := by rw [hR]; exact ofX_length _ _
  rw [← hR]
  have hA := HashAt.alloc (HashAt.new w h hl) (.cells (bvs zero32).toArray 23)
  have z := HashAt.new2 w (.cells (bvs h).toArray 23) zero32 rfl
  have b := below2 w (.cells (bvs h).toArray 23) (.cells (bvs zero32).toArray 23)
  clear hR hl
  generalize (⟨h.toArray⟩ : ByteArray) = hb at *
  unfold hv
  go_enter Try.func56, Try.ntmps56
  go_wp2_with (refine wpl_load_hash (w := (w.alloc (.cells (bvs h).toArray 23)).alloc (.cells (bvs zero32).toArray 23)) rfl _ rfl rfl hA ?_)
  show Calls _ _ _ ((w.alloc (.cells (bvs h).toArray 23)).alloc (.cells (bvs zero32).toArray 23)) _
  generalize (w.alloc (.cells (bvs h).toArray 23)).alloc (.cells (bvs zero32).toArray 23) = W at *
  refine (HB.out _).mono ?_
  rintro _ wc1 ⟨rfl, hc1⟩
  replace z := z.later hc1
  replace b := later b hc1
  clear hc1
  go_wp2_with fail
  refine (HO.out _).mono ?_
  rintro _ wc2 ⟨rfl, hc2⟩
  replace z := z.later hc2
  replace b := later b hc2
  clear hc2
  have zr := z.row R HL.out
  have br := below_setRow (b := w.heap.size + 1) b (by omega) (bvs R).toArray
  go_wp2_with (refine wpl_store_hash rfl _ _ rfl rfl rfl HL.out z ?_)
  exact bodyPost_ret (v := hv R) (ret_hash rfl _ _ rfl zr) rfl ⟨rfl, br⟩
set_option maxRecDepth 100000 in
set_option maxHeartbeats 800000 in
theorem refLeaf_any (h : List UInt8) (hl : h.length = 32) (w : World) :
    Calls Try.prog 58 #[hv h] w fun e w' => e = .returned (hv (leafL h)) ∧ Below w.heap.size w w' := by
  obtain ⟨R, hR⟩ : ∃ R, R = leafL h := ⟨_, rfl⟩
  have HO : Hid (∀ w, Calls Try.prog 44 #[.string ⟨#[108, 101, 97, 102]⟩, .string ⟨h.toArray⟩] w fun e w' => e = .returned (hv R) ∧ Below w.heap.size w w') := fun w => by rw [hR]; exact refOne_any tagLeaf h w (by decide) (by omega)
  have HB := hide (fun w => refBytes_any h w hl)
  have HL : Hid (R.length = 32) := by rw [hR]; exact ofX_length _ _
  rw [← hR]
  have hA := HashAt.alloc (HashAt.new w h hl) (.cells (bvs zero32).toArray 23)
  have z := HashAt.new2 w (.cells (bvs h).toArray 23) zero32 rfl
  have b := below2 w (.cells (bvs h).toArray 23) (.cells (bvs zero32).toArray 23)
  clear hR hl
  generalize (⟨h.toArray⟩ : ByteArray) = hb at *
  unfold hv
  go_enter Try.func58, Try.ntmps58
  go_wp2_with (refine wpl_load_hash (w := (w.alloc (.cells (bvs h).toArray 23)).alloc (.cells (bvs zero32).toArray 23)) rfl _ rfl rfl hA ?_)
  show Calls _ _ _ ((w.alloc (.cells (bvs h).toArray 23)).alloc (.cells (bvs zero32).toArray 23)) _
  generalize (w.alloc (.cells (bvs h).toArray 23)).alloc (.cells (bvs zero32).toArray 23) = W at *
  refine (HB.out _).mono ?_
  rintro _ wc3 ⟨rfl, hc3⟩
  replace z := z.later hc3
  replace b := later b hc3
  clear hc3
  go_wp2_with fail
  refine (HO.out _).mono ?_
  rintro _ wc4 ⟨rfl, hc4⟩
  replace z := z.later hc4
  replace b := later b hc4
  clear hc4
  have zr := z.row R HL.out
  have br := below_setRow (b := w.heap.size + 1) b (by omega) (bvs R).toArray
  go_wp2_with (refine wpl_store_hash rfl _ _ rfl rfl rfl HL.out z ?_)
  exact bodyPost_ret (v := hv R) (ret_hash rfl _ _ rfl zr) rfl ⟨rfl, br⟩
theorem below3z (w : World) (a b : List UInt8) (ha : a.length = 32) (hb : b.length = 32) :
    HashAt (((w.alloc (.cells (bvs a).toArray 23)).alloc (.cells (bvs b).toArray 23)).alloc (.cells (bvs zero32).toArray 23)) w.heap.size a ∧ HashAt (((w.alloc (.cells (bvs a).toArray 23)).alloc (.cells (bvs b).toArray 23)).alloc (.cells (bvs zero32).toArray 23)) (w.heap.size + 1) b ∧
    HashAt (((w.alloc (.cells (bvs a).toArray 23)).alloc (.cells (bvs b).toArray 23)).alloc (.cells (bvs zero32).toArray 23)) (w.heap.size + 2) zero32 ∧ Below w.heap.size w (((w.alloc (.cells (bvs a).toArray 23)).alloc (.cells (bvs b).toArray 23)).alloc (.cells (bvs zero32).toArray 23)) :=
  ⟨HashAt.alloc (HashAt.alloc (HashAt.new w a ha) _) _, HashAt.alloc (HashAt.new2 w _ b hb) _, HashAt.new3 w _ _ zero32 rfl, below3a w _ _ _⟩
set_option maxRecDepth 100000 in
set_option maxHeartbeats 800000 in
theorem pair_any (x y : List UInt8) (hx : x.length = 32) (hy : y.length = 32) (w : World) :
    Calls Try.prog 57 #[hv x, hv y] w fun e w' => e = .returned (hv (pairL x y)) ∧ Below w.heap.size w w' := by
  obtain ⟨R, hR⟩ : ∃ R, R = pairL x y := ⟨_, rfl⟩
  have HO : Hid (∀ w, Calls Try.prog 26 #[.string ⟨#[112, 97, 105, 114]⟩, .slice (some ⟨w.heap.size, 0, none⟩) 2 2] (w.alloc (.cells #[.string ⟨x.toArray⟩, .string ⟨y.toArray⟩] 9)) fun e w' => e = .returned (hv R) ∧ Below w.heap.size w w') := fun w => by rw [hR]; exact of2 tagPair x y w (by decide) (by omega) (by omega)
  have HBx := hide (fun w => bytes_any x w hx)
  have HBy := hide (fun w => bytes_any y w hy)
  have HL : Hid (R.length = 32) := by rw [hR]; exact ofX_length _ _
  rw [← hR]
  obtain ⟨hA, hB, z, b⟩ := below3z w x y hx hy
  clear hR hx hy
  generalize (⟨x.toArray⟩ : ByteArray) = xb at *
  generalize (⟨y.toArray⟩ : ByteArray) = yb at *
  unfold hv
  go_enter Try.func57, Try.ntmps57
  go_wp2_with fail
  show Code.wp _ _ _ _ (((w.alloc (.cells (bvs x).toArray 23)).alloc (.cells (bvs y).toArray 23)).alloc (.cells (bvs zero32).toArray 23))
  generalize ((w.alloc (.cells (bvs x).toArray 23)).alloc (.cells (bvs y).toArray 23)).alloc (.cells (bvs zero32).toArray 23) = W at *
  refine region_since_tail 4 (by kernel_rfl) (by kernel_rfl) ?_
  simp only [List.take_succ_cons, List.take_zero]
  repeat (first | go_big_quiet_skip | (go_big_quiet_want; first | (refine quiet_load_hash _ rfl rfl (by assumption) ?_; simp only [Act.put, List.setIfInBounds_toArray, List.set_cons_succ, List.set_cons_zero]; go_big_quiet_on) | (go_big_quiet_op; go_big_quiet_on)))
  go_big_quiet_want; go_big_quiet_op
  refine ⟨_, fun _ => since_of (HBx.out _), ?_⟩
  go_big_quiet_on
  repeat (first | go_big_quiet_skip | (go_big_quiet_want; first | (refine quiet_load_hash _ rfl rfl (by assumption) ?_; simp only [Act.put, List.setIfInBounds_toArray, List.set_cons_succ, List.set_cons_zero]; go_big_quiet_on) | (go_big_quiet_op; go_big_quiet_on)))
  go_big_quiet_want; go_big_quiet_op
  refine ⟨_, fun _ => since_of (HBy.out _), ?_⟩
  go_big_quiet_on
  refine wpQuiet_nil ?_
  intro w3 hq5
  replace z := z.later hq5
  replace b := later b hq5
  clear hq5
  simp only [List.drop_succ_cons, List.drop_zero]
  go_wp2_with fail
  refine (HO.out _).mono ?_
  rintro _ wc6 ⟨rfl, hc6⟩
  replace z := z.later hc6
  replace b := later b hc6
  clear hc6
  have zr := z.row R HL.out
  have br := below_setRow (b := w.heap.size + 2) b (by omega) (bvs R).toArray
  go_wp2_with (refine wpl_store_hash rfl _ _ rfl rfl rfl HL.out z ?_)
  exact bodyPost_ret (v := hv R) (ret_hash rfl _ _ rfl zr) rfl ⟨rfl, br⟩
set_option maxRecDepth 100000 in
set_option maxHeartbeats 800000 in
theorem refPair_any (x y : List UInt8) (hx : x.length = 32) (hy : y.length = 32) (w : World) :
    Calls Try.prog 59 #[hv x, hv y] w fun e w' => e = .returned (hv (pairL x y)) ∧ Below w.heap.size w w' := by
  obtain ⟨R, hR⟩ : ∃ R, R = pairL x y := ⟨_, rfl⟩
  have HO : Hid (∀ w, Calls Try.prog 71 #[.string ⟨#[112, 97, 105, 114]⟩, .string ⟨x.toArray⟩, .string ⟨y.toArray⟩] w fun e w' => e = .returned (hv R) ∧ Below w.heap.size w w') := fun w => by rw [hR]; exact refTwo_any tagPair x y w (by decide) (by omega) (by omega)
  have HBx := hide (fun w => refBytes_any x w hx)
  have HBy := hide (fun w => refBytes_any y w hy)
  have HL : Hid (R.length = 32) := by rw [hR]; exact ofX_length _ _
  rw [← hR]
  obtain ⟨hA, hB, z, b⟩ := below3z w x y hx hy
  clear hR hx hy
  generalize (⟨x.toArray⟩ : ByteArray) = xb at *
  generalize (⟨y.toArray⟩ : ByteArray) = yb at *
  unfold hv
  go_enter Try.func59, Try.ntmps59
  go_wp2_with fail
  show Code.wp _ _ _ _ (((w.alloc (.cells (bvs x).toArray 23)).alloc (.cells (bvs y).toArray 23)).alloc (.cells (bvs zero32).toArray 23))
  generalize ((w.alloc (.cells (bvs x).toArray 23)).alloc (.cells (bvs y).toArray 23)).alloc (.cells (bvs zero32).toArray 23) = W at *
  refine region_since_tail 5 (by kernel_rfl) (by kernel_rfl) ?_
  simp only [List.take_succ_cons, List.take_zero]
  repeat (first | go_big_quiet_skip | (go_big_quiet_want; first | (refine quiet_load_hash _ rfl rfl (by assumption) ?_; simp only [Act.put, List.setIfInBounds_toArray, List.set_cons_succ, List.set_cons_zero]; go_big_quiet_on) | (go_big_quiet_op; go_big_quiet_on)))
  go_big_quiet_want; go_big_quiet_op
  refine ⟨_, fun _ => since_of (HBx.out _), ?_⟩
  go_big_quiet_on
  repeat (first | go_big_quiet_skip | (go_big_quiet_want; first | (refine quiet_load_hash _ rfl rfl (by assumption) ?_; simp only [Act.put, List.setIfInBounds_toArray, List.set_cons_succ, List.set_cons_zero]; go_big_quiet_on) | (go_big_quiet_op; go_big_quiet_on)))
  go_big_quiet_want; go_big_quiet_op
  refine ⟨_, fun _ => since_of (HBy.out _), ?_⟩
  go_big_quiet_on
  repeat (first | go_big_quiet_skip | (go_big_quiet_want; first | (refine quiet_load_hash _ rfl rfl (by assumption) ?_; simp only [Act.put, List.setIfInBounds_toArray, List.set_cons_succ, List.set_cons_zero]; go_big_quiet_on) | (go_big_quiet_op; go_big_quiet_on)))
  go_big_quiet_want; go_big_quiet_op
  refine ⟨_, fun _ => since_of (HO.out _), ?_⟩
  go_big_quiet_on
  refine wpQuiet_nil ?_
  intro w3 hq7
  replace z := z.later hq7
  replace b := later b hq7
  clear hq7
  simp only [List.drop_succ_cons, List.drop_zero]
  have zr := z.row R HL.out
  have br := below_setRow (b := w.heap.size + 2) b (by omega) (bvs R).toArray
  go_wp2_with (refine wpl_store_hash rfl _ _ rfl rfl rfl HL.out z ?_)
  exact bodyPost_ret (v := hv R) (ret_hash rfl _ _ rfl zr) rfl ⟨rfl, br⟩
set_option maxRecDepth 100000 in
set_option maxHeartbeats 800000 in
theorem root_any (n : Nat) (t : List UInt8) (hn : n ≤ 9223372036854775807) (ht : t.length = 32) (w : World) :
    Calls Try.prog 51 #[.int .i64 n, hv t] w fun e w' => e = .returned (hv (rootL n t)) ∧ Below w.heap.size w w' := by
  obtain ⟨R, hR⟩ : ∃ R, R = rootL n t := ⟨_, rfl⟩
  have HO : Hid (∀ w, Calls Try.prog 26 #[.string ⟨#[114, 111, 111, 116]⟩, .slice (some ⟨w.heap.size, 0, none⟩) 2 2] (w.alloc (.cells #[.string ⟨(eightL n).toArray⟩, .string ⟨t.toArray⟩] 9)) fun e w' => e = .returned (hv R) ∧ Below w.heap.size w w') := fun w => by rw [hR]; exact of2 tagRoot (eightL n) t w (by decide) (by rw [eightL_length]; omega) (by omega)
  have HE := hide (fun w => eight_any n w)
  have HB := hide (fun w => bytes_any t w ht)
  have HL : Hid (R.length = 32) := by rw [hR]; exact ofX_length _ _
  rw [← hR]
  have hA := HashAt.alloc (HashAt.new w t ht) (.cells (bvs zero32).toArray 23)
  have z := HashAt.new2 w (.cells (bvs t).toArray 23) zero32 rfl
  have b := below2 w (.cells (bvs t).toArray 23) (.cells (bvs zero32).toArray 23)
  clear hR ht
  generalize (⟨t.toArray⟩ : ByteArray) = tb at *
  generalize (⟨(eightL n).toArray⟩ : ByteArray) = nb at *
  unfold hv
  go_enter Try.func51, Try.ntmps51
  go_wp2_with fail
  show Code.wp _ _ _ _ ((w.alloc (.cells (bvs t).toArray 23)).alloc (.cells (bvs zero32).toArray 23))
  generalize (w.alloc (.cells (bvs t).toArray 23)).alloc (.cells (bvs zero32).toArray 23) = W at *
  refine region_since_tail 5 (by kernel_rfl) (by kernel_rfl) ?_
  simp only [List.take_succ_cons, List.take_zero]
  repeat (first | go_big_quiet_skip | (go_big_quiet_want; first | (refine quiet_load_hash _ rfl rfl (by assumption) ?_; simp only [Act.put, List.setIfInBounds_toArray, List.set_cons_succ, List.set_cons_zero]; go_big_quiet_on) | (go_big_quiet_op; go_big_quiet_on)))
  go_big_quiet_want; go_big_quiet_op
  refine ⟨_, fun _ => since_of (HE.out _), ?_⟩
  go_big_quiet_on
  repeat (first | go_big_quiet_skip | (go_big_quiet_want; first | (refine quiet_load_hash _ rfl rfl (by assumption) ?_; simp only [Act.put, List.setIfInBounds_toArray, List.set_cons_succ, List.set_cons_zero]; go_big_quiet_on) | (go_big_quiet_op; go_big_quiet_on)))
  go_big_quiet_want; go_big_quiet_op
  refine ⟨_, fun _ => since_of (HB.out _), ?_⟩
  go_big_quiet_on
  refine wpQuiet_nil ?_
  intro w3 hq8
  replace z := z.later hq8
  replace b := later b hq8
  clear hq8
  simp only [List.drop_succ_cons, List.drop_zero]
  go_wp2_with fail
  refine (HO.out _).mono ?_
  rintro _ wc9 ⟨rfl, hc9⟩
  replace z := z.later hc9
  replace b := later b hc9
  clear hc9
  have zr := z.row R HL.out
  have br := below_setRow (b := w.heap.size + 1) b (by omega) (bvs R).toArray
  go_wp2_with (refine wpl_store_hash rfl _ _ rfl rfl rfl HL.out z ?_)
  exact bodyPost_ret (v := hv R) (ret_hash rfl _ _ rfl zr) rfl ⟨rfl, br⟩
set_option maxRecDepth 100000 in
set_option maxHeartbeats 800000 in
theorem refOver_any (n : Nat) (t : List UInt8) (hn : n ≤ 9223372036854775807) (ht : t.length = 32) (w : World) :
    Calls Try.prog 55 #[.int .i64 n, hv t] w fun e w' => e = .returned (hv (rootL n t)) ∧ Below w.heap.size w w' := by
  obtain ⟨R, hR⟩ : ∃ R, R = rootL n t := ⟨_, rfl⟩
  have HO : Hid (∀ w, Calls Try.prog 71 #[.string ⟨#[114, 111, 111, 116]⟩, .string ⟨(eightL n).toArray⟩, .string ⟨t.toArray⟩] w fun e w' => e = .returned (hv R) ∧ Below w.heap.size w w') := fun w => by rw [hR]; exact refTwo_any tagRoot (eightL n) t w (by decide) (by rw [eightL_length]; omega) (by omega)
  have HE := hide (fun w => refEight_any n w (by omega))
  have HB := hide (fun w => refBytes_any t w ht)
  have HL : Hid (R.length = 32) := by rw [hR]; exact ofX_length _ _
  rw [← hR]
  have hA := HashAt.alloc (HashAt.new w t ht) (.cells (bvs zero32).toArray 23)
  have z := HashAt.new2 w (.cells (bvs t).toArray 23) zero32 rfl
  have b := below2 w (.cells (bvs t).toArray 23) (.cells (bvs zero32).toArray 23)
  clear hR ht
  generalize (⟨t.toArray⟩ : ByteArray) = tb at *
  generalize (⟨(eightL n).toArray⟩ : ByteArray) = nb at *
  unfold hv
  go_enter Try.func55, Try.ntmps55
  go_wp2_with fail
  show Code.wp _ _ _ _ ((w.alloc (.cells (bvs t).toArray 23)).alloc (.cells (bvs zero32).toArray 23))
  generalize (w.alloc (.cells (bvs t).toArray 23)).alloc (.cells (bvs zero32).toArray 23) = W at *
  refine region_since_tail 6 (by kernel_rfl) (by kernel_rfl) ?_
  simp only [List.take_succ_cons, List.take_zero]
  repeat (first | go_big_quiet_skip | (go_big_quiet_want; first | (refine quiet_load_hash _ rfl rfl (by assumption) ?_; simp only [Act.put, List.setIfInBounds_toArray, List.set_cons_succ, List.set_cons_zero]; go_big_quiet_on) | (go_big_quiet_op; go_big_quiet_on)))
  go_big_quiet_want; go_big_quiet_op
  refine ⟨_, fun _ => since_of (HE.out _), ?_⟩
  go_big_quiet_on
  repeat (first | go_big_quiet_skip | (go_big_quiet_want; first | (refine quiet_load_hash _ rfl rfl (by assumption) ?_; simp only [Act.put, List.setIfInBounds_toArray, List.set_cons_succ, List.set_cons_zero]; go_big_quiet_on) | (go_big_quiet_op; go_big_quiet_on)))
  go_big_quiet_want; go_big_quiet_op
  refine ⟨_, fun _ => since_of (HB.out _), ?_⟩
  go_big_quiet_on
  repeat (first | go_big_quiet_skip | (go_big_quiet_want; first | (refine quiet_load_hash _ rfl rfl (by assumption) ?_; simp only [Act.put, List.setIfInBounds_toArray, List.set_cons_succ, List.set_cons_zero]; go_big_quiet_on) | (go_big_quiet_op; go_big_quiet_on)))
  go_big_quiet_want; go_big_quiet_op
  refine ⟨_, fun _ => since_of (HO.out _), ?_⟩
  go_big_quiet_on
  refine wpQuiet_nil ?_
  intro w3 hq10
  replace z := z.later hq10
  replace b := later b hq10
  clear hq10
  simp only [List.drop_succ_cons, List.drop_zero]
  have zr := z.row R HL.out
  have br := below_setRow (b := w.heap.size + 1) b (by omega) (bvs R).toArray
  go_wp2_with (refine wpl_store_hash rfl _ _ rfl rfl rfl HL.out z ?_)
  exact bodyPost_ret (v := hv R) (ret_hash rfl _ _ rfl zr) rfl ⟨rfl, br⟩
end Go.Proofs.Ytikphhhkikdhaaa
