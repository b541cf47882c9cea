/- Package once: the closure of Tells. -/
import Derived.Test.YtikphhhkikdhaaaOncePub
namespace Go.Proofs.Ytikphhhkikdhaaa
open Go.RowKit Go.Lib

theorem txt_back (s : ByteArray) : (⟨s.data.toList.toArray⟩ : ByteArray) = s := by cases s; simp
theorem mark_ba (s : ByteArray) (hs : s.size ≤ 1048576) (w : World) :
    Calls Try.prog 40 #[.string s] w fun e w' => e = .returned (.string ⟨(markL s.data.toList).toArray⟩) ∧ Below w.heap.size w w' := by
  have := mark_any s.data.toList (by simpa using hs) w
  rwa [txt_back] at this
/-- A part of a text. -/
def cut (s : ByteArray) (x y : Nat) : List UInt8 := (s.extract x y).data.toList
/-- What a signature's place tells: the two marks. -/
def tellM (m : List UInt8) (sig : ByteArray) (i : Nat) : List UInt8 × List UInt8 :=
  if 16 ≤ i then (zero32, zero32) else if bitL m i = 0 then (markL (cut sig (64 * i) (64 * i + 32)), cut sig (64 * i + 32) (64 * i + 64)) else (cut sig (64 * i + 32) (64 * i + 64), markL (cut sig (64 * i) (64 * i + 32)))
def PairIs (w : World) (g : Nat) (a b : ByteArray) : Prop := Arr w g 47 [.string a, .string b]

set_option maxRecDepth 100000 in
set_option maxHeartbeats 1600000 in
theorem tell1_any (m : List UInt8) (sig : ByteArray) (hsz : sig.size = 1024) (g h i : Nat) (hi : i < 16) (w : World) (hA : HashAt w g m) (hh : h < w.heap.size) (hs : w.cell? ⟨h, 0, none⟩ = some (.string sig)) :
    Calls Try.prog 49 #[.int .i64 i, .pointer (some ⟨g, 0, none⟩), .pointer (some ⟨h, 0, none⟩)] w fun e w' => e = .returned (pairV (tellM m sig i).1 (tellM m sig i).2) ∧ Below w.heap.size w w' := by
  have hb := below2 w (.cells #[.string ⟨#[]⟩, .string ⟨#[]⟩] 47) (.cells #[.string ⟨#[]⟩, .string ⟨#[]⟩] 47)
  have hp := Arr.new2 w (.cells #[.string ⟨#[]⟩, .string ⟨#[]⟩] 47) [.string ⟨#[]⟩, .string ⟨#[]⟩] 47
  have hq := Arr.alloc (Arr.new w [.string ⟨#[]⟩, .string ⟨#[]⟩] 47) (.cells #[.string ⟨#[]⟩, .string ⟨#[]⟩] 47)
  have hA1 := hA.later hb
  have hs1 := (hb.cell (p := ⟨h, 0, none⟩) hh).trans hs
  have hg := hA.lt
  have HB := hide (fun w => bit_any m i hA.1 hi w)
  have HA := hide hA1
  have hbl := bitL_lt m i
  clear hA hs
  have HT0 : Hid (bitL m i = 0 → tellM m sig i = (markL (cut sig (64 * i) (64 * i + 32)), cut sig (64 * i + 32) (64 * i + 64))) := fun h => by unfold tellM; rw [if_neg (by omega), if_pos h]
  have HT1 : Hid (bitL m i ≠ 0 → tellM m sig i = (cut sig (64 * i + 32) (64 * i + 64), markL (cut sig (64 * i) (64 * i + 32)))) := fun h => by unfold tellM; rw [if_neg (by omega), if_neg h]
  generalize bitL m i = b at *
  go_enter Try.func49, Try.ntmps49
  go_wp2_with (refine wpl_load_hash rfl _ rfl rfl HA.out ?_)
  show Calls _ _ _ ((w.alloc (.cells #[.string ⟨#[]⟩, .string ⟨#[]⟩] 47)).alloc (.cells #[.string ⟨#[]⟩, .string ⟨#[]⟩] 47)) _
  generalize (w.alloc (.cells #[.string ⟨#[]⟩, .string ⟨#[]⟩] 47)).alloc (.cells #[.string ⟨#[]⟩, .string ⟨#[]⟩] 47) = W at *
  refine (HB.out _).mono ?_
  rintro _ w3 ⟨rfl, hb3⟩
  go_wp2_with fail
  have hb4 := later hb hb3
  have hp3 := hp.later hb3
  have hq3 := hq.later hb3
  have hs3 := (hb3.cell (p := ⟨h, 0, none⟩) (by have := hb.size; show h < _; omega)).trans hs1
  clear hb hp hq hs1 hA1 HA hb3
  obtain ⟨K, hKd⟩ : ∃ K : World → Prop, ∀ w2, K w2 ↔ (Below w.heap.size w w2 ∧ w2.cell? ⟨h, 0, none⟩ = some (.string sig) ∧ PairAt w2 (w.heap.size + 1) ∧ PairAt w2 w.heap.size) := ⟨_, fun _ => Iff.rfl⟩
  have hK3 : K w3 := (hKd _).2 ⟨hb4, hs3, ⟨_, _, hp3⟩, ⟨_, _, hq3⟩⟩
  have hne : Nonempty (Kept K) := ⟨⟨w3, hK3⟩⟩
  refine region_kept K [([0, 1, 2, 3, 4, 5, 6, 7], true, [8]), ([9, 10, 11, 12, 13, 14, 15], false, [16]), ([17], false, [18])] (by kernel_rfl) (by kernel_rfl) (by kernel_rfl) (by decide) hK3
    (fun a c h1 k => by rw [hKd] at h1 ⊢; obtain ⟨r1, r2, ⟨x, y, r3⟩, ⟨x', y', r4⟩⟩ := h1; exact ⟨later r1 k, (k.cell (p := ⟨h, 0, none⟩) (by have := r1.size; show h < _; omega)).trans r2, ⟨x, y, r3.later k⟩, ⟨x', y', r4.later k⟩⟩) ?_
  obtain ⟨X, hX⟩ : ∃ X : ByteArray, X = ⟨(markL (cut sig (64 * i) (64 * i + 32))).toArray⟩ := ⟨_, rfl⟩
  have HMK : Hid (∀ w, Calls Try.prog 40 #[.string (sig.extract (64 * i) (64 * i + 32))] w fun e w' => e = .returned (.string X) ∧ Below w.heap.size w w') := by
    intro w; rw [hX]; exact mark_ba (sig.extract (64 * i) (64 * i + 32)) (by rw [ByteArray.size_extract]; omega) w
  have HX := hide hX
  have HY : Hid (⟨(cut sig (64 * i + 32) (64 * i + 64)).toArray⟩ = sig.extract (64 * i + 32) (64 * i + 64)) := txt_back _
  clear hX
  rcases (by omega : b = 0 ∨ b = 1) with rfl | rfl
  · intro w0 hw0 hs0
    simp only [pickFl, pickOps, List.getElem?_cons_succ, List.getElem?_cons_zero, List.nil_append, List.cons_append]
    have hcs : ∀ s : Kept K, s.w.cell? ⟨h, 0, none⟩ = some (.string sig) := fun s => ((hKd _).1 s.ok).2.1
    refine fl_float ?_
    repeat (first | go_big_quiet_skip | (go_big_quiet_want; go_big_quiet_op; go_big_quiet_on))
    refine wpQuiet_nil ?_
    refine fl_call (args := #[.string (sig.extract (64 * i) (64 * i + 32))]) (by rfl) rfl (by kernel_rfl) (by simp only [List.map_toArray, List.map_cons, List.map_nil]; rfl) (fun w' _ => HMK.out w') ?_
    intro w4 hw4
    simp only [Act.put, List.setIfInBounds_toArray, List.set_cons_succ, List.set_cons_zero]
    refine fl_loud ?_
    repeat (first | go_big_quiet_skip | (go_big_quiet_want; go_big_quiet_op; go_big_quiet_on))
    refine wpQuiet_nil ?_
    intro w5 hw5 hC5
    obtain ⟨s5, rfl⟩ := hC5
    generalize sig.extract (64 * i + 32) (64 * i + 64) = Y at *
    obtain ⟨k1, k2, ⟨y0, y1, k3⟩, ⟨z0, z1, k4⟩⟩ := (hKd _).1 s5.ok
    generalize s5.w = w5 at *
    have c0 : w5.cell? ⟨w.heap.size + 1, 0, none⟩ = some (.string y0) := k3.cell (by simp)
    have t0 := k3.thaw 0
    go_wp2_with fail
    have r5 : Arr (w5.setCell ⟨w.heap.size + 1, 0, none⟩ (.string X)) (w.heap.size + 1) 47 [.string X, .string y1] := k3.set 0 _
    have s5 : Below w.heap.size w5 (w5.setCell ⟨w.heap.size + 1, 0, none⟩ (.string X)) := (Below.refl _ _).setCell (by show w.heap.size ≤ w.heap.size + 1; omega) _
    have q5 := k4.other ⟨w.heap.size + 1, 0, none⟩ (.string X) (by show w.heap.size ≠ w.heap.size + 1; omega)
    refine mixQ_mk (kept ((hKd _).2 ⟨k1.trans s5, (s5.cell (p := ⟨h, 0, none⟩) hh).trans k2, ⟨_, _, r5⟩, ⟨_, _, q5⟩⟩)) (fl_loud ?_)
    repeat (first | go_big_quiet_skip | (go_big_quiet_want; go_big_quiet_op; go_big_quiet_on))
    refine wpQuiet_nil ?_
    intro w6 hw6 hC6
    have r6 := r5.later hw6
    have q6 := q5.later hw6
    have b6 := later (k1.trans s5) hw6
    have k6 := (hw6.cell (p := ⟨h, 0, none⟩) (by have := (k1.trans s5).size; show h < _; omega)).trans ((s5.cell (p := ⟨h, 0, none⟩) hh).trans k2)
    have c6 : w6.cell? ⟨w.heap.size + 1, 1, none⟩ = some (.string y1) := r6.cell (by simp)
    have t6 := r6.thaw 1
    clear r5 q5 s5 k1 k2 k3 k4 hC6
    go_wp2_with fail
    have r7 : Arr (w6.setCell ⟨w.heap.size + 1, 1, none⟩ (.string Y)) (w.heap.size + 1) 47 [.string X, .string Y] := r6.set 1 _
    have s7 : Below w.heap.size w6 (w6.setCell ⟨w.heap.size + 1, 1, none⟩ (.string Y)) := (Below.refl _ _).setCell (by show w.heap.size ≤ w.heap.size + 1; omega) _
    have q7 := q6.other ⟨w.heap.size + 1, 1, none⟩ (.string Y) (by show w.heap.size ≠ w.heap.size + 1; omega)
    refine mixQ_mk (kept ((hKd _).2 ⟨b6.trans s7, (s7.cell (p := ⟨h, 0, none⟩) hh).trans k6, ⟨_, _, r7⟩, ⟨_, _, q7⟩⟩)) (fl_end ?_)
    intro w8 hw8 _
    have r8 := r7.later hw8
    have q8 := q7.later hw8
    have b8 := later (b6.trans s7) hw8
    clear r7 q7 s7 r6 q6 b6 c6 t6 hcs
    go_wp2_with (first | (refine wpList_load_row rfl 47 _ rfl (w.heap.size + 1) rfl 47 #[.string X, .string Y] (0, 0) _ r8 Try.underlying47 rfl info2 ?_) | (refine wpList_store_row rfl 47 _ _ rfl w.heap.size #[.string X, .string Y] rfl rfl 47 _ q8 info2 rfl (by simp [Value.oneCell']) ?_))
    have y1 := Arr.row q8 [.string X, .string Y]
    have y2 := below_setRow b8 (Nat.le_refl w.heap.size) #[.string X, .string Y]
    have ee : Value.agg #[.string X, .string Y] = pairV (tellM m sig i).1 (tellM m sig i).2 := by
      rw [(HT0.out (by trivial))]
      unfold pairV
      rw [HY.out, HX.out]
    exact bodyPost_ret (v := .agg #[.string X, .string Y]) (results_cell_row rfl _ _ w.heap.size 47 _ (0, 0) _ rfl y1 Try.underlying47 rfl info2) rfl ⟨by rw [ee], y2⟩
  · intro w0 hw0 hs0
    simp only [pickFl, pickOps, List.getElem?_cons_succ, List.getElem?_cons_zero, List.nil_append, List.cons_append]
    have hcs : ∀ s : Kept K, s.w.cell? ⟨h, 0, none⟩ = some (.string sig) := fun s => ((hKd _).1 s.ok).2.1
    refine fl_float ?_
    repeat (first | go_big_quiet_skip | (go_big_quiet_want; go_big_quiet_op; go_big_quiet_on))
    refine wpQuiet_nil ?_
    refine fl_call (args := #[.string (sig.extract (64 * i) (64 * i + 32))]) (by rfl) rfl (by kernel_rfl) (by simp only [List.map_toArray, List.map_cons, List.map_nil]; rfl) (fun w' _ => HMK.out w') ?_
    intro w4 hw4
    simp only [Act.put, List.setIfInBounds_toArray, List.set_cons_succ, List.set_cons_zero]
    refine fl_loud ?_
    repeat (first | go_big_quiet_skip | (go_big_quiet_want; go_big_quiet_op; go_big_quiet_on))
    refine wpQuiet_nil ?_
    intro w5 hw5 hC5
    obtain ⟨s5, rfl⟩ := hC5
    generalize sig.extract (64 * i + 32) (64 * i + 64) = Y at *
    obtain ⟨k1, k2, ⟨y0, y1, k3⟩, ⟨z0, z1, k4⟩⟩ := (hKd _).1 s5.ok
    generalize s5.w = w5 at *
    have c0 : w5.cell? ⟨w.heap.size + 1, 1, none⟩ = some (.string y1) := k3.cell (by simp)
    have t0 := k3.thaw 1
    go_wp2_with fail
    have r5 : Arr (w5.setCell ⟨w.heap.size + 1, 1, none⟩ (.string X)) (w.heap.size + 1) 47 [.string y0, .string X] := k3.set 1 _
    have s5 : Below w.heap.size w5 (w5.setCell ⟨w.heap.size + 1, 1, none⟩ (.string X)) := (Below.refl _ _).setCell (by show w.heap.size ≤ w.heap.size + 1; omega) _
    have q5 := k4.other ⟨w.heap.size + 1, 1, none⟩ (.string X) (by show w.heap.size ≠ w.heap.size + 1; omega)
    refine mixQ_mk (kept ((hKd _).2 ⟨k1.trans s5, (s5.cell (p := ⟨h, 0, none⟩) hh).trans k2, ⟨_, _, r5⟩, ⟨_, _, q5⟩⟩)) (fl_loud ?_)
    repeat (first | go_big_quiet_skip | (go_big_quiet_want; go_big_quiet_op; go_big_quiet_on))
    refine wpQuiet_nil ?_
    intro w6 hw6 hC6
    have r6 := r5.later hw6
    have q6 := q5.later hw6
    have b6 := later (k1.trans s5) hw6
    have k6 := (hw6.cell (p := ⟨h, 0, none⟩) (by have := (k1.trans s5).size; show h < _; omega)).trans ((s5.cell (p := ⟨h, 0, none⟩) hh).trans k2)
    have c6 : w6.cell? ⟨w.heap.size + 1, 0, none⟩ = some (.string y0) := r6.cell (by simp)
    have t6 := r6.thaw 0
    clear r5 q5 s5 k1 k2 k3 k4 hC6
    go_wp2_with fail
    have r7 : Arr (w6.setCell ⟨w.heap.size + 1, 0, none⟩ (.string Y)) (w.heap.size + 1) 47 [.string Y, .string X] := r6.set 0 _
    have s7 : Below w.heap.size w6 (w6.setCell ⟨w.heap.size + 1, 0, none⟩ (.string Y)) := (Below.refl _ _).setCell (by show w.heap.size ≤ w.heap.size + 1; omega) _
    have q7 := q6.other ⟨w.heap.size + 1, 0, none⟩ (.string Y) (by show w.heap.size ≠ w.heap.size + 1; omega)
    refine mixQ_mk (kept ((hKd _).2 ⟨b6.trans s7, (s7.cell (p := ⟨h, 0, none⟩) hh).trans k6, ⟨_, _, r7⟩, ⟨_, _, q7⟩⟩)) (fl_end ?_)
    intro w8 hw8 _
    have r8 := r7.later hw8
    have q8 := q7.later hw8
    have b8 := later (b6.trans s7) hw8
    clear r7 q7 s7 r6 q6 b6 c6 t6 hcs
    go_wp2_with (first | (refine wpList_load_row rfl 47 _ rfl (w.heap.size + 1) rfl 47 #[.string Y, .string X] (0, 0) _ r8 Try.underlying47 rfl info2 ?_) | (refine wpList_store_row rfl 47 _ _ rfl w.heap.size #[.string Y, .string X] rfl rfl 47 _ q8 info2 rfl (by simp [Value.oneCell']) ?_))
    have y1 := Arr.row q8 [.string Y, .string X]
    have y2 := below_setRow b8 (Nat.le_refl w.heap.size) #[.string Y, .string X]
    have ee : Value.agg #[.string Y, .string X] = pairV (tellM m sig i).1 (tellM m sig i).2 := by
      rw [(HT1.out (by first | trivial | decide))]
      unfold pairV
      rw [HY.out, HX.out]
    exact bodyPost_ret (v := .agg #[.string Y, .string X]) (results_cell_row rfl _ _ w.heap.size 47 _ (0, 0) _ rfl y1 Try.underlying47 rfl info2) rfl ⟨by rw [ee], y2⟩
end Go.Proofs.Ytikphhhkikdhaaa
