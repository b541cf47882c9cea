/- The reference's Check (mintageref04); gen_refcheck.py prints it. -/
import Derived.Test.YtikphhhkikdhaaaRefTree2
namespace Go.Proofs.Ytikphhhkikdhaaa
open Go.RowKit Go.Lib
set_option linter.unusedVariables false
set_option linter.unusedSimpArgs false

set_option maxRecDepth 100000 in
set_option maxHeartbeats 800000 in
theorem refCheck_range (want h : H32) (n i : Int) (v : Value) (w : World) (hi : i < 0 ∨ n ≤ i ∨ 1048576 < n) :
    Calls Try.prog 31 #[hv want, .int .i64 n, .int .i64 i, hv h, v] w fun e w' => e = .returned (.bool false) ∧ Below w.heap.size w w' := by
  have b := below2 w (.cells (bvs want).toArray 23) (.cells (bvs h).toArray 23)
  unfold hv
  by_cases h1 : i < 0
  · go_enter Try.func31, Try.ntmps31
    go_wp2_with fail
    go_ret
    exact ⟨rfl, b⟩
  · by_cases h2 : n ≤ i
    · go_enter Try.func31, Try.ntmps31
      go_wp2_with fail
      go_ret
      exact ⟨rfl, b⟩
    · have h3 : 1048576 < n := by omega
      go_enter Try.func31, Try.ntmps31
      go_wp2_with fail
      go_ret
      exact ⟨rfl, b⟩
set_option maxRecDepth 100000 in
set_option maxHeartbeats 3200000 in
theorem refCheck_in (want h : H32) (n i : Nat) (v : Value) (p : List H32) (w : World) (hw : want.length = 32) (hh : h.length = 32) (hi : i < n) (hn : n ≤ 1048576) (hv0 : Hs w v p) (hp : p.length ≤ 1000000) :
    Calls Try.prog 31 #[hv want, .int .i64 n, .int .i64 i, hv h, v] w fun e w' => e = .returned (.bool (checkL want n i h p)) ∧ Below w.heap.size w w' := by
  rw [checkL_in want h n i p hi hn]
  obtain ⟨R, hR⟩ : ∃ R, R = chkF n n i (leafL h) p := ⟨_, rfl⟩
  rw [← hR]
  have HR0 : Hid (chkF n n i (leafL h) (p.drop 0) = R) := hR.symm
  have HL := hide (fun w => refLeaf_any h hh w)
  have HLL : Hid ((leafL h).length = 32) := leafL_length h
  obtain ⟨T0, hT0⟩ : ∃ T, T = leafL h := ⟨_, rfl⟩
  rw [← hT0] at HR0 HL HLL
  have hW := HashAt.alloc (HashAt.new w want hw) (.cells (bvs h).toArray 23)
  have hH := HashAt.new2 w (.cells (bvs want).toArray 23) h hh
  have b := below2 w (.cells (bvs want).toArray 23) (.cells (bvs h).toArray 23)
  have hv1 := hv0.later b
  obtain ⟨a, cap, rfl, hc1, hc2, hc0⟩ := hv0.shape
  have hv_lt := fun w (h : Hs w (.slice a p.length cap) p) => h.own_lt
  have HWL := hide hw
  obtain ⟨q, hq⟩ : ∃ q, q = p.length := ⟨_, rfl⟩
  have HQ := hide hq
  rw [← hq] at hv1 hc1 hp hv_lt ⊢
  clear hR hT0 hw hh hv0 hq
  unfold hv
  go_enter Try.func31, Try.ntmps31
  go_wp2_with (refine wpl_load_hash (w := (w.alloc (.cells (bvs want).toArray 23)).alloc (.cells (bvs h).toArray 23)) rfl _ rfl rfl hH ?_)
  show Calls _ _ _ ((w.alloc (.cells (bvs want).toArray 23)).alloc (.cells (bvs h).toArray 23)) _
  generalize (w.alloc (.cells (bvs want).toArray 23)).alloc (.cells (bvs h).toArray 23) = W at *
  clear hH
  refine (HL.out _).mono ?_
  rintro _ wc1 ⟨rfl, hc1⟩
  replace hW := hW.later hc1
  replace b := later b hc1
  replace hv1 := hv1.later hc1
  clear hc1
  have hW_lt := hW.lt
  have hv_lt := hv_lt _ hv1
  go_wp2_with ((refine wpl_new_hash rfl _ _ rfl rfl rfl HLL.out ?_; intro w3 h3 hn2; replace hW := hW.later hn2; replace b := later b hn2; replace hv1 := hv1.later hn2; clear hn2))
  have hHg : w.heap.size < wc1.heap.size := hW_lt
  have hblk : 0 < q → ∀ b, (Value.slice a q cap).ownBlock = some b → b ≠ wc1.heap.size := fun h0 b hb => Nat.ne_of_lt (hv_lt h0 b hb)
  clear hv_lt hW_lt
  generalize wc1.heap.size = g at *
  go_loopw [2, 12, 13] (fun si su sw wr => ∃ (j u wide f : Nat) (T : H32), si = .int .i64 j ∧ su = .int .i64 u ∧ sw = .int .i64 wide ∧ Hs wr (.slice a q cap) p ∧ HashAt wr g T ∧ HashAt wr w.heap.size want ∧ Below w.heap.size w wr ∧ wide ≤ f ∧ wide ≤ 1048576 ∧ j < wide ∧ u ≤ q ∧
    Hid (chkF f wide j T (p.drop u) = R)) (fun _ _ sw _ => (RowKit.intOf sw).toNat)
  case atStart => exact ⟨i, 0, n, n, T0, rfl, rfl, rfl, hv1, h3, hW, b, Nat.le_refl _, hn, hi, by omega, HR0⟩
  case round =>
    obtain ⟨j, u, wide, f, T, rfl, rfl, rfl, hv, hT, hWr, b', hf, hwd, hj, huq, HR⟩ := hrel
    clear hv1 h3 hW b HR0
    have hbl := hblk
    clear hblk
    have ei : ((j : Int) / 2) = ((j / 2 : Nat) : Int) := by omega
    have ew : ((wide : Int) / 2 + (wide : Int) % 2) = (((wide + 1) / 2 : Nat) : Int) := by omega
    have EI := hide ei
    have EW := hide ew
    clear ei ew
    by_cases hw1 : 1 < wide
    · have hRc := HR.out
      have hq : (wide + 1) / 2 ≤ f - 1 := half_le hw1 hf
      by_cases hodd : j % 2 = 1
      · have hj2 : ¬ j % 2 = 0 := by omega
        have ho : oth j < wide := by unfold oth; rw [if_neg hj2]; omega
        have hpar : (((j : Int) % 2) == 1) = true := beq_iff_eq.2 (by omega)
        rcases Nat.lt_or_ge u q with hu | hu
        · have hux : u < p.length := HQ.out ▸ hu
          have hdr : p.drop u = p.getD u [] :: p.drop (u + 1) := by rw [List.drop_eq_getElem_cons hux, List.getD_eq_getElem?_getD, List.getElem?_eq_getElem hux]; rfl
          rw [hdr, chkF_cons f wide j T _ _ hw1 hf ho, if_neg hj2] at hRc
          obtain ⟨bb, k0, cap', hv2e, _, _, _, hcs0⟩ := hv.block (by rw [← HQ.out]; omega)
          simp only [Value.slice.injEq] at hv2e
          obtain ⟨rfl, -, rfl⟩ := hv2e
          have c0 := hcs0 u hux
          have xl : (p.getD u []).length = 32 := hv.2 _ (by rw [List.getD_eq_getElem?_getD, List.getElem?_eq_getElem hux]; exact List.getElem_mem _)
          have hob := hbl (by omega)
          generalize p.getD u [] = x at *
          have XL := hide xl
          have HRc := hide hRc
          have hun : ((u : Int) == (q : Int)) = false := beq_eq_false_iff_ne.2 (by omega)
          have HP := hide (fun w => refPair_any x T XL.out hT.1 w)
          have HPL := hide (pairL_length x T)
          generalize pairL x T = T2 at *
          clear hRc hcs0 hux hdr xl ho hj2 HR
          go_wp2_with fail
          refine region_since_tail 6 (by kernel_rfl) (by kernel_rfl) ?_
          simp only [List.take_succ_cons, List.take_zero]
          repeat (first | go_big_quiet_skip | (go_big_quiet_want; first | (refine quiet_load_hash _ rfl rfl (by assumption) ?_; simp only [Act.put, List.setIfInBounds_toArray, List.set_cons_succ, List.set_cons_zero]; go_big_quiet_on) | ((refine since_load_elem _ rfl rfl c0 XL.out ?_); simp only [Act.put, List.setIfInBounds_toArray, List.set_cons_succ, List.set_cons_zero]; go_big_quiet_on) | (go_big_quiet_op; go_big_quiet_on)))
          go_big_quiet_want; go_big_quiet_op
          refine ⟨_, fun _ => since_of (HP.out _), ?_⟩
          go_big_quiet_on
          repeat (first | go_big_quiet_skip | (go_big_quiet_want; first | (refine quiet_load_hash _ rfl rfl (by assumption) ?_; simp only [Act.put, List.setIfInBounds_toArray, List.set_cons_succ, List.set_cons_zero]; go_big_quiet_on) | (go_big_quiet_op; go_big_quiet_on)))
          refine wpQuiet_nil ?_
          intro w5 hq3
          replace hv := hv.later hq3
          replace hT := hT.later hq3
          replace hWr := hWr.later hq3
          replace b' := later b' hq3
          clear hq3
          simp only [List.drop_succ_cons, List.drop_zero]
          have hT5 := hT.row T2 HPL.out
          have hW5 := hWr.row_other g (bvs T2).toArray (by omega)
          have b5 := below_setRow (b := g) b' (by omega) (bvs T2).toArray
          have hv5 := hv.touch2 (touch_row _ g (bvs T2).toArray) (fun _ b hb => hob b hb)
          clear hv hWr b' c0
          go_wp2_with (refine wpl_store_hash rfl _ _ rfl rfl rfl HPL.out hT ?_)
          go_roundw
          case rel => exact ⟨j / 2, u + 1, (wide + 1) / 2, f - 1, T2, by rw [EI.out], by simp, by rw [EW.out], hv5, hT5, hW5, b5, hq, by omega, by omega, by omega, HRc⟩
          case measure => simp [RowKit.intOf]; omega
        · have hue : u = q := by omega
          subst hue
          have hRn : R = none := by rw [← hRc, List.drop_of_length_le (by rw [← HQ.out]; exact Nat.le_refl _)]; exact chkF_nil f wide j T hw1 hf ho
          subst hRn
          clear hRc ho hj2 HR
          go_wp2_with fail
          go_ret
          exact ⟨rfl, b'⟩
      · have hj2 : j % 2 = 0 := by omega
        have hpar : (((j : Int) % 2) == 1) = false := beq_eq_false_iff_ne.2 (by omega)
        have hoj : oth j = j + 1 := by unfold oth; rw [if_pos hj2]
        by_cases hlt : j + 1 < wide
        · have ho : oth j < wide := by rw [hoj]; exact hlt
          clear hoj
          rcases Nat.lt_or_ge u q with hu | hu
          · have hux : u < p.length := HQ.out ▸ hu
            have hdr : p.drop u = p.getD u [] :: p.drop (u + 1) := by rw [List.drop_eq_getElem_cons hux, List.getD_eq_getElem?_getD, List.getElem?_eq_getElem hux]; rfl
            rw [hdr, chkF_cons f wide j T _ _ hw1 hf ho, if_pos hj2] at hRc
            obtain ⟨bb, k0, cap', hv2e, _, _, _, hcs0⟩ := hv.block (by rw [← HQ.out]; omega)
            simp only [Value.slice.injEq] at hv2e
            obtain ⟨rfl, -, rfl⟩ := hv2e
            have c0 := hcs0 u hux
            have xl : (p.getD u []).length = 32 := hv.2 _ (by rw [List.getD_eq_getElem?_getD, List.getElem?_eq_getElem hux]; exact List.getElem_mem _)
            have hob := hbl (by omega)
            generalize p.getD u [] = x at *
            have XL := hide xl
            have HRc := hide hRc
            have hun : ((u : Int) == (q : Int)) = false := beq_eq_false_iff_ne.2 (by omega)
            have HP := hide (fun w => refPair_any T x hT.1 XL.out w)
            have HPL := hide (pairL_length T x)
            generalize pairL T x = T2 at *
            clear hRc hcs0 hux hdr xl ho hj2 HR
            go_wp2_with fail
            refine region_since_tail 6 (by kernel_rfl) (by kernel_rfl) ?_
            simp only [List.take_succ_cons, List.take_zero]
            repeat (first | go_big_quiet_skip | (go_big_quiet_want; first | (refine quiet_load_hash _ rfl rfl (by assumption) ?_; simp only [Act.put, List.setIfInBounds_toArray, List.set_cons_succ, List.set_cons_zero]; go_big_quiet_on) | ((refine since_load_elem _ rfl rfl c0 XL.out ?_); simp only [Act.put, List.setIfInBounds_toArray, List.set_cons_succ, List.set_cons_zero]; go_big_quiet_on) | (go_big_quiet_op; go_big_quiet_on)))
            go_big_quiet_want; go_big_quiet_op
            refine ⟨_, fun _ => since_of (HP.out _), ?_⟩
            go_big_quiet_on
            repeat (first | go_big_quiet_skip | (go_big_quiet_want; first | (refine quiet_load_hash _ rfl rfl (by assumption) ?_; simp only [Act.put, List.setIfInBounds_toArray, List.set_cons_succ, List.set_cons_zero]; go_big_quiet_on) | (go_big_quiet_op; go_big_quiet_on)))
            refine wpQuiet_nil ?_
            intro w5 hq4
            replace hv := hv.later hq4
            replace hT := hT.later hq4
            replace hWr := hWr.later hq4
            replace b' := later b' hq4
            clear hq4
            simp only [List.drop_succ_cons, List.drop_zero]
            have hT5 := hT.row T2 HPL.out
            have hW5 := hWr.row_other g (bvs T2).toArray (by omega)
            have b5 := below_setRow (b := g) b' (by omega) (bvs T2).toArray
            have hv5 := hv.touch2 (touch_row _ g (bvs T2).toArray) (fun _ b hb => hob b hb)
            clear hv hWr b' c0
            go_wp2_with (refine wpl_store_hash rfl _ _ rfl rfl rfl HPL.out hT ?_)
            go_roundw
            case rel => exact ⟨j / 2, u + 1, (wide + 1) / 2, f - 1, T2, by rw [EI.out], by simp, by rw [EW.out], hv5, hT5, hW5, b5, hq, by omega, by omega, by omega, HRc⟩
            case measure => simp [RowKit.intOf]; omega
          · have hue : u = q := by omega
            subst hue
            have hRn : R = none := by rw [← hRc, List.drop_of_length_le (by rw [← HQ.out]; exact Nat.le_refl _)]; exact chkF_nil f wide j T hw1 hf ho
            subst hRn
            clear hRc ho hj2 HR
            go_wp2_with fail
            go_ret
            exact ⟨rfl, b'⟩
        · have ho : ¬ oth j < wide := by rw [hoj]; exact hlt
          rw [chkF_no f wide j T _ hw1 hf ho] at hRc
          have HRc := hide hRc
          clear hRc ho hoj HR hj2
          go_wp2_with fail
          go_roundw
          case rel => exact ⟨j / 2, u, (wide + 1) / 2, f - 1, T, by rw [EI.out], rfl, by rw [EW.out], hv, hT, hWr, b', hq, by omega, by omega, huq, HRc⟩
          case measure => simp [RowKit.intOf]; omega
    · have hw2 : wide ≤ 1 := by omega
      have hRe := HR.out
      rw [chkF_one f wide j T _ hw2] at hRe
      subst hRe
      rcases Nat.lt_or_ge u q with hu | hu
      · have hux : u < p.length := HQ.out ▸ hu
        have hdr : p.drop u = p.getD u [] :: p.drop (u + 1) := by rw [List.drop_eq_getElem_cons hux, List.getD_eq_getElem?_getD, List.getElem?_eq_getElem hux]; rfl
        have HDR := hide hdr
        have hgoal : chkB want n (some (T, p.getD u [] :: p.drop (u + 1))) = false := rfl
        have HG := hide hgoal
        have hun : ((u : Int) == (q : Int)) = false := beq_eq_false_iff_ne.2 (by omega)
        clear hgoal HR hdr hux
        go_wp2_with fail
        refine region_since (by kernel_rfl) (by kernel_rfl) ?_
        repeat (first | go_big_quiet_skip | (go_big_quiet_want; first | (refine quiet_load_hash _ rfl rfl (by assumption) ?_; simp only [Act.put, List.setIfInBounds_toArray, List.set_cons_succ, List.set_cons_zero]; go_big_quiet_on) | (go_big_quiet_op; go_big_quiet_on)))
        refine wpQuiet_nil ?_
        intro w5 hq5
        replace b' := later b' hq5
        clear hq5
        go_wp2_with fail
        go_ret
        exact ⟨by rw [HDR.out, HG.out]; rfl, b'⟩
      · have hue : u = q := by omega
        subst hue
        have hdr : p.drop u = [] := List.drop_of_length_le (by rw [← HQ.out]; exact Nat.le_refl _)
        have HDR := hide hdr
        have HP := hide (fun w => refOver_any n T (by omega) hT.1 w)
        have HPL := hide (rootL_length n T)
        have hgoal : chkB want n (some (T, [])) = decide (rootL n T = want) := rfl
        have HG := hide hgoal
        clear hgoal hdr
        generalize rootL n T = T2 at *
        clear HR
        go_wp2_with fail
        refine region_since (by kernel_rfl) (by kernel_rfl) ?_
        repeat (first | go_big_quiet_skip | (go_big_quiet_want; first | (refine quiet_load_hash _ rfl rfl (by assumption) ?_; simp only [Act.put, List.setIfInBounds_toArray, List.set_cons_succ, List.set_cons_zero]; go_big_quiet_on) | (go_big_quiet_op; go_big_quiet_on)))
        go_big_quiet_want; go_big_quiet_op
        refine ⟨_, fun _ => since_of (HP.out _), ?_⟩
        go_big_quiet_on
        repeat (first | go_big_quiet_skip | (go_big_quiet_want; first | (refine quiet_load_hash _ rfl rfl (by assumption) ?_; simp only [Act.put, List.setIfInBounds_toArray, List.set_cons_succ, List.set_cons_zero]; go_big_quiet_on) | (go_big_quiet_op; go_big_quiet_on)))
        go_big_quiet_want
        refine quiet_eq _ _ rfl rfl rfl HPL.out HWL.out ?_; simp only [Act.put, List.setIfInBounds_toArray, List.set_cons_succ, List.set_cons_zero, decide_true]; go_big_quiet_on
        repeat (first | go_big_quiet_skip | (go_big_quiet_want; first | (refine quiet_load_hash _ rfl rfl (by assumption) ?_; simp only [Act.put, List.setIfInBounds_toArray, List.set_cons_succ, List.set_cons_zero]; go_big_quiet_on) | (go_big_quiet_op; go_big_quiet_on)))
        refine wpQuiet_nil ?_
        intro w5 hq6
        replace b' := later b' hq6
        clear hq6
        go_wp2_with fail
        go_ret
        exact ⟨by rw [HDR.out, HG.out]; rfl, b'⟩
theorem refCheck_any (want h : H32) (n i : Int) (v : Value) (p : List H32) (w : World) (hw : want.length = 32) (hh : h.length = 32) (hv0 : Hs w v p) (hp : p.length ≤ 1000000) :
    Calls Try.prog 31 #[hv want, .int .i64 n, .int .i64 i, hv h, v] w fun e w' => e = .returned (.bool (checkL want n i h p)) ∧ Below w.heap.size w w' := by
  by_cases hr : i < 0 ∨ n ≤ i ∨ 1048576 < n
  · have : checkL want n i h p = false := by unfold checkL; rw [if_pos hr]
    rw [this]
    exact refCheck_range want h n i v w hr
  · obtain ⟨i', rfl⟩ := Int.eq_ofNat_of_zero_le (show 0 ≤ i by omega)
    obtain ⟨n', rfl⟩ := Int.eq_ofNat_of_zero_le (show 0 ≤ n by omega)
    exact refCheck_in want h n' i' v p w hw hh (by omega) (by omega) hv0 hp
end Go.Proofs.Ytikphhhkikdhaaa
