/- Package tree: Check. -/
import Derived.Test.YtbbfnpfkbbpjgaaGreatQDTreeProve
namespace Go.Proofs.YtbbfnpfkbbpjgaaGreat
open Go.RowKit Go.Lib
set_option linter.unusedVariables false
set_option linter.unusedSimpArgs false
set_option maxRecDepth 100000
set_option maxHeartbeats 4000000
theorem j9r (want h : H32) (n i : Int) (v : Value) (w : World) (hi : i < 0 ∨ n ≤ i ∨ 1048576 < n) :
  Calls Tryz.prog 46 #[hv want, .int .i64 n, .int .i64 i, hv h, v] w fun e w' => e = .returned (.bool false) ∧ Below w.heap.size w w' := by
 have b := below2 w (.cells (bvs want).toArray 34) (.cells (bvs h).toArray 34)
 unfold hv
 by_cases h1 : i < 0
 ·go_enter Tryz.func46, Tryz.ntmps46
  go_wp2_with fail
  go_ret
  exact ⟨rfl, b⟩
 ·by_cases h2 : n ≤ i
  ·go_enter Tryz.func46, Tryz.ntmps46
   go_wp2_with fail
   go_ret
   exact ⟨rfl, b⟩
  ·have h3 : 1048576 < n := by omega
   go_enter Tryz.func46, Tryz.ntmps46
   go_wp2_with fail
   go_ret
   exact ⟨rfl, b⟩
/-- What Check says of what is left. -/
def chkB (want : H32) (n : Nat) : Option (H32 × List H32) → Bool
 | some (t, []) => decide (rootL n t = want)
 | _ => false
theorem x7u (want h : H32) (n i : Nat) (p : List H32) (hi : i < n) (hn : n ≤ 1048576) : checkL want n i h p = chkB want n (chkF n n i (leafL h) p) := by
 unfold checkL chkB
 rw [if_neg (by omega), Int.toNat_natCast, Int.toNat_natCast]
 generalize chkF n n i (leafL h) p = o
 rcases o with _ | ⟨t, _ | ⟨_, _⟩⟩ <;> rfl
theorem x9y (want h : H32) (n i : Nat) (v : Value) (p : List H32) (w : World) (hw : want.length = 32) (hh : h.length = 32) (hi : i < n) (hn : n ≤ 1048576) (hv0 : Hs w v p) (hp : p.length ≤ 1000000) :
  Calls Tryz.prog 46 #[hv want, .int .i64 n, .int .i64 i, hv h, v] w fun e w' => e = .returned (.bool (checkL want n i h p)) ∧ Below w.heap.size w w' := by
 rw [x7u want h n i p hi hn]
 obtain ⟨R, hR⟩ : ∃ R, R = chkF n n i (leafL h) p := ⟨_, rfl⟩
 rw [← hR]
 have HR0 : Hid (chkF n n i (leafL h) p = R) := hR.symm
 have HL := hide (fun w => j5s h hh w)
 have HLL : Hid ((leafL h).length = 32) := q1u h
 obtain ⟨T0, hT0⟩ : ∃ T, T = leafL h := ⟨_, rfl⟩
 rw [← hT0] at HR0 HL HLL
 have hW := HashAt.alloc (HashAt.new w want hw) (.cells (bvs h).toArray 34)
 have hH := HashAt.new2 w (.cells (bvs want).toArray 34) h hh
 have b := below2 w (.cells (bvs want).toArray 34) (.cells (bvs h).toArray 34)
 have hv1 := hv0.later b
 obtain ⟨a, cap, rfl, hc1, hc2, hc0⟩ := hv0.shape
 have HWL := hide hw
 clear hR hT0 hw hh
 unfold hv
 go_enter Tryz.func46, Tryz.ntmps46
 go_wp2_with (refine q0r (w := (w.alloc (.cells (bvs want).toArray 34)).alloc (.cells (bvs h).toArray 34)) rfl _ rfl rfl hH ?_)
 show Calls _ _ _ ((w.alloc (.cells (bvs want).toArray 34)).alloc (.cells (bvs h).toArray 34)) _
 generalize (w.alloc (.cells (bvs want).toArray 34)).alloc (.cells (bvs h).toArray 34) = W at *
 clear hH hv0
 refine (HL.out _).mono ?_
 rintro _ wc1 ⟨rfl, hc1⟩
 replace hW := hW.later hc1
 replace b := later b hc1
 replace hv1 := hv1.later hc1
 clear hc1
 have hW_lt := hW.lt
 have hv_lt := hv1.own_lt
 go_wp2_with ((refine q7t rfl _ _ rfl rfl rfl HLL.out ?_; intro w3 h3 hn2; replace hW := hW.later hn2; replace b := later b hn2; replace hv1 := hv1.later hn2; clear hn2))
 have hHg : w.heap.size < wc1.heap.size := hW_lt
 have hblk : 0 < p.length → ∀ b, (Value.slice a p.length cap).ownBlock = some b → b ≠ wc1.heap.size := fun h0 b hb => Nat.ne_of_lt (hv_lt h0 b hb)
 clear hv_lt hW_lt
 generalize wc1.heap.size = g at *
 go_loopw [2, 4, 12] (fun si sp sw wr => ∃ (j wide f : Nat) (v' : Value) (pr : List H32) (T : H32), si = .int .i64 j ∧ sp = v' ∧ sw = .int .i64 wide ∧ Hs wr v' pr ∧ HashAt wr g T ∧ HashAt wr w.heap.size want ∧ Below w.heap.size w wr ∧ wide ≤ f ∧ wide ≤ 1048576 ∧ j ≤ 1048576 ∧ pr.length ≤ 1000000 ∧ (0 < pr.length → ∀ b, v'.ownBlock = some b → b ≠ g) ∧
  Hid (chkF f wide j T pr = R)) (fun _ _ sw _ => (RowKit.intOf sw).toNat)
 case atStart => exact ⟨i, n, n, _, p, T0, rfl, rfl, rfl, hv1, h3, hW, b, Nat.le_refl _, hn, by omega, hp, hblk, HR0⟩
 case round =>
  obtain ⟨j, wide, f, v', pr, T, rfl, rfl, rfl, hv, hT, hWr, b', hf, hwd, hj, hpr, hbl, HR⟩ := hrel
  clear hv1 h3 hW b HR0 hblk
  have hx := x0a j (by omega)
  have ei : ((j : Int) / 2) = ((j / 2 : Nat) : Int) := by omega
  have ew : (((wide : Int) + 1) / 2) = (((wide + 1) / 2 : Nat) : Int) := by omega
  have EI := hide ei
  have EW := hide ew
  clear ei ew
  obtain ⟨ap, capp, hve, hcp1, hcp2, hcp0⟩ := hv.shape
  by_cases hw1 : 1 < wide
  ·by_cases ho : oth j < wide
   ·obtain ⟨o, hoo⟩ : ∃ o, o = oth j := ⟨_, rfl⟩
    rw [← hoo] at hx
    have ho' : o < wide := hoo ▸ ho
    cases pr with
    | nil =>
     have hRn : R = none := by rw [← HR.out]; exact x9z f wide j T hw1 hf ho
     subst hRn
     subst hve
     simp only [List.length_nil] at hcp1 ⊢
     clear hoo ho
     go_wp2_with fail
     go_ret
     exact ⟨rfl, b'⟩
    | cons x ps =>
     have hRc := HR.out
     rw [j7v f wide j T x ps hw1 hf ho] at hRc
     have hxl : x.length = 32 := hv.2 x (by simp)
     have hTl := hT.1
     have hq : (wide + 1) / 2 ≤ f - 1 := x5d hw1 hf
     subst hve
     have hd := hv.drop 1 (by simp)
     have hobd := j6m ap (capp = 1) (1 * 32) (ps.length + 1 - 1) (capp - 1) (ps.length + 1) capp
     simp only [List.length_cons, List.drop_succ_cons, List.drop_zero, Nat.one_mul, Nat.add_sub_cancel] at hd hobd hbl hv hpr hcp1
     have hob := hbl (by omega)
     obtain ⟨bb, k0, cap', hv2e, _, _, _, hcs0⟩ := hv.block (by simp)
     simp only [Value.slice.injEq] at hv2e
     obtain ⟨rfl, _, rfl⟩ := hv2e
     have c0 := hcs0 0 (by simp)
     simp only [Nat.zero_mul, Nat.add_zero, List.getD_cons_zero] at c0
     have XL := hide hxl
     simp only [List.length_cons] at *
     clear hcs0 hv hoo ho HR hxl hTl
     rcases Nat.mod_two_eq_zero_or_one j with hjp | hjp
     ·rw [if_pos hjp] at hRc
      have HRc := hide hRc
      have hpar : (((j : Int) % 2) == 0) = true := beq_iff_eq.2 (by omega)
      have HP := hide (fun w => j6c T x hT.1 XL.out w)
      have HPL := hide (q4s T x)
      generalize pairL T x = T2 at *
      clear hRc hjp
      go_wp2_with fail
      refine q0m 5 (by kernel_rfl) (by kernel_rfl) ?_
      simp only [List.take_succ_cons, List.take_zero]
      repeat ((go_big_quiet_want; first | (refine q1b _ rfl rfl (by assumption) ?_; simp only [pS]; go_big_quiet_on) | ((refine q0j _ rfl rfl c0 XL.out ?_); simp only [pS]; go_big_quiet_on) | (go_big_quiet_op; go_big_quiet_on)))
      go_big_quiet_want; go_big_quiet_op
      refine ⟨_, fun _ => q0f (HP.out _), ?_⟩
      go_big_quiet_on
      refine wpQuiet_nil ?_
      intro w5 hq3
      replace hd := hd.later hq3
      replace hT := hT.later hq3
      replace hWr := hWr.later hq3
      replace b' := later b' hq3
      clear hq3
      simp only [List.drop_succ_cons, List.drop_zero]
      have hT5 := hT.row T2 HPL.out
      have hW5 := hWr.row_other g (bvs T2).toArray (by omega)
      have b5 := q0o (b := g) b' (by omega) (bvs T2).toArray
      have hd5 := hd.touch2 (q6i _ g (bvs T2).toArray) (fun _ b hb => hob b (hobd ▸ hb))
      clear hd hWr b'
      go_wp2_with (refine q0s rfl _ _ rfl rfl rfl HPL.out hT ?_)
      go_roundw
      case rel => exact ⟨j / 2, (wide + 1) / 2, f - 1, _, ps, T2, by rw [EI.out], rfl, by rw [EW.out], hd5, hT5, hW5, b5, hq, by omega, by omega, by omega, fun _ b hb => hob b (hobd ▸ hb), HRc⟩
      case measure => simp [RowKit.intOf]; omega
     ·rw [if_neg (by omega)] at hRc
      have HRc := hide hRc
      have hpar : (((j : Int) % 2) == 0) = false := beq_eq_false_iff_ne.2 (by omega)
      have HP := hide (fun w => j6c x T XL.out hT.1 w)
      have HPL := hide (q4s x T)
      generalize pairL x T = T2 at *
      clear hRc hjp
      go_wp2_with fail
      refine q0m 5 (by kernel_rfl) (by kernel_rfl) ?_
      simp only [List.take_succ_cons, List.take_zero]
      repeat ((go_big_quiet_want; first | (refine q1b _ rfl rfl (by assumption) ?_; simp only [pS]; go_big_quiet_on) | ((refine q0j _ rfl rfl c0 XL.out ?_); simp only [pS]; go_big_quiet_on) | (go_big_quiet_op; go_big_quiet_on)))
      go_big_quiet_want; go_big_quiet_op
      refine ⟨_, fun _ => q0f (HP.out _), ?_⟩
      go_big_quiet_on
      refine wpQuiet_nil ?_
      intro w5 hq4
      replace hd := hd.later hq4
      replace hT := hT.later hq4
      replace hWr := hWr.later hq4
      replace b' := later b' hq4
      clear hq4
      simp only [List.drop_succ_cons, List.drop_zero]
      have hT5 := hT.row T2 HPL.out
      have hW5 := hWr.row_other g (bvs T2).toArray (by omega)
      have b5 := q0o (b := g) b' (by omega) (bvs T2).toArray
      have hd5 := hd.touch2 (q6i _ g (bvs T2).toArray) (fun _ b hb => hob b (hobd ▸ hb))
      clear hd hWr b'
      go_wp2_with (refine q0s rfl _ _ rfl rfl rfl HPL.out hT ?_)
      go_roundw
      case rel => exact ⟨j / 2, (wide + 1) / 2, f - 1, _, ps, T2, by rw [EI.out], rfl, by rw [EW.out], hd5, hT5, hW5, b5, hq, by omega, by omega, by omega, fun _ b hb => hob b (hobd ▸ hb), HRc⟩
      case measure => simp [RowKit.intOf]; omega
   ·have hR' : Hid (chkF (f - 1) ((wide + 1) / 2) (j / 2) T pr = R) := by unfold Hid; rw [← x5i f wide j T pr hw1 hf ho]; exact HR.out
    obtain ⟨o, hoo⟩ : ∃ o, o = oth j := ⟨_, rfl⟩
    rw [← hoo] at hx
    have ho' : ¬ o < wide := hoo ▸ ho
    have hq : (wide + 1) / 2 ≤ f - 1 := x5d hw1 hf
    clear hoo ho HR
    go_wp2_with fail
    go_roundw
    case rel => exact ⟨j / 2, (wide + 1) / 2, f - 1, _, pr, T, by rw [EI.out], rfl, by rw [EW.out], hv, hT, hWr, b', hq, by omega, by omega, hpr, hbl, hR'⟩
    case measure => simp [RowKit.intOf]; omega
  ·have hw2 : wide ≤ 1 := by omega
   have hRe := HR.out
   rw [x0q f wide j T pr hw2] at hRe
   subst hRe
   subst hve
   have HP := hide (fun w => x1g n T (by omega) hT.1 w)
   have HPL := hide (q4h n T)
   cases pr with
   | nil =>
    have hgoal : chkB want n (some (T, [])) = decide (rootL n T = want) := rfl
    have HG := hide hgoal
    clear hgoal
    generalize rootL n T = T2 at *
    simp only [List.length_nil] at hcp1 ⊢
    clear hx HR
    go_wp2_with fail
    refine q0e (by kernel_rfl) (by kernel_rfl) ?_
    repeat ((go_big_quiet_want; first | (refine q1b _ rfl rfl (by assumption) ?_; simp only [pS]; go_big_quiet_on) | (go_big_quiet_op; go_big_quiet_on)))
    go_big_quiet_want; go_big_quiet_op
    refine ⟨_, fun _ => q0f (HP.out _), ?_⟩
    go_big_quiet_on
    repeat ((go_big_quiet_want; first | (refine q1b _ rfl rfl (by assumption) ?_; simp only [pS]; go_big_quiet_on)))
    go_big_quiet_want
    refine x9m _ _ rfl rfl rfl HPL.out HWL.out ?_; simp only [pS, decide_true]; go_big_quiet_on
    repeat ((go_big_quiet_want; first | (go_big_quiet_op; go_big_quiet_on)))
    refine wpQuiet_nil ?_
    intro w5 hq5
    replace b' := later b' hq5
    clear hq5
    go_wp2_with fail
    go_ret
    exact ⟨by rw [HG.out]; rfl, b'⟩
   | cons x ps =>
    have hgoal : chkB want n (some (T, x :: ps)) = false := rfl
    have HG := hide hgoal
    clear hgoal
    have hz : (((ps.length + 1 : Nat) : Int) == 0) = false := beq_eq_false_iff_ne.2 (by omega)
    have hz' : ((ps.length : Int) + 1 == 0) = false := beq_eq_false_iff_ne.2 (by omega)
    simp only [List.length_cons] at hcp1 ⊢
    clear hx HR
    go_wp2_with fail
    refine q0e (by kernel_rfl) (by kernel_rfl) ?_
    repeat (first | go_big_quiet_skip | (go_big_quiet_want; first | (go_big_quiet_op; go_big_quiet_on)))
    refine wpQuiet_nil ?_
    intro w5 hq6
    replace b' := later b' hq6
    clear hq6
    go_wp2_with fail
    go_ret
    exact ⟨by rw [HG.out]; rfl, b'⟩
theorem j6f (want h : H32) (n i : Int) (v : Value) (p : List H32) (w : World) (hw : want.length = 32) (hh : h.length = 32) (hv0 : Hs w v p) (hp : p.length ≤ 1000000) :
  Calls Tryz.prog 46 #[hv want, .int .i64 n, .int .i64 i, hv h, v] w fun e w' => e = .returned (.bool (checkL want n i h p)) ∧ Below w.heap.size w w' := by
 by_cases hr : i < 0 ∨ n ≤ i ∨ 1048576 < n
 ·have : checkL want n i h p = false := by unfold checkL; rw [if_pos hr]
  rw [this]
  exact j9r want h n i v w hr
 ·obtain ⟨i', rfl⟩ := Int.eq_ofNat_of_zero_le (show 0 ≤ i by omega)
  obtain ⟨n', rfl⟩ := Int.eq_ofNat_of_zero_le (show 0 ≤ n by omega)
  exact x9y want h n' i' v p w hw hh (by omega) (by omega) hv0 hp
end Go.Proofs.YtbbfnpfkbbpjgaaGreat
