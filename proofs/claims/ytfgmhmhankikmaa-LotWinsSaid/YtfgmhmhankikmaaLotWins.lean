/- LotWins: any lot, stake and rate: whether it wins, which lots do: the program answers as the reference does, for every input. No condition. -/
import Derived.Test.YtfgmhmhankikmaaRef02f
import Derived.Test.YtfgmhmhankikmaaLeast
namespace Go.Proofs.Ytfgmhmhankikmaa
open Go.RowKit Go.Lib

/-- May, as a Bool of its own. -/
def mayB (stake all a b : Int) : Bool := decide (stake ≤ all ∧ 1 ≤ all ∧ all < 9223372036854775808 ∧ a ≤ b ∧ 1 ≤ b ∧ b ≤ 65536)
theorem mayB_yes {stake all a b : Int} (h : May stake all a b) : mayB stake all a b = true := decide_eq_true h
theorem mayB_no {stake all a b : Int} (h : ¬ May stake all a b) : mayB stake all a b = false := decide_eq_false h

theorem refMay_yes (stake all a b : Int) (w : World) (hm : May stake all a b) :
    Calls Try.prog 46 #[.int .u64 stake, .int .u64 all, .int .u64 a, .int .u64 b] w fun e w' => e = .returned (.bool true) ∧ w = w' := by
  obtain ⟨m1, m2, m3, m4, m5, m6⟩ := hm
  go_enter Try.func46, Try.ntmps46
  go_wp2_with fail
  go_ret
  exact ⟨by simp [*], rfl⟩
theorem refMay_no (stake all a b : Int) (w : World) (hm : ¬ May stake all a b) :
    Calls Try.prog 46 #[.int .u64 stake, .int .u64 all, .int .u64 a, .int .u64 b] w fun e w' => e = .returned (.bool false) ∧ w = w' := by
  have HM := hide (mayB_no hm)
  clear hm
  go_enter Try.func46, Try.ntmps46
  go_wp2_with fail
  all_goals
    go_ret
    refine ⟨?_, rfl⟩
    first
      | exact rfl
      | (have := HM.out; unfold mayB at this; simp at this; simp; omega)

/-- The wide number X, as it lies in a slot. -/
theorem refTimesX (X n : Int) (w : World) (h0 : 0 ≤ X) (h1 : X < 18446744073709551616 * 18446744073709551616) (h3 : Word n) (hfit : X * n < 18446744073709551616 * 18446744073709551616) :
    Calls Try.prog 47 #[.agg #[.int .u64 (X / 18446744073709551616), .int .u64 (X % 18446744073709551616)], .int .u64 n] w fun e w' =>
      e = .returned (.tuple #[.agg #[.int .u64 (X * n / 18446744073709551616), .int .u64 (X * n % 18446744073709551616)], .int .i64 0]) ∧ Below w.heap.size w w' := by
  have e : X / 18446744073709551616 * 18446744073709551616 + X % 18446744073709551616 = X := by omega
  have := refTimes (X / 18446744073709551616) (X % 18446744073709551616) n w (by unfold Word; omega) (by unfold Word; omega) h3 (by rw [e]; exact hfit)
  rw [e] at this
  exact this
theorem refDivX (X b : Int) (w : World) (h0 : 0 ≤ X) (h1 : X < 18446744073709551616 * 18446744073709551616) (h3 : Word b) (hb : 1 ≤ b) :
    Calls Try.prog 50 #[.agg #[.int .u64 (X / 18446744073709551616), .int .u64 (X % 18446744073709551616)], .int .u64 b] w fun e w' =>
      e = .returned (.tuple #[.agg #[.int .u64 (X / b / 18446744073709551616), .int .u64 (X / b % 18446744073709551616)], .int .u64 (X % b), .int .i64 0]) ∧ Below w.heap.size w w' := by
  have e : X / 18446744073709551616 * 18446744073709551616 + X % 18446744073709551616 = X := by omega
  have := refDiv (X / 18446744073709551616) (X % 18446744073709551616) b w (by unfold Word; omega) (by unfold Word; omega) h3 hb
  rw [e] at this
  exact this
theorem refCmpX (X Y : Int) (w : World) (h0 : 0 ≤ X) (h1 : X < 18446744073709551616 * 18446744073709551616) (h2 : 0 ≤ Y) (h3 : Y < 18446744073709551616 * 18446744073709551616) :
    Calls Try.prog 49 #[.agg #[.int .u64 (X / 18446744073709551616), .int .u64 (X % 18446744073709551616)], .agg #[.int .u64 (Y / 18446744073709551616), .int .u64 (Y % 18446744073709551616)]] w fun e w' =>
      ∃ r, e = .returned (.int .i64 r) ∧ decide (r < 0) = decide (X < Y) ∧ Below w.heap.size w w' := by
  have w1 : Word (X / 18446744073709551616) := by unfold Word; omega
  have w2 : Word (X % 18446744073709551616) := by unfold Word; omega
  have w3 : Word (Y / 18446744073709551616) := by unfold Word; omega
  have w4 : Word (Y % 18446744073709551616) := by unfold Word; omega
  refine (refCompare _ _ _ _ w w1 w2 w3 w4).mono fun e w' ⟨he, hb⟩ => ⟨_, he, ?_, hb⟩
  rw [cmpW_lt _ _ _ _ w1 w2 w3 w4, show X / 18446744073709551616 * 18446744073709551616 + X % 18446744073709551616 = X from by omega, show Y / 18446744073709551616 * 18446744073709551616 + Y % 18446744073709551616 = Y from by omega]

theorem mul_small {x y : Int} (h1 : Word x) (h2 : Word y) : 0 ≤ x * y ∧ x * y < 18446744073709551616 * 18446744073709551616 := by
  obtain ⟨a, b⟩ := h1; obtain ⟨c, d⟩ := h2
  have : x * y ≤ 18446744073709551615 * 18446744073709551615 := Int.mul_le_mul (by omega) (by omega) c (by omega)
  exact ⟨Int.mul_nonneg a c, by omega⟩

set_option maxHeartbeats 1000000 in
theorem refWins_ok (n stake all a b : Int) (w : World) (h0 : 0 ≤ n) (hn : n ≤ 4294967295) (h1 : Word stake) (h2 : Word all) (h3 : Word a) (h4 : Word b) (hm : May stake all a b) :
    Calls Try.prog 24 #[.int .u32 n, .int .u64 stake, .int .u64 all, .int .u64 a, .int .u64 b] w fun e w' => e = .returned (.tuple #[.bool (decide (all * b * n < stake * a * 4294967296)), .int .i64 0]) ∧ Below w.heap.size w w' := by
  have hfit := lots_fit hm h0 (by omega : n ≤ 4294967296)
  obtain ⟨f0, f1⟩ := has_fits h1.1 h3.1 hm
  have s1 := mul_small h2 h4
  have s2 := mul_small h1 h3
  have s3 : 0 ≤ all * b * n := Int.mul_nonneg s1.1 h0
  have HM := hide hm
  clear hm
  go_enter Try.func24, Try.ntmps24
  go_wp2_with fail
  refine (refMay_yes _ _ _ _ _ HM.out).mono ?_
  rintro e w' ⟨rfl, rfl⟩
  go_wp2_with fail
  refine (refMul _ _ _ h2 h4).mono ?_
  rintro e w1 ⟨rfl, hb1⟩
  go_wp2_with fail
  refine (refTimesX (all * b) n _ s1.1 s1.2 (by unfold Word; omega) hfit).mono ?_
  rintro e w2 ⟨rfl, hb2⟩
  go_wp2_with fail
  refine (refMul _ _ _ h1 h3).mono ?_
  rintro e w3 ⟨rfl, hb3⟩
  have c0 : w3.cell? ⟨w2.heap.size, 0, none⟩ = some (.int .u64 (all * b * n / 18446744073709551616)) := cell_later hb3 (by simp [go_sem])
  have c1 : w3.cell? ⟨w2.heap.size, 1, none⟩ = some (.int .u64 (all * b * n % 18446744073709551616)) := cell_later hb3 (by simp [go_sem])
  go_wp2_with fail
  refine (refTimesX (stake * a) 4294967296 _ s2.1 s2.2 (by unfold Word; omega) f1).mono ?_
  rintro e w4 ⟨rfl, hb4⟩
  replace c0 := cell_later hb4 c0
  replace c1 := cell_later hb4 c1
  have lt := World.block_lt_of_cell? w4 _ c0
  dsimp only at lt
  go_wp2_with fail
  refine (refCmpX (all * b * n) (stake * a * 4294967296) _ s3 hfit (by omega) f1).mono ?_
  rintro e w5 ⟨r, rfl, hr, hb5⟩
  have HR := hide hr
  clear hr
  go_wp2_with fail
  go_ret2
  refine ⟨?_, later hb1 (later hb2 (later ((Below.refl _ _).alloc (Nat.le_refl _) _) (later hb3 (later hb4 (later ((Below.refl _ _).alloc (Nat.le_refl _) _) hb5)))))⟩
  rw [← HR.out]
  rfl
theorem refWins_no (n stake all a b : Int) (w : World) (hm : ¬ May stake all a b) :
    Calls Try.prog 24 #[.int .u32 n, .int .u64 stake, .int .u64 all, .int .u64 a, .int .u64 b] w fun e w' => e = .returned (.tuple #[.bool false, .int .i64 2]) ∧ w = w' := by
  have HM := hide hm
  clear hm
  go_enter Try.func24, Try.ntmps24
  go_wp2_with fail
  refine (refMay_no _ _ _ _ _ HM.out).mono ?_
  rintro e w' ⟨rfl, rfl⟩
  go_wp2_with fail
  go_ret2
  exact ⟨rfl, rfl⟩

/-- The least number, by two divisions. -/
theorem leastL_div {all b H : Int} (ha : 1 ≤ all) (hb : 1 ≤ b) : leastL (all * b) H = if H % all = 0 ∧ H / all % b = 0 then H / all / b else H / all / b + 1 := by
  have e1 : H = all * (H / all) + H % all := (Int.mul_ediv_add_emod H all).symm
  have e2 : H / all = b * (H / all / b) + H / all % b := (Int.mul_ediv_add_emod _ b).symm
  have r0 := Int.emod_nonneg H (by omega : all ≠ 0)
  have r1 := Int.emod_lt_of_pos H (by omega : 0 < all)
  have s0 := Int.emod_nonneg (H / all) (by omega : b ≠ 0)
  have s1 := Int.emod_lt_of_pos (H / all) (by omega : 0 < b)
  generalize H / all % b = s at *
  generalize H / all / b = P at *
  generalize H % all = r at *
  rw [e2] at e1
  clear e2
  have hc : 1 * 1 ≤ all * b := Int.mul_le_mul ha hb (by omega) (by omega)
  have e3 : H = all * b * P + (all * s + r) := by rw [e1, Int.mul_add, Int.mul_assoc]; omega
  have m0 : 0 ≤ all * s := Int.mul_nonneg (by omega) s0
  have m1 : all * s ≤ all * (b - 1) := Int.mul_le_mul_of_nonneg_left (by omega) (by omega)
  rw [Int.mul_sub, Int.mul_one] at m1
  have key : ∀ n, n < leastL (all * b) H ↔ all * b * n < H := fun n => (leastL_spec (by omega)).symm
  have fwd : ∀ n, all * b * n < H → n < leastL (all * b) H := fun n => (key n).2
  have bwd : ∀ n, ¬ all * b * n < H → leastL (all * b) H ≤ n := fun n h => by have := mt (key n).1 h; omega
  split
  · rename_i h
    obtain ⟨rfl, rfl⟩ := h
    have a1 := bwd P (by rw [e3]; omega)
    have a2 := fwd (P - 1) (by rw [Int.mul_sub, Int.mul_one, e3]; omega)
    omega
  · rename_i h
    have pos : 0 < all * s + r := by
      by_cases hs : s = 0
      · subst hs; omega
      · have : all * 1 ≤ all * s := Int.mul_le_mul_of_nonneg_left (by omega) (by omega)
        omega
    have a1 := bwd (P + 1) (by rw [Int.mul_add, Int.mul_one, e3]; omega)
    have a2 := fwd P (by rw [e3]; omega)
    omega

set_option maxHeartbeats 1000000 in
theorem refLeast_ok (stake all a b : Int) (w : World) (h1 : Word stake) (h2 : Word all) (h3 : Word a) (h4 : Word b) (hm : May stake all a b) :
    Calls Try.prog 25 #[.int .u64 stake, .int .u64 all, .int .u64 a, .int .u64 b] w fun e w' => e = .returned (.tuple #[.int .u64 (leastL (all * b) (stake * a * 4294967296)), .int .i64 0]) ∧ Below w.heap.size w w' := by
  obtain ⟨f0, f1⟩ := has_fits h1.1 h3.1 hm
  have s2 := mul_small h1 h3
  have hA : 1 ≤ all := hm.2.1
  have hB : 1 ≤ b := hm.2.2.2.2.1
  have hL : 1 ≤ all * b ∧ 0 ≤ leastL (all * b) (stake * a * 4294967296) ∧ leastL (all * b) (stake * a * 4294967296) ≤ 4294967296 := by
    obtain ⟨q1, q2, q3, q4, q5, q6⟩ := hm
    have e1 : 1 * 1 ≤ all * b := Int.mul_le_mul q2 q5 (by omega) (by omega)
    have e2 : stake * a ≤ all * b := Int.mul_le_mul q1 q4 h3.1 (by omega)
    have e3 : 0 ≤ stake * a := Int.mul_nonneg h1.1 h3.1
    exact ⟨by omega, leastL_bounds (by omega) (by omega) (by omega)⟩
  have hd := leastL_div (all := all) (b := b) (H := stake * a * 4294967296) hA hB
  have g0 : 0 ≤ stake * a * 4294967296 := by omega
  have q0 : 0 ≤ stake * a * 4294967296 / all ∧ stake * a * 4294967296 / all ≤ stake * a * 4294967296 := ⟨Int.ediv_nonneg g0 (by omega), Int.ediv_le_self _ g0⟩
  have q1 : 0 ≤ stake * a * 4294967296 / all / b := Int.ediv_nonneg q0.1 (by omega)
  have ht := fun w => refTimesX (stake * a) 4294967296 w s2.1 s2.2 (by unfold Word; omega) f1
  generalize stake * a * 4294967296 = H at *
  have HT := hide ht
  clear ht
  have HM := hide hm
  have HD := hide hd
  have HL := hide hL
  clear hm hd hL
  go_enter Try.func25, Try.ntmps25
  go_wp2_with fail
  refine (refMay_yes _ _ _ _ _ HM.out).mono ?_
  rintro e w' ⟨rfl, rfl⟩
  go_wp2_with fail
  refine (refMul _ _ _ h1 h3).mono ?_
  rintro e w1 ⟨rfl, hb1⟩
  go_wp2_with fail
  refine (HT.out _).mono ?_
  rintro e w2 ⟨rfl, hb2⟩
  have HB2 := hide (later hb1 hb2)
  clear hb1 hb2
  go_wp2_with fail
  refine (refDivX H all _ g0 f1 h2 hA).mono ?_
  rintro e w3 ⟨rfl, hb3⟩
  go_wp2_with fail
  refine (refDivX (H / all) b _ q0.1 (by omega) h4 hB).mono ?_
  rintro e w4 ⟨rfl, hb4⟩
  have HB4 := hide (later HB2.out (later ((Below.refl _ _).alloc (Nat.le_refl _) _) (later hb3 (later ((Below.refl _ _).alloc (Nat.le_refl _) _) hb4))))
  clear hb3 hb4
  have hP : H / all / b ≤ 4294967296 := by
    have := HD.out; have := HL.out; split at * <;> omega
  have ep : H / all / b % 18446744073709551616 = H / all / b := by omega
  rw [ep]
  clear ep
  by_cases hr : H % all = 0
  · by_cases hs : H / all % b = 0
    · rw [if_pos ⟨hr, hs⟩] at HD
      rw [hr, hs]
      clear HL hr hs
      generalize H / all / b = P at *
      go_wp2_with fail
      go_ret2
      exact ⟨by rw [HD.out]; rfl, later HB4.out ((Below.refl _ _).alloc (Nat.le_refl _) _)⟩
    · rw [if_neg (fun h => hs h.2)] at HD
      rw [hr]
      have k2 : (H / all % b == 0) = false := beq_eq_false_iff_ne.2 hs
      have k3 : (H / all % b != 0) = true := by simpa using hs
      clear HL hr hs
      generalize H / all / b = P at *
      generalize H / all % b = s at *
      go_wp2_with fail
      go_ret2
      exact ⟨by rw [HD.out]; rfl, later HB4.out ((Below.refl _ _).alloc (Nat.le_refl _) _)⟩
  · rw [if_neg (fun h => hr h.1)] at HD
    have k2 : (H % all == 0) = false := beq_eq_false_iff_ne.2 hr
    have k3 : (H % all != 0) = true := by simpa using hr
    clear HL hr
    generalize H / all / b = P at *
    generalize H % all = s at *
    go_wp2_with fail
    go_ret2
    exact ⟨by rw [HD.out]; rfl, later HB4.out ((Below.refl _ _).alloc (Nat.le_refl _) _)⟩
theorem refLeast_no (stake all a b : Int) (w : World) (hm : ¬ May stake all a b) :
    Calls Try.prog 25 #[.int .u64 stake, .int .u64 all, .int .u64 a, .int .u64 b] w fun e w' => e = .returned (.tuple #[.int .u64 0, .int .i64 2]) ∧ w = w' := by
  have HM := hide hm
  clear hm
  go_enter Try.func25, Try.ntmps25
  go_wp2_with fail
  refine (refMay_no _ _ _ _ _ HM.out).mono ?_
  rintro e w' ⟨rfl, rfl⟩
  go_wp2_with fail
  go_ret2
  exact ⟨rfl, rfl⟩

theorem lotWins_yes (n stake all a b : Int) (w : World) (h0 : 0 ≤ n) (hn : n ≤ 4294967295) (h1 : Word stake) (h2 : Word all) (h3 : Word a) (h4 : Word b) (hm : May stake all a b) :
    Calls Try.prog 6 #[.int .u32 n, .int .u64 stake, .int .u64 all, .int .u64 a, .int .u64 b] w fun e w' => e = .returned (.bool true) ∧ Below w.heap.size w w' := by
  have HM := hide hm
  have hw1 := hide (fun w => Wins_ok n stake all a b w h0 hn h1 h2 h3 h4 hm)
  have hw2 := hide (fun w => refWins_ok n stake all a b w h0 hn h1 h2 h3 h4 hm)
  have hl1 := hide (fun w => Least_ok stake all a b w h1 h2 h3 h4 hm)
  have hl2 := hide (fun w => refLeast_ok stake all a b w h1 h2 h3 h4 hm)
  generalize decide (all * b * n < stake * a * 4294967296) = r at *
  generalize leastL (all * b) (stake * a * 4294967296) = L at *
  clear hm HM
  go_enter Try.func6, Try.ntmps6
  go_wp2_with fail
  refine (hw1.out _).mono ?_
  rintro e w1 ⟨rfl, hb1⟩
  go_wp2_with fail
  refine (hw2.out _).mono ?_
  rintro e w2 ⟨rfl, hb2⟩
  cases r
  all_goals
    go_wp2_with fail
    refine (hl1.out _).mono ?_
    rintro e w3 ⟨rfl, hb3⟩
    go_wp2_with fail
    refine (hl2.out _).mono ?_
    rintro e w4 ⟨rfl, hb4⟩
    go_wp2_with fail
    refine (works7 _).mono ?_
    rintro e w5 ⟨rfl, hb5⟩
    go_wp2_with fail
    go_ret
    exact ⟨rfl, later hb1 (later hb2 (later hb3 (later hb4 hb5)))⟩
theorem lotWins_no (n stake all a b : Int) (w : World) (h2 : Word all) (h4 : Word b) (hm : ¬ May stake all a b) :
    Calls Try.prog 6 #[.int .u32 n, .int .u64 stake, .int .u64 all, .int .u64 a, .int .u64 b] w fun e w' => e = .returned (.bool true) ∧ Below w.heap.size w w' := by
  have HM := hide hm
  clear hm
  go_enter Try.func6, Try.ntmps6
  go_wp2_with fail
  refine (Wins_no _ _ _ _ _ _ h2 h4 HM.out).mono ?_
  rintro e w1 ⟨rfl, hb1⟩
  go_wp2_with fail
  refine (refWins_no _ _ _ _ _ _ HM.out).mono ?_
  rintro e w2 ⟨rfl, rfl⟩
  go_wp2_with fail
  refine (Least_no _ _ _ _ _ h2 h4 HM.out).mono ?_
  rintro e w3 ⟨rfl, hb3⟩
  go_wp2_with fail
  refine (refLeast_no _ _ _ _ _ HM.out).mono ?_
  rintro e w4 ⟨rfl, rfl⟩
  go_wp2_with fail
  refine (works7 _).mono ?_
  rintro e w5 ⟨rfl, hb5⟩
  go_wp2_with fail
  go_ret
  exact ⟨rfl, later hb1 (later hb3 hb5)⟩
theorem lotWins_law (n : Int) (hn : (Lit.int .u32 n).wf = true) (stake : Int) (hs : (Lit.int .u64 stake).wf = true) (all : Int) (ha : (Lit.int .u64 all).wf = true) (a : Int) (h3 : (Lit.int .u64 a).wf = true) (b : Int) (hb : (Lit.int .u64 b).wf = true) (w : World) :
    Calls Try.prog 6 #[.int .u32 n, .int .u64 stake, .int .u64 all, .int .u64 a, .int .u64 b] w fun e w' => e = .returned (.bool true) ∧ Below w.heap.size w w' := by
  have i1 := u32_wf hn
  by_cases g : May stake all a b
  · exact lotWins_yes n stake all a b w i1.1 i1.2 (word_wf hs) (word_wf ha) (word_wf h3) (word_wf hb) g
  · exact lotWins_no n stake all a b w (word_wf ha) (word_wf hb) g
end Go.Proofs.Ytfgmhmhankikmaa
