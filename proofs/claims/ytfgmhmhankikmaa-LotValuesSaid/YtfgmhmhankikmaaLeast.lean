/- lot.Least: the binary search; the statements' own small functions wins, not, works. -/
import Derived.Test.YtfgmhmhankikmaaLot
namespace Go.Proofs.Ytfgmhmhankikmaa
open Go.RowKit Go.Lib

theorem scale1_at (all b has n : Int) (p1 p2 p3 : Nat) (w : World) (hv : IsScale all b has (.func (.func 74) #[] #[.pointer (some ⟨p1, 0, none⟩), .pointer (some ⟨p2, 0, none⟩), .pointer (some ⟨p3, 0, none⟩)]) w) (h1 : Word all) (h2 : Word b) (h3 : Word n) (hfit : all * b * n < 18446744073709551616 * 18446744073709551616) :
    Calls Try.prog 74 #[.int .u64 n, .pointer (some ⟨p1, 0, none⟩), .pointer (some ⟨p2, 0, none⟩), .pointer (some ⟨p3, 0, none⟩)] w fun e w' => e = .returned (.bool (decide (all * b * n < has))) ∧ Below w.heap.size w w' := by
  obtain ⟨q1, q2, q3, e, h⟩ := scale1_is all b has n _ w hv h1 h2 h3 hfit
  simp only [Value.func.injEq, Array.mk.injEq, List.cons.injEq, Value.pointer.injEq, Option.some.injEq, Addr.mk.injEq] at e
  obtain ⟨-, -, ⟨rfl, -⟩, ⟨rfl, -⟩, ⟨rfl, -⟩, -⟩ := e
  exact h

set_option maxHeartbeats 1000000 in
theorem Least_ok (stake all a b : Int) (w : World) (h1 : Word stake) (h2 : Word all) (h3 : Word a) (h4 : Word b) (hm : May stake all a b) :
    Calls Try.prog 23 #[.int .u64 stake, .int .u64 all, .int .u64 a, .int .u64 b] w fun e w' => e = .returned (.tuple #[.int .u64 (leastL (all * b) (stake * a * 4294967296)), .int .i64 0]) ∧ Below w.heap.size w w' := by
  have hL : 0 ≤ leastL (all * b) (stake * a * 4294967296) ∧ leastL (all * b) (stake * a * 4294967296) ≤ 4294967296 := by
    obtain ⟨m1, m2, m3, m4, m5, m6⟩ := hm
    have e1 : 1 * 1 ≤ all * b := Int.mul_le_mul m2 m5 (by omega) (by omega)
    have e2 : stake * a ≤ all * b := Int.mul_le_mul m1 m4 h3.1 (by omega)
    have e3 : 0 ≤ stake * a := Int.mul_nonneg h1.1 h3.1
    exact leastL_bounds (by omega) (by omega) (by omega)
  have hspec : ∀ n, all * b * n < stake * a * 4294967296 ↔ n < leastL (all * b) (stake * a * 4294967296) := fun n => by
    obtain ⟨m1, m2, m3, m4, m5, m6⟩ := hm
    have e1 : 1 * 1 ≤ all * b := Int.mul_le_mul m2 m5 (by omega) (by omega)
    exact leastL_spec (by omega)
  have hfit : ∀ n, 0 ≤ n → n ≤ 4294967296 → all * b * n < 18446744073709551616 * 18446744073709551616 := fun n => lots_fit hm
  have HF := hide hfit
  have HS := hide hspec
  have HM := hide hm
  clear hfit hspec hm
  obtain ⟨L0, L1⟩ := hL
  generalize hLd : leastL (all * b) (stake * a * 4294967296) = L at *
  clear hLd
  go_enter Try.func23, Try.ntmps23
  go_wp2_with fail
  refine (scale_ok stake all a b _ h1 h3 HM.out).mono ?_
  rintro e w' ⟨v, rfl, hv, hb⟩
  have hv' := hv
  obtain ⟨p1, p2, p3, hi, lo, rfl, -⟩ := hv'
  have HV := hide hv
  clear hv
  go_wp2_with fail
  go_loopw [12, 13] (fun l h wr => ∃ x y : Int, l = .int .u64 x ∧ h = .int .u64 y ∧ 0 ≤ x ∧ x ≤ L ∧ L ≤ y ∧ y ≤ 4294967296 ∧ Below w'.heap.size w' wr) (fun l h _ => (intOf h - intOf l).toNat)
  case atStart => exact ⟨0, 4294967296, rfl, rfl, by omega, by omega, by omega, by omega, Below.refl _ _⟩
  case round =>
    obtain ⟨x, y, rfl, rfl, hx0, hx1, hy0, hy1, hbr⟩ := hrel
    by_cases hlt : x < y
    · have n0 : 0 ≤ x + (y - x) / 2 := by omega
      have n1 : x + (y - x) / 2 < y := by omega
      have n2 : x ≤ x + (y - x) / 2 := by omega
      go_wp2_with fail
      refine (scale1_at all b (stake * a * 4294967296) _ p1 p2 p3 _ (HV.out.later hbr) h2 h4 (by unfold Word; omega) (HF.out _ (by omega) (by omega))).mono ?_
      rintro e w1 ⟨rfl, hb1⟩
      by_cases hw : x + (y - x) / 2 < L
      · rw [decide_eq_true ((HS.out _).2 hw)]
        go_wp2_with fail
        go_roundw
        case rel => exact ⟨_, _, rfl, rfl, by omega, by omega, by omega, by omega, hbr.trans (hb1.mono hbr.size)⟩
        case measure => simp [intOf]; omega
      · rw [decide_eq_false (fun h => hw ((HS.out _).1 h))]
        go_wp2_with fail
        go_roundw
        case rel => exact ⟨_, _, rfl, rfl, by omega, by omega, by omega, by omega, hbr.trans (hb1.mono hbr.size)⟩
        case measure => simp [intOf]; omega
    · go_wp2_with fail
      go_ret2
      refine ⟨?_, hb.trans (hbr.mono hb.size)⟩
      obtain rfl : x = L := by omega
      rfl

theorem Least_no (stake all a b : Int) (w : World) (h2 : Word all) (h4 : Word b) (hm : ¬ May stake all a b) :
    Calls Try.prog 23 #[.int .u64 stake, .int .u64 all, .int .u64 a, .int .u64 b] w fun e w' => e = .returned (.tuple #[.int .u64 0, .int .i64 2]) ∧ Below w.heap.size w w' := by
  have HM := hide hm
  clear hm
  go_enter Try.func23, Try.ntmps23
  go_wp2_with fail
  refine (scale_no stake all a b _ h2 h4 HM.out).mono ?_
  rintro e w' ⟨rfl, hb⟩
  go_wp2_with fail
  go_ret2
  exact ⟨rfl, hb⟩

/-- The statements' own: does a lot win, does it not. -/
theorem wins_ok (n stake all a b : Int) (w : World) (h0 : 0 ≤ n) (hn : n ≤ 4294967295) (h1 : Word stake) (h2 : Word all) (h3 : Word a) (h4 : Word b) (hm : May stake all a b) :
    Calls Try.prog 21 #[.int .u32 n, .int .u64 stake, .int .u64 all, .int .u64 a, .int .u64 b] w fun e w' => e = .returned (.bool (decide (all * b * n < stake * a * 4294967296))) ∧ Below w.heap.size w w' := by
  have HM := hide hm
  clear hm
  go_enter Try.func21, Try.ntmps21
  go_wp2_with fail
  refine (Wins_ok n stake all a b _ h0 hn h1 h2 h3 h4 HM.out).mono ?_
  rintro e w' ⟨rfl, hb⟩
  go_wp2_with fail
  all_goals
    go_ret
    exact ⟨by simp [*], hb⟩
theorem not_ok (n stake all a b : Int) (w : World) (h0 : 0 ≤ n) (hn : n ≤ 4294967295) (h1 : Word stake) (h2 : Word all) (h3 : Word a) (h4 : Word b) (hm : May stake all a b) :
    Calls Try.prog 20 #[.int .u32 n, .int .u64 stake, .int .u64 all, .int .u64 a, .int .u64 b] w fun e w' => e = .returned (.bool (!decide (all * b * n < stake * a * 4294967296))) ∧ Below w.heap.size w w' := by
  have HM := hide hm
  clear hm
  go_enter Try.func20, Try.ntmps20
  go_wp2_with fail
  refine (Wins_ok n stake all a b _ h0 hn h1 h2 h3 h4 HM.out).mono ?_
  rintro e w' ⟨rfl, hb⟩
  go_wp2_with fail
  all_goals
    go_ret
    exact ⟨by simp [*], hb⟩

/-- works is true. -/
theorem works7 (w : World) : Calls Try.prog 19 #[] w fun e w' => e = .returned (.bool true) ∧ Below w.heap.size w w' := by
  go_enter Try.func19, Try.ntmps19
  go_wp2_with fail
  refine (wins_ok _ _ _ _ _ _ (by decide) (by decide) (by unfold Word; decide) (by unfold Word; decide) (by unfold Word; decide) (by unfold Word; decide) (by unfold May; decide)).mono ?_
  rintro e w' ⟨rfl, hb⟩
  rw [show decide ((2 : Int) * 1 * 2147483647 < 1 * 1 * 4294967296) = true from by decide]
  go_wp2_with fail
  refine (not_ok _ _ _ _ _ _ (by decide) (by decide) (by unfold Word; decide) (by unfold Word; decide) (by unfold Word; decide) (by unfold Word; decide) (by unfold May; decide)).mono ?_
  rintro e w1 ⟨rfl, hb1⟩
  rw [show (!decide ((2 : Int) * 1 * 2147483648 < 1 * 1 * 4294967296)) = true from by decide]
  go_wp2_with fail
  go_ret
  exact ⟨rfl, hb.trans (hb1.mono hb.size)⟩
theorem word_wf {x : Int} (h : (Lit.int .u64 x).wf = true) : Word x := by
  have : 0 ≤ x ∧ x ≤ 18446744073709551615 := by simpa [Lit.wf, IntKind.min, IntKind.max, IntKind.signed, IntKind.bits] using h
  unfold Word; omega
theorem u32_wf {x : Int} (h : (Lit.int .u32 x).wf = true) : 0 ≤ x ∧ x ≤ 4294967295 := by
  simpa [Lit.wf, IntKind.min, IntKind.max, IntKind.signed, IntKind.bits] using h
/-- with the bool written out -/
theorem wins_is {n stake all a b : Int} {r : Bool} (w : World) (h0 : 0 ≤ n) (hn : n ≤ 4294967295) (h1 : Word stake) (h2 : Word all) (h3 : Word a) (h4 : Word b) (hm : May stake all a b) (hr : decide (all * b * n < stake * a * 4294967296) = r) :
    Calls Try.prog 21 #[.int .u32 n, .int .u64 stake, .int .u64 all, .int .u64 a, .int .u64 b] w fun e w' => e = .returned (.bool r) ∧ Below w.heap.size w w' := by
  subst hr; exact wins_ok n stake all a b w h0 hn h1 h2 h3 h4 hm
theorem not_is {n stake all a b : Int} {r : Bool} (w : World) (h0 : 0 ≤ n) (hn : n ≤ 4294967295) (h1 : Word stake) (h2 : Word all) (h3 : Word a) (h4 : Word b) (hm : May stake all a b) (hr : (!decide (all * b * n < stake * a * 4294967296)) = r) :
    Calls Try.prog 20 #[.int .u32 n, .int .u64 stake, .int .u64 all, .int .u64 a, .int .u64 b] w fun e w' => e = .returned (.bool r) ∧ Below w.heap.size w w' := by
  subst hr; exact not_ok n stake all a b w h0 hn h1 h2 h3 h4 hm
theorem Wins_is {n stake all a b : Int} {r : Bool} (w : World) (h0 : 0 ≤ n) (hn : n ≤ 4294967295) (h1 : Word stake) (h2 : Word all) (h3 : Word a) (h4 : Word b) (hm : May stake all a b) (hr : decide (all * b * n < stake * a * 4294967296) = r) :
    Calls Try.prog 22 #[.int .u32 n, .int .u64 stake, .int .u64 all, .int .u64 a, .int .u64 b] w fun e w' => e = .returned (.tuple #[.bool r, .int .i64 0]) ∧ Below w.heap.size w w' := by
  subst hr; exact Wins_ok n stake all a b w h0 hn h1 h2 h3 h4 hm
theorem Least_is {stake all a b r : Int} (w : World) (h1 : Word stake) (h2 : Word all) (h3 : Word a) (h4 : Word b) (hm : May stake all a b) (hr : leastL (all * b) (stake * a * 4294967296) = r) :
    Calls Try.prog 23 #[.int .u64 stake, .int .u64 all, .int .u64 a, .int .u64 b] w fun e w' => e = .returned (.tuple #[.int .u64 r, .int .i64 0]) ∧ Below w.heap.size w w' := by
  subst hr; exact Least_ok stake all a b w h1 h2 h3 h4 hm
end Go.Proofs.Ytfgmhmhankikmaa
