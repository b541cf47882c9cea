/- LotEnds: for every lot, every whole of stake and every rate's lower number: without stake, and at the rate 0, no lot wins; with all stake at the rate 1 each does. No condition. -/
import Derived.Test.YtfgmhmhankikmaaLeast
import Derived.ProofKit
namespace Go.Proofs.Ytfgmhmhankikmaa
open Go.RowKit Go.Lib Go.ChangeShapes Go.WideShapes Go.ChangeAt

theorem lotEnds_walk (n all b : Int) (w : World) (h0 : 0 ≤ n) (hn : n ≤ 4294967295) (h2 : Word all) (h4 : Word b) :
    Calls Try.prog 4 #[.int .u32 n, .int .u64 all, .int .u64 b] w fun e w' => e = .returned (.bool true) ∧ Below w.heap.size w w' := by
  have w0 : Word 0 := by unfold Word; decide
  by_cases g1 : all = 0
  · subst g1
    go_enter Try.func4, Try.ntmps4
    go_wp2_with fail
    refine (works7 _).mono ?_
    rintro e w' ⟨rfl, hb⟩
    go_wp2_with fail
    go_ret
    exact ⟨rfl, hb⟩
  have e1 : (all == 0) = false := beq_eq_false_iff_ne.2 g1
  by_cases g2 : 9223372036854775808 ≤ all
  · clear g1
    go_enter Try.func4, Try.ntmps4
    go_wp2_with fail
    refine (works7 _).mono ?_
    rintro e w' ⟨rfl, hb⟩
    go_wp2_with fail
    go_ret
    exact ⟨rfl, hb⟩
  by_cases g3 : b = 0
  · subst g3
    clear g1
    go_enter Try.func4, Try.ntmps4
    go_wp2_with fail
    refine (works7 _).mono ?_
    rintro e w' ⟨rfl, hb⟩
    go_wp2_with fail
    go_ret
    exact ⟨rfl, hb⟩
  have e2 : (b == 0) = false := beq_eq_false_iff_ne.2 g3
  by_cases g4 : 65536 < b
  · clear g1 g3
    go_enter Try.func4, Try.ntmps4
    go_wp2_with fail
    refine (works7 _).mono ?_
    rintro e w' ⟨rfl, hb⟩
    go_wp2_with fail
    go_ret
    exact ⟨rfl, hb⟩
  have hA : 1 ≤ all := by obtain ⟨_, _⟩ := h2; omega
  have hB : 1 ≤ b := by obtain ⟨_, _⟩ := h4; omega
  have m1 := hide (show May 0 all b b from by unfold May; omega)
  have m2 := hide (show May all all 0 b from by unfold May; omega)
  have m3 := hide (show May all all b b from by unfold May; omega)
  have ab : 1 * 1 ≤ all * b := Int.mul_le_mul hA hB (by omega) (by omega)
  have t1 := hide (show (!decide (all * b * n < 0 * b * 4294967296)) = true from by
    have : 0 ≤ all * b * n := Int.mul_nonneg (by omega) h0
    simp; omega)
  have t2 := hide (show (!decide (all * b * n < all * 0 * 4294967296)) = true from by
    have : 0 ≤ all * b * n := Int.mul_nonneg (by omega) h0
    simp; omega)
  have t3 := hide (show decide (all * b * n < all * b * 4294967296) = true from by
    have : all * b * n < all * b * 4294967296 := Int.mul_lt_mul_of_pos_left (by omega) (by omega)
    simpa using this)
  clear g1 g3 ab
  go_enter Try.func4, Try.ntmps4
  go_wp2_with fail
  refine (not_ok n 0 all b b _ h0 hn w0 h2 h4 h4 m1.out).mono ?_
  rintro e w1 ⟨rfl, hb1⟩
  rw [t1.out]
  go_wp2_with fail
  refine (not_ok n all all 0 b _ h0 hn h2 h2 w0 h4 m2.out).mono ?_
  rintro e w2 ⟨rfl, hb2⟩
  rw [t2.out]
  go_wp2_with fail
  refine (wins_ok n all all b b _ h0 hn h2 h2 h4 h4 m3.out).mono ?_
  rintro e w3 ⟨rfl, hb3⟩
  rw [t3.out]
  go_wp2_with fail
  refine (works7 _).mono ?_
  rintro e w4 ⟨rfl, hb4⟩
  go_wp2_with fail
  go_ret
  exact ⟨rfl, hb1.trans ((hb2.trans ((hb3.trans (hb4.mono hb3.size)).mono hb2.size)).mono hb1.size)⟩

theorem lotEnds_law (n : Int) (hn : (Lit.int .u32 n).wf = true) (all : Int) (ha : (Lit.int .u64 all).wf = true) (b : Int) (hb : (Lit.int .u64 b).wf = true) (w : World) :
    Calls Try.prog 4 #[.int .u32 n, .int .u64 all, .int .u64 b] w fun e w' => e = .returned (.bool true) ∧ Below w.heap.size w w' := by
  have : 0 ≤ n ∧ n ≤ 4294967295 := by simpa [Lit.wf, IntKind.min, IntKind.max, IntKind.signed, IntKind.bits] using hn
  exact lotEnds_walk n all b w this.1 this.2 (word_wf ha) (word_wf hb)
end Go.Proofs.Ytfgmhmhankikmaa
