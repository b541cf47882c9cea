/- LotParts: as many lots win with two stakes together as with both, each by itself, or one less: for every input. No condition. -/
import Derived.Test.YtfgmhmhankikmaaLeast
namespace Go.Proofs.Ytfgmhmhankikmaa
open Go.RowKit Go.Lib

theorem leastL_parts {c h1 h2 : Int} (hc : 1 ≤ c) : leastL c (h1 + h2) = leastL c h1 + leastL c h2 ∨ leastL c (h1 + h2) + 1 = leastL c h1 + leastL c h2 := by
  have a1 := (leastL_spec (c := c) (h := h1) (n := leastL c h1) hc)
  have a2 := (leastL_spec (c := c) (h := h1) (n := leastL c h1 - 1) hc)
  have b1 := (leastL_spec (c := c) (h := h2) (n := leastL c h2) hc)
  have b2 := (leastL_spec (c := c) (h := h2) (n := leastL c h2 - 1) hc)
  have s1 := (leastL_spec (c := c) (h := h1 + h2) (n := leastL c (h1 + h2)) hc)
  have s2 := (leastL_spec (c := c) (h := h1 + h2) (n := leastL c (h1 + h2) - 1) hc)
  generalize leastL c (h1 + h2) = n at *
  generalize leastL c h1 = l at *
  generalize leastL c h2 = m at *
  have a1 : h1 ≤ c * l := by have := mt a1.1 (by omega); omega
  have b1 : h2 ≤ c * m := by have := mt b1.1 (by omega); omega
  have s1 : h1 + h2 ≤ c * n := by have := mt s1.1 (by omega); omega
  have a2 : c * (l - 1) < h1 := a2.2 (by omega)
  have b2 : c * (m - 1) < h2 := b2.2 (by omega)
  have s2 : c * (n - 1) < h1 + h2 := s2.2 (by omega)
  have u : n ≤ l + m := by
    by_cases hh : n ≤ l + m
    · exact hh
    · have := Int.mul_le_mul_of_nonneg_left (show l + m ≤ n - 1 by omega) (show 0 ≤ c by omega)
      rw [Int.mul_add] at this
      omega
  have v : l + m - 1 ≤ n := by
    by_cases hh : l + m - 1 ≤ n
    · exact hh
    · have := Int.mul_le_mul_of_nonneg_left (show n ≤ (l - 1) + (m - 1) by omega) (show 0 ≤ c by omega)
      rw [Int.mul_add] at this
      omega
  omega

theorem lotParts_walk (x y all a b : Int) (w : World) (hx : Word x) (hy : Word y) (h2 : Word all) (h3 : Word a) (h4 : Word b) :
    Calls Try.prog 8 #[.int .u64 x, .int .u64 y, .int .u64 all, .int .u64 a, .int .u64 b] w fun e w' => e = .returned (.bool true) ∧ Below w.heap.size w w' := by
  have hx' := hx
  have hy' := hy
  obtain ⟨x0, x1⟩ := hx
  obtain ⟨y0, y1⟩ := hy
  by_cases g0 : 4611686018427387904 < x
  · go_enter Try.func8, Try.ntmps8
    go_wp2_with fail
    refine (works7 _).mono ?_
    rintro e w' ⟨rfl, hb⟩
    go_wp2_with fail
    go_ret
    exact ⟨rfl, hb⟩
  by_cases g1 : 4611686018427387904 < y
  · go_enter Try.func8, Try.ntmps8
    go_wp2_with fail
    refine (works7 _).mono ?_
    rintro e w' ⟨rfl, hb⟩
    go_wp2_with fail
    go_ret
    exact ⟨rfl, hb⟩
  by_cases g2 : all < x + y
  · go_enter Try.func8, Try.ntmps8
    go_wp2_with fail
    refine (works7 _).mono ?_
    rintro e w' ⟨rfl, hb⟩
    go_wp2_with fail
    go_ret
    exact ⟨rfl, hb⟩
  by_cases g3 : 9223372036854775808 ≤ all
  · go_enter Try.func8, Try.ntmps8
    go_wp2_with fail
    refine (works7 _).mono ?_
    rintro e w' ⟨rfl, hb⟩
    go_wp2_with fail
    go_ret
    exact ⟨rfl, hb⟩
  by_cases g4 : all = 0
  · subst g4
    go_enter Try.func8, Try.ntmps8
    go_wp2_with fail
    refine (works7 _).mono ?_
    rintro e w' ⟨rfl, hb⟩
    go_wp2_with fail
    go_ret
    exact ⟨rfl, hb⟩
  have e4 : (all == 0) = false := beq_eq_false_iff_ne.2 g4
  by_cases g5 : b < a
  · go_enter Try.func8, Try.ntmps8
    go_wp2_with fail
    refine (works7 _).mono ?_
    rintro e w' ⟨rfl, hb⟩
    go_wp2_with fail
    go_ret
    exact ⟨rfl, hb⟩
  by_cases g6 : b = 0
  · subst g6
    go_enter Try.func8, Try.ntmps8
    go_wp2_with fail
    refine (works7 _).mono ?_
    rintro e w' ⟨rfl, hb⟩
    go_wp2_with fail
    go_ret
    exact ⟨rfl, hb⟩
  have e6 : (b == 0) = false := beq_eq_false_iff_ne.2 g6
  by_cases g7 : 65536 < b
  · go_enter Try.func8, Try.ntmps8
    go_wp2_with fail
    refine (works7 _).mono ?_
    rintro e w' ⟨rfl, hb⟩
    go_wp2_with fail
    go_ret
    exact ⟨rfl, hb⟩
  have hA : 1 ≤ all := by obtain ⟨_, _⟩ := h2; omega
  have hB : 1 ≤ b := by obtain ⟨_, _⟩ := h4; omega
  have m1 := hide (show May x all a b from by unfold May; omega)
  have m2 := hide (show May y all a b from by unfold May; omega)
  have m3 := hide (show May (x + y) all a b from by unfold May; omega)
  have hc : 1 * 1 ≤ all * b := Int.mul_le_mul hA hB (by omega) (by omega)
  have hp := leastL_parts (c := all * b) (h1 := x * a * 4294967296) (h2 := y * a * 4294967296) (by omega)
  rw [← Int.add_mul, ← Int.add_mul] at hp
  have hw3 : Word (x + y) := by unfold Word; omega
  have bd : ∀ s, 0 ≤ s → May s all a b → 0 ≤ leastL (all * b) (s * a * 4294967296) ∧ leastL (all * b) (s * a * 4294967296) ≤ 4294967296 := fun s hs hm => by
    obtain ⟨q1, q2, q3, q4, q5, q6⟩ := hm
    have e2 : s * a ≤ all * b := Int.mul_le_mul q1 q4 h3.1 (by omega)
    have e3 : 0 ≤ s * a := Int.mul_nonneg hs h3.1
    exact leastL_bounds (by omega) (by omega) (by omega)
  have b1 := bd x x0 m1.out
  have b2 := bd y y0 m2.out
  have b3 := bd (x + y) (by omega) m3.out
  clear bd g4 g6
  generalize hl : leastL (all * b) (x * a * 4294967296) = l at *
  generalize hm : leastL (all * b) (y * a * 4294967296) = m at *
  generalize hn : leastL (all * b) ((x + y) * a * 4294967296) = n at *
  have Hl := hide hl
  have Hm := hide hm
  have Hn := hide hn
  clear hl hm hn hc
  obtain ⟨l0, l1⟩ := b1
  obtain ⟨k0, k1⟩ := b2
  obtain ⟨n0, n1⟩ := b3
  rcases hp with hp | hp
  · have q1 : (n == l + m) = true := beq_iff_eq.2 hp
    clear hp
    go_enter Try.func8, Try.ntmps8
    go_wp2_with fail
    refine (Least_is _ hx' h2 h3 h4 m1.out Hl.out).mono ?_
    rintro e w1 ⟨rfl, hb1⟩
    go_wp2_with fail
    refine (Least_is _ hy' h2 h3 h4 m2.out Hm.out).mono ?_
    rintro e w2 ⟨rfl, hb2⟩
    go_wp2_with fail
    refine (Least_is _ hw3 h2 h3 h4 m3.out Hn.out).mono ?_
    rintro e w3 ⟨rfl, hb3⟩
    go_wp2_with fail
    refine (works7 _).mono ?_
    rintro e w4 ⟨rfl, hb4⟩
    go_wp2_with fail
    go_ret
    exact ⟨rfl, later hb1 (later hb2 (later hb3 hb4))⟩
  · have q1 : (n == l + m) = false := beq_eq_false_iff_ne.2 (by omega)
    have q2 : (n + 1 == l + m) = true := beq_iff_eq.2 hp
    clear hp
    go_enter Try.func8, Try.ntmps8
    go_wp2_with fail
    refine (Least_is _ hx' h2 h3 h4 m1.out Hl.out).mono ?_
    rintro e w1 ⟨rfl, hb1⟩
    go_wp2_with fail
    refine (Least_is _ hy' h2 h3 h4 m2.out Hm.out).mono ?_
    rintro e w2 ⟨rfl, hb2⟩
    go_wp2_with fail
    refine (Least_is _ hw3 h2 h3 h4 m3.out Hn.out).mono ?_
    rintro e w3 ⟨rfl, hb3⟩
    go_wp2_with fail
    refine (works7 _).mono ?_
    rintro e w4 ⟨rfl, hb4⟩
    go_wp2_with fail
    go_ret
    exact ⟨rfl, later hb1 (later hb2 (later hb3 hb4))⟩

theorem lotParts_law (x : Int) (hx : (Lit.int .u64 x).wf = true) (y : Int) (hy : (Lit.int .u64 y).wf = true) (all : Int) (ha : (Lit.int .u64 all).wf = true) (a : Int) (h3 : (Lit.int .u64 a).wf = true) (b : Int) (hb : (Lit.int .u64 b).wf = true) (w : World) :
    Calls Try.prog 8 #[.int .u64 x, .int .u64 y, .int .u64 all, .int .u64 a, .int .u64 b] w fun e w' => e = .returned (.bool true) ∧ Below w.heap.size w w' :=
  lotParts_walk x y all a b w (word_wf hx) (word_wf hy) (word_wf ha) (word_wf h3) (word_wf hb)
end Go.Proofs.Ytfgmhmhankikmaa
