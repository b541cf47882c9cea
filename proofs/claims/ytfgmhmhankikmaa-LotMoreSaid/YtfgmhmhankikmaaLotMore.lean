/- LotMore: a lot that wins wins with more stake, at a greater rate, and so do lesser ones; just those below Least win: for every input. No condition. -/
import Derived.Test.YtfgmhmhankikmaaLeast
namespace Go.Proofs.Ytfgmhmhankikmaa
open Go.RowKit Go.Lib

theorem lotMore_no (n m stake more all a b : Int) (w : World) (h2 : Word all) (h4 : Word b) (hm : ¬ May stake all a b) :
    Calls Try.prog 7 #[.int .u32 n, .int .u32 m, .int .u64 stake, .int .u64 more, .int .u64 all, .int .u64 a, .int .u64 b] w fun e w' => e = .returned (.bool true) ∧ Below w.heap.size w w' := by
  have HM := hide hm
  clear hm
  go_enter Try.func7, Try.ntmps7
  go_wp2_with fail
  refine (Wins_no _ _ _ _ _ _ h2 h4 HM.out).mono ?_
  rintro e w1 ⟨rfl, hb1⟩
  go_wp2_with fail
  refine (works7 _).mono ?_
  rintro e w2 ⟨rfl, hb2⟩
  go_wp2_with fail
  go_ret
  exact ⟨rfl, later hb1 hb2⟩

theorem least_bd {stake all a b : Int} (hs : 0 ≤ stake) (h3 : 0 ≤ a) (hm : May stake all a b) : 1 ≤ all * b ∧ 0 ≤ leastL (all * b) (stake * a * 4294967296) ∧ leastL (all * b) (stake * a * 4294967296) ≤ 4294967296 := by
  obtain ⟨q1, q2, q3, q4, q5, q6⟩ := hm
  have e1 : 1 * 1 ≤ all * b := Int.mul_le_mul q2 q5 (by omega) (by omega)
  have e2 : stake * a ≤ all * b := Int.mul_le_mul q1 q4 h3 (by omega)
  have e3 : 0 ≤ stake * a := Int.mul_nonneg hs h3
  exact ⟨by omega, leastL_bounds (by omega) (by omega) (by omega)⟩

theorem lotMore_lost (n m stake more all a b : Int) (w : World) (h0 : 0 ≤ n) (hn : n ≤ 4294967295) (h1 : Word stake) (h2 : Word all) (h3 : Word a) (h4 : Word b) (hm : May stake all a b) (hl : ¬ all * b * n < stake * a * 4294967296) :
    Calls Try.prog 7 #[.int .u32 n, .int .u32 m, .int .u64 stake, .int .u64 more, .int .u64 all, .int .u64 a, .int .u64 b] w fun e w' => e = .returned (.bool true) ∧ Below w.heap.size w w' := by
  obtain ⟨c1, L0, L1⟩ := least_bd h1.1 h3.1 hm
  have hd := hide (decide_eq_false hl)
  have hs := mt (leastL_spec (c := all * b) (h := stake * a * 4294967296) (n := n) c1).2 hl
  generalize hLd : leastL (all * b) (stake * a * 4294967296) = L at *
  have HL := hide hLd
  have HM := hide hm
  clear hm hl hLd
  go_enter Try.func7, Try.ntmps7
  go_wp2_with fail
  refine (Wins_is _ h0 hn h1 h2 h3 h4 HM.out hd.out).mono ?_
  rintro e w1 ⟨rfl, hb1⟩
  go_wp2_with fail
  refine (Least_is _ h1 h2 h3 h4 HM.out HL.out).mono ?_
  rintro e w2 ⟨rfl, hb2⟩
  go_wp2_with fail
  refine (works7 _).mono ?_
  rintro e w3 ⟨rfl, hb3⟩
  go_wp2_with fail
  go_ret
  exact ⟨rfl, later hb1 (later hb2 hb3)⟩

set_option maxHeartbeats 1000000 in
theorem lotMore_won (n m stake more all a b : Int) (w : World) (h0 : 0 ≤ n) (hn : n ≤ 4294967295) (k0 : 0 ≤ m) (hk : m ≤ 4294967295) (h1 : Word stake) (hq : Word more) (h2 : Word all) (h3 : Word a) (h4 : Word b) (hm : May stake all a b) (hl : all * b * n < stake * a * 4294967296) :
    Calls Try.prog 7 #[.int .u32 n, .int .u32 m, .int .u64 stake, .int .u64 more, .int .u64 all, .int .u64 a, .int .u64 b] w fun e w' => e = .returned (.bool true) ∧ Below w.heap.size w w' := by
  obtain ⟨c1, L0, L1⟩ := least_bd h1.1 h3.1 hm
  have hd := hide (decide_eq_true hl)
  have hs := (leastL_spec (c := all * b) (h := stake * a * 4294967296) (n := n) c1).1 hl
  have h1' := h1.1
  have h3' := h3
  obtain ⟨a0, a1⟩ := h3'
  -- lesser lots
  have hless := hide (show m < n → (!decide (all * b * m < stake * a * 4294967296)) = false from fun hlt => by
    have : all * b * m ≤ all * b * n := Int.mul_le_mul_of_nonneg_left (by omega) (by omega)
    simp; omega)
  -- a greater rate
  have hrate := hide (show a < b → May stake all (a + 1) b ∧ Word (a + 1) ∧ (!decide (all * b * n < stake * (a + 1) * 4294967296)) = false from fun hlt => by
    obtain ⟨q1, q2, q3, q4, q5, q6⟩ := hm
    have : stake * (a + 1) = stake * a + stake := by rw [Int.mul_add, Int.mul_one]
    refine ⟨by unfold May; omega, by unfold Word; omega, ?_⟩
    simp; omega)
  -- more stake
  have hmore := hide (show stake ≤ more → more ≤ all → May more all a b ∧ decide (all * b * n < more * a * 4294967296) = true from fun g1 g2 => by
    obtain ⟨q1, q2, q3, q4, q5, q6⟩ := hm
    have : stake * a ≤ more * a := Int.mul_le_mul_of_nonneg_right g1 a0
    refine ⟨by unfold May; omega, ?_⟩
    simp; omega)
  generalize hLd : leastL (all * b) (stake * a * 4294967296) = L at *
  have HL := hide hLd
  have HM := hide hm
  have hb6 : b ≤ 65536 := hm.2.2.2.2.2
  have hab : a ≤ b := hm.2.2.2.1
  clear hm hl hLd
  by_cases g1 : m < n
  · by_cases g2 : a < b
    · obtain ⟨rM, rW, rD⟩ := hrate.out g2
      have RM := hide rM
      have RD := hide rD
      clear rM rD
      go_enter Try.func7, Try.ntmps7
      go_wp2_with fail
      refine (Wins_is _ h0 hn h1 h2 h3 h4 HM.out hd.out).mono ?_
      rintro e w1 ⟨rfl, hb1⟩
      go_wp2_with fail
      refine (Least_is _ h1 h2 h3 h4 HM.out HL.out).mono ?_
      rintro e w2 ⟨rfl, hb2⟩
      go_wp2_with fail
      refine (not_is _ k0 hk h1 h2 h3 h4 HM.out (hless.out g1)).mono ?_
      rintro e w3 ⟨rfl, hb3⟩
      go_wp2_with fail
      refine (not_is _ h0 hn h1 h2 rW h4 RM.out RD.out).mono ?_
      rintro e w4 ⟨rfl, hb4⟩
      go_wp2_with fail
      refine (works7 _).mono ?_
      rintro e w5 ⟨rfl, hb5⟩
      by_cases g3 : more < stake
      · go_wp2_with fail
        go_ret
        exact ⟨rfl, later hb1 (later hb2 (later hb3 (later hb4 hb5)))⟩
      · by_cases g4 : all < more
        · go_wp2_with fail
          go_ret
          exact ⟨rfl, later hb1 (later hb2 (later hb3 (later hb4 hb5)))⟩
        · obtain ⟨sM, sD⟩ := hmore.out (by omega) (by omega)
          have SM := hide sM
          have SD := hide sD
          clear sM sD
          go_wp2_with fail
          refine (wins_is _ h0 hn hq h2 h3 h4 SM.out SD.out).mono ?_
          rintro e w6 ⟨rfl, hb6⟩
          go_wp2_with fail
          go_ret
          exact ⟨rfl, later hb1 (later hb2 (later hb3 (later hb4 (later hb5 hb6))))⟩
    · go_enter Try.func7, Try.ntmps7
      go_wp2_with fail
      refine (Wins_is _ h0 hn h1 h2 h3 h4 HM.out hd.out).mono ?_
      rintro e w1 ⟨rfl, hb1⟩
      go_wp2_with fail
      refine (Least_is _ h1 h2 h3 h4 HM.out HL.out).mono ?_
      rintro e w2 ⟨rfl, hb2⟩
      go_wp2_with fail
      refine (not_is _ k0 hk h1 h2 h3 h4 HM.out (hless.out g1)).mono ?_
      rintro e w3 ⟨rfl, hb3⟩
      go_wp2_with fail
      refine (works7 _).mono ?_
      rintro e w5 ⟨rfl, hb5⟩
      by_cases g3 : more < stake
      · go_wp2_with fail
        go_ret
        exact ⟨rfl, later hb1 (later hb2 (later hb3 hb5))⟩
      · by_cases g4 : all < more
        · go_wp2_with fail
          go_ret
          exact ⟨rfl, later hb1 (later hb2 (later hb3 hb5))⟩
        · obtain ⟨sM, sD⟩ := hmore.out (by omega) (by omega)
          have SM := hide sM
          have SD := hide sD
          clear sM sD
          go_wp2_with fail
          refine (wins_is _ h0 hn hq h2 h3 h4 SM.out SD.out).mono ?_
          rintro e w6 ⟨rfl, hb6⟩
          go_wp2_with fail
          go_ret
          exact ⟨rfl, later hb1 (later hb2 (later hb3 (later hb5 hb6)))⟩
  · by_cases g2 : a < b
    · obtain ⟨rM, rW, rD⟩ := hrate.out g2
      have RM := hide rM
      have RD := hide rD
      clear rM rD
      go_enter Try.func7, Try.ntmps7
      go_wp2_with fail
      refine (Wins_is _ h0 hn h1 h2 h3 h4 HM.out hd.out).mono ?_
      rintro e w1 ⟨rfl, hb1⟩
      go_wp2_with fail
      refine (Least_is _ h1 h2 h3 h4 HM.out HL.out).mono ?_
      rintro e w2 ⟨rfl, hb2⟩
      go_wp2_with fail
      refine (not_is _ h0 hn h1 h2 rW h4 RM.out RD.out).mono ?_
      rintro e w4 ⟨rfl, hb4⟩
      go_wp2_with fail
      refine (works7 _).mono ?_
      rintro e w5 ⟨rfl, hb5⟩
      by_cases g3 : more < stake
      · go_wp2_with fail
        go_ret
        exact ⟨rfl, later hb1 (later hb2 (later hb4 hb5))⟩
      · by_cases g4 : all < more
        · go_wp2_with fail
          go_ret
          exact ⟨rfl, later hb1 (later hb2 (later hb4 hb5))⟩
        · obtain ⟨sM, sD⟩ := hmore.out (by omega) (by omega)
          have SM := hide sM
          have SD := hide sD
          clear sM sD
          go_wp2_with fail
          refine (wins_is _ h0 hn hq h2 h3 h4 SM.out SD.out).mono ?_
          rintro e w6 ⟨rfl, hb6⟩
          go_wp2_with fail
          go_ret
          exact ⟨rfl, later hb1 (later hb2 (later hb4 (later hb5 hb6)))⟩
    · go_enter Try.func7, Try.ntmps7
      go_wp2_with fail
      refine (Wins_is _ h0 hn h1 h2 h3 h4 HM.out hd.out).mono ?_
      rintro e w1 ⟨rfl, hb1⟩
      go_wp2_with fail
      refine (Least_is _ h1 h2 h3 h4 HM.out HL.out).mono ?_
      rintro e w2 ⟨rfl, hb2⟩
      go_wp2_with fail
      refine (works7 _).mono ?_
      rintro e w5 ⟨rfl, hb5⟩
      by_cases g3 : more < stake
      · go_wp2_with fail
        go_ret
        exact ⟨rfl, later hb1 (later hb2 hb5)⟩
      · by_cases g4 : all < more
        · go_wp2_with fail
          go_ret
          exact ⟨rfl, later hb1 (later hb2 hb5)⟩
        · obtain ⟨sM, sD⟩ := hmore.out (by omega) (by omega)
          have SM := hide sM
          have SD := hide sD
          clear sM sD
          go_wp2_with fail
          refine (wins_is _ h0 hn hq h2 h3 h4 SM.out SD.out).mono ?_
          rintro e w6 ⟨rfl, hb6⟩
          go_wp2_with fail
          go_ret
          exact ⟨rfl, later hb1 (later hb2 (later hb5 hb6))⟩

theorem lotMore_law (n : Int) (hn : (Lit.int .u32 n).wf = true) (m : Int) (hm : (Lit.int .u32 m).wf = true) (stake : Int) (hs : (Lit.int .u64 stake).wf = true) (more : Int) (hq : (Lit.int .u64 more).wf = true) (all : Int) (ha : (Lit.int .u64 all).wf = true) (a : Int) (h3 : (Lit.int .u64 a).wf = true) (b : Int) (hb : (Lit.int .u64 b).wf = true) (w : World) :
    Calls Try.prog 7 #[.int .u32 n, .int .u32 m, .int .u64 stake, .int .u64 more, .int .u64 all, .int .u64 a, .int .u64 b] w fun e w' => e = .returned (.bool true) ∧ Below w.heap.size w w' := by
  have i1 := u32_wf hn
  have i2 := u32_wf hm
  by_cases g : May stake all a b
  · by_cases l : all * b * n < stake * a * 4294967296
    · exact lotMore_won n m stake more all a b w i1.1 i1.2 i2.1 i2.2 (word_wf hs) (word_wf hq) (word_wf ha) (word_wf h3) (word_wf hb) g l
    · exact lotMore_lost n m stake more all a b w i1.1 i1.2 (word_wf hs) (word_wf ha) (word_wf h3) (word_wf hb) g l
  · exact lotMore_no n m stake more all a b w (word_wf ha) (word_wf hb) g
end Go.Proofs.Ytfgmhmhankikmaa
