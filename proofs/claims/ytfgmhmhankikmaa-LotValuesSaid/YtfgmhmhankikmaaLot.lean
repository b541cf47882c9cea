/- The walks of package lot: which lots win, how many. -/
import Derived.Test.YtfgmhmhankikmaaCmp
namespace Go.Proofs.Ytfgmhmhankikmaa
open Go.RowKit Go.Lib

/-- A wide number times a word, by its value. -/
theorem wide_value (X n : Int) (h0 : 0 ≤ X) (hn : 0 ≤ n) (hfit : X * n < 18446744073709551616 * 18446744073709551616) :
    X / 18446744073709551616 * n + X % 18446744073709551616 * n / 18446744073709551616 < 18446744073709551616 ∧
    (X / 18446744073709551616 * n + X % 18446744073709551616 * n / 18446744073709551616) * 18446744073709551616 + X % 18446744073709551616 * n % 18446744073709551616 = X * n ∧
    Word (X / 18446744073709551616 * n + X % 18446744073709551616 * n / 18446744073709551616) ∧ Word (X % 18446744073709551616 * n % 18446744073709551616) := by
  have e : X = 18446744073709551616 * (X / 18446744073709551616) + X % 18446744073709551616 := by omega
  have e2 : X * n = 18446744073709551616 * (X / 18446744073709551616 * n) + X % 18446744073709551616 * n := by
    conv => lhs; rw [e]
    rw [Int.add_mul, Int.mul_assoc]
  have q0 : 0 ≤ X / 18446744073709551616 * n := Int.mul_nonneg (by omega) hn
  have r0 : 0 ≤ X % 18446744073709551616 * n := Int.mul_nonneg (by omega) hn
  generalize X / 18446744073709551616 * n = q at *
  generalize X % 18446744073709551616 * n = r at *
  unfold Word
  omega

/-- Whether a number of lots asks for less than is had (hi, lo). -/
def lessB (all b hi lo n : Int) : Bool := decide (all * b * n < hi * 18446744073709551616 + lo)

set_option maxHeartbeats 1000000 in
/-- What a number of lots asks: lot.scale's closure. -/
theorem scale1_any (p1 p2 p3 : Nat) (all b hi lo n : Int) (w : World) (h1 : Word all) (h2 : Word b) (h3 : Word n) (h4 : Word hi) (h5 : Word lo)
    (c1 : w.cell? ⟨p1, 0, none⟩ = some (.int .u64 all)) (c2 : w.cell? ⟨p2, 0, none⟩ = some (.int .u64 b)) (c3 : w.cell? ⟨p3, 0, none⟩ = some (.int .u64 hi)) (c4 : w.cell? ⟨p3, 1, none⟩ = some (.int .u64 lo))
    (hfit : all * b * n < 18446744073709551616 * 18446744073709551616) :
    Calls Try.prog 74 #[.int .u64 n, .pointer (some ⟨p1, 0, none⟩), .pointer (some ⟨p2, 0, none⟩), .pointer (some ⟨p3, 0, none⟩)] w fun e w' => e = .returned (.bool (lessB all b hi lo n)) ∧ Below w.heap.size w w' := by
  obtain ⟨z1, z2, z3, z4⟩ := wide_value (all * b) n (Int.mul_nonneg h1.1 h2.1) h3.1 hfit
  have Z2 := hide z2
  clear z2 hfit
  go_enter Try.func74, Try.ntmps74
  go_wp2_with fail
  refine (wideMul _ _ h1 h2 _).mono ?_
  rintro e w' ⟨rfl, hb⟩
  replace c3 := cell_later hb c3
  replace c4 := cell_later hb c4
  clear c1 c2
  go_wp2_with fail
  refine (wideTimes _ _ _ (word_mulhi h1 h2) (word_mod _) h3 z1 _).mono ?_
  rintro e w1 ⟨rfl, hb1⟩
  replace c3 := cell_later hb1 c3
  replace c4 := cell_later hb1 c4
  have p3lt := World.block_lt_of_cell? w1 _ c3
  dsimp only at p3lt
  go_wp2_with fail
  refine (cmp_any _ _ _ _ _).mono ?_
  rintro e w2 ⟨rfl, hb2⟩
  go_wp2_with fail
  go_ret
  refine ⟨?_, ?_⟩
  · rw [cmpW_lt _ _ _ _ z3 z4 h4 h5, Z2.out]; rfl
  · exact hb.trans ((hb1.mono hb.size).trans (((Below.refl _ _).alloc (Nat.le_refl _) _ |>.mono (by have := hb.size; have := hb1.size; omega)).trans (hb2.mono (by have := hb.size; have := hb1.size; simp; omega))))

/-- What may be asked. -/
def May (stake all a b : Int) : Prop := stake ≤ all ∧ 1 ≤ all ∧ all < 9223372036854775808 ∧ a ≤ b ∧ 1 ≤ b ∧ b ≤ 65536

/-- The closure that lot.scale answers, where it lies, what it holds. -/
def IsScale (all b has : Int) (v : Value) (w : World) : Prop := ∃ p1 p2 p3 : Nat, ∃ hi lo : Int, v = .func (.func 74) #[] #[.pointer (some ⟨p1, 0, none⟩), .pointer (some ⟨p2, 0, none⟩), .pointer (some ⟨p3, 0, none⟩)] ∧
  Word hi ∧ Word lo ∧ hi * 18446744073709551616 + lo = has ∧ w.cell? ⟨p1, 0, none⟩ = some (.int .u64 all) ∧ w.cell? ⟨p2, 0, none⟩ = some (.int .u64 b) ∧ w.cell? ⟨p3, 0, none⟩ = some (.int .u64 hi) ∧ w.cell? ⟨p3, 1, none⟩ = some (.int .u64 lo)

theorem has_fits {stake all a b : Int} (hs : 0 ≤ stake) (ha : 0 ≤ a) (h : May stake all a b) : 0 ≤ stake * a ∧ stake * a * 4294967296 < 18446744073709551616 * 18446744073709551616 := by
  obtain ⟨m1, m2, m3, m4, m5, m6⟩ := h
  refine ⟨Int.mul_nonneg hs ha, ?_⟩
  have : stake * a ≤ 9223372036854775807 * 65536 := Int.mul_le_mul (by omega) (by omega) ha (by omega)
  omega

set_option maxHeartbeats 1000000 in
theorem scale_ok (stake all a b : Int) (w : World) (h1 : Word stake) (h2 : Word a) (hm : May stake all a b) :
    Calls Try.prog 45 #[.int .u64 stake, .int .u64 all, .int .u64 a, .int .u64 b] w fun e w' => ∃ v, e = .returned (.tuple #[v, .int .i64 0]) ∧ IsScale all b (stake * a * 4294967296) v w' ∧ Below w.heap.size w w' := by
  obtain ⟨f0, f1⟩ := has_fits h1.1 h2.1 hm
  obtain ⟨m1, m2, m3, m4, m5, m6⟩ := hm
  obtain ⟨z1, z2, z3, z4⟩ := wide_value (stake * a) 4294967296 f0 (by decide) f1
  have Z2 := hide z2
  clear z2 f1
  have e1 : (all == 0) = false := beq_eq_false_iff_ne.2 (by omega)
  have e2 : (b == 0) = false := beq_eq_false_iff_ne.2 (by omega)
  go_enter Try.func45, Try.ntmps45
  have c1 : ((w.alloc (Obj.cells #[.int .u64 all] 31)).alloc (Obj.cells #[.int .u64 b] 31)).cell? ⟨w.heap.size, 0, none⟩ = some (.int .u64 all) := by simp [go_sem]
  have c2 : ((w.alloc (Obj.cells #[.int .u64 all] 31)).alloc (Obj.cells #[.int .u64 b] 31)).cell? ⟨w.heap.size + 1, 0, none⟩ = some (.int .u64 b) := by simp [go_sem]
  go_wp2_with fail
  refine (wideMul _ _ h1 h2 _).mono ?_
  rintro e w' ⟨rfl, hb⟩
  replace c1 := cell_later hb c1
  replace c2 := cell_later hb c2
  go_wp2_with fail
  refine (wideTimes _ _ _ (word_mulhi h1 h2) (word_mod _) (by unfold Word; omega) z1 _).mono ?_
  rintro e w1 ⟨rfl, hb1⟩
  replace c1 := cell_later hb1 c1
  replace c2 := cell_later hb1 c2
  have p1lt := World.block_lt_of_cell? w1 _ c1
  have p2lt := World.block_lt_of_cell? w1 _ c2
  dsimp only at p1lt p2lt
  go_wp2_with fail
  go_ret2
  refine ⟨_, rfl, ⟨w.heap.size, w.heap.size + 1, w1.heap.size, _, _, rfl, z3, z4, Z2.out, ?_, ?_, ?_, ?_⟩, ?_⟩
  · simp [go_sem, p1lt, c1]
  · simp [go_sem, p2lt, c2]
  · simp [go_sem]
  · simp [go_sem]
  · exact (below2 w _ _).trans ((hb.mono (by simp; omega)).trans ((hb1.mono (by have := hb.size; simp at this; omega)).trans ((Below.refl _ _).alloc (Nat.le_refl _) _ |>.mono (by omega))))

theorem scale_no (stake all a b : Int) (w : World) (h2 : Word all) (h4 : Word b) (hm : ¬ May stake all a b) :
    Calls Try.prog 45 #[.int .u64 stake, .int .u64 all, .int .u64 a, .int .u64 b] w fun e w' => e = .returned (.tuple #[.nilFunc, .int .i64 2]) ∧ Below w.heap.size w w' := by
  unfold May at hm
  by_cases g1 : stake ≤ all
  · by_cases g2 : all = 0
    · subst g2
      go_enter Try.func45, Try.ntmps45
      go_wp2_with fail
      go_ret2
      exact ⟨rfl, below2 w _ _⟩
    · have e1 : (all == 0) = false := beq_eq_false_iff_ne.2 (by omega)
      by_cases g3 : all < 9223372036854775808
      · by_cases g4 : a ≤ b
        · by_cases g5 : b = 0
          · subst g5
            go_enter Try.func45, Try.ntmps45
            go_wp2_with fail
            go_ret2
            exact ⟨rfl, below2 w _ _⟩
          · have e2 : (b == 0) = false := beq_eq_false_iff_ne.2 (by omega)
            have g6 : 65536 < b := by obtain ⟨_, _⟩ := h2; obtain ⟨_, _⟩ := h4; omega
            clear hm
            go_enter Try.func45, Try.ntmps45
            go_wp2_with fail
            go_ret2
            exact ⟨rfl, below2 w _ _⟩
        · clear hm
          go_enter Try.func45, Try.ntmps45
          go_wp2_with fail
          go_ret2
          exact ⟨rfl, below2 w _ _⟩
      · clear hm
        go_enter Try.func45, Try.ntmps45
        go_wp2_with fail
        go_ret2
        exact ⟨rfl, below2 w _ _⟩
  · clear hm
    go_enter Try.func45, Try.ntmps45
    go_wp2_with fail
    go_ret2
    exact ⟨rfl, below2 w _ _⟩

theorem scale1_is (all b has n : Int) (v : Value) (w : World) (hv : IsScale all b has v w) (h1 : Word all) (h2 : Word b) (h3 : Word n) (hfit : all * b * n < 18446744073709551616 * 18446744073709551616) :
    ∃ p1 p2 p3 : Nat, v = .func (.func 74) #[] #[.pointer (some ⟨p1, 0, none⟩), .pointer (some ⟨p2, 0, none⟩), .pointer (some ⟨p3, 0, none⟩)] ∧
    Calls Try.prog 74 #[.int .u64 n, .pointer (some ⟨p1, 0, none⟩), .pointer (some ⟨p2, 0, none⟩), .pointer (some ⟨p3, 0, none⟩)] w fun e w' => e = .returned (.bool (decide (all * b * n < has))) ∧ Below w.heap.size w w' := by
  obtain ⟨p1, p2, p3, hi, lo, rfl, hh, hl, he, c1, c2, c3, c4⟩ := hv
  refine ⟨p1, p2, p3, rfl, ?_⟩
  have := scale1_any p1 p2 p3 all b hi lo n w h1 h2 h3 hh hl c1 c2 c3 c4 hfit
  unfold lessB at this
  rw [he] at this
  exact this

theorem IsScale.later {all b has : Int} {v : Value} {w w' : World} (h : IsScale all b has v w) (hb : Below w.heap.size w w') : IsScale all b has v w' := by
  obtain ⟨p1, p2, p3, hi, lo, e, hh, hl, he, c1, c2, c3, c4⟩ := h
  exact ⟨p1, p2, p3, hi, lo, e, hh, hl, he, cell_later hb c1, cell_later hb c2, cell_later hb c3, cell_later hb c4⟩

theorem lots_fit {stake all a b n : Int} (hm : May stake all a b) (h1 : 0 ≤ n) (h2 : n ≤ 4294967296) : all * b * n < 18446744073709551616 * 18446744073709551616 := by
  obtain ⟨m1, m2, m3, m4, m5, m6⟩ := hm
  have e1 : all * b ≤ 9223372036854775807 * 65536 := Int.mul_le_mul (by omega) (by omega) (by omega) (by omega)
  have e2 : all * b * n ≤ 9223372036854775807 * 65536 * 4294967296 := Int.mul_le_mul e1 h2 h1 (by omega)
  omega

set_option maxHeartbeats 1000000 in
/-- lot.Wins, where it may be asked. -/
theorem Wins_ok (n stake all a b : Int) (w : World) (h0 : 0 ≤ n) (hn : n ≤ 4294967295) (h1 : Word stake) (h2 : Word all) (h3 : Word a) (h4 : Word b) (hm : May stake all a b) :
    Calls Try.prog 22 #[.int .u32 n, .int .u64 stake, .int .u64 all, .int .u64 a, .int .u64 b] w fun e w' => e = .returned (.tuple #[.bool (decide (all * b * n < stake * a * 4294967296)), .int .i64 0]) ∧ Below w.heap.size w w' := by
  have hfit := lots_fit hm h0 (by omega : n ≤ 4294967296)
  have HM := hide hm
  clear hm
  go_enter Try.func22, Try.ntmps22
  go_wp2_with fail
  refine (scale_ok stake all a b _ h1 h3 HM.out).mono ?_
  rintro e w' ⟨v, rfl, hv, hb⟩
  obtain ⟨p1, p2, p3, rfl, hc⟩ := scale1_is all b _ n v w' hv h2 h4 (by unfold Word; omega) hfit
  clear hv
  have HC := hide hc
  clear hc hfit
  go_wp2_with fail
  refine HC.out.mono ?_
  rintro e w1 ⟨rfl, hb1⟩
  go_wp2_with fail
  go_ret2
  exact ⟨rfl, hb.trans (hb1.mono hb.size)⟩

/-- lot.Wins, where it may not be asked. -/
theorem Wins_no (n stake all a b : Int) (w : World) (h2 : Word all) (h4 : Word b) (hm : ¬ May stake all a b) :
    Calls Try.prog 22 #[.int .u32 n, .int .u64 stake, .int .u64 all, .int .u64 a, .int .u64 b] w fun e w' => e = .returned (.tuple #[.bool false, .int .i64 2]) ∧ Below w.heap.size w w' := by
  have HM := hide hm
  clear hm
  go_enter Try.func22, Try.ntmps22
  go_wp2_with fail
  refine (scale_no stake all a b _ h2 h4 HM.out).mono ?_
  rintro e w' ⟨rfl, hb⟩
  go_wp2_with fail
  go_ret2
  exact ⟨rfl, hb⟩

/-- The least number of lots from which on none wins: c lots' worth each, h had. -/
def leastL (c h : Int) : Int := (h + c - 1) / c
theorem leastL_spec {c h n : Int} (hc : 1 ≤ c) : c * n < h ↔ n < leastL c h := by
  unfold leastL
  have e : h + c - 1 = c * ((h + c - 1) / c) + (h + c - 1) % c := (Int.mul_ediv_add_emod _ _).symm
  have r0 := Int.emod_nonneg (h + c - 1) (by omega : c ≠ 0)
  have r1 := Int.emod_lt_of_pos (h + c - 1) (by omega : 0 < c)
  generalize (h + c - 1) / c = q at *
  generalize (h + c - 1) % c = r at *
  constructor
  · intro hlt
    have hq : c * n < c * q + 1 * 1 := by omega
    by_cases hge : q ≤ n
    · exfalso
      have : c * q ≤ c * n := Int.mul_le_mul_of_nonneg_left hge (by omega)
      omega
    · omega
  · intro hlt
    have h1 : n + 1 ≤ q := by omega
    have : c * (n + 1) ≤ c * q := Int.mul_le_mul_of_nonneg_left h1 (by omega)
    rw [Int.mul_add] at this
    omega
theorem leastL_bounds {c h : Int} (hc : 1 ≤ c) (h0 : 0 ≤ h) (h1 : h ≤ c * 4294967296) : 0 ≤ leastL c h ∧ leastL c h ≤ 4294967296 := by
  constructor
  · have := (leastL_spec (c := c) (h := h) (n := -1) hc).1 (by omega); omega
  · by_cases hh : leastL c h ≤ 4294967296
    · exact hh
    · have := (leastL_spec (c := c) (h := h) (n := 4294967296) hc).2 (by omega); omega
end Go.Proofs.Ytfgmhmhankikmaa
