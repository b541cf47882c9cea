/- The walks of package wide: the products, sums and comparisons of wide numbers, as contracts; for every word, no condition. -/
import Derived.Test.YtfgmhmhankikmaaRows
import Derived.WalkKit
import Derived.WalkSpells
import Derived.WalkLawsBesides
import Derived.Lib.Mul64
import Derived.Shelf.Bits.Mul64
import Derived.Deep.RegionHeld3
import Derived.Deep.QuietTactic
import Derived.BigQuiet
namespace Go.Proofs.Ytfgmhmhankikmaa
open Go.RowKit Go.Lib

theorem hide {p : Prop} (h : p) : Hid p := h
theorem word_lt {x : Nat} (h : (x : Int) < 18446744073709551616) : x < 18446744073709551616 := by omega

set_option maxHeartbeats 1000000 in
/-- math/bits.Mul64 -/
theorem mul64N (x y : Nat) (hx : x < 18446744073709551616) (hy : y < 18446744073709551616) (w : World) :
    Calls Try.prog 84 #[.int .u64 x, .int .u64 y] w fun e w' => e = .returned (.tuple #[.int .u64 ((x * y / 18446744073709551616 : Nat) : Int), .int .u64 ((x * y % 18446744073709551616 : Nat) : Int)]) ∧ w = w' := by
  obtain ⟨bd, bt, bw, hhi⟩ := Lib.mul64_hi x y hx hy
  have ba := Lib.half_mul_le (a := x / 4294967296) (b := y / 4294967296) (by omega) (by omega)
  have bb := Lib.half_mul_le (a := x / 4294967296) (b := y % 4294967296) (by omega) (by omega)
  have bc := Lib.half_mul_le (a := x % 4294967296) (b := y / 4294967296) (by omega) (by omega)
  have ba' : x / 4294967296 * (y / 4294967296) < 18446744073709551616 := by omega
  have bb' : x / 4294967296 * (y % 4294967296) < 18446744073709551616 := by omega
  have bc' : x % 4294967296 * (y / 4294967296) < 18446744073709551616 := by omega
  have bh1 : x / 4294967296 * (y / 4294967296) + (x / 4294967296 * (y % 4294967296) + x % 4294967296 * (y % 4294967296) / 4294967296) / 4294967296 < 18446744073709551616 := by omega
  have bh : x / 4294967296 * (y / 4294967296) + (x / 4294967296 * (y % 4294967296) + x % 4294967296 * (y % 4294967296) / 4294967296) / 4294967296 + ((x / 4294967296 * (y % 4294967296) + x % 4294967296 * (y % 4294967296) / 4294967296) % 4294967296 + x % 4294967296 * (y / 4294967296)) / 4294967296 < 18446744073709551616 := by omega
  go_enter Try.func84, Try.ntmps84
  go_wp2
  simp only [Mul64.maskN x hx, Mul64.maskN y hy, Mul64.divN, Mul64.mulN, Mul64.addN, Mul64.wrapN _ bd, Mul64.wrapN _ bb', Mul64.wrapN _ bt, Mul64.maskN _ bt, Mul64.wrapN _ bc', Mul64.wrapN _ bw, Mul64.wrapN _ ba', Mul64.wrapN _ bh1, Mul64.wrapN _ bh, Mul64.wrapM (x * y)]
  rw [hhi]
  go_ret2
  exact ⟨rfl, rfl⟩

/-- A word: a number of 64 bits. -/
def Word (x : Int) : Prop := 0 ≤ x ∧ x < 18446744073709551616

theorem mul64 (x y : Int) (hx : Word x) (hy : Word y) (w : World) :
    Calls Try.prog 84 #[.int .u64 x, .int .u64 y] w fun e w' => e = .returned (.tuple #[.int .u64 (x * y / 18446744073709551616), .int .u64 (x * y % 18446744073709551616)]) ∧ w = w' := by
  obtain ⟨x0, x1⟩ := hx; obtain ⟨y0, y1⟩ := hy
  obtain ⟨x, rfl⟩ := Int.eq_ofNat_of_zero_le x0
  obtain ⟨y, rfl⟩ := Int.eq_ofNat_of_zero_le y0
  refine (mul64N x y (by omega) (by omega) w).mono fun e w' h => ?_
  simpa using h


theorem bcell {W w1 : World} (hb : Below W.heap.size W w1) : (∀ b o, b < W.heap.size → w1.cell? ⟨b, o, none⟩ = W.cell? ⟨b, o, none⟩) ∧ (∀ b o, b < W.heap.size → w1.frozen? ⟨b, o, none⟩ = W.frozen? ⟨b, o, none⟩) :=
  ⟨fun b o h => hb.cell (p := ⟨b, o, none⟩) h, fun b o h => hb.frozen (p := ⟨b, o, none⟩) h⟩

/-- wide.Mul -/
theorem wideMulX (x y : Int) (hx : Word x) (hy : Word y) (w : World) :
    Calls Try.prog 73 #[.int .u64 x, .int .u64 y] w fun e w' =>
      e = .returned (.agg #[.int .u64 (x * y / 18446744073709551616), .int .u64 (x * y % 18446744073709551616)]) ∧ ∃ c : Array Value, w' = w.alloc (.cells c 70) := by
  go_enter Try.func73, Try.ntmps73
  go_wp2_with (go_at_call 84; refine (mul64 x y hx hy _).mono ?_; rintro e w' ⟨rfl, rfl⟩)
  simp [bodyPost, results, Try.results73, go_sem]
  exact ⟨_, rfl⟩
theorem wideMul (x y : Int) (hx : Word x) (hy : Word y) (w : World) :
    Calls Try.prog 73 #[.int .u64 x, .int .u64 y] w fun e w' =>
      e = .returned (.agg #[.int .u64 (x * y / 18446744073709551616), .int .u64 (x * y % 18446744073709551616)]) ∧ Below w.heap.size w w' :=
  (wideMulX x y hx hy w).mono fun e w' ⟨h, c, hc⟩ => ⟨h, by rw [hc]; exact (Below.refl _ _).alloc (Nat.le_refl _) _⟩

theorem add64 (x y c : Int) (hx : 0 ≤ x) (hy : 0 ≤ y) (hc0 : 0 ≤ c) (hc : c ≤ 1) (w : World) : (callFunc 99 #[.int .u64 x, .int .u64 y, .int .u64 c]).run Try.prog w =
    .ok (.value (.tuple #[.int .u64 ((x + y + c) % 18446744073709551616), .int .u64 ((x + y + c) / 18446744073709551616)])) w := by
  obtain ⟨x, rfl⟩ := Int.eq_ofNat_of_zero_le hx
  obtain ⟨y, rfl⟩ := Int.eq_ofNat_of_zero_le hy
  obtain ⟨c, rfl⟩ := Int.eq_ofNat_of_zero_le hc0
  rw [run_callFunc_extern Try.func99 (by kernel_rfl) (by kernel_rfl) (by kernel_rfl) (e := add64Entry) (by kernel_rfl), run_add64 x y c (by omega) (by omega) (by omega) (by omega)]
  simp only [Result.andThen]
theorem add64_0 (x y : Int) (hx : 0 ≤ x) (hy : 0 ≤ y) (w : World) : (callFunc 99 #[.int .u64 x, .int .u64 y, .int .u64 0]).run Try.prog w =
    .ok (.value (.tuple #[.int .u64 ((x + y) % 18446744073709551616), .int .u64 ((x + y) / 18446744073709551616)])) w := by
  simpa using add64 x y 0 hx hy (Int.le_refl 0) (by decide) w

/-- wide.Plus, where the sum fits. -/
theorem widePlusX (ah al bh bl : Int) (h1 : Word ah) (h2 : Word al) (h3 : Word bh) (h4 : Word bl) (hfit : ah + bh + (al + bl) / 18446744073709551616 < 18446744073709551616) (w : World) :
    Calls Try.prog 92 #[.agg #[.int .u64 ah, .int .u64 al], .agg #[.int .u64 bh, .int .u64 bl]] w fun e w' =>
      e = .returned (.tuple #[.agg #[.int .u64 (ah + bh + (al + bl) / 18446744073709551616), .int .u64 ((al + bl) % 18446744073709551616)], .int .i64 0]) ∧ ∃ c1 c2 c3 : Array Value, w' = ((w.alloc (.cells c1 70)).alloc (.cells c2 70)).alloc (.cells c3 70) := by
  obtain ⟨a1, a2⟩ := h1; obtain ⟨b1, b2⟩ := h2; obtain ⟨c1, c2⟩ := h3; obtain ⟨d1, d2⟩ := h4
  have k0 : 0 ≤ (al + bl) / 18446744073709551616 := by omega
  have k1 : (al + bl) / 18446744073709551616 ≤ 1 := by omega
  have e1 : (ah + bh + (al + bl) / 18446744073709551616) % 18446744073709551616 = ah + bh + (al + bl) / 18446744073709551616 := by omega
  have e2 : (ah + bh + (al + bl) / 18446744073709551616) / 18446744073709551616 = 0 := by omega
  have E1 := hide e1
  clear e1 hfit
  go_enter Try.func92, Try.ntmps92
  go_wp2_with (first | simp only [add64_0 al bl b1 d1] | simp only [add64 ah bh _ a1 c1 k0 k1, e2])
  simp [bodyPost, results, Try.results92, go_sem]
  exact ⟨E1.out, _, _, _, rfl⟩
theorem below3 (w : World) (o1 o2 o3 : Obj) : Below w.heap.size w (((w.alloc o1).alloc o2).alloc o3) := (((Below.refl _ _).alloc (Nat.le_refl _) _).alloc (by simp) _).alloc (by simp; omega) _
theorem widePlus (ah al bh bl : Int) (h1 : Word ah) (h2 : Word al) (h3 : Word bh) (h4 : Word bl) (hfit : ah + bh + (al + bl) / 18446744073709551616 < 18446744073709551616) (w : World) :
    Calls Try.prog 92 #[.agg #[.int .u64 ah, .int .u64 al], .agg #[.int .u64 bh, .int .u64 bl]] w fun e w' =>
      e = .returned (.tuple #[.agg #[.int .u64 (ah + bh + (al + bl) / 18446744073709551616), .int .u64 ((al + bl) % 18446744073709551616)], .int .i64 0]) ∧ Below w.heap.size w w' :=
  (widePlusX ah al bh bl h1 h2 h3 h4 hfit w).mono fun e w' ⟨h, c1, c2, c3, hc⟩ => ⟨h, by rw [hc]; exact below3 _ _ _ _⟩


/-- The product of a wide number and a word, in parts. -/
theorem times_parts (hi lo b : Int) (h1 : Word hi) (h2 : Word lo) (h3 : Word b) (hfit : hi * b + lo * b / 18446744073709551616 < 18446744073709551616) :
    hi * b / 18446744073709551616 = 0 ∧ hi * b % 18446744073709551616 = hi * b ∧ Word (hi * b) ∧ Word (lo * b / 18446744073709551616) ∧ Word (lo * b % 18446744073709551616) := by
  obtain ⟨a1, a2⟩ := h1; obtain ⟨b1, b2⟩ := h2; obtain ⟨c1, c2⟩ := h3
  have m1 : 0 ≤ hi * b := Int.mul_nonneg a1 c1
  have m2 : 0 ≤ lo * b := Int.mul_nonneg b1 c1
  unfold Word
  omega


set_option maxHeartbeats 1000000 in
/-- wide.Times, where the product fits. -/
theorem wideTimes (hi lo b : Int) (h1 : Word hi) (h2 : Word lo) (h3 : Word b) (hfit : hi * b + lo * b / 18446744073709551616 < 18446744073709551616) (w : World) :
    Calls Try.prog 72 #[.agg #[.int .u64 hi, .int .u64 lo], .int .u64 b] w fun e w' =>
      e = .returned (.tuple #[.agg #[.int .u64 (hi * b + lo * b / 18446744073709551616), .int .u64 (lo * b % 18446744073709551616)], .int .i64 0]) ∧ Below w.heap.size w w' := by
  obtain ⟨z1, z2, z3, z4, z5⟩ := times_parts hi lo b h1 h2 h3 hfit
  go_enter Try.func72, Try.ntmps72
  go_wp2
  go_region_held3 (fun w' => w'.cell? ⟨w.heap.size, 0, none⟩ = some (.int .u64 hi) ∧ w'.cell? ⟨w.heap.size, 1, none⟩ = some (.int .u64 lo)) (simp [go_sem, World.cell?_alloc_past])
    (first
      | (go_at_call 73; refine (wideMulX _ _ (by assumption) (by assumption) _).mono ?_; rintro e w' ⟨rfl, c, rfl⟩))
  all_goals
    go_wp2_with (go_at_call 92; refine (widePlusX _ _ _ _ (by assumption) (by assumption) (by assumption) (by unfold Word; omega) (by omega) _).mono ?_; rintro e w' ⟨rfl, c1, c2, c3, rfl⟩)
    simp [bodyPost, results, Try.results72, go_sem]
    refine ⟨by omega, ?_⟩
    repeat (first | exact Below.refl _ _ | refine Below.drew ?_ | refine Below.alloc ?_ (by simp; try omega) _)

theorem word_mk {x : Int} (h0 : 0 ≤ x) (h1 : x < 18446744073709551616) : Word x := ⟨h0, h1⟩
theorem word_mulhi {x y : Int} (hx : Word x) (hy : Word y) : Word (x * y / 18446744073709551616) := by
  obtain ⟨a, b⟩ := hx; obtain ⟨c, d⟩ := hy
  have m : 0 ≤ x * y := Int.mul_nonneg a c
  have m2 : x * y ≤ 18446744073709551616 * 18446744073709551615 := Int.mul_le_mul (by omega) (by omega) c (by omega)
  unfold Word; omega
theorem word_mod (x : Int) : Word (x % 18446744073709551616) := by unfold Word; omega

end Go.Proofs.Ytfgmhmhankikmaa
