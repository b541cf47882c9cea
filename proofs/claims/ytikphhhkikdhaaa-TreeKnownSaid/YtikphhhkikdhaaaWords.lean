/- Words of 32 bits in the walk's own spelling: wv x is the number that a slot holds; and, or, xor, not, sums without what runs over, shifts. The turn of a word, in the program and in the reference. -/
import Derived.Test.YtikphhhkikdhaaaRegion
import Derived.Test.YtikphhhkikdhaaaLaw
import Derived.Laws.BitsAllLaws
import Derived.WalkSpells
import Derived.WalkLawsBesides
namespace Go.Proofs.Ytikphhhkikdhaaa
open Go.RowKit Go.Lib

abbrev W32 := BitVec 32
/-- The number of a word. -/
def wv (x : W32) : Int := (x.toNat : Int)
theorem wv_nonneg (x : W32) : 0 ≤ wv x := by unfold wv; omega
theorem wv_lt (x : W32) : wv x < 4294967296 := by unfold wv; have := x.isLt; omega
theorem wv_inj {x y : W32} (h : wv x = wv y) : x = y := by unfold wv at h; exact BitVec.eq_of_toNat_eq (by omega)
theorem wv_ofNat (n : Nat) (h : n < 4294967296) : wv (BitVec.ofNat 32 n) = n := by unfold wv; rw [BitVec.toNat_ofNat, Nat.mod_eq_of_lt h]

/-- A rotation to the right. -/
def rotr (x : W32) (n : Nat) : W32 := (x >>> n) ||| (x <<< (32 - n))

theorem w_and (a b : W32) : bits .and .u32 (wv a) (wv b) = wv (a &&& b) := by
  unfold wv; rw [u32_and_nat _ _ a.isLt b.isLt, BitVec.toNat_and]
theorem w_or (a b : W32) : bits .or .u32 (wv a) (wv b) = wv (a ||| b) := by
  unfold wv; rw [u32_or_nat _ _ a.isLt b.isLt, BitVec.toNat_or]
theorem w_xor (a b : W32) : bits .xor .u32 (wv a) (wv b) = wv (a ^^^ b) := by
  unfold wv; rw [u32_xor_nat _ _ a.isLt b.isLt, BitVec.toNat_xor]
theorem w_add (a b : W32) : IntKind.u32.wrap (wv a + wv b) = wv (a + b) := by
  unfold wv; rw [IntKind.wrap_u32', BitVec.toNat_add]; omega
theorem w_not (a : W32) : IntKind.u32.wrap (-(wv a) - 1) = wv (~~~ a) := by
  unfold wv; rw [IntKind.wrap_u32', BitVec.toNat_not]; have := a.isLt; omega
theorem w_com (a : W32) : bits .xor .u32 (if IntKind.u32.signed = true then -1 else IntKind.u32.max) (wv a) = wv (~~~ a) := by
  have e : (if IntKind.u32.signed = true then (-1 : Int) else IntKind.u32.max) = wv (BitVec.allOnes 32) := by decide
  rw [e, w_xor, BitVec.xor_comm, BitVec.xor_allOnes]
theorem w_shr (a : W32) (n : Nat) : wv a / 2 ^ n = wv (a >>> n) := by
  unfold wv; rw [BitVec.toNat_ushiftRight, Nat.shiftRight_eq_div_pow]; simp
theorem w_shl (a : W32) (n : Nat) : IntKind.u32.wrap (wv a * 2 ^ n) = wv (a <<< n) := by
  unfold wv; rw [IntKind.wrap_u32', BitVec.toNat_shiftLeft, Nat.shiftLeft_eq]; simp
theorem w_shl8 (a : W32) : wv a * 256 % 4294967296 = wv (a <<< 8) := by
  have := w_shl a 8
  rwa [IntKind.wrap_u32'] at this
theorem w_shl16 (a : W32) : wv a * 65536 % 4294967296 = wv (a <<< 16) := by
  have := w_shl a 16
  rwa [IntKind.wrap_u32'] at this
theorem w_shl24 (a : W32) : wv a * 16777216 % 4294967296 = wv (a <<< 24) := by
  have := w_shl a 24
  rwa [IntKind.wrap_u32'] at this
theorem w_shr3 (a : W32) : wv a / 8 = wv (a >>> 3) := w_shr a 3
theorem w_shr10 (a : W32) : wv a / 1024 = wv (a >>> 10) := w_shr a 10
theorem w_mod (a : W32) : wv a % 4294967296 = wv a := by have := wv_nonneg a; have := wv_lt a; omega
theorem w_wrap (a : W32) : IntKind.u32.wrap (wv a) = wv a := by
  rw [IntKind.wrap_u32']; have := wv_nonneg a; have := wv_lt a; omega

theorem count_is (n : Nat) (h1 : 1 ≤ n) (h2 : n < 32) : bits .and .u64 (IntKind.u64.wrap (-(n : Int))) 31 = ((32 - n : Nat) : Int) := by
  have e : IntKind.u64.wrap (-(n : Int)) = ((18446744073709551616 - n : Nat) : Int) := by rw [IntKind.wrap_u64]; omega
  rw [e, show (31 : Int) = ((31 : Nat) : Int) by rfl, u64_and_nat _ 31 (by omega) (by omega)]
  have : (18446744073709551616 - n) &&& 31 = 32 - n := by
    rw [show (31 : Nat) = 2 ^ 5 - 1 by rfl, Nat.and_two_pow_sub_one_eq_mod]; omega
  simp [this]

theorem rotl_any (x : W32) (n : Nat) (w : World) (h1 : 1 ≤ n) (h2 : n < 32) :
    Calls Try.prog 85 #[.int .u32 (wv x), .int .i64 (-(n : Int))] w fun e w' => e = .returned (.int .u32 (wv (rotr x n))) ∧ w = w' := by
  have hc := count_is n h1 h2
  have f1 : (0 : Int) ≤ ((32 - n : Nat) : Int) := by omega
  have f2 : ((32 - n : Nat) : Int) ≤ 32 := by omega
  have f3 : IntKind.u64.wrap (32 - ((32 - n : Nat) : Int)) = (n : Int) := by rw [IntKind.wrap_u64]; omega
  have f4 : (n : Int) ≤ 32 := by omega
  have f5 : (0 : Int) ≤ (n : Int) := by omega
  have e1 := w_shl x (32 - n)
  have e2 := w_shr x n
  have e3 := w_or (x <<< (32 - n)) (x >>> n)
  generalize hm : ((32 - n : Nat)) = m at *
  go_enter Try.func85, Try.ntmps85
  go_wp2_with fail
  go_ret
  refine ⟨?_, rfl⟩
  subst hm
  unfold rotr
  rw [BitVec.or_comm]
  rfl

theorem turn_any (x : W32) (n : Nat) (w : World) (h1 : 1 ≤ n) (h2 : n < 32) :
    Calls Try.prog 77 #[.int .u32 (wv x), .int .i64 n] w fun e w' => e = .returned (.int .u32 (wv (rotr x n))) ∧ w = w' := by
  go_enter Try.func77, Try.ntmps77
  go_wp2_with fail
  refine (rotl_any x n w h1 h2).mono ?_
  rintro e w1 ⟨rfl, rfl⟩
  go_wp2_with fail
  go_ret
  exact ⟨rfl, rfl⟩

set_option maxRecDepth 100000 in
theorem refTurn_any (x : W32) (n : Nat) (w : World) (h1 : 1 ≤ n) (h2 : n < 32) :
    Calls Try.prog 89 #[.int .u32 (wv x), .int .i64 n] w fun e w' => e = .returned (.int .u32 (wv (rotr x n))) ∧ Below w.heap.size w w' := by
  have f1 : (0 : Int) ≤ ((32 - n : Nat) : Int) := by omega
  have f2 : ((32 - n : Nat) : Int) ≤ 32 := by omega
  have f3 : 32 - (n : Int) = ((32 - n : Nat) : Int) := by omega
  have f4 : (n : Int) ≤ 32 := by omega
  have f5 : (0 : Int) ≤ (n : Int) := by omega
  have e1 := w_shl x (32 - n)
  have e2 := w_shr x n
  have e3 := w_or (x >>> n) (x <<< (32 - n))
  generalize hm : ((32 - n : Nat)) = m at *
  have hr : rotr x n = x >>> n ||| x <<< m := by subst hm; rfl
  rw [hr]
  clear hr hm
  go_enter Try.func89, Try.ntmps89
  go_wp2_with fail
  refine region_since (by kernel_rfl) (by kernel_rfl) ?_
  repeat (first | go_big_quiet_skip | (go_big_quiet_want; go_big_quiet_op; go_big_quiet_on))
  refine wpQuiet_nil ?_
  intro w' hw'
  go_wp2_with fail
  go_ret
  exact ⟨rfl, hw'⟩
theorem turn_lit (x : W32) (m : Int) (n : Nat) (w : World) (hm : m = n) (h1 : 1 ≤ n) (h2 : n < 32) :
    Calls Try.prog 77 #[.int .u32 (wv x), .int .i64 m] w fun e w' => e = .returned (.int .u32 (wv (rotr x n))) ∧ w = w' := hm ▸ turn_any x n w h1 h2
theorem refTurn_lit (x : W32) (m : Int) (n : Nat) (w : World) (hm : m = n) (h1 : 1 ≤ n) (h2 : n < 32) :
    Calls Try.prog 89 #[.int .u32 (wv x), .int .i64 m] w fun e w' => e = .returned (.int .u32 (wv (rotr x n))) ∧ Below w.heap.size w w' := hm ▸ refTurn_any x n w h1 h2
theorem turn7 (x : W32) (w : World) : Calls Try.prog 77 #[.int .u32 (wv x), .int .i64 7] w fun e w' => e = .returned (.int .u32 (wv (rotr x 7))) ∧ w = w' := turn_lit x 7 7 w rfl (by decide) (by decide)
theorem refTurn7 (x : W32) (w : World) : Calls Try.prog 89 #[.int .u32 (wv x), .int .i64 7] w fun e w' => e = .returned (.int .u32 (wv (rotr x 7))) ∧ Below w.heap.size w w' := refTurn_lit x 7 7 w rfl (by decide) (by decide)
theorem turn18 (x : W32) (w : World) : Calls Try.prog 77 #[.int .u32 (wv x), .int .i64 18] w fun e w' => e = .returned (.int .u32 (wv (rotr x 18))) ∧ w = w' := turn_lit x 18 18 w rfl (by decide) (by decide)
theorem refTurn18 (x : W32) (w : World) : Calls Try.prog 89 #[.int .u32 (wv x), .int .i64 18] w fun e w' => e = .returned (.int .u32 (wv (rotr x 18))) ∧ Below w.heap.size w w' := refTurn_lit x 18 18 w rfl (by decide) (by decide)
theorem turn17 (x : W32) (w : World) : Calls Try.prog 77 #[.int .u32 (wv x), .int .i64 17] w fun e w' => e = .returned (.int .u32 (wv (rotr x 17))) ∧ w = w' := turn_lit x 17 17 w rfl (by decide) (by decide)
theorem refTurn17 (x : W32) (w : World) : Calls Try.prog 89 #[.int .u32 (wv x), .int .i64 17] w fun e w' => e = .returned (.int .u32 (wv (rotr x 17))) ∧ Below w.heap.size w w' := refTurn_lit x 17 17 w rfl (by decide) (by decide)
theorem turn19 (x : W32) (w : World) : Calls Try.prog 77 #[.int .u32 (wv x), .int .i64 19] w fun e w' => e = .returned (.int .u32 (wv (rotr x 19))) ∧ w = w' := turn_lit x 19 19 w rfl (by decide) (by decide)
theorem refTurn19 (x : W32) (w : World) : Calls Try.prog 89 #[.int .u32 (wv x), .int .i64 19] w fun e w' => e = .returned (.int .u32 (wv (rotr x 19))) ∧ Below w.heap.size w w' := refTurn_lit x 19 19 w rfl (by decide) (by decide)
theorem turn6 (x : W32) (w : World) : Calls Try.prog 77 #[.int .u32 (wv x), .int .i64 6] w fun e w' => e = .returned (.int .u32 (wv (rotr x 6))) ∧ w = w' := turn_lit x 6 6 w rfl (by decide) (by decide)
theorem refTurn6 (x : W32) (w : World) : Calls Try.prog 89 #[.int .u32 (wv x), .int .i64 6] w fun e w' => e = .returned (.int .u32 (wv (rotr x 6))) ∧ Below w.heap.size w w' := refTurn_lit x 6 6 w rfl (by decide) (by decide)
theorem turn11 (x : W32) (w : World) : Calls Try.prog 77 #[.int .u32 (wv x), .int .i64 11] w fun e w' => e = .returned (.int .u32 (wv (rotr x 11))) ∧ w = w' := turn_lit x 11 11 w rfl (by decide) (by decide)
theorem refTurn11 (x : W32) (w : World) : Calls Try.prog 89 #[.int .u32 (wv x), .int .i64 11] w fun e w' => e = .returned (.int .u32 (wv (rotr x 11))) ∧ Below w.heap.size w w' := refTurn_lit x 11 11 w rfl (by decide) (by decide)
theorem turn25 (x : W32) (w : World) : Calls Try.prog 77 #[.int .u32 (wv x), .int .i64 25] w fun e w' => e = .returned (.int .u32 (wv (rotr x 25))) ∧ w = w' := turn_lit x 25 25 w rfl (by decide) (by decide)
theorem refTurn25 (x : W32) (w : World) : Calls Try.prog 89 #[.int .u32 (wv x), .int .i64 25] w fun e w' => e = .returned (.int .u32 (wv (rotr x 25))) ∧ Below w.heap.size w w' := refTurn_lit x 25 25 w rfl (by decide) (by decide)
theorem turn2 (x : W32) (w : World) : Calls Try.prog 77 #[.int .u32 (wv x), .int .i64 2] w fun e w' => e = .returned (.int .u32 (wv (rotr x 2))) ∧ w = w' := turn_lit x 2 2 w rfl (by decide) (by decide)
theorem refTurn2 (x : W32) (w : World) : Calls Try.prog 89 #[.int .u32 (wv x), .int .i64 2] w fun e w' => e = .returned (.int .u32 (wv (rotr x 2))) ∧ Below w.heap.size w w' := refTurn_lit x 2 2 w rfl (by decide) (by decide)
theorem turn13 (x : W32) (w : World) : Calls Try.prog 77 #[.int .u32 (wv x), .int .i64 13] w fun e w' => e = .returned (.int .u32 (wv (rotr x 13))) ∧ w = w' := turn_lit x 13 13 w rfl (by decide) (by decide)
theorem refTurn13 (x : W32) (w : World) : Calls Try.prog 89 #[.int .u32 (wv x), .int .i64 13] w fun e w' => e = .returned (.int .u32 (wv (rotr x 13))) ∧ Below w.heap.size w w' := refTurn_lit x 13 13 w rfl (by decide) (by decide)
theorem turn22 (x : W32) (w : World) : Calls Try.prog 77 #[.int .u32 (wv x), .int .i64 22] w fun e w' => e = .returned (.int .u32 (wv (rotr x 22))) ∧ w = w' := turn_lit x 22 22 w rfl (by decide) (by decide)
theorem refTurn22 (x : W32) (w : World) : Calls Try.prog 89 #[.int .u32 (wv x), .int .i64 22] w fun e w' => e = .returned (.int .u32 (wv (rotr x 22))) ∧ Below w.heap.size w w' := refTurn_lit x 22 22 w rfl (by decide) (by decide)
end Go.Proofs.Ytikphhhkikdhaaa
