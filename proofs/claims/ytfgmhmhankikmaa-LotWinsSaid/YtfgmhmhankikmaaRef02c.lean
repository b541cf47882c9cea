/- The reference's products of wide numbers (mintageref02): Times, Mul as contracts, where the product fits. -/
import Derived.Test.YtfgmhmhankikmaaRef02b
namespace Go.Proofs.Ytfgmhmhankikmaa
open Go.RowKit Go.Lib

/-! ### the plain laws -/
def valL : List Int → Int
  | [] => 0
  | d :: ds => d + 4294967296 * valL ds
theorem valL_carry (ds : List Int) : ∀ ov, valL (carryL ds ov) = valL ds + ov := by
  induction ds with
  | nil => intro ov; simp [carryL, valL]
  | cons d ds ih => intro ov; simp only [carryL, valL, ih]; omega
theorem valL_by (ds : List Int) (n : Int) : ∀ ov, valL (byL ds n ov) = valL ds * n + ov := by
  induction ds with
  | nil => intro ov; simp [byL, valL]
  | cons d ds ih =>
    intro ov
    simp only [byL, valL, ih]
    rw [Int.add_mul, Int.mul_assoc]
    omega
theorem byL_small (ds : List Int) (n : Int) (n0 : 0 ≤ n) (n1 : n < 4294967296) (hb : ∀ d ∈ ds, 0 ≤ d ∧ d < 4294967296) : ∀ ov, 0 ≤ ov → ov < 4294967296 → ∀ d ∈ byL ds n ov, 0 ≤ d ∧ d < 4294967296 := by
  induction ds with
  | nil => intro ov h0 h1 d hd; simp [byL] at hd; omega
  | cons d ds ih =>
    intro ov h0 h1 x hx
    have hd := hb d (by simp)
    obtain ⟨m0, m1⟩ := mul_half hd.1 hd.2 n0 n1
    simp only [byL, List.mem_cons] at hx
    rcases hx with rfl | hx
    · omega
    · exact ih (fun y hy => hb y (by simp [hy])) _ (by omega) (by omega) x hx

/-- The digits of a wide number. -/
def ofL (hi lo : Int) : List Int := [lo % 4294967296, lo / 4294967296, hi % 4294967296, hi / 4294967296]
theorem ofL_small {hi lo : Int} (h1 : Word hi) (h2 : Word lo) : ∀ d ∈ ofL hi lo, 0 ≤ d ∧ d < 4294967296 := by
  obtain ⟨a0, a1⟩ := h1; obtain ⟨b0, b1⟩ := h2
  intro d hd
  simp [ofL] at hd
  omega
theorem valL_ofL (hi lo : Int) : valL (ofL hi lo) = hi * 18446744073709551616 + lo := by simp only [ofL, valL]; omega

/-- Two rows of products, one digit apart, added up. -/
def sumL (l h : List Int) : List Int := [l.getD 0 0, l.getD 1 0 + h.getD 0 0, l.getD 2 0 + h.getD 1 0, l.getD 3 0 + h.getD 2 0, l.getD 4 0 + h.getD 3 0, h.getD 4 0]
theorem five (l : List Int) (h : l.length = 5) : ∃ a b c d e, l = [a, b, c, d, e] := by
  match l, h with
  | [a, b, c, d, e], _ => exact ⟨a, b, c, d, e, rfl⟩

/-- What the seven digits of a product come to, if it fits. -/
theorem fit_digits (hi lo b : Int) (h1 : Word hi) (h2 : Word lo) (h3 : Word b) (hfit : (hi * 18446744073709551616 + lo) * b < 18446744073709551616 * 18446744073709551616) :
    ∃ e0 e1 e2 e3, carryL (sumL (byL (ofL hi lo) (b % 4294967296) 0) (byL (ofL hi lo) (b / 4294967296) 0)) 0 = [e0, e1, e2, e3, 0, 0, 0] ∧
      (0 ≤ e0 ∧ e0 < 4294967296) ∧ (0 ≤ e1 ∧ e1 < 4294967296) ∧ (0 ≤ e2 ∧ e2 < 4294967296) ∧ (0 ≤ e3 ∧ e3 < 4294967296) ∧
      e3 * 4294967296 + e2 = (hi * 18446744073709551616 + lo) * b / 18446744073709551616 ∧ e1 * 4294967296 + e0 = (hi * 18446744073709551616 + lo) * b % 18446744073709551616 ∧
      (∀ d ∈ sumL (byL (ofL hi lo) (b % 4294967296) 0) (byL (ofL hi lo) (b / 4294967296) 0), 0 ≤ d ∧ d < 9223372036854775808) := by
  obtain ⟨b0, b1⟩ := h3
  have s1 := byL_small (ofL hi lo) (b % 4294967296) (by omega) (by omega) (ofL_small h1 h2) 0 (by omega) (by omega)
  have s2 := byL_small (ofL hi lo) (b / 4294967296) (by omega) (by omega) (ofL_small h1 h2) 0 (by omega) (by omega)
  have v1 := valL_by (ofL hi lo) (b % 4294967296) 0
  have v2 := valL_by (ofL hi lo) (b / 4294967296) 0
  have hv : (hi * 18446744073709551616 + lo) * b = valL (ofL hi lo) * (b % 4294967296) + 4294967296 * (valL (ofL hi lo) * (b / 4294967296)) := by
    rw [valL_ofL]
    have hb : b = b % 4294967296 + 4294967296 * (b / 4294967296) := (Int.emod_add_mul_ediv b 4294967296).symm
    conv => lhs; rw [hb]
    rw [Int.mul_add, Int.mul_left_comm]
  obtain ⟨p0, p1, p2, p3, p4, hp⟩ := five (byL (ofL hi lo) (b % 4294967296) 0) (by rw [byL_length]; rfl)
  obtain ⟨q0, q1, q2, q3, q4, hq⟩ := five (byL (ofL hi lo) (b / 4294967296) 0) (by rw [byL_length]; rfl)
  rw [hp] at s1 v1 ⊢
  rw [hq] at s2 v2 ⊢
  generalize valL (ofL hi lo) * (b % 4294967296) = A at *
  generalize valL (ofL hi lo) * (b / 4294967296) = B at *
  rw [hv] at hfit ⊢
  simp only [List.mem_cons, List.not_mem_nil, or_false, forall_eq_or_imp, forall_eq] at s1 s2
  simp only [valL] at v1 v2
  simp only [sumL, List.getD_cons_zero, List.getD_cons_succ, carryL]
  have w1 : A = p0 + 4294967296 * (p1 + 4294967296 * (p2 + 4294967296 * (p3 + 4294967296 * p4))) := by omega
  have w2 : B = q0 + 4294967296 * (q1 + 4294967296 * (q2 + 4294967296 * (q3 + 4294967296 * q4))) := by omega
  clear v1 v2 hv hp hq h1 h2 b0 b1
  have step : ∀ x : Int, ∃ e c, x % 4294967296 = e ∧ x / 4294967296 = c ∧ x = e + 4294967296 * c ∧ 0 ≤ e ∧ e < 4294967296 := fun x => ⟨_, _, rfl, rfl, by omega, by omega, by omega⟩
  obtain ⟨e0, c1, x0, y0, z0, u0, t0⟩ := step (p0 + 0)
  rw [x0, y0]
  obtain ⟨e1, c2, x1, y1, z1, u1, t1⟩ := step (p1 + q0 + c1)
  rw [x1, y1]
  obtain ⟨e2, c3, x2, y2, z2, u2, t2⟩ := step (p2 + q1 + c2)
  rw [x2, y2]
  obtain ⟨e3, c4, x3, y3, z3, u3, t3⟩ := step (p3 + q2 + c3)
  rw [x3, y3]
  obtain ⟨e4, c5, x4, y4, z4, u4, t4⟩ := step (p4 + q3 + c4)
  rw [x4, y4]
  obtain ⟨e5, c6, x5, y5, z5, u5, t5⟩ := step (q4 + c5)
  rw [x5, y5]
  clear step x0 x1 x2 x3 x4 x5 y0 y1 y2 y3 y4 y5
  have hT : A + 4294967296 * B = e0 + 4294967296 * e1 + 18446744073709551616 * (e2 + 4294967296 * e3 + 18446744073709551616 * (e4 + 4294967296 * e5 + 18446744073709551616 * c6)) := by omega
  have hc6 : 0 ≤ c6 := by omega
  rw [hT] at hfit ⊢
  have k4 : e4 = 0 := by omega
  have k5 : e5 = 0 := by omega
  have k6 : c6 = 0 := by omega
  subst k4 k5 k6
  refine ⟨e0, e1, e2, e3, rfl, ⟨u0, t0⟩, ⟨u1, t1⟩, ⟨u2, t2⟩, ⟨u3, t3⟩, by omega, by omega, ?_⟩
  intro d hd
  simp only [List.mem_cons, List.not_mem_nil, or_false] at hd
  omega
end Go.Proofs.Ytfgmhmhankikmaa
