/- The reference's long division (mintageref02.Div), bit by bit, as a contract. -/
import Derived.Test.YtfgmhmhankikmaaRef02e
namespace Go.Proofs.Ytfgmhmhankikmaa
open Go.RowKit Go.Lib

/-! ### the plain laws -/
theorem wrap64u (x : Int) : IntKind.u64.wrap x = x % 18446744073709551616 := by rw [IntKind.wrap_u64]
theorem and_one {x : Int} (h0 : 0 ≤ x) (h1 : x < 18446744073709551616) : bits .and .u64 x 1 = x % 2 := by
  obtain ⟨n, rfl⟩ := Int.eq_ofNat_of_zero_le h0
  have := bits_and_u64_nat n 1 (by omega) (by omega)
  rw [Nat.and_one_is_mod] at this
  simpa using this

theorem div_next (A : Int) (j : Nat) (hA : 0 ≤ A) : ∃ V V' : Int, A / 2 ^ (j + 1) = V ∧ A / 2 ^ j = V' ∧ 0 ≤ V ∧ V' ≤ A ∧ V' = 2 * V + A / 2 ^ j % 2 := by
  have hp : (0 : Int) < 2 ^ j := Int.pow_pos (by decide)
  refine ⟨_, _, rfl, rfl, Int.ediv_nonneg hA (Int.le_of_lt (Int.pow_pos (by decide))), Int.ediv_le_self _ hA, ?_⟩
  rw [Int.pow_succ, ← Int.ediv_ediv_of_nonneg (Int.le_of_lt hp)]
  omega
theorem div_parts (b V V' β Q R : Int) (hb : 1 ≤ b) (hR : V % b = R) (hQ : V / b = Q) (hV : V' = 2 * V + β) (c : Int) (h0 : 0 ≤ 2 * R + β - c * b) (h1 : 2 * R + β - c * b < b) :
    V' / b = 2 * Q + c ∧ V' % b = 2 * R + β - c * b := by
  have e : V = b * Q + R := by rw [← hQ, ← hR]; exact (Int.mul_ediv_add_emod V b).symm
  have e' : V' = (2 * R + β - c * b) + b * (2 * Q + c) := by
    rw [hV, e, Int.mul_add b, Int.mul_left_comm b 2 Q, Int.mul_comm c b]; omega
  have hne : b ≠ 0 := by omega
  rw [e', Int.add_mul_ediv_left _ _ hne, Int.add_mul_emod_self_left, Int.ediv_eq_zero_of_lt h0 h1, Int.emod_eq_of_lt h0 h1]
  exact ⟨by omega, rfl⟩
theorem div_step (A b : Int) (j : Nat) (R Q β : Int) (hA : 0 ≤ A) (hA2 : A < 18446744073709551616 * 18446744073709551616) (hb : 1 ≤ b) (hb2 : b < 18446744073709551616)
    (hR : A / 2 ^ (j + 1) % b = R) (hQ : A / 2 ^ (j + 1) / b = Q) (hβ : A / 2 ^ j % 2 = β) :
    (((R / 9223372036854775808 == 1) = true ∨ b ≤ IntKind.u64.wrap (IntKind.u64.wrap (R * 2) + β)) →
      IntKind.u64.wrap (IntKind.u64.wrap (IntKind.u64.wrap (R * 2) + β) - b) = A / 2 ^ j % b ∧
      IntKind.u64.wrap (IntKind.u64.wrap (Q / 18446744073709551616 * 2) + Q % 18446744073709551616 / 9223372036854775808) = A / 2 ^ j / b / 18446744073709551616 ∧
      IntKind.u64.wrap (IntKind.u64.wrap (Q % 18446744073709551616 * 2) + 1) = A / 2 ^ j / b % 18446744073709551616) ∧
    (((R / 9223372036854775808 == 1) = false ∧ IntKind.u64.wrap (IntKind.u64.wrap (R * 2) + β) < b) →
      IntKind.u64.wrap (IntKind.u64.wrap (R * 2) + β) = A / 2 ^ j % b ∧
      IntKind.u64.wrap (IntKind.u64.wrap (Q / 18446744073709551616 * 2) + Q % 18446744073709551616 / 9223372036854775808) = A / 2 ^ j / b / 18446744073709551616 ∧
      IntKind.u64.wrap (IntKind.u64.wrap (Q % 18446744073709551616 * 2)) = A / 2 ^ j / b % 18446744073709551616) := by
  obtain ⟨V, V', hV, hV', v0, v1, hs⟩ := div_next A j hA
  rw [hβ] at hs
  rw [hV] at hR hQ
  rw [hV'] at hβ ⊢
  have r0 : 0 ≤ R := by rw [← hR]; exact Int.emod_nonneg _ (by omega)
  have r1 : R < b := by rw [← hR]; exact Int.emod_lt_of_pos _ (by omega)
  have q0 : 0 ≤ Q := by rw [← hQ]; exact Int.ediv_nonneg v0 (by omega)
  have qv : V' / b ≤ V' := Int.ediv_le_self _ (by omega)
  have t0 : 0 ≤ β ∧ β ≤ 1 := by omega
  simp only [wrap64u, beq_iff_eq, beq_eq_false_iff_ne]
  constructor
  · intro h
    obtain ⟨p1, p2⟩ := div_parts b V V' β Q R hb hR hQ hs 1 (by omega) (by omega)
    rw [p1, p2]
    rw [p1] at qv
    clear hR hQ hs hV hV' hβ
    omega
  · intro h
    obtain ⟨p1, p2⟩ := div_parts b V V' β Q R hb hR hQ hs 0 (by omega) (by omega)
    rw [p1, p2]
    rw [p1] at qv
    clear hR hQ hs hV hV' hβ
    omega
/-- The bits of a wide number. -/
theorem bit_hi (xh xl : Int) (j : Nat) (h1 : Word xh) (h2 : Word xl) (hj : 64 ≤ j) : bits .and .u64 (xh / 2 ^ (j - 64)) 1 = (xh * 18446744073709551616 + xl) / 2 ^ j % 2 := by
  obtain ⟨a0, a1⟩ := h1; obtain ⟨b0, b1⟩ := h2
  have hp : (0 : Int) < 2 ^ (j - 64) := Int.pow_pos (by decide)
  rw [and_one (Int.ediv_nonneg a0 (Int.le_of_lt hp)) (by have := Int.ediv_le_self (2 ^ (j - 64)) a0; omega)]
  have e : (2 : Int) ^ j = 18446744073709551616 * 2 ^ (j - 64) := by
    have : j = 64 + (j - 64) := by omega
    conv => lhs; rw [this]
    rw [Int.pow_add]; rfl
  rw [e, ← Int.ediv_ediv_of_nonneg (by decide)]
  have : (xh * 18446744073709551616 + xl) / 18446744073709551616 = xh := by omega
  rw [this]
theorem bit_lo (xh xl : Int) (j : Nat) (h1 : Word xh) (h2 : Word xl) (hj : j < 64) : bits .and .u64 (xl / 2 ^ (j % 64)) 1 = (xh * 18446744073709551616 + xl) / 2 ^ j % 2 := by
  obtain ⟨a0, a1⟩ := h1; obtain ⟨b0, b1⟩ := h2
  rw [Nat.mod_eq_of_lt hj]
  have hp : (0 : Int) < 2 ^ j := Int.pow_pos (by decide)
  rw [and_one (Int.ediv_nonneg b0 (Int.le_of_lt hp)) (by have := Int.ediv_le_self (2 ^ j) b0; omega)]
  have e : (18446744073709551616 : Int) = 2 ^ j * (2 * 2 ^ (63 - j)) := by
    rw [← Int.mul_assoc, ← Int.pow_succ, ← Int.pow_add, show j + 1 + (63 - j) = 64 by omega]; rfl
  rw [e, ← Int.mul_assoc, Int.mul_comm xh (2 ^ j), Int.mul_assoc, Int.add_comm, Int.add_mul_ediv_left _ _ (Int.ne_of_gt hp)]
  rw [Int.mul_left_comm xh 2]
  omega

def divW (w : World) (xh xl Q : Int) : World := ((w.alloc (Obj.cells #[.int .u64 xh, .int .u64 xl] 70)).alloc (Obj.cells #[.int .u64 0, .int .u64 0] 70)).alloc (Obj.cells #[.int .u64 (Q / 18446744073709551616), .int .u64 (Q % 18446744073709551616)] 70)

set_option maxRecDepth 100000 in
set_option maxHeartbeats 3200000 in
theorem refDiv (xh xl b : Int) (w : World) (h1 : Word xh) (h2 : Word xl) (h3 : Word b) (hb : 1 ≤ b) :
    Calls Try.prog 50 #[.agg #[.int .u64 xh, .int .u64 xl], .int .u64 b] w fun e w' =>
      e = .returned (.tuple #[.agg #[.int .u64 ((xh * 18446744073709551616 + xl) / b / 18446744073709551616), .int .u64 ((xh * 18446744073709551616 + xl) / b % 18446744073709551616)], .int .u64 ((xh * 18446744073709551616 + xl) % b), .int .i64 0]) ∧ Below w.heap.size w w' := by
  have hb0 : (b == 0) = false := beq_eq_false_iff_ne.2 (by omega)
  have hA : 0 ≤ xh * 18446744073709551616 + xl ∧ xh * 18446744073709551616 + xl < 18446744073709551616 * 18446744073709551616 := by
    obtain ⟨a0, a1⟩ := h1; obtain ⟨b0, b1⟩ := h2; omega
  have hstep := hide (fun j R Q β => div_step (xh * 18446744073709551616 + xl) b j R Q β hA.1 hA.2 hb h3.2)
  have hbit1 := hide (fun j => bit_hi xh xl j h1 h2)
  have hbit2 := hide (fun j => bit_lo xh xl j h1 h2)
  have hstart : (xh * 18446744073709551616 + xl) / 2 ^ 128 = 0 := Int.ediv_eq_zero_of_lt hA.1 (by have := hA.2; simpa using this)
  have HS := hide hstart
  have HA := hide hA
  generalize hXd : xh * 18446744073709551616 + xl = X at *
  clear hA hstart hXd
  go_enter Try.func50, Try.ntmps50
  go_wp2_with fail
  go_loopw [8, 9] (fun r i wr => ∃ t : Int, -1 ≤ t ∧ t ≤ 127 ∧ i = .int .i64 t ∧ r = .int .u64 (X / 2 ^ (t + 1).toNat % b) ∧ wr = divW w xh xl (X / 2 ^ (t + 1).toNat / b)) (fun _ i _ => (intOf i + 1).toNat)
  case atStart =>
    refine ⟨127, by omega, by omega, rfl, ?_, ?_⟩
    · rw [show ((127 : Int) + 1).toNat = 128 from rfl, HS.out, Int.zero_emod]
    · rw [show ((127 : Int) + 1).toNat = 128 from rfl, HS.out, Int.zero_ediv]; rfl
  case round =>
    obtain ⟨t, ht0, ht1, rfl, rfl, rfl⟩ := hrel
    by_cases hlt : 0 ≤ t
    · obtain ⟨j, rfl⟩ := Int.eq_ofNat_of_zero_le hlt
      rw [show ((j : Int) + 1).toNat = j + 1 from by omega]
      have hst := fun β => hstep.out j (X / 2 ^ (j + 1) % b) (X / 2 ^ (j + 1) / b) β rfl rfl
      have hst2 := hst (X / 2 ^ j % 2) rfl
      generalize X / 2 ^ (j + 1) % b = R at *
      generalize X / 2 ^ (j + 1) / b = Q at *
      have e1 := fun h => hbit1.out j h
      have e2 := fun h => hbit2.out j h
      generalize hβ : X / 2 ^ j % 2 = β at *
      clear hst hβ
      unfold divW
      generalize hqh : Q / 18446744073709551616 = qh at *
      generalize hql : Q % 18446744073709551616 = ql at *
      have HST := hide hst2
      clear hst2 hqh hql
      by_cases hj : 64 ≤ j
      · have e3 := e1 hj
        clear e1 e2
        go_wp2_with fail
        all_goals
          first
            | (refine (fun k => ?_) (HST.out.1 ?hyp); case hyp => assumption)
            | (refine (fun k => ?_) (HST.out.2 ?hyp); case hyp => assumption)
            | (refine (fun k => ?_) (HST.out.1 (Or.inl (beq_iff_eq.2 ?hyp))); case hyp => assumption)
          obtain ⟨l1, l2, l3⟩ := k
          refine ⟨⟨(j : Int) - 1, by omega, by omega, rfl, ?_, ?_⟩, by simp [intOf] <;> omega⟩
          · rw [show ((j : Int) - 1 + 1).toNat = j from by omega, l1]
          · rw [show ((j : Int) - 1 + 1).toNat = j from by omega, l2, l3]
      · have e3 := e2 (by omega)
        clear e1 e2
        go_wp2_with fail
        all_goals
          first
            | (refine (fun k => ?_) (HST.out.1 ?hyp); case hyp => assumption)
            | (refine (fun k => ?_) (HST.out.2 ?hyp); case hyp => assumption)
            | (refine (fun k => ?_) (HST.out.1 (Or.inl (beq_iff_eq.2 ?hyp))); case hyp => assumption)
          obtain ⟨l1, l2, l3⟩ := k
          refine ⟨⟨(j : Int) - 1, by omega, by omega, rfl, ?_, ?_⟩, by simp [intOf] <;> omega⟩
          · rw [show ((j : Int) - 1 + 1).toNat = j from by omega, l1]
          · rw [show ((j : Int) - 1 + 1).toNat = j from by omega, l2, l3]
    · obtain rfl : t = -1 := by omega
      rw [show ((-1 : Int) + 1).toNat = 0 from rfl, Int.pow_zero, Int.ediv_one]
      unfold divW
      go_wp2_with fail
      simp [bodyPost, results, Try.results50, go_sem]
      exact below3 _ _ _ _
end Go.Proofs.Ytfgmhmhankikmaa
